import Derived.Test.YtmnkackkeppheaaGreatChecked
import Derived.Test.YtmnkackkeppheaaGreatPkByt
import Derived.Test.YtmnkackkeppheaaGreatPkBase
import Derived.Lib.Hide
import Derived.WalkMore
import Derived.Laws.Externs
import Derived.Deep.LoopGhost
import Derived.Deep.DeepCutAuto
import Derived.Test.YtmnkackkeppheaaGreatShelf2
import Derived.Lib.Join
/- package path: names, Good, Split -/
namespace Esch
open Go Go.RowKit
def From (B : Nat) : Nat → Prop := fun k => B ≤ k
def CapN (n c : Nat) : Prop := n ≤ c ∧ c ≤ 9223372036854775807
def strV (a : Nm) : Value := .string (bs a)
theorem heap_alloc_new (w : World) (o : Obj) : (w.alloc o).heap[w.heap.size]? = some o := alloc_new w o
theorem toList_bs (a : Nm) : (bs a).toList = a := by
  rw [ByteArray.toList_eq]; rfl
end Esch
namespace Go.Proofs.YtmnkackkeppheaaGreat
open Go.RowKit Esch

def NameRel (s : Nm) (w : World) (g : Nat) (v : Value) (wr : World) : Prop := ∃ i : Nat, g = s.length - i ∧ i ≤ s.length ∧ v = .int .i64 i ∧ (s.take i).all okc = true ∧ wr = w
theorem okc_take {s : Nm} {i : Nat} (hi : i < s.length) : (s.take (i + 1)).all okc = ((s.take i).all okc && okc s[i]) := by
  rw [List.take_succ_eq_append_getElem hi, List.all_append]; simp
theorem okc_no {s : Nm} {i : Nat} (hi : i < s.length) (h : okc s[i] = false) : nameL s = false := by
  have : s.all okc = false := by
    rw [List.all_eq_false]
    exact ⟨s[i], List.getElem_mem hi, by simp [h]⟩
  simp [nameL, this]
theorem okc_nat (c : UInt8) : okc c = decide ((97 ≤ c.toNat ∧ c.toNat ≤ 122) ∨ (48 ≤ c.toNat ∧ c.toNat ≤ 57) ∨ c.toNat = 95) := by
  have : ∀ n : Nat, n < 256 → okc (UInt8.ofNat n) = decide ((97 ≤ n ∧ n ≤ 122) ∨ (48 ≤ n ∧ n ≤ 57) ∨ n = 95) := by decide +kernel
  have h := this c.toNat c.toNat_lt
  rwa [UInt8.ofNat_toNat] at h
set_option maxRecDepth 100000 in
set_option maxHeartbeats 2000000 in
theorem name_any (w : World) (s : Nm) :
    Calls Tryz.prog 123 #[.string (bs s)] w fun e w' => e = .returned (.bool (nameL s)) ∧ w' = w := by
  by_cases h0 : s.length < 1
  · have : nameL s = false := by simp [nameL]; omega
    rw [this]
    have h0' : (s.length : Int) < 1 := by omega
    clear h0 this
    go_enter Tryz.func123, Tryz.ntmps123
    go_wp2_with fail
    go_ret
    exact ⟨rfl, rfl⟩
  by_cases h8 : 8 < s.length
  · have : nameL s = false := by simp [nameL]; omega
    rw [this]
    have h0' : ¬ (s.length : Int) < 1 := by omega
    have h8' : (8 : Int) < s.length := by omega
    clear h0 this h8
    go_enter Tryz.func123, Tryz.ntmps123
    go_wp2_with fail
    go_ret
    exact ⟨rfl, rfl⟩
  have h0' : ¬ (s.length : Int) < 1 := by omega
  have h8' : ¬ (8 : Int) < s.length := by omega
  obtain ⟨r, hr⟩ : ∃ r, r = nameL s := ⟨_, rfl⟩
  rw [← hr]
  have HR := Lib.hid hr
  have H0 := Lib.hid h0
  have H8 := Lib.hid h8
  clear hr h0 h8
  go_enter Tryz.func123, Tryz.ntmps123
  go_wp2_with fail
  go_loopg [15] s.length (fun g s15 wr => NameRel s w g s15 wr)
  case atStart => exact ⟨0, rfl, Nat.zero_le _, rfl, rfl, rfl⟩
  case round =>
    obtain ⟨i, rfl, hi, rfl, hall, rfl⟩ := hrel
    have Hall := Lib.hid hall
    clear hall
    by_cases hlt : i < s.length
    · have hidx : ∀ W, (Instr.index 9 (.string (bs s)) (.int .i64 (i : Int))).run Tryz.prog W = .ok (.int .u8 (s[i].toNat : Int)) W := fun W => by
        rw [run_index_string _ _ _ _ _ Tryz.underlying9, dif_pos ⟨by omega, by show (i : Int) < s.length; omega⟩]
        congr 3
      have hi1 : (i : Int) < s.length := by omega
      have hy : okc s[i] = true → (s.take (i + 1)).all okc = true := fun h => by rw [okc_take hlt, Hall.out, h]; rfl
      have hno : okc s[i] = false → r = false := fun h => HR.out.trans (okc_no hlt h)
      have hk := okc_nat s[i]
      have hlt2 := s[i].toNat_lt
      generalize s[i] = c at hidx hy hno hk hlt2
      rw [hk] at hy hno
      simp only [decide_eq_true_eq, decide_eq_false_iff_not] at hy hno
      generalize c.toNat = x at hidx hy hno hlt2
      clear hk
      by_cases k1 : x < 48
      · have HNO := Lib.hid (hno (by omega))
        have j1 : (x : Int) < 97 := by omega
        have j2 : (x : Int) < 48 := by omega
        have j3 : ((x : Int) != 95) = true := by simp; omega
        clear hy hno hlt2 k1 hlt hi
        go_wp2_with fail
        go_ret
        exact ⟨by rw [HNO.out]; rfl, rfl⟩
      by_cases k2 : x ≤ 57
      · have HYES := Lib.hid (hy (by omega))
        have j1 : (x : Int) < 97 := by omega
        have j2 : ¬ (x : Int) < 48 := by omega
        have j3 : ¬ (57 : Int) < x := by omega
        clear hy hno hlt2 k1 k2
        go_wp2_with fail
        go_roundg (s.length - (i + 1))
        case measure => omega
        case rel => exact ⟨i + 1, rfl, by omega, by go_num, HYES.out, rfl⟩
      by_cases k3 : x = 95
      · have HYES := Lib.hid (hy (by omega))
        have j1 : (x : Int) < 97 := by omega
        have j2 : ¬ (x : Int) < 48 := by omega
        have j3 : (57 : Int) < x := by omega
        have j4 : ((x : Int) != 95) = false := by simp; omega
        clear hy hno hlt2 k1 k2 k3
        go_wp2_with fail
        go_roundg (s.length - (i + 1))
        case measure => omega
        case rel => exact ⟨i + 1, rfl, by omega, by go_num, HYES.out, rfl⟩
      by_cases k4 : x < 97
      · have HNO := Lib.hid (hno (by omega))
        have j1 : (x : Int) < 97 := by omega
        have j2 : ¬ (x : Int) < 48 := by omega
        have j3 : (57 : Int) < x := by omega
        have j4 : ((x : Int) != 95) = true := by simp; omega
        clear hy hno hlt2 k1 k2 k3 k4 hlt hi
        go_wp2_with fail
        go_ret
        exact ⟨by rw [HNO.out]; rfl, rfl⟩
      by_cases k5 : x ≤ 122
      · have HYES := Lib.hid (hy (by omega))
        have j1 : ¬ (x : Int) < 97 := by omega
        have j2 : ¬ (122 : Int) < x := by omega
        clear hy hno hlt2 k1 k2 k3 k4 k5
        go_wp2_with fail
        go_roundg (s.length - (i + 1))
        case measure => omega
        case rel => exact ⟨i + 1, rfl, by omega, by go_num, HYES.out, rfl⟩
      · have HNO := Lib.hid (hno (by omega))
        have j1 : ¬ (x : Int) < 97 := by omega
        have j2 : (122 : Int) < x := by omega
        have j3 : ¬ (x : Int) < 48 := by omega
        have j4 : (57 : Int) < x := by omega
        have j5 : ((x : Int) != 95) = true := by simp; omega
        clear hy hno hlt2 k1 k2 k3 k4 k5 hlt hi
        go_wp2_with fail
        go_ret
        exact ⟨by rw [HNO.out]; rfl, rfl⟩
    · obtain rfl : i = s.length := by omega
      have hf : r = true := by
        rw [HR.out]
        have := Hall.out
        rw [List.take_length] at this
        have h1 := H0.out
        have h2 := H8.out
        simp only [nameL, this, Bool.and_true, Bool.and_eq_true, decide_eq_true_eq]
        omega
      have HF := Lib.hid hf
      clear hf hlt hi
      go_wp2_with fail
      go_ret
      exact ⟨by rw [HF.out]; rfl, rfl⟩
end Go.Proofs.YtmnkackkeppheaaGreat
/- package path: Good, Split, Join, Up, Inside -/
namespace Esch
open Go
end Esch
namespace Go.Proofs.YtmnkackkeppheaaGreat
open Go.RowKit Esch Go.Shelf

end Go.Proofs.YtmnkackkeppheaaGreat
