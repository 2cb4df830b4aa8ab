/- the slice of the appends, one longer -/
import Derived.Test.YtohmmjaikhpcfaaGreatApFam
namespace Go.Proofs.YtohmmjaikhpcfaaGreat
open Go.RowKit Esch

def PtrsAt (w : World) (a : Option Addr) (n : Nat) (abs : Nat → Nat) : Prop := 0 < n → ∃ b off, a = some ⟨b, off, none⟩ ∧ ∀ i, i < n → w.cell? ⟨b, off + i, none⟩ = some (.pointer (some ⟨abs i, 0, none⟩))
theorem Tryz.infoPA : (Tryz.prog.info? 35).map (fun i => (i.zero, i.size, i.bytes)) = some (some (.pointer none), 1, 8) := by kernel_rfl
theorem make_ptrs (n : Nat) (hn : n ≤ 1000) (W : World) : (Instr.makeSlice 33 (.int .i64 0) (.int .i64 ((n : Int) + 1))).run Tryz.prog W = .ok (.slice (some ⟨W.heap.size, 0, none⟩) 0 (n + 1)) (W.alloc (.cells (madeCells #[.pointer none] (n + 1)) 35)) := by
  obtain ⟨i, hi, hzz⟩ := Option.map_eq_some_iff.1 Tryz.infoPA
  simp only [Prod.mk.injEq] at hzz
  obtain ⟨hz, hs, hb⟩ := hzz
  have hr := run_make (P := Tryz.prog) W 33 35 i (.pointer none) Tryz.underlying33 hi hz .i64 .i64 0 ((n : Int) + 1) (by omega) (by omega) (by rw [hb]; omega) (by omega)
  have e : ((n : Int) + 1).toNat = n + 1 := by omega
  rw [e, hs, Nat.mul_one] at hr
  exact hr
def AddRel (w0 : World) (n : Nat) (abs : Nat → Nat) (g : Nat) (s5 s6 : Value) (wr : World) : Prop := ∃ k, g = n - k ∧ k ≤ n ∧ s5 = .slice (some ⟨w0.heap.size, 0, none⟩) k (n + 1) ∧ s6 = .int .i64 k ∧ Below w0.heap.size w0 wr ∧
  wr.rowIs w0.heap.size 35 (n + 1) (fun j => if j < k then .pointer (some ⟨abs j, 0, none⟩) else .pointer none)
def AddPost (w : World) (n : Nat) (abs : Nat → Nat) (ab : Nat) (e : Ending) (w' : World) : Prop := ∃ b, e = .returned (.slice (some ⟨b, 0, none⟩) (n + 1) (n + 1)) ∧ w.heap.size ≤ b ∧ PtrsAt w' (some ⟨b, 0, none⟩) (n + 1) (fun i => if i = n then ab else abs i) ∧ Below w.heap.size w w'
set_option maxRecDepth 100000 in
set_option maxHeartbeats 1000000 in
theorem addTo_any (w : World) (la : Option Addr) (n lc : Nat) (abs : Nat → Nat) (ab : Nat) (hn : n ≤ 1000) (h : PtrsAt w la n abs) :
    Calls Tryz.prog 13 #[.slice la n lc, .pointer (some ⟨ab, 0, none⟩)] w (AddPost w n abs ab) := by
  have H := Lib.hid h
  have hmk := make_ptrs n hn
  clear h
  go_enter Tryz.func13, Tryz.ntmps13
  go_wp2_with fail
  obtain ⟨W, hW⟩ : ∃ W, W = w.alloc (.cells (madeCells #[.pointer none] (n + 1)) 35) := ⟨_, rfl⟩
  have hB : Below w.heap.size w W := by rw [hW]; (repeat (first | with_reducible exact (Below.refl _ _) | with_reducible refine Below.drew ?_ | with_reducible refine Esch.below_drewN ?_ _ | with_reducible refine Below.setCell ?_ (by first | omega | (simp; done) | (simp; omega)) _ | with_reducible refine Below.alloc ?_ (by first | omega | (simp; done) | (simp; omega)) _))
  have hR : W.rowIs w.heap.size 35 (n + 1) (fun _ => .pointer none) := by rw [hW]; exact World.rowIs_made w (.pointer none) (n + 1) _
  rw [← hW]
  have HB := Lib.hid hB
  have HR := Lib.hid hR
  clear hW hB hR hmk
  go_loopg [5, 6] n (fun g s5 s6 wr => AddRel w n abs g s5 s6 wr)
  case atStart => exact ⟨0, rfl, Nat.zero_le _, rfl, rfl, HB.out, HR.out.congr (fun j _ => by simp)⟩
  case round =>
    obtain ⟨k, rfl, hk, rfl, rfl, hBr, hRr⟩ := hrel
    have HBr := Lib.hid hBr
    have HRr := Lib.hid hRr
    by_cases hkn : k < n
    · obtain ⟨b, off, rfl, hc⟩ := H.out (by omega)
      have k0 := hc k hkn
      have hbl := cell_lt k0
      have hck := below_at hBr k0 hbl
      have o0 := hRr.cell (i := k) (by omega)
      have o1 := hRr.frozen k
      have n0 : (0 : Int) ≤ k := by omega
      have n1 : (k : Int) < n := by omega
      have n2 : (k : Int) + 1 ≤ (n : Int) + 1 := by omega
      clear hc k0 hBr hRr hk
      go_wp2_with fail
      go_roundg (n - (k + 1))
      case measure => omega
      case rel =>
        have hB2 := HBr.out
        refine ⟨k + 1, rfl, by omega, rfl, by go_num, by (repeat (first | with_reducible exact hB2 | with_reducible refine Below.drew ?_ | with_reducible refine Esch.below_drewN ?_ _ | with_reducible refine Below.setCell ?_ (by first | omega | (simp; done) | (simp; omega)) _ | with_reducible refine Below.alloc ?_ (by first | omega | (simp; done) | (simp; omega)) _)), ?_⟩
        refine (HRr.out.set k (.pointer (some ⟨abs k, 0, none⟩))).congr (fun j _ => ?_)
        by_cases e : j = k
        · subst e; rw [if_pos rfl, if_pos (by omega)]
        · rw [if_neg e]
          by_cases e' : j < k
          · rw [if_pos e', if_pos (by omega)]
          · rw [if_neg e', if_neg (by omega)]
    · obtain rfl : k = n := by omega
      have o0 := hRr.cell (i := k) (by omega)
      have o1 := hRr.frozen k
      have n0 : (0 : Int) ≤ k := by omega
      have n2 : (k : Int) + 1 ≤ (k : Int) + 1 := by omega
      clear hBr hRr hk
      go_wp2_with fail
      go_ret
      have hB2 := HBr.out
      refine ⟨_, rfl, Nat.le_refl _, fun _ => ⟨_, 0, rfl, fun i hi => ?_⟩, by (repeat (first | with_reducible exact hB2 | with_reducible refine Below.drew ?_ | with_reducible refine Esch.below_drewN ?_ _ | with_reducible refine Below.setCell ?_ (by first | omega | (simp; done) | (simp; omega)) _ | with_reducible refine Below.alloc ?_ (by first | omega | (simp; done) | (simp; omega)) _))⟩
      have := (HRr.out.set k (.pointer (some ⟨ab, 0, none⟩))).cell (i := i) hi
      rw [Nat.zero_add, this]
      show _ = some (Value.pointer (some ⟨if i = k then ab else abs i, 0, none⟩))
      by_cases e : i = k
      · rw [if_pos e, if_pos e]
      · rw [if_neg e, if_neg e, if_pos (by omega)]
end Go.Proofs.YtohmmjaikhpcfaaGreat
