import Derived.Test.YtpkdpmkiplopmaaKeep
import Derived.Test.YtpkdpmkiplopmaaBytesM
import Derived.Laws.IdiomStrings
import Derived.Laws.Bits64b
/- numbers as bytes: package shift -/
namespace Go.Proofs.Ytpkdpmkiplopmaa
open Go.RowKit Esch

def StrPost (w : World) (l : List UInt8) (e : Ending) (w' : World) : Prop := e = .returned (.string ⟨l.toArray⟩) ∧ Below w.heap.size w w'
/-- a row of bytes that is being filled -/
def RowAt (w : World) (bb : Nat) (arr : Array Value) : Prop := w.heap[bb]? = some (.cells arr 5 (0, 0))
theorem RowAt.cell {w : World} {bb : Nat} {arr : Array Value} (h : RowAt w bb arr) (j : Nat) : w.cell? ⟨bb, j, none⟩ = arr[j]? := by
  unfold RowAt at h; simp [World.cell?, h]
theorem RowAt.frozen {w : World} {bb : Nat} {arr : Array Value} (h : RowAt w bb arr) (j : Nat) : w.frozen? ⟨bb, j, none⟩ = false := by
  unfold RowAt at h; simp [World.frozen?, h]
theorem RowAt.set {w : World} {bb : Nat} {arr : Array Value} (h : RowAt w bb arr) (j : Nat) (v : Value) : RowAt (w.setCell ⟨bb, j, none⟩ v) bb (arr.setIfInBounds j v) := by
  unfold RowAt at h ⊢; simp [World.setCell, Array.getElem?_modify, h]
theorem Try.infoByte : (Try.prog.info? 5).map (fun i => (i.zero, i.size, i.bytes)) = some (some (.int .u8 0), 1, 1) := by kernel_rfl
def PutRel (w : World) (v n g : Nat) (s : Value) (wr : World) : Prop :=
  ∃ (k : Nat) (arr : Array Value), g = n - k ∧ k ≤ n ∧ s = .int .i64 k ∧ RowAt wr w.heap.size arr ∧ arr.size = n ∧ (∀ j, j < k → arr[j]? = some (.int .u8 (digit v (n - 1 - j)).toNat)) ∧ Below w.heap.size w wr
set_option maxRecDepth 100000 in
set_option maxHeartbeats 1000000 in
theorem shiftPut_any (w : World) (v n : Nat) (hv : v < 18446744073709551616) (hn : n ≤ 8) :
    Calls Try.prog 89 #[.int .u64 v, .int .i64 n] w (StrPost w (putB v n)) := by
  have Hv := Lib.hid hv
  obtain ⟨i0, hi, hz0, hz1, hz2⟩ := info_parts Try.infoByte
  have hmk := run_make (P := Try.prog) w 113 5 i0 (.int .u8 0) Try.underlying113 hi hz0 .i64 .i64 n n (by omega) (Int.le_refl _) (by rw [hz2]; omega) (by omega)
  simp only [Int.toNat_natCast, hz1, Nat.mul_one] at hmk
  have hrow : RowAt (w.alloc (.cells (madeCells (Value.int .u8 0).cells n) 5)) w.heap.size (madeCells (Value.int .u8 0).cells n) := alloc_new _ _
  have hBm : Below w.heap.size w (w.alloc (.cells (madeCells (Value.int .u8 0).cells n) 5)) := by (repeat (first | with_reducible exact (Below.refl _ _) | with_reducible refine Below.drew ?_ | with_reducible refine Esch.below_drewN ?_ _ | with_reducible refine Below.setCell ?_ (by first | omega | (simp; done) | (simp; omega)) _ | with_reducible refine Below.alloc ?_ (by first | omega | (simp; done) | (simp; omega)) _))
  have hsz := size_madeCells (Value.int .u8 0).cells n
  clear hv hi hz0 hz1 hz2
  generalize madeCells (Value.int .u8 0).cells n = arr0 at hmk hrow hBm hsz
  generalize w.alloc (.cells arr0 5) = W1 at hmk hrow hBm
  have Hrow := Lib.hid hrow
  clear hrow
  go_enter Try.func89, Try.ntmps89
  go_wp2_with fail
  go_loopg [17] n (fun g s17 wr => PutRel w v n g s17 wr)
  case atStart => exact ⟨0, arr0, rfl, Nat.zero_le _, rfl, Hrow.out, hsz, fun j hj => absurd hj (by omega), hBm⟩
  case round =>
    obtain ⟨k, arr, rfl, hk, rfl, hr, hs, hd, hB⟩ := hrel
    have Hr := Lib.hid hr
    have Hd := Lib.hid hd
    by_cases hlt : k < n
    · have c0 := hr.cell k
      have f0 := hr.frozen k
      rw [Array.getElem?_eq_getElem (by omega)] at c0
      generalize arr[k] = old at c0
      clear hr hd hmk
      have e1 : (v : Int) / 2 ^ (8 * (n - 1 - k)) % 256 = ((digit v (n - 1 - k)).toNat : Int) := by
        rw [digit_toNat, show (256 : Nat) ^ (n - 1 - k) = 2 ^ (8 * (n - 1 - k)) from by rw [Nat.pow_mul]]
        simp only [Int.natCast_emod, Int.natCast_ediv, Int.natCast_pow]
        rfl
      have HE := Lib.hid e1
      clear e1
      go_wp2_with fail
      rw [HE.out]
      go_roundg (n - (k + 1))
      case measure => omega
      case rel =>
        refine ⟨k + 1, arr.setIfInBounds k _, rfl, by omega, by go_num, Hr.out.set k _, by rw [Array.size_setIfInBounds]; exact hs, fun j hj => ?_, hB.setCell (p := ⟨w.heap.size, k, none⟩) (Nat.le_refl _) _⟩
        rw [Array.getElem?_setIfInBounds]
        by_cases e : k = j
        · rw [if_pos e, if_pos (by omega), e]
        · rw [if_neg e]; exact Hd.out j (by omega)
    · have hkn : k = n := by omega
      subst hkn
      have hcv := run_convert_bytes_back (P := Try.prog) wr 113 9 5 ⟨w.heap.size, 0, none⟩ k (putB v k) Try.underlying113 Try.underlying5 Try.underlying9 (fun j hj => by
        rw [show (⟨w.heap.size, 0, none⟩ : Addr).add j = ⟨w.heap.size, j, none⟩ from by unfold Addr.add; split <;> simp_all]
        rw [putB_length] at hj
        rw [Hr.out.cell, Hd.out j hj]
        have := putB_get v k j hj
        rw [List.getElem?_eq_getElem (by rw [putB_length]; exact hj)] at this
        rw [Option.some.inj this])
      rw [putB_length] at hcv
      clear hr hd hmk
      go_wp2_with fail
      go_ret
      exact ⟨rfl, hB⟩

set_option maxRecDepth 100000 in
theorem or_byte (G b : Nat) (hG : G < 72057594037927936) (hb : b < 256) : bits .or .u64 (IntKind.u64.wrap ((G : Int) * 256)) (IntKind.u64.wrap (b : Int)) = ((G * 256 + b : Nat) : Int) := by
  have h1 : IntKind.u64.wrap ((G : Int) * 256) = ((G * 256 : Nat) : Int) := by
    rw [IntKind.wrap_u64]; omega
  have h2 : IntKind.u64.wrap (b : Int) = (b : Int) := by
    rw [IntKind.wrap_u64]; omega
  rw [h1, h2, bits_or_u64_nat _ _ (by omega) (by omega)]
  have := Nat.shiftLeft_add_eq_or_of_lt (b := b) (i := 8) (by simpa using hb) G
  rw [Nat.shiftLeft_eq, show (2 : Nat) ^ 8 = 256 from rfl] at this
  rw [← this]
/-- so many bytes from a place on -/
def cutB (s : ByteArray) (a n : Nat) : List UInt8 := (s.data.toList.drop a).take n
def GetPost (w : World) (s : ByteArray) (a n : Nat) (e : Ending) (w' : World) : Prop :=
  (e = .returned (if n ≤ 8 ∧ a ≤ s.size ∧ n ≤ s.size - a then .tuple #[.int .u64 (getB (cutB s a n)), .bool true] else .tuple #[.int .u64 0, .bool false])) ∧ w' = w
def GetRel (w : World) (s : ByteArray) (a n g : Nat) (sv si : Value) (wr : World) : Prop :=
  ∃ k : Nat, g = n - k ∧ k ≤ n ∧ si = .int .i64 k ∧ sv = .int .u64 (getB (cutB s a k)) ∧ wr = w
set_option maxRecDepth 100000 in
set_option maxHeartbeats 1000000 in
theorem shiftGet_any (w : World) (s : ByteArray) (hs : s.size ≤ 9223372036854775807) (a n : Nat) (ha : a ≤ 9223372036854775807) (hn : n ≤ 9223372036854775807) :
    Calls Try.prog 76 #[.string s, .int .i64 a, .int .i64 n] w (GetPost w s a n) := by
  by_cases h8 : n ≤ 8
  · by_cases h1 : a ≤ s.size
    · by_cases h2 : n ≤ s.size - a
      · unfold GetPost
        rw [if_pos ⟨h8, h1, h2⟩]
        go_enter Try.func76, Try.ntmps76
        go_wp2_with fail
        simp only [show decide (s.size < a) = false from decide_eq_false (by omega), Bool.or_false]
        go_loopg [8, 35] n (fun g s8 s35 wr => GetRel w s a n g s8 s35 wr)
        case atStart => exact ⟨0, rfl, Nat.zero_le _, rfl, by simp [cutB, getB], rfl⟩
        case round =>
          obtain ⟨k, rfl, hk, rfl, rfl, rfl⟩ := hrel
          by_cases hlt : k < n
          · have hG : getB (cutB s a k) < 72057594037927936 := by
              refine Nat.lt_of_lt_of_le (getB_lt _) ?_
              have : (cutB s a k).length ≤ 7 := by unfold cutB; have := List.length_take_le k (s.data.toList.drop a); omega
              exact Nat.le_trans (Nat.pow_le_pow_right (by decide) this) (by decide)
            have hcut : cutB s a (k + 1) = cutB s a k ++ [s[a + k]'(by show a + k < s.size; omega)] := by
              unfold cutB
              have hlen : k < (s.data.toList.drop a).length := by rw [List.length_drop, Array.length_toList]; show k < s.size - a; omega
              rw [List.take_succ_eq_append_getElem hlen, List.getElem_drop, Array.getElem_toList]
              rfl
            have hor := or_byte (getB (cutB s a k)) (s[a + k]'(by show a + k < s.size; omega)).toNat hG (UInt8.toNat_lt _)
            rw [← getB_snoc, ← hcut] at hor
            have Hor := Lib.hid hor
            have hak : a + k < s.size := by omega
            clear hor hcut hG h1 h2
            go_wp2_with fail
            rw [Hor.out]
            go_roundg (n - (k + 1))
            case measure => omega
            case rel => exact ⟨k + 1, rfl, by omega, by go_num, rfl, rfl⟩
          · have hkn : k = n := by omega
            subst hkn
            go_wp2_with fail
            go_ret2
            exact ⟨rfl, rfl⟩
      · unfold GetPost
        rw [if_neg (fun h => h2 h.2.2)]
        go_enter Try.func76, Try.ntmps76
        go_wp2_with fail
        go_ret2
        exact ⟨rfl, rfl⟩
    · unfold GetPost
      rw [if_neg (fun h => h1 h.2.1)]
      go_enter Try.func76, Try.ntmps76
      go_wp2_with fail
      go_ret2
      exact ⟨rfl, rfl⟩
  · unfold GetPost
    rw [if_neg (fun h => h8 h.1)]
    go_enter Try.func76, Try.ntmps76
    go_wp2_with fail
    go_ret2
    exact ⟨rfl, rfl⟩
end Go.Proofs.Ytpkdpmkiplopmaa
