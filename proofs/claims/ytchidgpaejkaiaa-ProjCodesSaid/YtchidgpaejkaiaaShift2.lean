import Derived.Test.YtchidgpaejkaiaaShift
/- numbers as bytes: the document's answer -/
namespace Go.Proofs.Ytchidgpaejkaiaa
open Go.RowKit Esch

def RPutRel (w : World) (v n g : Nat) (sv si : Value) (wr : World) : Prop :=
  ∃ (k : Nat) (arr : Array Value), g = n - k ∧ k ≤ n ∧ si = .int .i64 ((n : Int) - 1 - k) ∧ sv = .int .u64 ((v / 256 ^ k : Nat) : Int) ∧ RowAt wr w.heap.size arr ∧ arr.size = n ∧ (∀ j, j < n → n - k ≤ j → arr[j]? = some (.int .u8 (digit v (n - 1 - j)).toNat)) ∧ Below w.heap.size w wr
set_option maxRecDepth 100000 in
set_option maxHeartbeats 1000000 in
theorem rPut_any (w : World) (v n : Nat) (hv : v < 18446744073709551616) (hn : n ≤ 8) :
    Calls Try.prog 70 #[.int .u64 v, .int .i64 n] w (StrPost w (putB v n)) := by
  have Hv := Lib.hid hv
  obtain ⟨i0, hi, hz0, hz1, hz2⟩ := info_parts Try.infoByte
  have hmk := run_make (P := Try.prog) w 100 5 i0 (.int .u8 0) Try.underlying100 hi hz0 .i64 .i64 n n (by omega) (Int.le_refl _) (by rw [hz2]; omega) (by omega)
  simp only [Int.toNat_natCast, hz1, Nat.mul_one] at hmk
  have hrow : RowAt (w.alloc (.cells (madeCells (Value.int .u8 0).cells n) 5)) w.heap.size (madeCells (Value.int .u8 0).cells n) := alloc_new _ _
  have hBm : Below w.heap.size w (w.alloc (.cells (madeCells (Value.int .u8 0).cells n) 5)) := by (repeat (first | with_reducible exact (Below.refl _ _) | with_reducible refine Below.drew ?_ | with_reducible refine Esch.below_drewN ?_ _ | with_reducible refine Below.setCell ?_ (by first | omega | (simp; done) | (simp; omega)) _ | with_reducible refine Below.alloc ?_ (by first | omega | (simp; done) | (simp; omega)) _))
  have hsz := size_madeCells (Value.int .u8 0).cells n
  clear hv hi hz0 hz1 hz2
  generalize madeCells (Value.int .u8 0).cells n = arr0 at hmk hrow hBm hsz
  generalize w.alloc (.cells arr0 5) = W1 at hmk hrow hBm
  have Hrow := Lib.hid hrow
  clear hrow
  go_enter Try.func70, Try.ntmps70
  go_wp2_with fail
  go_loopg [0, 6] n (fun g s0 s6 wr => RPutRel w v n g s0 s6 wr)
  case atStart => exact ⟨0, arr0, rfl, Nat.zero_le _, by simp, by simp, Hrow.out, hsz, fun j hj h => absurd hj (by omega), hBm⟩
  case round =>
    obtain ⟨k, arr, rfl, hk, rfl, rfl, hr, hs, hd, hB⟩ := hrel
    have Hr := Lib.hid hr
    have Hd := Lib.hid hd
    by_cases hlt : k < n
    · obtain ⟨i, hi⟩ : ∃ i : Nat, (n : Int) - 1 - k = i := ⟨n - 1 - k, by omega⟩
      have hin : i + 1 + k = n := by omega
      have Hi := Lib.hid hi
      rw [hi]
      have c0 := hr.cell i
      have f0 := hr.frozen i
      rw [Array.getElem?_eq_getElem (by omega)] at c0
      generalize arr[i] = old at c0
      have e1 : (((v / 256 ^ k : Nat) : Int)) % 256 = ((digit v k).toNat : Int) := by
        rw [digit_toNat, Int.natCast_emod]; rfl
      have e2 : (((v / 256 ^ k : Nat) : Int)) / 256 = ((v / 256 ^ (k + 1) : Nat) : Int) := by
        rw [Nat.pow_succ, ← Nat.div_div_eq_div_mul, Int.natCast_ediv]; rfl
      have hvk : v / 256 ^ k < 18446744073709551616 := Nat.lt_of_le_of_lt (Nat.div_le_self _ _) Hv.out
      have Hvk := Lib.hid hvk
      have HE := Lib.hid e1
      have HE2 := Lib.hid e2
      clear e1 e2 hr hd hmk hi hvk
      generalize v / 256 ^ k = vk at Hvk HE HE2 ⊢
      have HE3 : Hid (IntKind.u64.wrap ((vk : Int) / 256) = ((v / 256 ^ (k + 1) : Nat) : Int)) := Lib.hid (by rw [← HE2.out, IntKind.wrap_u64]; have := Hvk.out; omega)
      go_wp2_with fail
      rw [HE.out, HE3.out]
      go_roundg (n - (k + 1))
      case measure => omega
      case rel =>
        refine ⟨k + 1, arr.setIfInBounds i _, rfl, by omega, by have := Hi.out; congr 1; omega, rfl, Hr.out.set i _, by rw [Array.size_setIfInBounds]; exact hs, fun j hj hj2 => ?_, hB.setCell (p := ⟨w.heap.size, i, none⟩) (Nat.le_refl _) _⟩
        rw [Array.getElem?_setIfInBounds]
        by_cases e : i = j
        · subst e
          rw [if_pos rfl, if_pos (by omega), show n - 1 - i = k by omega]
        · rw [if_neg e]; exact Hd.out j hj (by omega)
    · have hkn : k = n := by omega
      subst hkn
      have hcv := run_convert_bytes_back (P := Try.prog) wr 100 9 5 ⟨w.heap.size, 0, none⟩ k (putB v k) Try.underlying100 Try.underlying5 Try.underlying9 (fun j hj => by
        rw [show (⟨w.heap.size, 0, none⟩ : Addr).add j = ⟨w.heap.size, j, none⟩ from by unfold Addr.add; split <;> simp_all]
        rw [putB_length] at hj
        rw [Hr.out.cell, Hd.out j hj (by omega)]
        have := putB_get v k j hj
        rw [List.getElem?_eq_getElem (by rw [putB_length]; exact hj)] at this
        rw [Option.some.inj this])
      rw [putB_length] at hcv
      have hneg : (k : Int) - 1 - k < 0 := by omega
      generalize (k : Int) - 1 - k = i at hneg ⊢
      generalize v / 256 ^ k = vk
      clear hr hd hmk
      go_wp2_with fail
      go_ret
      exact ⟨rfl, hB⟩

def RGetRel (w : World) (s : ByteArray) (a n g : Nat) (sv si : Value) (wr : World) : Prop :=
  ∃ k : Nat, g = n - k ∧ k ≤ n ∧ si = .int .i64 k ∧ sv = .int .u64 (getB (cutB s a k)) ∧ wr = w
set_option maxRecDepth 100000 in
set_option maxHeartbeats 1000000 in
theorem rGet_any (w : World) (s : ByteArray) (hs : s.size ≤ 9223372036854775807) (a n : Nat) (ha : a ≤ 9223372036854775807) (hn : n ≤ 9223372036854775807) :
    Calls Try.prog 75 #[.string s, .int .i64 a, .int .i64 n] w (GetPost w s a n) := by
  by_cases h8 : n ≤ 8
  · by_cases h1 : a ≤ s.size
    · by_cases h2 : n ≤ s.size - a
      · unfold GetPost
        rw [if_pos ⟨h8, h1, h2⟩]
        go_enter Try.func75, Try.ntmps75
        go_wp2_with fail
        simp only [show decide (s.size < a) = false from decide_eq_false (by omega), Bool.or_false]
        go_loopg [8, 9] n (fun g s8 s9 wr => RGetRel w s a n g s8 s9 wr)
        case atStart => exact ⟨0, rfl, Nat.zero_le _, rfl, by simp [cutB, getB], rfl⟩
        case round =>
          obtain ⟨k, rfl, hk, rfl, rfl, rfl⟩ := hrel
          by_cases hlt : k < n
          · have hG : getB (cutB s a k) < 72057594037927936 := by
              refine Nat.lt_of_lt_of_le (getB_lt _) ?_
              have : (cutB s a k).length ≤ 7 := by unfold cutB; have := List.length_take_le k (s.data.toList.drop a); omega
              exact Nat.le_trans (Nat.pow_le_pow_right (by decide) this) (by decide)
            have hcut : cutB s a (k + 1) = cutB s a k ++ [s[a + k]'(by show a + k < s.size; omega)] := by
              unfold cutB
              have hlen : k < (s.data.toList.drop a).length := by rw [List.length_drop, Array.length_toList]; show k < s.size - a; omega
              rw [List.take_succ_eq_append_getElem hlen, List.getElem_drop, Array.getElem_toList]
              rfl
            have hak : a + k < s.size := by omega
            have hor : IntKind.u64.wrap (IntKind.u64.wrap (((getB (cutB s a k) : Nat) : Int) * 256) + IntKind.u64.wrap ((s[a + k]'(by show a + k < s.size; omega)).toNat : Int)) = ((getB (cutB s a (k + 1)) : Nat) : Int) := by
              rw [hcut, getB_snoc]
              have := UInt8.toNat_lt (s[a + k]'(by show a + k < s.size; omega))
              simp only [IntKind.wrap_u64]
              omega
            have Hor := Lib.hid hor
            clear hcut hG h1 h2 hor
            go_wp2_with fail
            rw [Hor.out]
            go_roundg (n - (k + 1))
            case measure => omega
            case rel => exact ⟨k + 1, rfl, by omega, by go_num, rfl, rfl⟩
          · have hkn : k = n := by omega
            subst hkn
            go_wp2_with fail
            go_ret2
            exact ⟨rfl, rfl⟩
      · unfold GetPost
        rw [if_neg (fun h => h2 h.2.2)]
        go_enter Try.func75, Try.ntmps75
        go_wp2_with fail
        go_ret2
        exact ⟨rfl, rfl⟩
    · unfold GetPost
      rw [if_neg (fun h => h1 h.2.1)]
      go_enter Try.func75, Try.ntmps75
      go_wp2_with fail
      go_ret2
      exact ⟨rfl, rfl⟩
  · unfold GetPost
    rw [if_neg (fun h => h8 h.1)]
    go_enter Try.func75, Try.ntmps75
    go_wp2_with fail
    go_ret2
    exact ⟨rfl, rfl⟩
end Go.Proofs.Ytchidgpaejkaiaa
