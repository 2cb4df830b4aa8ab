import Derived.Lib.Hide
import Derived.Test.YtmnkackkeppheaaGreatPkBase
import Derived.Test.YtmnkackkeppheaaGreatRows
import Derived.Deep.LoopGhost
import Derived.Deep.CutRange
import Derived.Deep.DeepCutAuto
import Derived.Deep.QuietTactic
import Derived.BigQuiet
import Derived.Laws.IdiomStrings
import Derived.Laws.Bits64b
/- projections, in plain Lean: units, which is good, which may come next -/
namespace Esch

/-! how often a unit stands, as the map of what was met tells it -/
end Esch
/- lists and projections in memory; the statements' small helpers -/
namespace Go.Proofs.YtmnkackkeppheaaGreat
open Go.RowKit Esch

end Go.Proofs.YtmnkackkeppheaaGreat
/- numbers as bytes, the highest first: plain Lean -/
namespace Esch
def digit (v j : Nat) : UInt8 := UInt8.ofNat (v / 256 ^ j)
theorem digit_toNat (v j : Nat) : (digit v j).toNat = v / 256 ^ j % 256 := by
  simp [digit, UInt8.toNat_ofNat']
/-- a number's lowest bytes, the highest first -/
def putB (v : Nat) : Nat → List UInt8
  | 0 => []
  | n + 1 => digit v n :: putB v n
theorem putB_length (v : Nat) : ∀ n, (putB v n).length = n
  | 0 => rfl
  | n + 1 => by simp [putB, putB_length v n]
theorem putB_get (v : Nat) : ∀ (n i : Nat), i < n → (putB v n)[i]? = some (digit v (n - 1 - i))
  | 0, i, h => by omega
  | n + 1, 0, _ => by simp [putB]
  | n + 1, i + 1, h => by
    simp only [putB, List.getElem?_cons_succ]
    rw [putB_get v n i (by omega)]
    congr 2
    omega
def getB (l : List UInt8) : Nat := l.foldl (fun a b => a * 256 + b.toNat) 0
theorem getB_snoc (l : List UInt8) (b : UInt8) : getB (l ++ [b]) = getB l * 256 + b.toNat := by simp [getB, List.foldl_append]
theorem foldl_getB (l : List UInt8) : ∀ a, l.foldl (fun a b => a * 256 + b.toNat) a = a * 256 ^ l.length + getB l := by
  induction l with
  | nil => intro a; simp [getB]
  | cons x l ih =>
    intro a
    have e : getB (x :: l) = x.toNat * 256 ^ l.length + getB l := by rw [getB, List.foldl_cons, ih]; simp
    rw [List.foldl_cons, ih, e, List.length_cons, Nat.pow_succ, Nat.add_mul, Nat.mul_assoc, Nat.mul_comm 256 (256 ^ l.length)]
    omega
theorem getB_cons (x : UInt8) (l : List UInt8) : getB (x :: l) = x.toNat * 256 ^ l.length + getB l := by
  rw [getB, List.foldl_cons, foldl_getB]; simp
theorem getB_lt (l : List UInt8) : getB l < 256 ^ l.length := by
  induction l with
  | nil => simp [getB]
  | cons x l ih =>
    rw [getB_cons, List.length_cons, Nat.pow_succ]
    have := x.toNat_lt
    have h1 : x.toNat * 256 ^ l.length ≤ 255 * 256 ^ l.length := Nat.mul_le_mul_right _ (by omega)
    omega
theorem getB_putB (v : Nat) : ∀ n, getB (putB v n) = v % 256 ^ n
  | 0 => by simp [putB, getB, Nat.mod_one]
  | n + 1 => by
    rw [putB, getB_cons, putB_length, getB_putB v n, digit_toNat, Nat.pow_succ, Nat.mod_mul]
    rw [Nat.mul_comm]
    omega
theorem getB_putB' {v n : Nat} (h : v < 256 ^ n) : getB (putB v n) = v := by rw [getB_putB, Nat.mod_eq_of_lt h]
theorem digit_add {a b n : Nat} : ∀ i, i < n → digit (a * 256 ^ n + b) i = digit b i := by
  intro i hi
  apply UInt8.toNat_inj.1
  rw [digit_toNat, digit_toNat]
  have e : 256 ^ n = 256 ^ i * (256 * 256 ^ (n - 1 - i)) := by
    rw [← Nat.mul_assoc, ← Nat.pow_succ, ← Nat.pow_add]; congr 1; omega
  rw [e, show a * (256 ^ i * (256 * 256 ^ (n - 1 - i))) + b = b + 256 ^ i * (a * (256 * 256 ^ (n - 1 - i))) by rw [Nat.mul_left_comm]; omega]
  rw [Nat.add_mul_div_left _ _ (Nat.pow_pos (by decide)), show a * (256 * 256 ^ (n - 1 - i)) = 256 * (a * 256 ^ (n - 1 - i)) by rw [Nat.mul_left_comm], Nat.add_mul_mod_self_left]
theorem putB_congr {a b : Nat} : ∀ {n}, (∀ i, i < n → digit a i = digit b i) → putB a n = putB b n
  | 0, _ => rfl
  | n + 1, h => by rw [putB, putB, h n (by omega), putB_congr (fun i hi => h i (by omega))]
theorem putB_getB : ∀ (l : List UInt8), putB (getB l) l.length = l
  | [] => rfl
  | x :: l => by
    have h1 : digit (getB (x :: l)) l.length = x := by
      apply UInt8.toNat_inj.1
      rw [digit_toNat, getB_cons, Nat.add_comm, Nat.add_mul_div_right _ _ (Nat.pow_pos (by decide)), Nat.div_eq_of_lt (getB_lt l)]
      have := x.toNat_lt
      omega
    rw [List.length_cons, putB, h1, putB_congr (b := getB l) (fun i hi => by rw [getB_cons]; exact digit_add i hi), putB_getB l]
end Esch
/- numbers as bytes: package shift -/
namespace Go.Proofs.YtmnkackkeppheaaGreat
open Go.RowKit Esch

def StrPost (w : World) (l : List UInt8) (e : Ending) (w' : World) : Prop := e = .returned (.string ⟨l.toArray⟩) ∧ Below w.heap.size w w'
/-- a row of bytes that is being filled -/
def RowAt (w : World) (bb : Nat) (arr : Array Value) : Prop := w.heap[bb]? = some (.cells arr 5 (0, 0))
theorem RowAt.cell {w : World} {bb : Nat} {arr : Array Value} (h : RowAt w bb arr) (j : Nat) : w.cell? ⟨bb, j, none⟩ = arr[j]? := by
  unfold RowAt at h; simp [World.cell?, h]
theorem RowAt.frozen {w : World} {bb : Nat} {arr : Array Value} (h : RowAt w bb arr) (j : Nat) : w.frozen? ⟨bb, j, none⟩ = false := by
  unfold RowAt at h; simp [World.frozen?, h]
theorem RowAt.set {w : World} {bb : Nat} {arr : Array Value} (h : RowAt w bb arr) (j : Nat) (v : Value) : RowAt (w.setCell ⟨bb, j, none⟩ v) bb (arr.setIfInBounds j v) := by
  unfold RowAt at h ⊢; simp [World.setCell, Array.getElem?_modify, h]
theorem Tryz.infoByte : (Tryz.prog.info? 5).map (fun i => (i.zero, i.size, i.bytes)) = some (some (.int .u8 0), 1, 1) := by kernel_rfl
def PutRel (w : World) (v n g : Nat) (s : Value) (wr : World) : Prop :=
  ∃ (k : Nat) (arr : Array Value), g = n - k ∧ k ≤ n ∧ s = .int .i64 k ∧ RowAt wr w.heap.size arr ∧ arr.size = n ∧ (∀ j, j < k → arr[j]? = some (.int .u8 (digit v (n - 1 - j)).toNat)) ∧ Below w.heap.size w wr
set_option maxRecDepth 100000 in
set_option maxHeartbeats 1000000 in
theorem shiftPut_any (w : World) (v n : Nat) (hv : v < 18446744073709551616) (hn : n ≤ 8) :
    Calls Tryz.prog 110 #[.int .u64 v, .int .i64 n] w (StrPost w (putB v n)) := by
  have Hv := Lib.hid hv
  obtain ⟨i0, hi, hz0, hz1, hz2⟩ := info_parts Tryz.infoByte
  have hmk := run_make (P := Tryz.prog) w 139 5 i0 (.int .u8 0) Tryz.underlying139 hi hz0 .i64 .i64 n n (by omega) (Int.le_refl _) (by rw [hz2]; omega) (by omega)
  simp only [Int.toNat_natCast, hz1, Nat.mul_one] at hmk
  have hrow : RowAt (w.alloc (.cells (madeCells (Value.int .u8 0).cells n) 5)) w.heap.size (madeCells (Value.int .u8 0).cells n) := alloc_new _ _
  have hBm : Below w.heap.size w (w.alloc (.cells (madeCells (Value.int .u8 0).cells n) 5)) := by exact belC (Below.refl _ _)
  have hsz := size_madeCells (Value.int .u8 0).cells n
  clear hv hi hz0 hz1 hz2
  generalize madeCells (Value.int .u8 0).cells n = arr0 at hmk hrow hBm hsz
  generalize w.alloc (.cells arr0 5) = W1 at hmk hrow hBm
  have Hrow := Lib.hid hrow
  clear hrow
  go_enter Tryz.func110, Tryz.ntmps110
  go_wp2_with fail
  go_loopg [17] n (fun g s17 wr => PutRel w v n g s17 wr)
  case atStart => exact ⟨0, arr0, rfl, Nat.zero_le _, rfl, Hrow.out, hsz, fun j hj => absurd hj (by omega), hBm⟩
  case round =>
    obtain ⟨k, arr, rfl, hk, rfl, hr, hs, hd, hB⟩ := hrel
    have Hr := Lib.hid hr
    have Hd := Lib.hid hd
    by_cases hlt : k < n
    · have c0 := hr.cell k
      have f0 := hr.frozen k
      rw [Array.getElem?_eq_getElem (by omega)] at c0
      generalize arr[k] = old at c0
      clear hr hd hmk
      have e1 : (v : Int) / 2 ^ (8 * (n - 1 - k)) % 256 = ((digit v (n - 1 - k)).toNat : Int) := by
        rw [digit_toNat, show (256 : Nat) ^ (n - 1 - k) = 2 ^ (8 * (n - 1 - k)) from by rw [Nat.pow_mul]]
        simp only [Int.natCast_emod, Int.natCast_ediv, Int.natCast_pow]
        rfl
      have HE := Lib.hid e1
      clear e1
      go_wp2_with fail
      rw [HE.out]
      go_roundg (n - (k + 1))
      case measure => omega
      case rel =>
        refine ⟨k + 1, arr.setIfInBounds k _, rfl, by omega, by go_num, Hr.out.set k _, by rw [Array.size_setIfInBounds]; exact hs, fun j hj => ?_, hB.setCell (p := ⟨w.heap.size, k, none⟩) (Nat.le_refl _) _⟩
        rw [Array.getElem?_setIfInBounds]
        by_cases e : k = j
        · rw [if_pos e, if_pos (by omega), e]
        · rw [if_neg e]; exact Hd.out j (by omega)
    · have hkn : k = n := by omega
      subst hkn
      have hcv := run_convert_bytes_back (P := Tryz.prog) wr 139 9 5 ⟨w.heap.size, 0, none⟩ k (putB v k) Tryz.underlying139 Tryz.underlying5 Tryz.underlying9 (fun j hj => by
        rw [show (⟨w.heap.size, 0, none⟩ : Addr).add j = ⟨w.heap.size, j, none⟩ from by unfold Addr.add; split <;> simp_all]
        rw [putB_length] at hj
        rw [Hr.out.cell, Hd.out j hj]
        have := putB_get v k j hj
        rw [List.getElem?_eq_getElem (by rw [putB_length]; exact hj)] at this
        rw [Option.some.inj this])
      rw [putB_length] at hcv
      clear hr hd hmk
      go_wp2_with fail
      go_ret
      exact ⟨rfl, hB⟩

set_option maxRecDepth 100000 in
theorem or_byte (G b : Nat) (hG : G < 72057594037927936) (hb : b < 256) : bits .or .u64 (IntKind.u64.wrap ((G : Int) * 256)) (IntKind.u64.wrap (b : Int)) = ((G * 256 + b : Nat) : Int) := by
  have h1 : IntKind.u64.wrap ((G : Int) * 256) = ((G * 256 : Nat) : Int) := by
    rw [IntKind.wrap_u64]; omega
  have h2 : IntKind.u64.wrap (b : Int) = (b : Int) := by
    rw [IntKind.wrap_u64]; omega
  rw [h1, h2, bits_or_u64_nat _ _ (by omega) (by omega)]
  have := Nat.shiftLeft_add_eq_or_of_lt (b := b) (i := 8) (by simpa using hb) G
  rw [Nat.shiftLeft_eq, show (2 : Nat) ^ 8 = 256 from rfl] at this
  rw [← this]
/-- so many bytes from a place on -/
def cutB (s : ByteArray) (a n : Nat) : List UInt8 := (s.data.toList.drop a).take n
def GetPost (w : World) (s : ByteArray) (a n : Nat) (e : Ending) (w' : World) : Prop :=
  (e = .returned (if n ≤ 8 ∧ a ≤ s.size ∧ n ≤ s.size - a then .tuple #[.int .u64 (getB (cutB s a n)), .bool true] else .tuple #[.int .u64 0, .bool false])) ∧ w' = w
def GetRel (w : World) (s : ByteArray) (a n g : Nat) (sv si : Value) (wr : World) : Prop :=
  ∃ k : Nat, g = n - k ∧ k ≤ n ∧ si = .int .i64 k ∧ sv = .int .u64 (getB (cutB s a k)) ∧ wr = w
set_option maxRecDepth 100000 in
set_option maxHeartbeats 1000000 in
theorem shiftGet_any (w : World) (s : ByteArray) (hs : s.size ≤ 9223372036854775807) (a n : Nat) (ha : a ≤ 9223372036854775807) (hn : n ≤ 9223372036854775807) :
    Calls Tryz.prog 120 #[.string s, .int .i64 a, .int .i64 n] w (GetPost w s a n) := by
  by_cases h8 : n ≤ 8
  · by_cases h1 : a ≤ s.size
    · by_cases h2 : n ≤ s.size - a
      · unfold GetPost
        rw [if_pos ⟨h8, h1, h2⟩]
        go_enter Tryz.func120, Tryz.ntmps120
        go_wp2_with fail
        simp only [show decide (s.size < a) = false from decide_eq_false (by omega), Bool.or_false]
        go_loopg [8, 35] n (fun g s8 s35 wr => GetRel w s a n g s8 s35 wr)
        case atStart => exact ⟨0, rfl, Nat.zero_le _, rfl, by simp [cutB, getB], rfl⟩
        case round =>
          obtain ⟨k, rfl, hk, rfl, rfl, rfl⟩ := hrel
          by_cases hlt : k < n
          · have hG : getB (cutB s a k) < 72057594037927936 := by
              refine Nat.lt_of_lt_of_le (getB_lt _) ?_
              have : (cutB s a k).length ≤ 7 := by unfold cutB; have := List.length_take_le k (s.data.toList.drop a); omega
              exact Nat.le_trans (Nat.pow_le_pow_right (by decide) this) (by decide)
            have hcut : cutB s a (k + 1) = cutB s a k ++ [s[a + k]'(by show a + k < s.size; omega)] := by
              unfold cutB
              have hlen : k < (s.data.toList.drop a).length := by rw [List.length_drop, Array.length_toList]; show k < s.size - a; omega
              rw [List.take_succ_eq_append_getElem hlen, List.getElem_drop, Array.getElem_toList]
              rfl
            have hor := or_byte (getB (cutB s a k)) (s[a + k]'(by show a + k < s.size; omega)).toNat hG (UInt8.toNat_lt _)
            rw [← getB_snoc, ← hcut] at hor
            have Hor := Lib.hid hor
            have hak : a + k < s.size := by omega
            clear hor hcut hG h1 h2
            go_wp2_with fail
            rw [Hor.out]
            go_roundg (n - (k + 1))
            case measure => omega
            case rel => exact ⟨k + 1, rfl, by omega, by go_num, rfl, rfl⟩
          · have hkn : k = n := by omega
            subst hkn
            go_wp2_with fail
            go_ret2
            exact ⟨rfl, rfl⟩
      · unfold GetPost
        rw [if_neg (fun h => h2 h.2.2)]
        go_enter Tryz.func120, Tryz.ntmps120
        go_wp2_with fail
        go_ret2
        exact ⟨rfl, rfl⟩
    · unfold GetPost
      rw [if_neg (fun h => h1 h.2.1)]
      go_enter Tryz.func120, Tryz.ntmps120
      go_wp2_with fail
      go_ret2
      exact ⟨rfl, rfl⟩
  · unfold GetPost
    rw [if_neg (fun h => h8 h.1)]
    go_enter Tryz.func120, Tryz.ntmps120
    go_wp2_with fail
    go_ret2
    exact ⟨rfl, rfl⟩
end Go.Proofs.YtmnkackkeppheaaGreat
/- fields that are unpacked: package pack -/
namespace Go.Proofs.YtmnkackkeppheaaGreat
open Go.RowKit Esch

def sizedB (n : Nat) : Bool := n == 1 || n == 2 || n == 4 || n == 8
set_option maxHeartbeats 1000000 in
theorem sized_any (w : World) (n : Nat) : Calls Tryz.prog 109 #[.int .i64 n] w fun e w' => e = .returned (.bool (sizedB n)) ∧ w' = w := by
  by_cases h1 : n = 1
  · subst h1
    go_enter Tryz.func109, Tryz.ntmps109
    go_wp2_with fail
    go_ret
    exact ⟨rfl, rfl⟩
  · by_cases h2 : n = 2
    · subst h2
      go_enter Tryz.func109, Tryz.ntmps109
      go_wp2_with fail
      go_ret
      exact ⟨rfl, rfl⟩
    · by_cases h4 : n = 4
      · subst h4
        go_enter Tryz.func109, Tryz.ntmps109
        go_wp2_with fail
        go_ret
        exact ⟨rfl, rfl⟩
      · by_cases h8 : n = 8
        · subst h8
          go_enter Tryz.func109, Tryz.ntmps109
          go_wp2_with fail
          go_ret
          exact ⟨rfl, rfl⟩
        · go_enter Tryz.func109, Tryz.ntmps109
          go_wp2_with fail
          go_ret
          have e1 : ((n : Int) == 1) = false := by simp; omega
          have e2 : ((n : Int) == 2) = false := by simp; omega
          have e3 : ((n : Int) == 4) = false := by simp; omega
          have e4 : ((n : Int) == 8) = false := by simp; omega
          refine ⟨?_, rfl⟩
          rw [e1, e2, e3, e4]
          simp [sizedB, h1, h2, h4, h8]

structure UnpAt (w : World) (b : Nat) (s : ByteArray) (bad : Bool) : Prop where
  c0 : w.cell? ⟨b, 0, none⟩ = some (.string s)
  c1 : w.cell? ⟨b, 1, none⟩ = some (.bool bad)
  f0 : w.frozen? ⟨b, 0, none⟩ = false
  f1 : w.frozen? ⟨b, 1, none⟩ = false
  size : s.size ≤ 9223372036854775807
set_option maxHeartbeats 1000000 in
theorem open_any (w : World) (s : ByteArray) (hs : s.size ≤ 9223372036854775807) : Calls Tryz.prog 19 #[.string s] w fun e w' => ∃ b, e = .returned (.pointer (some ⟨b, 0, none⟩)) ∧ UnpAt w' b s false ∧ w.heap.size ≤ b ∧ Below w.heap.size w w' := by
  go_enter Tryz.func19, Tryz.ntmps19
  go_wp2_with fail
  go_ret
  exact ⟨w.heap.size, rfl, ⟨by go_simp, by go_simp, by go_simp, by go_simp, hs⟩, Nat.le_refl _, by exact belC (Below.refl _ _)⟩
set_option maxHeartbeats 1000000 in
theorem spoil_any (w : World) (b : Nat) (s : ByteArray) (bad : Bool) (h : UnpAt w b s bad) : Calls Tryz.prog 88 #[.pointer (some ⟨b, 0, none⟩)] w fun e w' => e = .returned (.tuple #[]) ∧ UnpAt w' b s true ∧ Mod (· = b) w w' := by
  obtain ⟨c0, c1, f0, f1, hs⟩ := h
  go_enter Tryz.func88, Tryz.ntmps88
  go_wp2_with fail
  go_end0
  exact ⟨rfl, ⟨by go_simp, by go_simp, by go_simp, by go_simp, hs⟩, (Mod.refl (· = b) w).setCellAt (fun _ => rfl) _⟩
set_option maxHeartbeats 1000000 in
theorem take_bad (w : World) (b : Nat) (s : ByteArray) (bad : Bool) (n : Nat) (h : UnpAt w b s bad) (hb : bad = true ∨ s.size < n) : Calls Tryz.prog 89 #[.pointer (some ⟨b, 0, none⟩), .int .i64 n] w fun e w' => e = .returned (.tuple #[.string ⟨#[]⟩, .bool false]) ∧ UnpAt w' b s true ∧ Mod (· = b) w w' := by
  have hsp := spoil_any w b s bad h
  obtain ⟨c0, c1, f0, f1, hs⟩ := h
  cases bad
  · have hb' : s.size < n := by simpa using hb
    clear hb
    go_enter Tryz.func89, Tryz.ntmps89
    go_wp2_with fail
    refine hsp.mono ?_
    clear hsp
    rintro e w1 ⟨rfl, hU, hM⟩
    go_wp2_with fail
    go_ret2
    exact ⟨rfl, hU, hM⟩
  · clear hb
    go_enter Tryz.func89, Tryz.ntmps89
    go_wp2_with fail
    refine hsp.mono ?_
    clear hsp
    rintro e w1 ⟨rfl, hU, hM⟩
    go_wp2_with fail
    go_ret2
    exact ⟨rfl, hU, hM⟩
set_option maxHeartbeats 1000000 in
theorem take_ok (w : World) (b : Nat) (s : ByteArray) (n : Nat) (h : UnpAt w b s false) (hb : n ≤ s.size) : Calls Tryz.prog 89 #[.pointer (some ⟨b, 0, none⟩), .int .i64 n] w fun e w' => e = .returned (.tuple #[.string (s.extract 0 n), .bool true]) ∧ UnpAt w' b (s.extract n s.size) false ∧ Mod (· = b) w w' := by
  obtain ⟨c0, c1, f0, f1, hs⟩ := h
  go_enter Tryz.func89, Tryz.ntmps89
  go_wp2_with fail
  go_ret2
  exact ⟨rfl, ⟨by go_simp, by go_simp, by go_simp, by go_simp, by rw [ByteArray.size_extract]; omega⟩, (Mod.refl (· = b) w).setCellAt (fun _ => rfl) _⟩
/-- the next number of so many bytes -/
def unNum (s : ByteArray) (bad : Bool) (n : Nat) : Nat × ByteArray × Bool :=
  if bad = true ∨ s.size < n then (0, s, true) else if 9223372036854775808 ≤ getB (cutB s 0 n) then (0, s.extract n s.size, true) else (getB (cutB s 0 n), s.extract n s.size, false)
theorem cutB_extract (s : ByteArray) (n : Nat) : cutB (s.extract 0 n) 0 n = cutB s 0 n := by
  simp [cutB, ByteArray.data_extract, List.take_take]
theorem extract_size (s : ByteArray) (n : Nat) (h : n ≤ s.size) : (s.extract 0 n).size = n := by rw [ByteArray.size_extract]; omega
def NumPost (w : World) (b : Nat) (r : Nat × ByteArray × Bool) (e : Ending) (w' : World) : Prop := e = .returned (.int .i64 r.1) ∧ UnpAt w' b r.2.1 r.2.2 ∧ Mod (· = b) w w'
set_option maxRecDepth 100000 in
set_option maxHeartbeats 1000000 in
theorem unNum_any (w : World) (b : Nat) (s : ByteArray) (bad : Bool) (n : Nat) (hn : sizedB n = true) (h : UnpAt w b s bad) :
    Calls Tryz.prog 87 #[.pointer (some ⟨b, 0, none⟩), .int .i64 n] w (NumPost w b (unNum s bad n)) := by
  have hsz := sized_any w n
  rw [hn] at hsz
  have h8 : n ≤ 8 := by simp only [sizedB, Bool.or_eq_true, beq_iff_eq] at hn; omega
  clear hn
  by_cases hb : bad = true ∨ s.size < n
  · have htk := take_bad w b s bad n h hb
    rw [show unNum s bad n = (0, s, true) from if_pos hb]
    clear hb h
    go_enter Tryz.func87, Tryz.ntmps87
    go_wp2_with fail
    refine hsz.mono ?_
    clear hsz
    rintro e w0 ⟨rfl, rfl⟩
    go_wp2_with fail
    refine htk.mono ?_
    clear htk
    rintro e w1 ⟨rfl, hU, hM⟩
    have hg := shiftGet_any w1 ⟨#[]⟩ (by decide) 0 0 (by decide) (by decide)
    unfold GetPost at hg
    rw [if_pos ⟨by decide, by decide, by decide⟩] at hg
    have hsp := spoil_any w1 b s true hU
    go_wp2_with fail
    refine hg.mono ?_
    clear hg
    rintro e w2 ⟨rfl, rfl⟩
    go_wp2_with fail
    refine hsp.mono ?_
    clear hsp
    rintro e w3 ⟨rfl, hU3, hM3⟩
    go_wp2_with fail
    go_ret
    exact ⟨rfl, hU3, hM.trans hM3⟩
  · obtain rfl : bad = false := by cases bad; rfl; exact absurd (Or.inl rfl) hb
    have hle : n ≤ s.size := by have := fun h => hb (Or.inr h); omega
    have htk := take_ok w b s n h hle
    have hex := extract_size s n hle
    have hcu := cutB_extract s n
    have hgg := fun W => shiftGet_any W (s.extract 0 n) (by omega) 0 n (by omega) (by omega)
    unfold GetPost at hgg
    rw [if_pos ⟨h8, by omega, by omega⟩, hcu] at hgg
    have hlt : getB (cutB s 0 n) < 18446744073709551616 := by
      refine Nat.lt_of_lt_of_le (getB_lt _) ?_
      have : (cutB s 0 n).length ≤ 8 := by unfold cutB; have := List.length_take_le n (s.data.toList.drop 0); omega
      exact Nat.le_trans (Nat.pow_le_pow_right (by decide) this) (by decide)
    unfold unNum
    rw [if_neg hb]
    generalize getB (cutB s 0 n) = v at hgg hlt ⊢
    generalize s.extract 0 n = s0 at htk hgg hex
    clear hb h hcu hle
    by_cases hv : 9223372036854775808 ≤ v
    · rw [if_pos hv]
      have Hv := Lib.hid hv
      have Hlt := Lib.hid hlt
      have hq : (v : Int) / 9223372036854775808 = 1 := by omega
      clear hv hlt
      go_enter Tryz.func87, Tryz.ntmps87
      go_wp2_with fail
      refine hsz.mono ?_
      clear hsz
      rintro e w0 ⟨rfl, rfl⟩
      go_wp2_with fail
      refine htk.mono ?_
      clear htk
      rintro e w1 ⟨rfl, hU, hM⟩
      have hg := hgg w1
      have hsp := spoil_any w1 b _ _ hU
      go_wp2_with fail
      refine hg.mono ?_
      clear hg
      rintro e w2 ⟨rfl, rfl⟩
      go_wp2_with fail
      refine hsp.mono ?_
      clear hsp
      rintro e w3 ⟨rfl, hU3, hM3⟩
      go_wp2_with fail
      go_ret
      exact ⟨rfl, hU3, hM.trans hM3⟩
    · rw [if_neg hv]
      have hv' : v < 9223372036854775808 := by omega
      have Hlt := Lib.hid hlt
      have Hv := Lib.hid hv'
      have hq : (v : Int) / 9223372036854775808 = 0 := by omega
      clear hv hlt hv'
      go_enter Tryz.func87, Tryz.ntmps87
      go_wp2_with fail
      refine hsz.mono ?_
      clear hsz
      rintro e w0 ⟨rfl, rfl⟩
      go_wp2_with fail
      refine htk.mono ?_
      clear htk
      rintro e w1 ⟨rfl, hU, hM⟩
      have hg := hgg w1
      go_wp2_with fail
      refine hg.mono ?_
      clear hg
      rintro e w2 ⟨rfl, rfl⟩
      go_wp2_with fail
      go_ret
      exact ⟨rfl, hU, hM⟩
set_option maxHeartbeats 1000000 in
theorem unEnd_any (w : World) (b : Nat) (s : ByteArray) (bad : Bool) (h : UnpAt w b s bad) :
    Calls Tryz.prog 21 #[.pointer (some ⟨b, 0, none⟩)] w fun e w' => e = .returned (.int .i64 (if bad = true ∨ 0 < s.size then 11 else 0)) ∧ w' = w := by
  obtain ⟨c0, c1, f0, f1, hs⟩ := h
  cases bad
  · by_cases h0 : 0 < s.size
    · rw [if_pos (Or.inr h0)]
      go_enter Tryz.func21, Tryz.ntmps21
      go_wp2_with fail
      go_ret
      exact ⟨rfl, rfl⟩
    · rw [if_neg (fun h => h.elim (fun e => by cases e) h0)]
      have h0' : s.size = 0 := by omega
      go_enter Tryz.func21, Tryz.ntmps21
      go_wp2_with fail
      go_ret
      exact ⟨rfl, rfl⟩
  · rw [if_pos (Or.inl rfl)]
    go_enter Tryz.func21, Tryz.ntmps21
    go_wp2_with fail
    go_ret
    exact ⟨rfl, rfl⟩
end Go.Proofs.YtmnkackkeppheaaGreat
/- package pack: Text, Left, of an unpacker -/
namespace Esch
/-- the text of a number of bytes, and what is left -/
def unTake (s : ByteArray) (bad : Bool) (n : Nat) : ByteArray × ByteArray × Bool := if bad = true ∨ s.size < n then (⟨#[]⟩, s, true) else (s.extract 0 n, s.extract n s.size, false)
end Esch
namespace Go.Proofs.YtmnkackkeppheaaGreat
open Go.RowKit Esch

set_option maxHeartbeats 1000000 in
theorem unLeft_any (w : World) (b : Nat) (s : ByteArray) (bad : Bool) (h : UnpAt w b s bad) :
    Calls Tryz.prog 86 #[.pointer (some ⟨b, 0, none⟩)] w fun e w' => e = .returned (.int .i64 (if bad = true then 0 else s.size)) ∧ w' = w := by
  obtain ⟨c0, c1, f0, f1, hs⟩ := h
  cases bad
  · rw [if_neg (by simp)]
    go_enter Tryz.func86, Tryz.ntmps86
    go_wp2_with fail
    go_ret
    exact ⟨rfl, rfl⟩
  · rw [if_pos rfl]
    go_enter Tryz.func86, Tryz.ntmps86
    go_wp2_with fail
    go_ret
    exact ⟨rfl, rfl⟩
/-- the next text, of at most so many bytes -/
def unText (s : ByteArray) (bad : Bool) (most : Nat) : ByteArray × ByteArray × Bool := unTake (unNum s bad 2).2.1 ((unNum s bad 2).2.2 || decide (most < (unNum s bad 2).1)) (unNum s bad 2).1
def TakePost (w : World) (b : Nat) (r : ByteArray × ByteArray × Bool) (e : Ending) (w' : World) : Prop := (∃ ok, e = .returned (.tuple #[.string r.1, .bool ok])) ∧ UnpAt w' b r.2.1 r.2.2 ∧ Mod (· = b) w w'
theorem take_any (w : World) (b : Nat) (s : ByteArray) (bad : Bool) (n : Nat) (h : UnpAt w b s bad) : Calls Tryz.prog 89 #[.pointer (some ⟨b, 0, none⟩), .int .i64 n] w (TakePost w b (unTake s bad n)) := by
  unfold unTake
  split
  · rename_i hb
    exact (take_bad w b s bad n h hb).mono fun e w' ⟨h1, h2, h3⟩ => ⟨⟨_, h1⟩, h2, h3⟩
  · rename_i hb
    obtain rfl : bad = false := by cases bad <;> simp_all
    exact (take_ok w b s n h (by simp at hb; omega)).mono fun e w' ⟨h1, h2, h3⟩ => ⟨⟨_, h1⟩, h2, h3⟩
def TextPost (w : World) (b : Nat) (r : ByteArray × ByteArray × Bool) (e : Ending) (w' : World) : Prop := e = .returned (.string r.1) ∧ UnpAt w' b r.2.1 r.2.2 ∧ Mod (· = b) w w'
set_option maxHeartbeats 1000000 in
theorem unText_any (w : World) (b : Nat) (s : ByteArray) (bad : Bool) (most : Nat) (h : UnpAt w b s bad) :
    Calls Tryz.prog 58 #[.pointer (some ⟨b, 0, none⟩), .int .i64 most] w (TextPost w b (unText s bad most)) := by
  have hn := unNum_any w b s bad 2 rfl h
  unfold unText
  obtain ⟨r, hr⟩ : ∃ r, r = unNum s bad 2 := ⟨_, rfl⟩
  rw [← hr] at hn ⊢
  obtain ⟨v, s1, bad1⟩ := r
  simp only
  clear hr h
  by_cases hm : most < v
  · have hq : ((most : Int) < v) = True := by simpa using hm
    have htk : ∀ W, UnpAt W b s1 true → Calls Tryz.prog 89 #[.pointer (some ⟨b, 0, none⟩), .int .i64 v] W (TakePost W b (unTake s1 (bad1 || decide (most < v)) v)) := fun W hW => by
      have : (bad1 || decide (most < v)) = true := by simp [hm]
      rw [this]
      exact take_any W b s1 true v hW
    generalize unTake s1 (bad1 || decide (most < v)) v = r at htk ⊢
    have hmI : (most : Int) < v := by omega
    clear hq hm
    go_enter Tryz.func58, Tryz.ntmps58
    go_wp2_with fail
    refine hn.mono ?_
    clear hn
    rintro e w1 ⟨rfl, hU, hM⟩
    go_wp2_with fail
    refine (spoil_any w1 b s1 bad1 hU).mono ?_
    rintro e w2 ⟨rfl, hU2, hM2⟩
    go_wp2_with fail
    refine (htk w2 hU2).mono ?_
    clear htk
    rintro e w3 ⟨⟨ok, rfl⟩, hU3, hM3⟩
    go_wp2_with fail
    go_ret
    exact ⟨rfl, hU3, (hM.trans hM2).trans hM3⟩
  · have htk : ∀ W, UnpAt W b s1 bad1 → Calls Tryz.prog 89 #[.pointer (some ⟨b, 0, none⟩), .int .i64 v] W (TakePost W b (unTake s1 (bad1 || decide (most < v)) v)) := fun W hW => by
      have : (bad1 || decide (most < v)) = bad1 := by simp [hm]
      rw [this]
      exact take_any W b s1 bad1 v hW
    generalize unTake s1 (bad1 || decide (most < v)) v = r at htk ⊢
    have hmI : ¬ (most : Int) < v := by omega
    clear hm
    go_enter Tryz.func58, Tryz.ntmps58
    go_wp2_with fail
    refine hn.mono ?_
    clear hn
    rintro e w1 ⟨rfl, hU, hM⟩
    go_wp2_with fail
    refine (htk w1 hU).mono ?_
    clear htk
    rintro e w3 ⟨⟨ok, rfl⟩, hU3, hM3⟩
    go_wp2_with fail
    go_ret
    exact ⟨rfl, hU3, hM.trans hM3⟩
end Go.Proofs.YtmnkackkeppheaaGreat
/- paths and names, plain: a name is a list of bytes -/
namespace Esch
open Go

abbrev Nm := List UInt8
def bs (l : Nm) : ByteArray := ⟨l.toArray⟩
@[simp] theorem bs_size (l : Nm) : (bs l).size = l.length := rfl
def okc (c : UInt8) : Bool := (97 ≤ c && c ≤ 122) || (48 ≤ c && c ≤ 57) || c == 95
def nameL (l : Nm) : Bool := decide (1 ≤ l.length) && decide (l.length ≤ 8) && l.all okc
theorem nameL_len {l : Nm} (h : nameL l = true) : 1 ≤ l.length ∧ l.length ≤ 8 ∧ l.all okc = true := by
  simpa [nameL, and_assoc] using h
end Esch
