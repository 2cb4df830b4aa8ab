import Derived.Test.YtajbooppoohplaaGreatDoorMac
import Derived.Lib.Hide
import Derived.Test.YtajbooppoohplaaGreatDoorPkBase
import Derived.Test.YtajbooppoohplaaGreatDoorRows
import Derived.Deep.LoopGhost
import Derived.Deep.CutRange
import Derived.Deep.DeepCutAuto
import Derived.Deep.QuietTactic
import Derived.BigQuiet
import Derived.Laws.IdiomStrings
import Derived.Laws.Bits64b
/- projections, in plain Lean: units, which is good, which may come next -/
set_option maxRecDepth 100000
set_option maxHeartbeats 1000000
namespace Esch

/-! how often a unit stands, as the map of what was met tells it -/
end Esch
/- lists and projections in memory; the statements' small helpers -/
namespace Go.Proofs.YtajbooppoohplaaGreatDoor
open Go.RowKit Esch

end Go.Proofs.YtajbooppoohplaaGreatDoor
/- numbers as bytes, the highest first: plain Lean -/
namespace Esch
def digit (v j : Nat) : UInt8 := UInt8.ofNat (v / 256 ^ j)
theorem digit_toNat (v j : Nat) : (digit v j).toNat = v / 256 ^ j % 256 := by
 simp [digit, UInt8.toNat_ofNat']
/-- a number's lowest bytes, the highest first -/
def putB (v : Nat) : Nat → List UInt8
  | 0 => []
  | n + 1 => digit v n :: putB v n
theorem putB_length (v : Nat) : ∀ n, (putB v n).length = n
  | 0 => rfl
  | n + 1 => by simp [putB, putB_length v n]
theorem putB_get (v : Nat) : ∀ (n i : Nat), i < n → (putB v n)[i]? = some (digit v (n - 1 - i))
  | 0, i, h => by omega
  | n + 1, 0, _ => by simp [putB]
  | n + 1, i + 1, h => by
    simp only [putB, List.getElem?_cons_succ]
    rw [putB_get v n i (by omega)]
    congr 2
    omega
def getB (l : List UInt8) : Nat := l.foldl (fun a b => a * 256 + b.toNat) 0
theorem getB_snoc (l : List UInt8) (b : UInt8) : getB (l ++ [b]) = getB l * 256 + b.toNat := by simp [getB, List.foldl_append]
theorem foldl_getB (l : List UInt8) : ∀ a, l.foldl (fun a b => a * 256 + b.toNat) a = a * 256 ^ l.length + getB l := by
 induction l with
 | nil => intro a; simp [getB]
 | cons x l ih =>
   intro a
   have e : getB (x :: l) = x.toNat * 256 ^ l.length + getB l := by rw [getB, List.foldl_cons, ih]; simp
   rw [List.foldl_cons, ih, e, List.length_cons, Nat.pow_succ, Nat.add_mul, Nat.mul_assoc, Nat.mul_comm 256 (256 ^ l.length)]
   omega
theorem getB_cons (x : UInt8) (l : List UInt8) : getB (x :: l) = x.toNat * 256 ^ l.length + getB l := by
 rw [getB, List.foldl_cons, foldl_getB]; simp
theorem getB_lt (l : List UInt8) : getB l < 256 ^ l.length := by
 induction l with
 | nil => simp [getB]
 | cons x l ih =>
   rw [getB_cons, List.length_cons, Nat.pow_succ]
   have := x.toNat_lt
   have h1 : x.toNat * 256 ^ l.length ≤ 255 * 256 ^ l.length := Nat.mul_le_mul_right _ (by omega)
   omega
theorem getB_putB (v : Nat) : ∀ n, getB (putB v n) = v % 256 ^ n
  | 0 => by simp [putB, getB, Nat.mod_one]
  | n + 1 => by
    rw [putB, getB_cons, putB_length, getB_putB v n, digit_toNat, Nat.pow_succ, Nat.mod_mul]
    rw [Nat.mul_comm]
    omega
theorem getB_putB' {v n : Nat} (h : v < 256 ^ n) : getB (putB v n) = v := by rw [getB_putB, Nat.mod_eq_of_lt h]
end Esch
/- numbers as bytes: package shift -/
namespace Go.Proofs.YtajbooppoohplaaGreatDoor
open Go.RowKit Esch

def StrPost (w : World) (l : List UInt8) (e : Ending) (w' : World) : Prop := e = .returned (.string ⟨l.toArray⟩) ∧ Below w.heap.size w w'
/-- a row of bytes that is being filled -/
def RowAt (w : World) (bb : Nat) (arr : Array Value) : Prop := w.heap[bb]? = some (.cells arr 5 (0, 0))
theorem RowAt.cell {w : World} {bb : Nat} {arr : Array Value} (h : RowAt w bb arr) (j : Nat) : w.cell? ⟨bb, j, none⟩ = arr[j]? := by
 unfold RowAt at h; simp [World.cell?, h]
theorem RowAt.frozen {w : World} {bb : Nat} {arr : Array Value} (h : RowAt w bb arr) (j : Nat) : w.frozen? ⟨bb, j, none⟩ = false := by
 unfold RowAt at h; simp [World.frozen?, h]
theorem RowAt.set {w : World} {bb : Nat} {arr : Array Value} (h : RowAt w bb arr) (j : Nat) (v : Value) : RowAt (w.setCell ⟨bb, j, none⟩ v) bb (arr.setIfInBounds j v) := by
 unfold RowAt at h ⊢; simp [World.setCell, Array.getElem?_modify, h]
theorem Tryz.infoByte : (Tryz.prog.info? 5).map (fun i => (i.zero, i.size, i.bytes)) = some (some (.int .u8 0), 1, 1) := by kernel_rfl
theorem or_byte (G b : Nat) (hG : G < 72057594037927936) (hb : b < 256) : bits .or .u64 (IntKind.u64.wrap ((G : Int) * 256)) (IntKind.u64.wrap (b : Int)) = ((G * 256 + b : Nat) : Int) := by
 have h1 : IntKind.u64.wrap ((G : Int) * 256) = ((G * 256 : Nat) : Int) := by
  rw [IntKind.wrap_u64]; omega
 have h2 : IntKind.u64.wrap (b : Int) = (b : Int) := by
  rw [IntKind.wrap_u64]; omega
 rw [h1, h2, bits_or_u64_nat _ _ (by omega) (by omega)]
 have := Nat.shiftLeft_add_eq_or_of_lt (b := b) (i := 8) (by simpa using hb) G
 rw [Nat.shiftLeft_eq, show (2 : Nat) ^ 8 = 256 from rfl] at this
 rw [← this]
/-- so many bytes from a place on -/
def cutB (s : ByteArray) (a n : Nat) : List UInt8 := (s.data.toList.drop a).take n
def GetPost (w : World) (s : ByteArray) (a n : Nat) (e : Ending) (w' : World) : Prop :=
  (e = .returned (if n ≤ 8 ∧ a ≤ s.size ∧ n ≤ s.size - a then .tuple #[.int .u64 (getB (cutB s a n)), .bool true] else .tuple #[.int .u64 0, .bool false])) ∧ w' = w
def GetRel (w : World) (s : ByteArray) (a n g : Nat) (sv si : Value) (wr : World) : Prop :=
  ∃ k : Nat, g = n - k ∧ k ≤ n ∧ si = .int .i64 k ∧ sv = .int .u64 (getB (cutB s a k)) ∧ wr = w
theorem shiftGet_any (w : World) (s : ByteArray) (hs : s.size ≤ 9223372036854775807) (a n : Nat) (ha : a ≤ 9223372036854775807) (hn : n ≤ 9223372036854775807) :
    Calls Tryz.prog 120 #[.string s, .int .i64 a, .int .i64 n] w (GetPost w s a n) := by
 by_cases h8 : n ≤ 8
 · by_cases h1 : a ≤ s.size
   · by_cases h2 : n ≤ s.size - a
     · unfold GetPost
       rw [if_pos ⟨h8, h1, h2⟩]
       go_enter Tryz.func120, Tryz.ntmps120
       go_wp2_with fail
       simp only [show decide (s.size < a) = false from decide_eq_false (by omega), Bool.or_false]
       go_loopg [8, 35] n (fun g s8 s35 wr => GetRel w s a n g s8 s35 wr)
       case atStart => exact ⟨0, rfl, Nat.zero_le _, rfl, by simp [cutB, getB], rfl⟩
       case round =>
        obtain ⟨k, rfl, hk, rfl, rfl, rfl⟩ := hrel
        by_cases hlt : k < n
        · have hG : getB (cutB s a k) < 72057594037927936 := by
           refine Nat.lt_of_lt_of_le (getB_lt _) ?_
           have : (cutB s a k).length ≤ 7 := by unfold cutB; have := List.length_take_le k (s.data.toList.drop a); omega
           exact Nat.le_trans (Nat.pow_le_pow_right (by decide) this) (by decide)
          have hcut : cutB s a (k + 1) = cutB s a k ++ [s[a + k]'(by show a + k < s.size; omega)] := by
           unfold cutB
           have hlen : k < (s.data.toList.drop a).length := by rw [List.length_drop, Array.length_toList]; show k < s.size - a; omega
           rw [List.take_succ_eq_append_getElem hlen, List.getElem_drop, Array.getElem_toList]
           rfl
          have hor := or_byte (getB (cutB s a k)) (s[a + k]'(by show a + k < s.size; omega)).toNat hG (UInt8.toNat_lt _)
          rw [← getB_snoc, ← hcut] at hor
          have Hor := Lib.hid hor
          have hak : a + k < s.size := by omega
          clear hor hcut hG h1 h2
          go_wp2_with fail
          rw [Hor.out]
          go_roundg (n - (k + 1))
          case measure => omega
          case rel => exact ⟨k + 1, rfl, by omega, by go_num, rfl, rfl⟩
        · have hkn : k = n := by omega
          subst hkn
          go_wp2_with fail
          go_ret2
          exact ⟨rfl, rfl⟩
     · unfold GetPost
       rw [if_neg (fun h => h2 h.2.2)]
       exact mK2
   · unfold GetPost
     rw [if_neg (fun h => h1 h.2.1)]
     exact mK2
 · unfold GetPost
   rw [if_neg (fun h => h8 h.1)]
   exact mK2
end Go.Proofs.YtajbooppoohplaaGreatDoor
/- fields that are unpacked: package pack -/
namespace Go.Proofs.YtajbooppoohplaaGreatDoor
open Go.RowKit Esch

def sizedB (n : Nat) : Bool := n == 1 || n == 2 || n == 4 || n == 8
theorem sized_any (w : World) (n : Nat) : Calls Tryz.prog 117 #[.int .i64 n] w fun e w' => e = .returned (.bool (sizedB n)) ∧ w' = w := by
 by_cases h1 : n = 1
 · subst h1
   exact mK3
 · by_cases h2 : n = 2
   · subst h2
     exact mK3
   · by_cases h4 : n = 4
     · subst h4
       exact mK3
     · by_cases h8 : n = 8
       · subst h8
         exact mK3
       · go_enter Tryz.func117, Tryz.ntmps117
         go_wp2_with fail
         go_ret
         have e1 : ((n : Int) == 1) = false := by simp; omega
         have e2 : ((n : Int) == 2) = false := by simp; omega
         have e3 : ((n : Int) == 4) = false := by simp; omega
         have e4 : ((n : Int) == 8) = false := by simp; omega
         refine ⟨?_, rfl⟩
         rw [e1, e2, e3, e4]
         simp [sizedB, h1, h2, h4, h8]
structure UnpAt (w : World) (b : Nat) (s : ByteArray) (bad : Bool) : Prop where
  c0 : w.cell? ⟨b, 0, none⟩ = some (.string s)
  c1 : w.cell? ⟨b, 1, none⟩ = some (.bool bad)
  f0 : w.frozen? ⟨b, 0, none⟩ = false
  f1 : w.frozen? ⟨b, 1, none⟩ = false
  size : s.size ≤ 9223372036854775807
theorem open_any (w : World) (s : ByteArray) (hs : s.size ≤ 9223372036854775807) : Calls Tryz.prog 69 #[.string s] w fun e w' => ∃ b, e = .returned (.pointer (some ⟨b, 0, none⟩)) ∧ UnpAt w' b s false ∧ w.heap.size ≤ b ∧ Below w.heap.size w w' := by
 go_enter Tryz.func69, Tryz.ntmps69
 go_wp2_with fail
 go_ret
 exact ⟨w.heap.size, rfl, ⟨by go_simp, by go_simp, by go_simp, by go_simp, hs⟩, Nat.le_refl _, by exact belC (Below.refl _ _)⟩
theorem spoil_any (w : World) (b : Nat) (s : ByteArray) (bad : Bool) (h : UnpAt w b s bad) : Calls Tryz.prog 118 #[.pointer (some ⟨b, 0, none⟩)] w fun e w' => e = .returned (.tuple #[]) ∧ UnpAt w' b s true ∧ Mod (· = b) w w' := by
 obtain ⟨c0, c1, f0, f1, hs⟩ := h
 go_enter Tryz.func118, Tryz.ntmps118
 go_wp2_with fail
 go_end0
 exact ⟨rfl, ⟨by go_simp, by go_simp, by go_simp, by go_simp, hs⟩, (Mod.refl (· = b) w).setCellAt (fun _ => rfl) _⟩
theorem take_bad (w : World) (b : Nat) (s : ByteArray) (bad : Bool) (n : Nat) (h : UnpAt w b s bad) (hb : bad = true ∨ s.size < n) : Calls Tryz.prog 119 #[.pointer (some ⟨b, 0, none⟩), .int .i64 n] w fun e w' => e = .returned (.tuple #[.string ⟨#[]⟩, .bool false]) ∧ UnpAt w' b s true ∧ Mod (· = b) w w' := by
 have hsp := spoil_any w b s bad h
 obtain ⟨c0, c1, f0, f1, hs⟩ := h
 cases bad
 · have hb' : s.size < n := by simpa using hb
   exact mK4
 · exact mK4
theorem take_ok (w : World) (b : Nat) (s : ByteArray) (n : Nat) (h : UnpAt w b s false) (hb : n ≤ s.size) : Calls Tryz.prog 119 #[.pointer (some ⟨b, 0, none⟩), .int .i64 n] w fun e w' => e = .returned (.tuple #[.string (s.extract 0 n), .bool true]) ∧ UnpAt w' b (s.extract n s.size) false ∧ Mod (· = b) w w' := by
 obtain ⟨c0, c1, f0, f1, hs⟩ := h
 go_enter Tryz.func119, Tryz.ntmps119
 go_wp2_with fail
 go_ret2
 exact ⟨rfl, ⟨by go_simp, by go_simp, by go_simp, by go_simp, by rw [ByteArray.size_extract]; omega⟩, (Mod.refl (· = b) w).setCellAt (fun _ => rfl) _⟩
/-- the next number of so many bytes -/
def unNum (s : ByteArray) (bad : Bool) (n : Nat) : Nat × ByteArray × Bool :=
  if bad = true ∨ s.size < n then (0, s, true) else if 9223372036854775808 ≤ getB (cutB s 0 n) then (0, s.extract n s.size, true) else (getB (cutB s 0 n), s.extract n s.size, false)
theorem cutB_extract (s : ByteArray) (n : Nat) : cutB (s.extract 0 n) 0 n = cutB s 0 n := by
 simp [cutB, ByteArray.data_extract, List.take_take]
theorem extract_size (s : ByteArray) (n : Nat) (h : n ≤ s.size) : (s.extract 0 n).size = n := by rw [ByteArray.size_extract]; omega
def NumPost (w : World) (b : Nat) (r : Nat × ByteArray × Bool) (e : Ending) (w' : World) : Prop := e = .returned (.int .i64 r.1) ∧ UnpAt w' b r.2.1 r.2.2 ∧ Mod (· = b) w w'
theorem unNum_any (w : World) (b : Nat) (s : ByteArray) (bad : Bool) (n : Nat) (hn : sizedB n = true) (h : UnpAt w b s bad) :
    Calls Tryz.prog 70 #[.pointer (some ⟨b, 0, none⟩), .int .i64 n] w (NumPost w b (unNum s bad n)) := by
 have hsz := sized_any w n
 rw [hn] at hsz
 have h8 : n ≤ 8 := by simp only [sizedB, Bool.or_eq_true, beq_iff_eq] at hn; omega
 clear hn
 by_cases hb : bad = true ∨ s.size < n
 · have htk := take_bad w b s bad n h hb
   rw [show unNum s bad n = (0, s, true) from if_pos hb]
   clear hb h
   go_enter Tryz.func70, Tryz.ntmps70
   go_wp2_with fail
   refine hsz.mono ?_
   clear hsz
   rintro e w0 ⟨rfl, rfl⟩
   go_wp2_with fail
   refine htk.mono ?_
   clear htk
   rintro e w1 ⟨rfl, hU, hM⟩
   have hg := shiftGet_any w1 ⟨#[]⟩ (by decide) 0 0 (by decide) (by decide)
   unfold GetPost at hg
   rw [if_pos ⟨by decide, by decide, by decide⟩] at hg
   have hsp := spoil_any w1 b s true hU
   exact mK6
 · obtain rfl : bad = false := by cases bad; rfl; exact absurd (Or.inl rfl) hb
   have hle : n ≤ s.size := by have := fun h => hb (Or.inr h); omega
   have htk := take_ok w b s n h hle
   have hex := extract_size s n hle
   have hcu := cutB_extract s n
   have hgg := fun W => shiftGet_any W (s.extract 0 n) (by omega) 0 n (by omega) (by omega)
   unfold GetPost at hgg
   rw [if_pos ⟨h8, by omega, by omega⟩, hcu] at hgg
   have hlt : getB (cutB s 0 n) < 18446744073709551616 := by
    refine Nat.lt_of_lt_of_le (getB_lt _) ?_
    have : (cutB s 0 n).length ≤ 8 := by unfold cutB; have := List.length_take_le n (s.data.toList.drop 0); omega
    exact Nat.le_trans (Nat.pow_le_pow_right (by decide) this) (by decide)
   unfold unNum
   rw [if_neg hb]
   generalize getB (cutB s 0 n) = v at hgg hlt ⊢
   generalize s.extract 0 n = s0 at htk hgg hex
   clear hb h hcu hle
   by_cases hv : 9223372036854775808 ≤ v
   · rw [if_pos hv]
     have Hv := Lib.hid hv
     have Hlt := Lib.hid hlt
     have hq : (v : Int) / 9223372036854775808 = 1 := by omega
     clear hv hlt
     go_enter Tryz.func70, Tryz.ntmps70
     go_wp2_with fail
     refine hsz.mono ?_
     clear hsz
     rintro e w0 ⟨rfl, rfl⟩
     go_wp2_with fail
     refine htk.mono ?_
     clear htk
     rintro e w1 ⟨rfl, hU, hM⟩
     have hg := hgg w1
     have hsp := spoil_any w1 b _ _ hU
     exact mK6
   · rw [if_neg hv]
     have hv' : v < 9223372036854775808 := by omega
     have Hlt := Lib.hid hlt
     have Hv := Lib.hid hv'
     have hq : (v : Int) / 9223372036854775808 = 0 := by omega
     clear hv hlt hv'
     go_enter Tryz.func70, Tryz.ntmps70
     go_wp2_with fail
     refine hsz.mono ?_
     clear hsz
     rintro e w0 ⟨rfl, rfl⟩
     go_wp2_with fail
     refine htk.mono ?_
     clear htk
     rintro e w1 ⟨rfl, hU, hM⟩
     have hg := hgg w1
     go_wp2_with fail
     refine hg.mono ?_
     clear hg
     rintro e w2 ⟨rfl, rfl⟩
     go_wp2_with fail
     go_ret
     exact ⟨rfl, hU, hM⟩
theorem unEnd_any (w : World) (b : Nat) (s : ByteArray) (bad : Bool) (h : UnpAt w b s bad) :
    Calls Tryz.prog 73 #[.pointer (some ⟨b, 0, none⟩)] w fun e w' => e = .returned (.int .i64 (if bad = true ∨ 0 < s.size then 11 else 0)) ∧ w' = w := by
 obtain ⟨c0, c1, f0, f1, hs⟩ := h
 cases bad
 · by_cases h0 : 0 < s.size
   · rw [if_pos (Or.inr h0)]
     go_enter Tryz.func73, Tryz.ntmps73
     go_wp2_with fail
     go_ret
     exact ⟨rfl, rfl⟩
   · rw [if_neg (fun h => h.elim (fun e => by cases e) h0)]
     have h0' : s.size = 0 := by omega
     go_enter Tryz.func73, Tryz.ntmps73
     go_wp2_with fail
     go_ret
     exact ⟨rfl, rfl⟩
 · rw [if_pos (Or.inl rfl)]
   go_enter Tryz.func73, Tryz.ntmps73
   go_wp2_with fail
   go_ret
   exact ⟨rfl, rfl⟩
end Go.Proofs.YtajbooppoohplaaGreatDoor
/- package pack: Text, Left, of an unpacker -/
namespace Esch
/-- the text of a number of bytes, and what is left -/
def unTake (s : ByteArray) (bad : Bool) (n : Nat) : ByteArray × ByteArray × Bool := if bad = true ∨ s.size < n then (⟨#[]⟩, s, true) else (s.extract 0 n, s.extract n s.size, false)
end Esch
namespace Go.Proofs.YtajbooppoohplaaGreatDoor
open Go.RowKit Esch

/-- the next text, of at most so many bytes -/
def unText (s : ByteArray) (bad : Bool) (most : Nat) : ByteArray × ByteArray × Bool := unTake (unNum s bad 2).2.1 ((unNum s bad 2).2.2 || decide (most < (unNum s bad 2).1)) (unNum s bad 2).1
def TakePost (w : World) (b : Nat) (r : ByteArray × ByteArray × Bool) (e : Ending) (w' : World) : Prop := (∃ ok, e = .returned (.tuple #[.string r.1, .bool ok])) ∧ UnpAt w' b r.2.1 r.2.2 ∧ Mod (· = b) w w'
theorem take_any (w : World) (b : Nat) (s : ByteArray) (bad : Bool) (n : Nat) (h : UnpAt w b s bad) : Calls Tryz.prog 119 #[.pointer (some ⟨b, 0, none⟩), .int .i64 n] w (TakePost w b (unTake s bad n)) := by
 unfold unTake
 split
 · rename_i hb
   exact (take_bad w b s bad n h hb).mono fun e w' ⟨h1, h2, h3⟩ => ⟨⟨_, h1⟩, h2, h3⟩
 · rename_i hb
   obtain rfl : bad = false := by cases bad <;> simp_all
   exact (take_ok w b s n h (by simp at hb; omega)).mono fun e w' ⟨h1, h2, h3⟩ => ⟨⟨_, h1⟩, h2, h3⟩
def TextPost (w : World) (b : Nat) (r : ByteArray × ByteArray × Bool) (e : Ending) (w' : World) : Prop := e = .returned (.string r.1) ∧ UnpAt w' b r.2.1 r.2.2 ∧ Mod (· = b) w w'
theorem unText_any (w : World) (b : Nat) (s : ByteArray) (bad : Bool) (most : Nat) (h : UnpAt w b s bad) :
    Calls Tryz.prog 121 #[.pointer (some ⟨b, 0, none⟩), .int .i64 most] w (TextPost w b (unText s bad most)) := by
 have hn := unNum_any w b s bad 2 rfl h
 unfold unText
 obtain ⟨r, hr⟩ : ∃ r, r = unNum s bad 2 := ⟨_, rfl⟩
 rw [← hr] at hn ⊢
 obtain ⟨v, s1, bad1⟩ := r
 simp only
 clear hr h
 by_cases hm : most < v
 · have hq : ((most : Int) < v) = True := by simpa using hm
   have htk : ∀ W, UnpAt W b s1 true → Calls Tryz.prog 119 #[.pointer (some ⟨b, 0, none⟩), .int .i64 v] W (TakePost W b (unTake s1 (bad1 || decide (most < v)) v)) := fun W hW => by
    have : (bad1 || decide (most < v)) = true := by simp [hm]
    rw [this]
    exact take_any W b s1 true v hW
   generalize unTake s1 (bad1 || decide (most < v)) v = r at htk ⊢
   have hmI : (most : Int) < v := by omega
   clear hq hm
   go_enter Tryz.func121, Tryz.ntmps121
   go_wp2_with fail
   refine hn.mono ?_
   clear hn
   rintro e w1 ⟨rfl, hU, hM⟩
   go_wp2_with fail
   refine (spoil_any w1 b s1 bad1 hU).mono ?_
   rintro e w2 ⟨rfl, hU2, hM2⟩
   go_wp2_with fail
   refine (htk w2 hU2).mono ?_
   clear htk
   rintro e w3 ⟨⟨ok, rfl⟩, hU3, hM3⟩
   go_wp2_with fail
   go_ret
   exact ⟨rfl, hU3, (hM.trans hM2).trans hM3⟩
 · have htk : ∀ W, UnpAt W b s1 bad1 → Calls Tryz.prog 119 #[.pointer (some ⟨b, 0, none⟩), .int .i64 v] W (TakePost W b (unTake s1 (bad1 || decide (most < v)) v)) := fun W hW => by
    have : (bad1 || decide (most < v)) = bad1 := by simp [hm]
    rw [this]
    exact take_any W b s1 bad1 v hW
   generalize unTake s1 (bad1 || decide (most < v)) v = r at htk ⊢
   have hmI : ¬ (most : Int) < v := by omega
   clear hm
   go_enter Tryz.func121, Tryz.ntmps121
   go_wp2_with fail
   refine hn.mono ?_
   clear hn
   rintro e w1 ⟨rfl, hU, hM⟩
   go_wp2_with fail
   refine (htk w1 hU).mono ?_
   clear htk
   rintro e w3 ⟨⟨ok, rfl⟩, hU3, hM3⟩
   exact mK5
end Go.Proofs.YtajbooppoohplaaGreatDoor
/- paths and names, plain: a name is a list of bytes -/
namespace Esch
open Go

abbrev Nm := List UInt8
def bs (l : Nm) : ByteArray := ⟨l.toArray⟩
theorem bs_list (l : Nm) : (bs l).data.toList = l := rfl
@[simp] theorem bs_size (l : Nm) : (bs l).size = l.length := rfl
theorem bs_extract (l : Nm) (i j : Nat) : (bs l).extract i j = bs ((l.drop i).take (j - i)) := by
 apply ByteArray.ext
 simp only [ByteArray.data_extract, bs]
 apply Array.toList_inj.1
 simp [List.extract_eq_take_drop]
theorem bs_append (a b : Nm) : bs a ++ bs b = bs (a ++ b) := by
 apply ByteArray.ext
 simp [bs, ByteArray.data_append]
def okc (c : UInt8) : Bool := (97 ≤ c && c ≤ 122) || (48 ≤ c && c ≤ 57) || c == 95
def nameL (l : Nm) : Bool := decide (1 ≤ l.length) && decide (l.length ≤ 8) && l.all okc
theorem nameL_len {l : Nm} (h : nameL l = true) : 1 ≤ l.length ∧ l.length ≤ 8 ∧ l.all okc = true := by
 simpa [nameL, and_assoc] using h
theorem nameL_no {l : Nm} (h : nameL l = true) : ∀ c ∈ l, c ≠ 47 := by
 intro c hc e
 have := List.all_eq_true.1 (nameL_len h).2.2 c hc
 subst e
 exact absurd this (by decide)
def namesD : Nat → Nm → Option (List Nm)
  | 0, _ => none
  | _ + 1, [] => none
  | d + 1, c :: r => if c = 47 ∧ nameL (r.takeWhile (· != 47)) = true then
      if r.dropWhile (· != 47) = [] then some [r.takeWhile (· != 47)] else (namesD d (r.dropWhile (· != 47))).map (r.takeWhile (· != 47) :: ·)
    else none
theorem namesD_cons (d : Nat) (c : UInt8) (r : Nm) : namesD (d + 1) (c :: r) = if c = 47 ∧ nameL (r.takeWhile (· != 47)) = true then
      if r.dropWhile (· != 47) = [] then some [r.takeWhile (· != 47)] else (namesD d (r.dropWhile (· != 47))).map (r.takeWhile (· != 47) :: ·)
    else none := rfl
def namesOf (p : Nm) : Option (List Nm) := if p = [47] then some [] else namesD 8 p
def pathT (l : List Nm) : Nm := l.flatMap (47 :: ·)
def pathL (l : List Nm) : Nm := if l = [] then [47] else pathT l
theorem tw_app {a r : Nm} (ha : ∀ c ∈ a, c ≠ 47) (hr : r = [] ∨ ∃ r', r = 47 :: r') : (a ++ r).takeWhile (· != 47) = a ∧ (a ++ r).dropWhile (· != 47) = r := by
 induction a with
 | nil => rcases hr with rfl | ⟨r', rfl⟩ <;> simp
 | cons x a ih =>
   have hx : (x != 47) = true := by simpa using ha x (by simp)
   obtain ⟨i1, i2⟩ := ih fun c hc => ha c (by simp [hc])
   simp only [List.cons_append, List.takeWhile_cons, List.dropWhile_cons, hx, if_true]
   exact ⟨by rw [i1], i2⟩
theorem pathT_head (l : List Nm) : pathT l = [] ∨ ∃ r, pathT l = 47 :: r := by
 cases l with
 | nil => exact Or.inl rfl
 | cons a l => exact Or.inr ⟨_, rfl⟩
theorem namesD_path : ∀ (d : Nat) (l : List Nm), l ≠ [] → l.length ≤ d → (∀ a ∈ l, nameL a = true) → namesD d (pathT l) = some l
  | 0, [], h, _, _ => absurd rfl h
  | 0, _ :: _, _, h, _ => by simp at h
  | d + 1, [], h, _, _ => absurd rfl h
  | d + 1, a :: l, _, h, hn => by
    have ha := hn a (by simp)
    show namesD (d + 1) (47 :: (a ++ pathT l)) = _
    obtain ⟨t1, t2⟩ := tw_app (r := pathT l) (nameL_no ha) (pathT_head l)
    unfold namesD
    rw [t1, t2, if_pos ⟨rfl, ha⟩]
    cases l with
    | nil => rfl
    | cons b l =>
      rw [if_neg (by simp [pathT]), namesD_path d (b :: l) (by simp) (by simpa using h) fun x hx => hn x (List.mem_cons_of_mem _ hx)]
      rfl
theorem namesD_some : ∀ (d : Nat) (p : Nm) (l : List Nm), namesD d p = some l → l ≠ [] ∧ l.length ≤ d ∧ (∀ a ∈ l, nameL a = true) ∧ p = pathT l
  | 0, _, _, h => by simp [namesD] at h
  | d + 1, [], _, h => by simp [namesD] at h
  | d + 1, c :: r, l, h => by
    unfold namesD at h
    by_cases hc : c = 47 ∧ nameL (r.takeWhile (· != 47)) = true
    · rw [if_pos hc] at h
      obtain ⟨rfl, hn⟩ := hc
      have e := List.takeWhile_append_dropWhile (p := (· != 47)) (l := r)
      by_cases hd : r.dropWhile (· != 47) = []
      · rw [if_pos hd] at h
        obtain rfl := Option.some.inj h
        refine ⟨by simp, by simp, by simpa using hn, ?_⟩
        rw [hd, List.append_nil] at e
        simp only [pathT, List.flatMap_cons, List.flatMap_nil, List.append_nil, e]
      · rw [if_neg hd] at h
        obtain ⟨l', hl', rfl⟩ := Option.map_eq_some_iff.1 h
        obtain ⟨i1, i2, i3, i4⟩ := namesD_some d _ l' hl'
        refine ⟨by simp, by simpa using i2, ?_, ?_⟩
        · intro a ha
          rcases List.mem_cons.1 ha with rfl | ha
          · exact hn
          · exact i3 a ha
        · show 47 :: r = 47 :: (_ ++ pathT l')
          rw [← i4, e]
    · rw [if_neg hc] at h; cases h
theorem namesOf_path {l : List Nm} (h : l.length ≤ 8) (hn : ∀ a ∈ l, nameL a = true) : namesOf (pathL l) = some l := by
 unfold namesOf pathL
 by_cases e : l = []
 · subst e; rfl
 · rw [if_neg e, if_neg, namesD_path 8 l e h hn]
   intro e2
   cases l with
   | nil => exact e rfl
   | cons a l =>
     have ha := nameL_len (hn a (by simp))
     have : (pathT (a :: l)).length = 1 := by rw [e2]; rfl
     simp only [pathT, List.flatMap_cons, List.length_append, List.length_cons] at this
     omega
theorem namesOf_some {p : Nm} {l : List Nm} (h : namesOf p = some l) : l.length ≤ 8 ∧ (∀ a ∈ l, nameL a = true) ∧ p = pathL l := by
 unfold namesOf at h
 by_cases e : p = [47]
 · rw [if_pos e] at h
   obtain rfl := Option.some.inj h
   exact ⟨by simp, by simp, e⟩
 · rw [if_neg e] at h
   obtain ⟨h1, h2, h3, h4⟩ := namesD_some 8 p l h
   exact ⟨h2, h3, by rw [h4, pathL, if_neg h1]⟩
/-- the round of the loop: l are the names that were met -/
def namesFrom (l : List Nm) (t : Nm) : Option (List Nm) := (namesD (8 - l.length) t).map (l ++ ·)
theorem namesFrom_nil (l : List Nm) : namesFrom l [] = none := by
 unfold namesFrom
 cases 8 - l.length <;> rfl
theorem namesFrom_cons (l : List Nm) (c : UInt8) (r : Nm) : namesFrom l (c :: r) =
    if c ≠ 47 ∨ 8 ≤ l.length then none else if nameL (r.takeWhile (· != 47)) = true then
      if r.dropWhile (· != 47) = [] then some (l ++ [r.takeWhile (· != 47)]) else namesFrom (l ++ [r.takeWhile (· != 47)]) (r.dropWhile (· != 47))
    else none := by
 unfold namesFrom
 by_cases h8 : 8 ≤ l.length
 · rw [if_pos (Or.inr h8), show 8 - l.length = 0 by omega]; rfl
 · obtain ⟨d, hd⟩ : ∃ d, 8 - l.length = d + 1 := ⟨7 - l.length, by omega⟩
   have hd' : 8 - (l ++ [r.takeWhile (· != 47)]).length = d := by simp; omega
   rw [hd, hd', namesD_cons]
   by_cases hc : c = 47
   · have e0 : ¬ (c ≠ 47 ∨ 8 ≤ l.length) := fun h => h.elim (fun h => h hc) h8
     rw [if_neg e0]
     by_cases hn : nameL (r.takeWhile (· != 47)) = true
     · rw [if_pos hn, if_pos (show c = 47 ∧ nameL (r.takeWhile (· != 47)) = true from ⟨hc, hn⟩)]
       split
       · rfl
       · simp [Option.map_map, Function.comp_def]
     · rw [if_neg hn, if_neg (show ¬ (c = 47 ∧ nameL (r.takeWhile (· != 47)) = true) from fun h => hn h.2)]; rfl
   · rw [if_pos (show c ≠ 47 ∨ 8 ≤ l.length from Or.inl hc), if_neg (show ¬ (c = 47 ∧ nameL (r.takeWhile (· != 47)) = true) from fun h => hc h.1)]; rfl
theorem firstIdx_bs (t : Nm) : firstIdx (bs t) 47 = if t.dropWhile (· != 47) = [] then -1 else ((t.takeWhile (· != 47)).length : Int) := by
 have key : ∀ (t pre : Nm), ((List.range' pre.length t.length).find? fun i => (bs (pre ++ t))[i]! == 47) = if t.dropWhile (· != 47) = [] then none else some (pre.length + (t.takeWhile (· != 47)).length) := by
  intro t
  induction t with
  | nil => intro pre; rfl
  | cons c t ih =>
    intro pre
    have hc : (bs (pre ++ c :: t))[pre.length]! = c := by
      rw [getElem!_pos (bs (pre ++ c :: t)) pre.length (by simp)]
      show (pre ++ c :: t).toArray[pre.length]'(by simp) = c
      simp
    rw [List.length_cons, List.range'_succ, List.find?_cons, hc]
    by_cases h : c = 47
    · subst h; simp
    · have h1 : (c == 47) = false := by simpa using h
      have h2 : (c != 47) = true := by simpa using h
      have := ih (pre ++ [c])
      simp only [List.append_assoc, List.singleton_append, List.length_append, List.length_singleton] at this
      simp only [h1, List.takeWhile_cons, List.dropWhile_cons, h2, if_true]
      rw [this]
      split
      · rfl
      · simp; omega
 have := key t []
 simp only [List.nil_append, List.length_nil, Nat.zero_add] at this
 unfold firstIdx
 rw [show (bs t).size = t.length from rfl, List.range_eq_range', this]
 by_cases e : t.dropWhile (· != 47) = []
 · rw [if_pos e, if_pos e]
 · rw [if_neg e, if_neg e]
end Esch
