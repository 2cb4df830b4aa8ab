import Derived.Test.YtajbooppoohplaaGreatDoorMac
import Derived.Test.YtajbooppoohplaaGreatDoorPkOpM
import Derived.Test.YtajbooppoohplaaGreatDoorPkRPk
import Derived.Test.YtajbooppoohplaaGreatDoorPkStC
import Derived.Test.YtajbooppoohplaaGreatDoorPkT7
/- records of a path, of a handle, a write; their letters -/
namespace Esch
open Go Go.RowKit
/-- a record of a path, of a handle, a write -/
def opP (k c s : Nat) (p : Nm) : OpS := { opN c s k with path := p }
def headL (k c s : Nat) : List UInt8 := putB k 1 ++ putB c 1 ++ putB s 4
def textL (p : List UInt8) : List UInt8 := putB p.length 2 ++ p
end Esch
namespace Go.Proofs.YtajbooppoohplaaGreatDoor
open Go.RowKit Esch

set_option linter.unusedSimpArgs false
theorem opIn_nil (w : World) (x : OpS) (h : x.ml = 0) (h2 : x.mc = 0) : OpIn w x [] := ⟨h, RwAt.nil _ _ _ _, by omega, by omega⟩
theorem kept_opP (k c s : Nat) (p : Nm) (hk : k = 1 ∨ k = 2 ∨ k = 3 ∨ k = 5 ∨ k = 8) : (opP k c s p).alike (opP k c s p).kept = true := by
 rcases hk with rfl | rfl | rfl | rfl | rfl <;> simp [OpS.alike, OpS.kept, opP, opN, fldL, OpS.put]
end Go.Proofs.YtajbooppoohplaaGreatDoor
/- what the document writes is what the program reads, plain -/
namespace Go.Proofs.YtajbooppoohplaaGreatDoor
open Go.RowKit Esch

theorem bs_all (r : List UInt8) (n : Nat) (l : List UInt8) (h : l.length = n) : (bs (l ++ r)).extract n (bs (l ++ r)).size = bs r := by
 rw [bs_extract, bs_size, List.length_append]
 congr 1
 rw [List.drop_append_of_le_length (by omega), List.drop_of_length_le (by omega), List.nil_append, List.take_of_length_le (by omega)]
theorem unNum_put (v n : Nat) (r : List UInt8) (hv : v < 256 ^ n) (hv2 : v < 9223372036854775808) : unNum (bs (putB v n ++ r)) false n = (v, bs r, false) := by
 have hl := putB_length v n
 have hc : cutB (bs (putB v n ++ r)) 0 n = putB v n := by
  unfold cutB
  rw [bs_list, List.drop_zero, List.take_append_of_le_length (by omega), List.take_of_length_le (by omega)]
 unfold unNum
 rw [if_neg (by rw [bs_size, List.length_append, hl]; simp), hc, getB_putB' hv, if_neg (by omega), bs_all r n _ hl]
theorem unTake_put (p r : List UInt8) : unTake (bs (p ++ r)) false p.length = (bs p, bs r, false) := by
 unfold unTake
 rw [if_neg (by rw [bs_size, List.length_append]; simp), bs_all r p.length p rfl]
 congr 1
 rw [bs_extract]
 congr 1
 simp
theorem unText_put (p r : List UInt8) (most : Nat) (hm : p.length ≤ most) (hp : p.length < 65536) : unText (bs (textL p ++ r)) false most = (bs p, bs r, false) := by
 unfold unText textL
 rw [List.append_assoc, unNum_put p.length 2 (p ++ r) (by omega) (by omega)]
 simp only [Bool.false_or]
 rw [show decide (most < p.length) = false from decide_eq_false (by omega), unTake_put]
theorem decHead_put (k c s : Nat) (r : List UInt8) (hk : k < 256) (hc : c < 256) (hs : s < 4294967296) : decHead (bs (headL k c s ++ r)) = ((opN c s k, []), bs r, false) := by
 unfold decHead headL
 simp only [List.append_assoc]
 rw [unNum_put k 1 _ (by omega) (by omega)]
 simp only
 rw [unNum_put c 1 _ (by omega) (by omega)]
 simp only
 rw [unNum_put s 4 _ (by omega) (by omega)]
theorem goodV_opP (k c s : Nat) (p : Nm) (hk : k = 1 ∨ k = 2 ∨ k = 3 ∨ k = 5 ∨ k = 8) (hc : c ≤ 7) (hs : 1 ≤ s ∧ s ≤ 2147483647) (hp : goodPath p = true) : goodV (opP k c s p) [] = true := by
 have h1 : winB c 0 7 = true := by simp [winB]; omega
 have h2 : winB s 1 2147483647 = true := by simp [winB]; omega
 unfold goodV OpS.good
 show (knownB k && winB c 0 7 && winB s 1 2147483647 && (opP k c s p).form [] && (opP k c s p).alike (opP k c s p).kept) = true
 rw [h1, h2, kept_opP k c s p hk]
 rcases hk with rfl | rfl | rfl | rfl | rfl <;> simp [knownB, OpS.form, opP, opN, hp]
theorem dec_opP (k c s : Nat) (p : Nm) (hk : k = 1 ∨ k = 2 ∨ k = 3 ∨ k = 5 ∨ k = 8) (hc : c ≤ 7) (hs : 1 ≤ s ∧ s ≤ 2147483647) (hp : goodPath p = true) (hpl : p.length ≤ 1000) : decOp (bs (headL k c s ++ textL p)) = some (opP k c s p, []) := by
 have hr : decRaw (bs (headL k c s ++ textL p)) = ((opP k c s p, []), bs [], false) := by
  unfold decRaw
  rw [decHead_put k c s _ (by omega) (by omega) (by omega)]
  rw [if_pos (by rcases hk with rfl | rfl | rfl | rfl | rfl <;> rfl)]
  have hf : fldL ((opN c s k).kind.toNat) = [112] := by rcases hk with rfl | rfl | rfl | rfl | rfl <;> rfl
  show getAll (fldL ((opN c s k).kind.toNat)) _ = _
  rw [hf]
  have ht := unText_put p [] 4096 (by omega) (by omega)
  rw [List.append_nil] at ht
  show getF (opN c s k) [] (bs (textL p)) false 112 = _
  have hg : getF (opN c s k) [] (bs (textL p)) false 112 = (({ opN c s k with path := (unText (bs (textL p)) false 4096).1.data.toList }, []), (unText (bs (textL p)) false 4096).2) := rfl
  rw [hg, ht]
  rfl
 unfold decOp
 rw [hr, if_neg (by simp), if_pos (goodV_opP k c s p hk hc hs hp)]
end Go.Proofs.YtajbooppoohplaaGreatDoor
/- what the laws of the state wake them by, plain -/
namespace Go.Proofs.YtajbooppoohplaaGreatDoor
open Go.RowKit Esch

def wkP : Nm := [47, 97]
def wkT : ByteArray := bs (headL 1 0 1 ++ textL wkP)
theorem wkT_dec : decOp wkT = some (opP 1 0 1 wkP, []) := dec_opP 1 0 1 wkP (by decide) (by decide) (by decide) (by decide) (by decide)
def wkS1 : StS := ⟨((tr0.mk' wkP 1).run tr0).2, hd0, [(0, (1, 0, 0))], 1⟩
def wkS2 : StS := { wkS1 with next := 2 }
theorem wk_mk : ((tr0.mk' wkP 1).run tr0).1 = 0 := by kernel_rfl
theorem wk_a1 : st0.apply 0 1 wkT = (((0, 0), true, 0), wkS1) := by
 unfold StS.apply
 rw [if_neg (by decide), if_neg (by decide), wkT_dec]
 simp only
 rw [if_neg (by decide)]
 have hd : ({ st0 with next := st0.next + 1 } : StS).does (opP 1 0 1 wkP) [] 0 = ((((tr0.mk' wkP 1).run tr0).1, 0), ⟨((tr0.mk' wkP 1).run tr0).2, hd0, [], 1⟩) := rfl
 rw [hd, wk_mk]
 rfl
theorem wk_a2 : wkS1.apply 1 1 wkT = (((0, 0), false, 0), wkS2) := by
 unfold StS.apply
 rw [if_neg (by decide), if_neg (by decide), wkT_dec]
 simp only
 rw [if_pos (by decide)]
 rfl
theorem wk_last : olast wkS2.o 0 = (1, 0, 0) := by decide
theorem wk_list : lstOf wkS2.t (wkS2.t.resolve [47]) = Res.ok 1 := by kernel_rfl
theorem wk_nm : wkS2.t.n.m = [((1, [97]), 2)] := by kernel_rfl
end Go.Proofs.YtajbooppoohplaaGreatDoor
