/- package op: Decode -/
import Derived.Test.YtdbhbdlljgaleaaGreatDoorPkOpC
namespace Esch
open Go Go.RowKit
def OpS.strip (o : OpS) : OpS := o.withM none o.ml 0
theorem put_strip (x o : OpS) (c : UInt8) : (x.put o c).strip = x.strip.put o.strip c := by
  unfold OpS.put
  repeat' split
  all_goals rfl
theorem foldl_put_strip (x : OpS) : ∀ (l : List UInt8) (o : OpS), (l.foldl x.put o).strip = l.foldl x.strip.put o.strip
  | [], _ => rfl
  | c :: l, o => by rw [List.foldl_cons, foldl_put_strip x l, put_strip, List.foldl_cons]
theorem kept_strip (x : OpS) : x.kept.strip = x.strip.kept := by
  unfold OpS.kept
  rw [foldl_put_strip]
  rfl
theorem alike_strip (x y : OpS) : x.alike y = x.strip.alike y.strip := rfl
theorem strip_strip (x : OpS) : x.strip.strip = x.strip := rfl
theorem good_strip (x : OpS) (mv : List Mv) : x.good mv = x.strip.good mv := by
  unfold OpS.good
  rw [alike_strip x, kept_strip, alike_strip x.strip, kept_strip x.strip, strip_strip]
  rfl
/-- is what was read good? -/
def goodV (o : OpS) (mv : List Mv) : Bool := (o.withM none mv.length 0).good mv
theorem goodV_eq (o : OpS) (mv : List Mv) (mp : Option Addr) (mc : Nat) : (o.withM mp mv.length mc).good mv = goodV o mv := good_strip _ _
end Esch
namespace Go.Proofs.YtdbhbdlljgaleaaGreatDoor
open Go.RowKit Esch

abbrev DSt := (OpS × List Mv) × ByteArray × Bool
def getAll (l : List UInt8) (st : DSt) : DSt := l.foldl (fun st c => getF st.1.1 st.1.2 st.2.1 st.2.2 c) st
def decHead (s : ByteArray) : DSt :=
  let a := unNum s false 1
  let b := unNum a.2.1 a.2.2 1
  let c := unNum b.2.1 b.2.2 4
  ((opN b.1 c.1 a.1, []), c.2)
def decRaw (s : ByteArray) : DSt := if knownB (decHead s).1.1.kind = true then getAll (fldL (decHead s).1.1.kind.toNat) (decHead s) else decHead s
/-- the record of a text -/
def decOp (s : ByteArray) : Option (OpS × List Mv) := if (decRaw s).2.2 = true ∨ 0 < (decRaw s).2.1.size then none else if goodV (decRaw s).1.1 (decRaw s).1.2 = true then some (decRaw s).1 else none
theorem getF_len (o : OpS) (mv : List Mv) (s : ByteArray) (bad : Bool) (c : UInt8) : (getF o mv s bad c).1.2.length ≤ mv.length + 17 := by
  unfold getF
  repeat' split
  all_goals try exact Nat.le_add_right _ _
  rw [unMvs_len]
  omega
def DecPost (w : World) (r : Option (OpS × List Mv)) (e : Ending) (w' : World) : Prop :=
  Below w.heap.size w w' ∧ match r with
  | none => e = .returned (.tuple #[.agg (opN 0 0 0).cells.toArray, .int .i64 11])
  | some r => ∃ mp mc, e = .returned (.tuple #[.agg (r.1.withM mp r.2.length mc).cells.toArray, .int .i64 0]) ∧ OpIn w' (r.1.withM mp r.2.length mc) r.2
def DecRel (w0 : World) (ub ob : Nat) (l : List UInt8) (st0 : DSt) (g : Nat) (v : Value) (wr : World) : Prop :=
  ∃ (i : Nat) (st : DSt), g = l.length - i ∧ i ≤ l.length ∧ v = .int .i64 i ∧ st = getAll (l.take i) st0 ∧ st.1.2.length ≤ 17 * i ∧ UnpAt wr ub st.2.1 st.2.2 ∧ OpBox wr ob (growI none' w0 wr) st.1.1 st.1.2 ∧ Mod (fun k => k = ub ∨ k = ob) w0 wr

end Go.Proofs.YtdbhbdlljgaleaaGreatDoor
