import Derived.Test.YtpiogibkleaaaaaGreatDoorPkBase
import Derived.Deep.RegionHeld
import Derived.Test.YtpiogibkleaaaaaGreatDoorPkStA
import Derived.Test.YtpiogibkleaaaaaGreatDoorPkInd
import Derived.Deep.MidRow
/- a region that draws its order: a call that tells the same in every world that meets S, and changes nothing, may be taken first -/
namespace Esch
open Go

section
variable {P : Program} {ops : Array Oper} {Q : Exit → Act → World → Prop} {md : Region.Mode} {S : World → Prop}
/-- what follows is given a name (behind a panic it stays as it is) -/
def named (Qn : Act → World → Prop) (Q : Exit → Act → World → Prop) : Exit → Act → World → Prop
  | .normal, a, w => Qn a w
  | e, a, w => Q e a w
theorem wpAnyH_name {fuel : Nat} {ls : Array Bool} {a : Act} {w : World} (h : ∀ Qn : Act → World → Prop, Shut (Qn = Q .normal) → wpAnyH P md ops (named Qn Q) S fuel ls a w) : wpAnyH P md ops Q S fuel ls a w := by
  have e : named (Q .normal) Q = Q := by
    funext e a w
    cases e <;> rfl
  have := h (Q .normal) rfl
  rw [e] at this
  exact this
end
end Esch
/- package state: Dump of a state -/
namespace Esch
open Go Go.RowKit
def upd (f : Nat → Value) (k : Nat) (v : Value) : Nat → Value := fun j => if j = k then v else f j
theorem Mod.setCellsAt {F : Nat → Prop} {w0 : World} {b : Nat} (hb : F b) : ∀ (vs : List Value) (o : Nat) (w : World), Mod F w0 w → Mod F w0 (w.setCells b o vs)
  | [], _, _, h => h
  | v :: r, o, _, h => Mod.setCellsAt hb r (o + 1) _ (h.setCellAt (fun _ => hb) v)
end Esch
namespace Go.Proofs.YtpiogibkleaaaaaGreatDoor
open Go.RowKit Esch Go.Shelf

set_option linter.unusedSimpArgs false
end Go.Proofs.YtpiogibkleaaaaaGreatDoor
