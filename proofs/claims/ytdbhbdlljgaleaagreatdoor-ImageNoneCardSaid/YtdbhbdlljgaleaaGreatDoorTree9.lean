/- package tree: Rename -/
import Derived.Test.YtdbhbdlljgaleaaGreatDoorPkTre
namespace Esch
open Go Go.RowKit
/-- what a renaming holds: three variables, two spots -/
structure RnAt (W : World) (tb pb qb xb yb b : Nat) (p q : Nm) (x y : SpotS) : Prop where
  t : W.cell? ⟨tb, 0, none⟩ = some (.pointer (some ⟨b, 0, none⟩))
  p : W.cell? ⟨pb, 0, none⟩ = some (.string (bs p))
  q : W.cell? ⟨qb, 0, none⟩ = some (.string (bs q))
  x0 : W.cell? ⟨xb, 0, none⟩ = some (.int .i64 x.dir)
  x1 : W.cell? ⟨xb, 1, none⟩ = some (.string (bs x.name))
  x2 : W.cell? ⟨xb, 2, none⟩ = some (.int .i64 x.ino)
  y0 : W.cell? ⟨yb, 0, none⟩ = some (.int .i64 y.dir)
  y1 : W.cell? ⟨yb, 1, none⟩ = some (.string (bs y.name))
  y2 : W.cell? ⟨yb, 2, none⟩ = some (.int .i64 y.ino)
theorem RnAt.mod {F : Nat → Prop} {W W' : World} {tb pb qb xb yb b : Nat} {p q : Nm} {x y : SpotS} (h : RnAt W tb pb qb xb yb b p q x y) (hM : Mod F W W') (nt : ¬ F tb) (np : ¬ F pb) (nq : ¬ F qb) (nx : ¬ F xb) (ny : ¬ F yb) : RnAt W' tb pb qb xb yb b p q x y :=
  ⟨hM.at h.t nt, hM.at h.p np, hM.at h.q nq, hM.at h.x0 nx, hM.at h.x1 nx, hM.at h.x2 nx, hM.at h.y0 ny, hM.at h.y1 ny, hM.at h.y2 ny⟩
theorem RnAt.below {W W' : World} {tb pb qb xb yb b : Nat} {p q : Nm} {x y : SpotS} (h : RnAt W tb pb qb xb yb b p q x y) (hB : Below W.heap.size W W') : RnAt W' tb pb qb xb yb b p q x y := h.mod (F := none') (Mod.of_below hB) id id id id id
end Esch
namespace Go.Proofs.YtdbhbdlljgaleaaGreatDoor
open Go.RowKit Esch Go.Shelf

end Go.Proofs.YtdbhbdlljgaleaaGreatDoor
