import Derived.Test.YtpiogibkleaaaaaGreatDoorPkHdm
import Derived.Test.YtpiogibkleaaaaaGreatDoorPkIno
/- package extent: joins, Good -/
namespace Esch
open Go
end Esch
namespace Go.Proofs.YtpiogibkleaaaaaGreatDoor
open Go.RowKit Esch Go.Shelf

end Go.Proofs.YtpiogibkleaaaaaGreatDoor
/- package extent: Cut -/
namespace Esch
open Go
end Esch
namespace Go.Proofs.YtpiogibkleaaaaaGreatDoor
open Go.RowKit Esch Go.Shelf

end Go.Proofs.YtpiogibkleaaaaaGreatDoor
/- package inode: file, Truncate -/
namespace Esch
open Go
/-- S, and what is new -/
def growI (S : Nat → Prop) (w w' : World) (k : Nat) : Prop := S k ∨ (w.heap.size ≤ k ∧ k < w'.heap.size)
end Esch
namespace Go.Proofs.YtpiogibkleaaaaaGreatDoor
open Go.RowKit Esch Go.Shelf

end Go.Proofs.YtpiogibkleaaaaaGreatDoor
