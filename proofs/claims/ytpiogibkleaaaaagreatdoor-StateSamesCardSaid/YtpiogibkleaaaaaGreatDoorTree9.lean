/- package tree: Rename -/
import Derived.Test.YtpiogibkleaaaaaGreatDoorPkTre
namespace Esch
open Go Go.RowKit
end Esch
namespace Go.Proofs.YtpiogibkleaaaaaGreatDoor
open Go.RowKit Esch Go.Shelf

end Go.Proofs.YtpiogibkleaaaaaGreatDoor
