import Derived.Test.YtpiogibkleaaaaaGreatDoorTree9
import Derived.Test.YtpiogibkleaaaaaGreatDoorPkTre
import Derived.Test.YtpiogibkleaaaaaGreatDoorPkExt
/- package tree: Rename, from outside -/
namespace Go.Proofs.YtpiogibkleaaaaaGreatDoor
open Go.RowKit Esch Go.Shelf

end Go.Proofs.YtpiogibkleaaaaaGreatDoor
/- package tree: Link -/
namespace Go.Proofs.YtpiogibkleaaaaaGreatDoor
open Go.RowKit Esch Go.Shelf

end Go.Proofs.YtpiogibkleaaaaaGreatDoor
/- package inode: Truncate, Open -/
namespace Esch
open Go Go.RowKit
end Esch
namespace Go.Proofs.YtpiogibkleaaaaaGreatDoor
open Go.RowKit Esch Go.Shelf

end Go.Proofs.YtpiogibkleaaaaaGreatDoor
