import Derived.Test.YtpfcomepecgcmaaGreatDoorTree9
import Derived.Test.YtpfcomepecgcmaaGreatDoorPkTre
import Derived.Test.YtpfcomepecgcmaaGreatDoorPkExt
/- package tree: Rename, from outside -/
namespace Go.Proofs.YtpfcomepecgcmaaGreatDoor
open Go.RowKit Esch Go.Shelf

end Go.Proofs.YtpfcomepecgcmaaGreatDoor
/- package tree: Link -/
namespace Go.Proofs.YtpfcomepecgcmaaGreatDoor
open Go.RowKit Esch Go.Shelf

end Go.Proofs.YtpfcomepecgcmaaGreatDoor
/- package inode: Truncate, Open -/
namespace Esch
open Go Go.RowKit
end Esch
namespace Go.Proofs.YtpfcomepecgcmaaGreatDoor
open Go.RowKit Esch Go.Shelf

end Go.Proofs.YtpfcomepecgcmaaGreatDoor
