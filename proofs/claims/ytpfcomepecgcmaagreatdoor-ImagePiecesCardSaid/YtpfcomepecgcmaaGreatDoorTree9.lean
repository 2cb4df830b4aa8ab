/- package tree: Rename -/
import Derived.Test.YtpfcomepecgcmaaGreatDoorPkTre
namespace Esch
open Go Go.RowKit
end Esch
namespace Go.Proofs.YtpfcomepecgcmaaGreatDoor
open Go.RowKit Esch Go.Shelf

end Go.Proofs.YtpfcomepecgcmaaGreatDoor
