/- package tree: List -/
import Derived.Test.YtpfcomepecgcmaaGreatDoorPkTrg
namespace Go.Proofs.YtpfcomepecgcmaaGreatDoor
open Go.RowKit Esch Go.Shelf

end Go.Proofs.YtpfcomepecgcmaaGreatDoor
