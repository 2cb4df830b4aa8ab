/- package op: Decode -/
import Derived.Test.YtpfcomepecgcmaaGreatDoorPkOpC
namespace Esch
open Go Go.RowKit
end Esch
namespace Go.Proofs.YtpfcomepecgcmaaGreatDoor
open Go.RowKit Esch

end Go.Proofs.YtpfcomepecgcmaaGreatDoor
