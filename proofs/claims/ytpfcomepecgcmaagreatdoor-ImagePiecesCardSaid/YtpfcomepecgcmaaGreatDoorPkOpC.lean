import Derived.Test.YtpfcomepecgcmaaGreatDoorPkOpB
import Derived.Test.YtpfcomepecgcmaaGreatDoorPkExt
import Derived.Test.YtpfcomepecgcmaaGreatDoorPkBase
/- package op: get, a field of a text -/
namespace Esch
open Go Go.RowKit
end Esch
namespace Go.Proofs.YtpfcomepecgcmaaGreatDoor
open Go.RowKit Esch

end Go.Proofs.YtpfcomepecgcmaaGreatDoor
/- package op: get, the moves -/
namespace Esch
open Go Go.RowKit
end Esch
namespace Go.Proofs.YtpfcomepecgcmaaGreatDoor
open Go.RowKit Esch

end Go.Proofs.YtpfcomepecgcmaaGreatDoor
