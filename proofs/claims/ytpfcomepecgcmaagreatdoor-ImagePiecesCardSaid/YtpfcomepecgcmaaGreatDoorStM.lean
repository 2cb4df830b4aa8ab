/- the state, plain: what each record comes to -/
import Derived.Test.YtpfcomepecgcmaaGreatDoorPkIno
import Derived.Test.YtpfcomepecgcmaaGreatDoorPkHdm
import Derived.Test.YtpfcomepecgcmaaGreatDoorOnceT
import Derived.Test.YtpfcomepecgcmaaGreatDoorOp11
namespace Esch
open Go
end Esch
namespace Go.Proofs.YtpfcomepecgcmaaGreatDoor
open Go.RowKit Esch

structure StS where
  t : TrS
  h : HdS
  o : OM
  next : Int
def st0 : StS := ⟨tr0, hd0, [], 0⟩
end Go.Proofs.YtpfcomepecgcmaaGreatDoor
