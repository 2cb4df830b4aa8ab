/- the document's Good of a record -/
import Derived.Test.YtpjkimdmbgkpcaaGreatDoorR6
import Derived.Test.YtpjkimdmbgkpcaaGreatDoorR7
import Derived.Test.YtpjkimdmbgkpcaaGreatDoorPkRPa
import Derived.Test.YtpjkimdmbgkpcaaGreatDoorPkOpB
namespace Go.Proofs.YtpjkimdmbgkpcaaGreatDoor
open Go.RowKit Esch

set_option linter.unusedSimpArgs false
/-- the checks ahead of the kind's own -/
structure RGd (w : World) (x : OpS) (mv : List Mv) : Prop where
  h : OpIn w x mv
  l : mv.length ≤ 100000
end Go.Proofs.YtpjkimdmbgkpcaaGreatDoor
