/- the document's Good of a record -/
import Derived.Test.YtpiogibkleaaaaaGreatDoorPkRG
import Derived.Test.YtpiogibkleaaaaaGreatDoorPkRPa
import Derived.Test.YtpiogibkleaaaaaGreatDoorPkOpB
namespace Go.Proofs.YtpiogibkleaaaaaGreatDoor
open Go.RowKit Esch

set_option linter.unusedSimpArgs false
/-- the checks ahead of the kind's own -/
structure RGd (w : World) (x : OpS) (mv : List Mv) : Prop where
  h : OpIn w x mv
  l : mv.length ≤ 100000
end Go.Proofs.YtpiogibkleaaaaaGreatDoor
