/- the log's tail that is asked for -/
import Derived.Test.YtghdhhbpbmhooaaGreatPkHand
namespace Go.Proofs.YtghdhhbpbmhooaaGreat
open Go.RowKit Esch

structure TaS where
  p : Proj
  «at» : Int
  addr : Int
  err : Int
end Go.Proofs.YtghdhhbpbmhooaaGreat
