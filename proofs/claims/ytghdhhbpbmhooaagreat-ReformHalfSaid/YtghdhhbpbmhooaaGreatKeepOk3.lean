/- a change, whatever becomes of its questions, units that leave down or not: plain Lean -/
import Derived.Test.YtghdhhbpbmhooaaGreatKeepOk2
namespace Go.Proofs.YtghdhhbpbmhooaaGreat
open Go.RowKit Esch

end Go.Proofs.YtghdhhbpbmhooaaGreat
