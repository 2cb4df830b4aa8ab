/- what stood there stands there still -/
import Derived.Test.YtghdhhbpbmhooaaGreatReadApi
namespace Go.Proofs.YtghdhhbpbmhooaaGreat
open Go.RowKit Esch

/-- the lists of what stood there stand there still -/
theorem old_below {w W : World} {a : Option Addr} {ls : List (List Int)} (h : ListsAt (Old w) w a ls) (hW : Below w.heap.size w W) : ListsAt (Old w) W a ls :=
  h.mod (F := fun k => ¬ k < w.heap.size) ⟨hW.os, hW.tape, hW.output, hW.size, fun k _ h => hW.block k (Decidable.not_not.1 h)⟩ (fun _ hk _ h => h hk)
end Go.Proofs.YtghdhhbpbmhooaaGreat
