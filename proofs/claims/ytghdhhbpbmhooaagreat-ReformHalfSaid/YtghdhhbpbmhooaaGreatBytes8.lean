/- lists of bytes: how they are read -/
import Derived.Test.YtghdhhbpbmhooaaGreatReadApi
namespace Go.Proofs.YtghdhhbpbmhooaaGreat
open Go.RowKit Esch

def BytesAt (w : World) (a : Option Addr) (l : List Int) : Prop :=
  0 < l.length → ∃ b off, a = some ⟨b, off, none⟩ ∧ b < w.heap.size ∧ ∀ i, i < l.length → w.cell? ⟨b, off + i, none⟩ = some (.int .u8 (l.getD i 0)) ∧ 0 ≤ l.getD i 0 ∧ l.getD i 0 ≤ 255
end Go.Proofs.YtghdhhbpbmhooaaGreat
