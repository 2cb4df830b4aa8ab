/- the sequencer: its small calls -/
import Derived.Test.YtghdhhbpbmhooaaGreatOrder
namespace Go.Proofs.YtghdhhbpbmhooaaGreat
open Go.RowKit Esch

def NewOrd (w : World) (e : Ending) (w' : World) : Prop := ∃ b, e = .returned (.pointer (some ⟨b, 0, none⟩)) ∧ OrdAt w' b ⟨-1, false, 0⟩ ∧ w.heap.size ≤ b ∧ Below w.heap.size w w'
theorem ordNew_any (w : World) : Calls Tryz.prog 86 #[] w (NewOrd w) := by
  go_enter Tryz.func86, Tryz.ntmps86
  go_wp2_with fail
  go_ret
  exact ⟨w.heap.size, rfl, ⟨by go_simp, by go_simp, by go_simp, by go_simp, by go_simp, by go_simp⟩, Nat.le_refl _, (Below.refl _ _).alloc (Nat.le_refl _) _⟩
end Go.Proofs.YtghdhhbpbmhooaaGreat
