/- how many are held -/
import Derived.Test.YthdgochecdobnaaPkHand
import Derived.Test.YthdgochecdobnaaHandHeld
namespace Go.Proofs.Ythdgochecdobnaa
open Go.RowKit Esch

theorem ho_len {w0 w : World} {c t n hb : Nat} {U : Nat → Prop} (h : HO w0 c t n hb U w) : Calls Try.prog 9 #[.pointer (some ⟨hb, 0, none⟩)] w fun e w' => ∃ a c', e = .returned (.slice a n c') ∧ Below w.heap.size w w' := by
  obtain ⟨T, s, hH, -, -, hh⟩ := h.at'
  refine (handHeld_any hH).mono ?_
  rintro e w' ⟨a, c', es, rfl, -, -, -, hB⟩
  exact ⟨a, c', by rw [hh, List.length_replicate], hB⟩
end Go.Proofs.Ythdgochecdobnaa
