import Derived.Test.YtpkdpmkiplopmaaOrder
/- the sequencer: its small calls -/
namespace Go.Proofs.Ytpkdpmkiplopmaa
open Go.RowKit Esch

def NewOrd (w : World) (e : Ending) (w' : World) : Prop := ∃ b, e = .returned (.pointer (some ⟨b, 0, none⟩)) ∧ OrdAt w' b ⟨-1, false, 0⟩ ∧ w.heap.size ≤ b ∧ Below w.heap.size w w'
theorem ordNew_any (w : World) : Calls Try.prog 65 #[] w (NewOrd w) := by
  go_enter Try.func65, Try.ntmps65
  go_wp2_with fail
  go_ret
  exact ⟨w.heap.size, rfl, ⟨by go_simp, by go_simp, by go_simp, by go_simp, by go_simp, by go_simp⟩, Nat.le_refl _, (Below.refl _ _).alloc (Nat.le_refl _) _⟩
def UnitPost (w : World) (b : Nat) (s : Ord) (e : Ending) (w' : World) : Prop := e = .returned (.tuple #[]) ∧ OrdAt w' b s ∧ Mod (· = b) w w'
theorem epoch_any (w : World) (b : Nat) (s : Ord) (h : OrdAt w b s) : Calls Try.prog 39 #[.pointer (some ⟨b, 0, none⟩)] w fun e w' => e = .returned (.int .i64 s.epoch) ∧ w = w' := by
  obtain ⟨hc0, hc1, hc2, hf0, hf1, hf2⟩ := h
  go_enter Try.func39, Try.ntmps39
  go_wp2_with fail
  go_ret
  exact ⟨rfl, rfl⟩
end Go.Proofs.Ytpkdpmkiplopmaa
