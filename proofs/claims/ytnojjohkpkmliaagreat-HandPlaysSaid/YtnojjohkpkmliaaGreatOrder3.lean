/- the sequencer: its small calls -/
import Derived.Test.YtnojjohkpkmliaaGreatOrder
namespace Go.Proofs.YtnojjohkpkmliaaGreat
open Go.RowKit Esch

def NewOrd (w : World) (e : Ending) (w' : World) : Prop := ∃ b, e = .returned (.pointer (some ⟨b, 0, none⟩)) ∧ OrdAt w' b ⟨-1, false, 0⟩ ∧ w.heap.size ≤ b ∧ Below w.heap.size w w'
theorem ordNew_any (w : World) : Calls Tryz.prog 32 #[] w (NewOrd w) := by
  go_enter Tryz.func32, Tryz.ntmps32
  go_wp2_with fail
  go_ret
  exact ⟨w.heap.size, rfl, ⟨by go_simp, by go_simp, by go_simp, by go_simp, by go_simp, by go_simp⟩, Nat.le_refl _, (Below.refl _ _).alloc (Nat.le_refl _) _⟩
def UnitPost (w : World) (b : Nat) (s : Ord) (e : Ending) (w' : World) : Prop := e = .returned (.tuple #[]) ∧ OrdAt w' b s ∧ Mod (· = b) w w'
theorem epoch_any (w : World) (b : Nat) (s : Ord) (h : OrdAt w b s) : Calls Tryz.prog 53 #[.pointer (some ⟨b, 0, none⟩)] w fun e w' => e = .returned (.int .i64 s.epoch) ∧ w = w' := by
  obtain ⟨hc0, hc1, hc2, hf0, hf1, hf2⟩ := h
  go_enter Tryz.func53, Tryz.ntmps53
  go_wp2_with fail
  go_ret
  exact ⟨rfl, rfl⟩
theorem knows_any (w : World) (b : Nat) (s : Ord) (h : OrdAt w b s) : Calls Tryz.prog 54 #[.pointer (some ⟨b, 0, none⟩)] w fun e w' => e = .returned (.bool s.knows) ∧ w = w' := by
  obtain ⟨hc0, hc1, hc2, hf0, hf1, hf2⟩ := h
  go_enter Tryz.func54, Tryz.ntmps54
  go_wp2_with fail
  go_ret
  exact ⟨rfl, rfl⟩

end Go.Proofs.YtnojjohkpkmliaaGreat
