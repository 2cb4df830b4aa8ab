/- the sequencer: its small calls -/
import Derived.Test.YthdgochecdobnaaGreatOrder
namespace Go.Proofs.YthdgochecdobnaaGreat
open Go.RowKit Esch

def NewOrd (w : World) (e : Ending) (w' : World) : Prop := ∃ b, e = .returned (.pointer (some ⟨b, 0, none⟩)) ∧ OrdAt w' b ⟨-1, false, 0⟩ ∧ w.heap.size ≤ b ∧ Below w.heap.size w w'
theorem ordNew_any (w : World) : Calls Tryz.prog 39 #[] w (NewOrd w) := by
  go_enter Tryz.func39, Tryz.ntmps39
  go_wp2_with fail
  go_ret
  exact ⟨w.heap.size, rfl, ⟨by go_simp, by go_simp, by go_simp, by go_simp, by go_simp, by go_simp⟩, Nat.le_refl _, (Below.refl _ _).alloc (Nat.le_refl _) _⟩
def UnitPost (w : World) (b : Nat) (s : Ord) (e : Ending) (w' : World) : Prop := e = .returned (.tuple #[]) ∧ OrdAt w' b s ∧ Mod (· = b) w w'
set_option maxHeartbeats 1000000 in
theorem crash_any (w : World) (b : Nat) (s : Ord) (h : OrdAt w b s) : Calls Tryz.prog 23 #[.pointer (some ⟨b, 0, none⟩)] w (UnitPost w b ⟨s.epoch, false, 0⟩) := by
  obtain ⟨hc0, hc1, hc2, hf0, hf1, hf2⟩ := h
  have hl := cell_lt hc0
  go_enter Tryz.func23, Tryz.ntmps23
  go_wp2_with fail
  go_end0
  exact ⟨rfl, ⟨by go_simp, by go_simp, by go_simp, by go_simp, by go_simp, by go_simp⟩, by (repeat' (first | (with_reducible exact Mod.refl _ _) | (with_reducible apply Mod.drew) | (with_reducible apply Mod.drewN) | (with_reducible apply Mod.alloc) | (with_reducible apply Mod.setCellAt) | (intro _; rfl)))⟩
end Go.Proofs.YthdgochecdobnaaGreat
