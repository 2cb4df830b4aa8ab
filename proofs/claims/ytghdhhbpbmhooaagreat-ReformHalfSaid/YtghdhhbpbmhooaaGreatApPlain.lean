/- nodes that are well: what questions to units come to; plain Lean -/
import Derived.Test.YtghdhhbpbmhooaaGreatPkHear
namespace Go.Proofs.YtghdhhbpbmhooaaGreat
open Go.RowKit Esch

/-- nothing is sealed, nothing is down; t numbers are told; P: each unit's pages -/
structure Hlt (s : NdS) (t : Nat) (P : Nat → PgS) : Prop where
  units : ∀ i, i < 16 → s.units i = ⟨P i, 0, false⟩
  o : s.o = ⟨0, true, t⟩
section
variable {s : NdS} {t : Nat} {P : Nat → PgS} (h : Hlt s t P) (u : Nat) (hu : u < 16) (pg : Int) (d : ByteArray)
include h hu
end
/-- what an append hears -/
theorem ApS.ask_2 (s : ApS) : s.ask.2 = decide (s.at ≠ 5) := by
  unfold ApS.ask
  by_cases h : s.at = 5
  · rw [if_pos h]; simp [h]
  · rw [if_neg h]
    have : decide (s.at ≠ 5) = true := by simp [h]
    rw [this]
    by_cases h0 : s.at = 0 ∨ s.at = 1
    · rw [if_pos h0]
    · rw [if_neg h0]
      by_cases h2 : s.at = 2
      · rw [if_pos h2]
      · rw [if_neg h2]
        by_cases h3 : s.at = 3
        · rw [if_pos h3]
        · rw [if_neg h3]
end Go.Proofs.YtghdhhbpbmhooaaGreat
