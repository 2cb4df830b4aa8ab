/- answers: how they are read; are they large? -/
import Derived.Test.YtghdhhbpbmhooaaGreatPkKeep
import Derived.Test.YtghdhhbpbmhooaaGreatReadApi
namespace Go.Proofs.YtghdhhbpbmhooaaGreat
open Go.RowKit Esch

theorem small_ofA {ls : List (List Int)} (h : largeProj ls = false) : Small ls := by
  unfold largeProj at h
  simp only [Bool.or_eq_false_iff, decide_eq_false_iff_not, Nat.not_lt, List.any_eq_false, decide_eq_true_eq] at h
  refine ⟨h.1, fun i hi => ?_⟩
  rw [List.getD_eq_getElem?_getD, List.getElem?_eq_getElem hi, Option.getD_some]
  exact h.2 _ (List.getElem_mem hi)
end Go.Proofs.YtghdhhbpbmhooaaGreat
