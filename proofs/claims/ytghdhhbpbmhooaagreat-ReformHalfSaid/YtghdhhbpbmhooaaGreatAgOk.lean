/- a change that is begun anew: plain Lean -/
import Derived.Test.YtghdhhbpbmhooaaGreatChOk
import Derived.Test.YtghdhhbpbmhooaaGreatRe7
namespace Go.Proofs.YtghdhhbpbmhooaaGreat
open Go.RowKit Esch

section
variable {p q : Proj} {P : Nat → PgS} {D : Nat → Bool} {E : Nat → Int} {L0 : LayS} {o0 : Ord}
end
theorem pre_old {q : Proj} (h : nextB qOld q = true) {E : Nat → Int} (hE : ∀ i, i < 16 → E i = 0 ∨ E i = 1) {D : Nat → Bool} (hD : ∀ u ∈ usP qOld, D u.toNat = true → u ∉ usP q) : ChPre qOld q D E (lay0 qOld) ⟨0, true, 0⟩ := by
  have hn : qOld.next q := of_decide_eq_true h
  have he : q.epoch = 1 := hn.2.2.1
  refine ⟨h, ?_, rfl, fun i hi => ?_, hD, ?_⟩
  · unfold mayB
    rw [show (lay0 qOld).p = qOld from rfl, h, Bool.true_and, Bool.not_eq_true']
    refine List.any_eq_false.2 (fun u _ => ?_)
    have : u ∈ (lay0 qOld).used ↔ u ∈ (lay0 qOld).p.units := mem_unitsOf
    by_cases hu : u ∈ (lay0 qOld).used
    · have h3 : u ∈ qOld.units := this.1 hu
      simp [h3]
    · simp [hu]
  · rw [he]; rcases hE i hi with e | e <;> omega
  · show (0 : Int) < q.epoch; omega
def hdO : HdS := ⟨nd0 qOld 100, []⟩
end Go.Proofs.YtghdhhbpbmhooaaGreat
