import Derived.Test.YtpkdpmkiplopmaaLayout
/- the layout: the units that were used; what counts -/
namespace Go.Proofs.Ytpkdpmkiplopmaa
open Go.RowKit Esch

theorem ranges_own_ne {w : World} {mb r B : Nat} {K V : Type} {κ : K → Value} {ν : V → Value} {m left : List (K × V)} {v : Value} {l : List Int} (hR : Ranges w mb r κ ν m left) (hO : OwnI w B v l) : v.ownBlock ≠ some mb ∧ v.ownBlock ≠ some r := by
  obtain ⟨es, clock, since, seen, c0, h⟩ := hR
  rcases hO.2 with ⟨rfl, -⟩ | ⟨g, cap, cur, rfl, -, hg, -⟩
  · exact ⟨by simp [Value.ownBlock], by simp [Value.ownBlock]⟩
  · refine ⟨fun e => ?_, fun e => ?_⟩
    · have e : g = mb := Option.some.inj e
      rw [e, h.map.block] at hg; cases hg
    · have e : g = r := Option.some.inj e
      rw [e, h.iter] at hg; cases hg
def UsedRel (w : World) (mb r : Nat) (m : List (Int × Int)) (g : Nat) (s3 : Value) (wr : World) : Prop :=
  ∃ (left : List (Int × Int)) (ss : List Int) (va : Option Addr) (vc : Nat), g = left.length ∧ s3 = .slice va ss.length vc ∧ OwnI wr w.heap.size (.slice va ss.length vc) ss ∧ Ranges wr mb r κs1 κint m left ∧
    (ss ++ left.map (·.1)).Perm (m.map (·.1)) ∧ ss.length + left.length = m.length ∧ Below w.heap.size w wr

end Go.Proofs.Ytpkdpmkiplopmaa
