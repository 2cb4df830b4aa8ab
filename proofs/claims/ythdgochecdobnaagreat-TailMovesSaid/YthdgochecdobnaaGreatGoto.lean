/- a scope out of whose middle the run jumps forward, once -/
import Derived.Test.YthdgochecdobnaaGreatPkBase
import Derived.WalkMore
namespace Esch
open Go Go.RowKit

/-- as Q; by a goto to a label: what stands behind the label leads to Q -/
def fwd (P : Program) (c : Code) (Q : Exit → Act → World → Prop) : Exit → Act → World → Prop
  | .goto l, a, w => ∃ rest, findLabel c l = some rest ∧ rest.wp P (Exit.noGoto Q) a w
  | e, a, w => Q e a w
section
variable {P : Program} {c : Code} {Q : Exit → Act → World → Prop} {a : Act} {w : World}
@[simp] theorem fwd_normal : fwd P c Q .normal a w = Q .normal a w := rfl
@[simp] theorem fwd_exit (id : Nat) : fwd P c Q (.exit id) a w = Q (.exit id) a w := rfl
@[simp] theorem fwd_ret : fwd P c Q .ret a w = Q .ret a w := rfl
@[simp] theorem fwd_panic (ch : List PanicEntry) : fwd P c Q (.panic ch) a w = Q (.panic ch) a w := rfl
theorem wp_scope_fwd (first : ∀ c', c' = c → c.wp P (fwd P c' Q) a w) : (Code.scope c).wp P Q a w := by
  intro b k cs
  obtain ⟨e, a₁, w₁, hq, harr⟩ := first c rfl b (.inScope c :: k) cs
  cases e with
  | normal => exact ⟨.normal, a₁, w₁, hq, .head step_scope (Steps.trans harr (.one step_inScope))⟩
  | exit id => exact ⟨.exit id, a₁, w₁, hq, fun k' hk => .head step_scope (harr k' (by simp [exitTo, hk]))⟩
  | goto l =>
    obtain ⟨rest, hf, hr⟩ := hq
    have hg : gotoIn l (.inScope c :: k) = some (.code rest :: .inScope c :: k) := by simp [gotoIn, hf]
    obtain ⟨e₂, a₂, w₂, hq₂, harr₂⟩ := hr b (.inScope c :: k) cs
    have h2 : Steps P _ _ := Steps.head step_scope (harr _ hg)
    cases e₂ with
    | normal => exact ⟨.normal, a₂, w₂, hq₂, Steps.trans h2 (Steps.trans harr₂ (.one step_inScope))⟩
    | exit id => exact ⟨.exit id, a₂, w₂, hq₂, fun k' hk => Steps.trans h2 (harr₂ k' (by simp [exitTo, hk]))⟩
    | goto l => exact hq₂.elim
    | ret => exact ⟨_, a₂, w₂, hq₂, .of_steps h2 harr₂⟩
    | panic ch => exact ⟨_, a₂, w₂, hq₂, .of_steps h2 harr₂⟩
    | outgrown => exact ⟨_, a₂, w₂, hq₂, .of_steps h2 harr₂⟩
  | ret => exact ⟨_, a₁, w₁, hq, .of_steps (.one step_scope) harr⟩
  | panic ch => exact ⟨_, a₁, w₁, hq, .of_steps (.one step_scope) harr⟩
  | outgrown => exact ⟨_, a₁, w₁, hq, .of_steps (.one step_scope) harr⟩
end
end Esch
