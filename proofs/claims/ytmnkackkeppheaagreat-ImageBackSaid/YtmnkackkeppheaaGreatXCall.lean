/- a region that draws its order: a call that tells the same in every world that meets S, and changes nothing, may be taken first -/
import Derived.Test.YtmnkackkeppheaaGreatPkBase
import Derived.Deep.RegionHeld
namespace Esch
open Go

section
variable {P : Program} {ops : Array Oper} {Q : Exit → Act → World → Prop} {md : Region.Mode} {S : World → Prop}
def CallY (P : Program) (ops : Array Oper) (S : World → Prop) (o : Oper) (v : Value) (a : Act) : Prop :=
  Region.wanted o (yielded ops a.tmps) = true ∧ ∀ w, S w → ∃ f args, (execOp a.eval o).run P w = .ok (.enter f args) w ∧ Calls P f args w fun e w' => e = .returned v ∧ w' = w
theorem CallY.run {i : Nat} {o : Oper} {v : Value} {a : Act} (hi : ops[i]? = some o) (hy : CallY P ops S o v a) {K : Act → World → Prop} {w : World} (hS : S w) (h : K (a.put o.dst v) w) : wpOp P ops Q i K a w := by
  obtain ⟨hw, hv⟩ := hy
  obtain ⟨f, args, hr, hc⟩ := hv w hS
  unfold Go.wpOp
  simp only [hi, hw, if_true]
  refine Or.inl ?_
  unfold Oper.wp
  rw [hr]
  refine Calls.mono hc ?_
  rintro e w' ⟨rfl, rfl⟩
  exact h
theorem CallY.like {o : Oper} {v : Value} {a b : Act} (hy : CallY P ops S o v a) (he : execOp b.eval o = execOp a.eval o) (hw : Region.wanted o (yielded ops b.tmps) = Region.wanted o (yielded ops a.tmps)) : CallY P ops S o v b := by
  unfold CallY
  rw [he, hw]
  exact hy
theorem callY_put {j : Nat} {oi oj : Oper} {v : Value} (hj : ops[j]? = some oj) (hap : oi.apart ops oj = true) (hsi : ∀ cs b, oi.op ≠ .select cs b) (hsj : ∀ cs b, oj.op ≠ .select cs b)
    (hQ : ∀ c a w, Q (.panic c) (a.put oi.dst v) w → Q (.panic c) a w) {K : Act → World → Prop} {a : Act} {w : World} (hy : CallY P ops S oi v a) (h : wpOp P ops Q j K (a.put oi.dst v) w) :
    wpOp P ops Q j (fun b u => CallY P ops S oi v b ∧ K (b.put oi.dst v) u) a w := by
  obtain ⟨h1, h2, h3⟩ := Oper.apart_spec hap
  have kp : ∀ (b : Act), CallY P ops S oi v b → ∀ u, CallY P ops S oi v (b.put oj.dst u) := fun b hb u => hb.like (execOp_put oi hsi b oj.dst u h3) (wanted_put oi b oj.dst u h3)
  have cm : ∀ (b : Act) (u : Value), (b.put oi.dst v).put oj.dst u = (b.put oj.dst u).put oi.dst v := fun b u => Act.put_comm b v u h2
  unfold wpOp at *
  simp only [hj] at *
  rw [wanted_put oj a oi.dst v h1] at h
  by_cases hw : Region.wanted oj (yielded ops a.tmps) = true
  · rw [if_pos hw] at h ⊢
    rcases h with h | ⟨hk, hl⟩
    · refine Or.inl ?_
      unfold Oper.wp at *
      rw [execOp_put oj hsj a oi.dst v h1] at h
      cases hr : (execOp a.eval oj).run P w with
      | ok n u =>
        rw [hr] at h
        cases n with
        | value x => simp only [Oper.upon] at h ⊢; exact ⟨kp a hy x, cm a x ▸ h⟩
        | skip => simp only [Oper.upon] at h ⊢; exact ⟨kp a hy _, cm a undef ▸ h⟩
        | defer d =>
          simp only [Oper.upon] at h ⊢
          refine ⟨kp { a with defers := d :: a.defers } (hy.like (b := { a with defers := d :: a.defers }) rfl rfl) _, ?_⟩
          rw [← cm, ← Act.put_defers]
          exact h
        | enter f args =>
          simp only [Oper.upon] at h ⊢
          refine Calls.mono h ?_
          intro e u2 he
          cases e with
          | returned x => exact ⟨kp a hy x, by rw [← cm]; exact he⟩
          | panicked c => exact hQ _ _ _ he
          | outgrown => exact he
        | row r args => simp only [Oper.upon] at h ⊢; exact Rows.mono h fun x u2 he => ⟨kp a hy x, by rw [← cm]; exact he⟩
        | _ => simp only [Oper.upon] at h
      | halt x u =>
        rw [hr] at h
        cases x with
        | panic x => simp only [Oper.upon] at h ⊢; exact hQ _ _ _ h
        | _ => simp only [Oper.upon] at h
    · refine Or.inr ⟨?_, hl⟩
      unfold Oper.asks at *
      rw [execOp_put oj hsj a oi.dst v h1] at hk
      exact hk
  · rw [if_neg hw] at h ⊢
    exact ⟨kp a hy _, by rw [← cm]; exact h⟩
theorem callY_first {i : Nat} {oi : Oper} {v : Value} (hoi : ops[i]? = some oi) (hns : Region.noSelect ops = true) (hQ : ∀ c b u, Q (.panic c) (b.put oi.dst v) u → Q (.panic c) b u) : ∀ (n : Nat) (ls : Array Bool) (a : Act) (w : World),
    (∀ k ok, ops[k]? = some ok → k ≠ i → ls.getD k true = false → (∀ e ∈ ok.after, Region.binds md e = true → e.on ≠ i) → oi.apart ops ok = true) →
    i ∈ Region.ready md ops ls → CallY P ops S oi v a → S w → wpAnyH P md ops Q S n (ls.setIfInBounds i true) (a.put oi.dst v) w → wpAnyH P md ops Q S (n + 1) ls a w := by
  have hsel := Region.noSelect_spec hns
  intro n
  induction n with
  | zero =>
    intro ls a w _ hr hy hS H
    refine ⟨fun h => absurd hr (by rw [h]; simp), fun j hj => ?_⟩
    rcases Classical.em (j = i) with rfl | hji
    · exact hy.run hoi hS ⟨hS, H⟩
    · exact absurd (ready_mono hj hji) (by rw [H.1]; simp)
  | succ n ih =>
    intro ls a w hfree hr hy hS H
    refine ⟨fun h => absurd hr (by rw [h]; simp), fun j hj => ?_⟩
    rcases Classical.em (j = i) with rfl | hji
    · exact hy.run hoi hS ⟨hS, H⟩
    · obtain ⟨hjl, oj, hoj, hall⟩ := mem_ready.1 hj
      have hil : ls.getD i false = false := by
        have h0 := (mem_ready.1 hr).1
        rcases Nat.lt_or_ge i ls.size with h' | h'
        · simpa [h'] using h0
        · simp [Array.getElem?_eq_none h'] at h0
      have hno : ∀ e ∈ oj.after, Region.binds md e = true → e.on ≠ i := fun e he hb heq => by
        have := hall e he hb
        rw [heq, hil] at this
        cases this
      have h2 := callY_put hoj (hfree j oj hoj hji hjl hno) (fun cs b => hsel i oi cs b hoi) (fun cs b => hsel j oj cs b hoj) hQ hy (H.2 j (ready_mono hj hji))
      have hfree2 : ∀ k ok, ops[k]? = some ok → k ≠ i → (ls.setIfInBounds j true).getD k true = false → (∀ e ∈ ok.after, Region.binds md e = true → e.on ≠ i) → oi.apart ops ok = true := fun k ok hk hki hun hkn => by
        refine hfree k ok hk hki ?_ hkn
        rcases Classical.em (j = k) with rfl | hjk
        · exact hjl
        · rwa [getD_set_ne true hjk] at hun
      refine wpOp_mono (fun b u h3 => ⟨h3.2.1, ih (ls.setIfInBounds j true) b u hfree2 (ready_mono hr (Ne.symm hji)) h3.1 h3.2.1 ?_⟩) h2
      rw [Array.setIfInBounds_comm _ _ hji]
      exact h3.2.2
/-- the next is a call that tells v, and it is taken first: hy by go_simp on the operation as it stands -/
theorem takeC (i : Nat) {fuel : Nat} {listed l' : Array Bool} {a a' : Act} {w : World} {f : FuncId} {args : Array Value} {v : Value} (hc : ∀ W, S W → Calls P f args W fun e W' => e = .returned v ∧ W' = W)
    (h : wpAnyH P md ops Q S fuel l' a' w)
    (hx : Region.wanted (opL ops i) (yielded ops a.tmps) = true ∧ (∀ W, S W → (execOp a.eval (opL ops i)).run P W = .ok (.enter f args) W) ∧ (∀ c b u, Q (.panic c) (b.put (opL ops i).dst v) u → Q (.panic c) b u) ∧ a' = a.put (opL ops i).dst v ∧ l' = listed.setIfInBounds i true := by (simp only [opL, List.getElem?_toArray, List.getElem?_cons_succ, List.getElem?_cons_zero, Option.getD_some]; refine ⟨by rfl, ?_, ?_, ?_, ?_⟩; (· intro w hSw; (try dsimp only at hSw); go_simp; try with_reducible rfl); (· exact fun _ _ _ h => h); (· simp only [Act.put, List.setIfInBounds_toArray, List.set_cons_zero, List.set_cons_succ]; rfl); (· rfl)))
    (hS : S w := by assumption) (hs : Region.noSelect ops = true := by kernel_rfl) (hf : Region.free md ops listed i = true := by kernel_rfl) (hr : (Region.ready md ops listed).contains i = true := by kernel_rfl) : wpAnyH P md ops Q S (fuel + 1) listed a w := by
  obtain ⟨hw, hv, hQ, rfl, rfl⟩ := hx
  have hm : i ∈ Region.ready md ops listed := by simpa using hr
  obtain ⟨-, oj, hoj, -⟩ := mem_ready.1 hm
  have ho : opL ops i = oj := by unfold opL; rw [hoj]; rfl
  rw [ho] at hw hv hQ h
  exact callY_first hoj hs hQ fuel listed a w (Region.free_spec hoj hf) hm ⟨hw, fun W hW => ⟨f, args, hv W hW, hc W hW⟩⟩ hS h
/-- what follows is given a name (behind a panic it stays as it is) -/
def named (Qn : Act → World → Prop) (Q : Exit → Act → World → Prop) : Exit → Act → World → Prop
  | .normal, a, w => Qn a w
  | e, a, w => Q e a w
theorem wpAnyH_name {fuel : Nat} {ls : Array Bool} {a : Act} {w : World} (h : ∀ Qn : Act → World → Prop, Shut (Qn = Q .normal) → wpAnyH P md ops (named Qn Q) S fuel ls a w) : wpAnyH P md ops Q S fuel ls a w := by
  have e : named (Q .normal) Q = Q := by
    funext e a w
    cases e <;> rfl
  have := h (Q .normal) rfl
  rw [e] at this
  exact this
end
end Esch
