import Derived.Test.YtpkdpmkiplopmaaOwn
import Derived.Maps.AppendAt
/- a row of numbers that grows at its end, with its block named: the same one, or a new one -/
namespace Go.Proofs.Ytpkdpmkiplopmaa
open Go.RowKit Esch

theorem run_appendO {w : World} (ty : TypeId) (S : Nat → Prop) (B : Nat) (v : Value) (l l' : List Int) (a' : Option Addr) (c' : Nat) (hown : OwnI w B v l) (hsrc : IntsAt S w a' l') (hlen : l.length + l'.length ≤ 1000000) (hB : B ≤ w.heap.size) :
    ∃ v' w', (Builtin.append_ #[40, 40] ty #[v, .slice a' l'.length c']).run Try.prog w = .ok v' w' ∧ OwnI w' B v' (l ++ l') ∧ w.grownBy w' v.ownBlock ∧ (v'.ownBlock = v.ownBlock ∨ v'.ownBlock = some w.heap.size) := by
  obtain ⟨i0, hi, hz0, hz1, hz2⟩ := info_parts Try.infoInt
  cases a' with
  | none =>
    have h0 : l' = [] := by
      rcases Nat.eq_zero_or_pos l'.length with e | hp
      · exact List.length_eq_zero_iff.1 e
      · obtain ⟨b, off, e, -⟩ := hsrc.2 hp; cases e
    subst h0
    refine ⟨v, w, run_append_nil B _ _ _ i0 1 Try.underlying40 hi v l.length c' _ hown, by rw [List.append_nil]; exact hown, ⟨rfl, rfl, rfl, Nat.le_refl _, fun _ _ _ => rfl⟩, .inl rfl⟩
  | some ad =>
    obtain ⟨v', w', hr, h2, h3, -, h5⟩ := run_append_own_at (P := Try.prog) w B 40 ty 3 i0 (.int .i64 0) 1 8 Try.underlying40 hi hz0 hz1 hz2 rfl (by decide) v l.length (l.map (Value.int .i64)) hown ad l'.length c' (l'.map (Value.int .i64)) (by simp) (by
      intro j u hu
      have hj := (List.getElem?_eq_some_iff.1 hu).1
      obtain ⟨b, off, e, -, hb, hcc⟩ := hsrc.2 (by simp at hj; omega)
      cases e
      exact IntsAt.news hcc j u hu) (one_ints l') (by unfold Go.maxLen; omega) (by omega) hB
    exact ⟨v', w', hr, by unfold OwnI; rw [List.length_append, List.map_append]; exact h2, h3, h5⟩
theorem wpList_appendO {ops : Array Oper} {rest : List Oper} {o : Oper} {a : Act} {w : World} {Q : Exit → Act → World → Prop} (hgd : o.guard = none) (s x : Operand)
    (ho : o.op = .call { callee := .builtin .append, args := #[s, x], argTypes := #[40, 40] }) (S : Nat → Prop) (B : Nat) (v : Value) (l l' : List Int) (a' : Option Addr) (n' c' : Nat) (hs : a.eval s = v) (hx : a.eval x = .slice a' n' c') (hn : n' = l'.length)
    (hown : OwnI w B v l) (hsrc : IntsAt S w a' l') (hlen : l.length + l'.length ≤ 1000000) (hB : B ≤ w.heap.size)
    (h : ∀ v' w', OwnI w' B v' (l ++ l') → w.grownBy w' v.ownBlock → (v'.ownBlock = v.ownBlock ∨ v'.ownBlock = some w.heap.size) → wpList Try.prog ops Q rest (a.put o.dst v') w') : wpList Try.prog ops Q (o :: rest) a w := by
  refine wpList_plain hgd fun K hK => ?_
  subst hn
  obtain ⟨v', w', hr, h2, h3, h4⟩ := run_appendO (w := w) o.type S B v l l' a' c' hown hsrc hlen hB
  unfold Oper.wp execOp
  simp only [ho, resolve, invoke, builtin, Sem.run_bind, Sem.run_pure, Result.andThen_ok, List.map_toArray, List.map_cons, List.map_nil, hs, hx, hr]
  exact hK _ _ (h v' w' h2 h3 h4)
/-- a growing row changes no block but its own -/
theorem mod_grown {w w' : World} {v : Value} (h : w.grownBy w' v.ownBlock) : Mod (fun j => v.ownBlock = some j) w w' :=
  ⟨h.os, h.tape, h.output, h.size, fun k hk hne => h.block k hk (fun e => hne e.symm)⟩
theorem grown_mod {F : Nat → Prop} {w w' : World} {v : Value} (h : Mod F w w') (hv : ∀ j, v.ownBlock = some j → ¬ F j) (hlt : ∀ j, v.ownBlock = some j → j < w.heap.size) {B : Nat} {l : List Int} (hO : OwnI w B v l) : OwnI w' B v l := by
  rcases ho : v.ownBlock with _ | j
  · refine ⟨hO.1, ?_⟩
    rcases hO.2 with hn | ⟨g, cap, cur, e, rest⟩
    · exact .inl hn
    · rw [e] at ho; cases ho
  · refine ⟨hO.1, ?_⟩
    have hb := h.block j (hlt j ho) (hv j ho)
    rcases hO.2 with hn | ⟨g, cap, cur, e, hB, hg, rest⟩
    · exact .inl hn
    · rw [e] at ho
      have ho : g = j := Option.some.inj ho
      subst ho
      exact .inr ⟨g, cap, cur, e, hB, by rw [hb]; exact hg, rest⟩
/-- the block of a row is there -/
theorem OwnI.lt {w : World} {B : Nat} {v : Value} {l : List Int} (h : OwnI w B v l) {j : Nat} (hj : v.ownBlock = some j) : B ≤ j ∧ j < w.heap.size := by
  rcases h.2 with ⟨e, -⟩ | ⟨g, cap, cur, e, hB, hg, rest⟩
  · rw [e] at hj; cases hj
  · rw [e] at hj
    have ho : g = j := Option.some.inj hj
    subst ho
    refine ⟨hB, ?_⟩
    rcases Nat.lt_or_ge g w.heap.size with h | h
    · exact h
    · rw [Array.getElem?_eq_none h] at hg; cases hg
end Go.Proofs.Ytpkdpmkiplopmaa
