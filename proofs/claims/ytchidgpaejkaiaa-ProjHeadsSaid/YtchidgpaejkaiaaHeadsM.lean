import Derived.Test.YtchidgpaejkaiaaProjM
/- what may come next keeps each chain's head, and brings no unit over from another chain: plain Lean -/
namespace Esch
theorem heads_mem : ∀ {old c : List Int} {u : Int}, u ∈ c.take (heads old c) → u ∈ old
  | old, [], u, h => by simp at h
  | old, x :: c, u, h => by
    cases hp : posOf x old with
    | none => rw [heads_none hp] at h; simp at h
    | some k =>
      rw [heads_some hp, List.take_succ_cons, List.mem_cons] at h
      rcases h with rfl | h
      · exact List.mem_of_getElem? (posOf_some hp).2.1
      · exact List.mem_of_mem_drop (heads_mem h)
theorem flatten_apart : ∀ {ls : List (List Int)} {i j : Nat} {u : Int}, ls.flatten.Nodup → i ≠ j → u ∈ ls.getD i [] → u ∈ ls.getD j [] → False
  | [], i, j, u, _, _, hi, _ => by simp at hi
  | c :: ls, i, j, u, h, hne, hi, hj => by
    rw [List.flatten_cons, List.nodup_append] at h
    obtain ⟨h1, h2, h3⟩ := h
    have hin : ∀ k, u ∈ ls.getD k [] → u ∈ ls.flatten := fun k hk => by
      rw [List.getD_eq_getElem?_getD] at hk
      cases hl : ls[k]? with
      | none => rw [hl] at hk; simp at hk
      | some c' => rw [hl] at hk; exact List.mem_flatten.2 ⟨c', List.mem_of_getElem? hl, hk⟩
    cases i with
    | zero => cases j with
      | zero => exact hne rfl
      | succ j => exact h3 u (by simpa using hi) u (hin j (by simpa using hj)) rfl
    | succ i => cases j with
      | zero => exact h3 u (by simpa using hj) u (hin i (by simpa using hi)) rfl
      | succ j => exact flatten_apart (i := i) (j := j) h2 (by omega) (by simpa using hi) (by simpa using hj)
structure NextTells (ls ms : List (List Int)) : Prop where
  len : ls.length = ms.length
  pos : ∀ i, i < ms.length → 0 < (ms.getD i []).length
  head : ∀ i, i < ms.length → (ms.getD i []).getD 0 0 ∈ ls.getD i []
  apart : ∀ i k j, i < ms.length → k < (ms.getD i []).length → j < ls.length → j ≠ i → (ms.getD i []).getD k 0 ∉ ls.getD j []
theorem getD_mem_ls {ls : List (List Int)} {j : Nat} (h : j < ls.length) : ls.getD j [] ∈ ls := by
  rw [List.getD_eq_getElem?_getD, List.getElem?_eq_getElem h, Option.getD_some]; exact List.getElem_mem h
theorem next_tells {p q : Proj} (h : p.next q) : NextTells p.chains q.chains := by
  obtain ⟨hp, hq, -, hl, hc⟩ := h
  have hpos : ∀ i, i < q.chains.length → 0 < (q.chains.getD i []).length := fun i hi => (hq.2.2.2.2.1 _ (getD_mem_ls hi)).1
  refine ⟨hl.symm, hpos, fun i hi => ?_, fun i k j hi hk hj hne hm => ?_⟩
  · have h0 := hpos i hi
    have h1 := (hc i hi).1
    refine heads_mem (c := q.chains.getD i []) ?_
    generalize q.chains.getD i [] = c at h0 h1 ⊢
    cases c with
    | nil => simp at h0
    | cons x c =>
      obtain ⟨n, hn⟩ : ∃ n, heads (p.chains.getD i []) (x :: c) = n + 1 := ⟨_, (Nat.succ_pred_eq_of_pos (Nat.pos_of_ne_zero h1)).symm⟩
      rw [hn]; simp
  · have h2 := (hc i hi).2
    have hmem : ∀ u, u ∈ p.chains.getD j [] → u ∈ p.units := fun u hu => List.mem_flatten.2 ⟨_, getD_mem_ls hj, hu⟩
    generalize hcq : q.chains.getD i [] = c at hk hm h2
    have hg : c.getD k 0 = c[k] := by rw [List.getD_eq_getElem?_getD, List.getElem?_eq_getElem hk, Option.getD_some]
    by_cases hkh : k < heads (p.chains.getD i []) c
    · have : c.getD k 0 ∈ p.chains.getD i [] := heads_mem (c := c) (by
        rw [hg]
        exact List.mem_take_iff_getElem.2 ⟨k, by omega, rfl⟩)
      exact flatten_apart hp.2.2.2.2.2.2 hne hm this
    · refine h2 (c.getD k 0) ?_ (hmem _ hm)
      rw [hg]
      exact List.mem_drop_iff_getElem.2 ⟨k - heads (p.chains.getD i []) c, by omega, by congr 1; omega⟩
theorem next_self (q : Proj) : nextB q q = false := decide_eq_false (fun h => by have := h.2.2.1; omega)
theorem next_back {p q : Proj} (h : p.next q) : nextB q p = false := decide_eq_false (fun h' => by have h1 := h.2.2.1; have h2 := h'.2.2.1; omega)
end Esch
