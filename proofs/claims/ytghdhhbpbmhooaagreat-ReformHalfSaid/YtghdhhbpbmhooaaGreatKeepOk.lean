/- records ahead of a change are there behind it: plain Lean -/
import Derived.Test.YtghdhhbpbmhooaaGreatKvF
import Derived.Test.YtghdhhbpbmhooaaGreatAgOk
namespace Go.Proofs.YtghdhhbpbmhooaaGreat
open Go.RowKit Esch

abbrev chQ (q : Proj) (c : Nat) : List Int := q.chains.getD c []
abbrev chO (c : Nat) : List Int := chQ qOld c
theorem heads_mem : ∀ (old c : List Int), ∀ u ∈ c.take (heads old c), u ∈ old
  | old, [], u, h => by simp [heads] at h
  | old, x :: c, u, h => by
    unfold heads at h
    cases hp : posOf x old with
    | none => rw [hp] at h; simp at h
    | some k =>
      rw [hp] at h
      simp only [List.take_succ_cons, List.mem_cons] at h
      rcases h with h | h
      · subst h
        by_cases hm : u ∈ old
        · exact hm
        · rw [posOf_none.2 hm] at hp; cases hp
      · exact List.mem_of_mem_drop (heads_mem _ c u h)
/-- a projection behind the old one: its chains -/
structure NextO (q : Proj) : Prop where
  good : q.good
  ep : q.epoch = 1
  len : q.chains.length = 2
  unit : ∀ c, c < 2 → ∀ u ∈ chQ q c, u ∈ chO c ∨ u ∉ qOld.units
  first : ∀ c, c < 2 → (chQ q c).getD 0 0 ∈ chO c
theorem nextO {q : Proj} (h : nextB qOld q = true) : NextO q := by
  have hn : qOld.next q := of_decide_eq_true h
  obtain ⟨h1, h2, h3, h4, h5⟩ := hn
  refine ⟨h2, h3, h4, fun c hc u hu => ?_, fun c hc => ?_⟩
  · obtain ⟨g1, g2⟩ := h5 c (by rw [h4]; exact hc)
    have hu' : u ∈ (chQ q c).take (heads (chO c) (chQ q c)) ++ (chQ q c).drop (heads (chO c) (chQ q c)) := by rw [List.take_append_drop]; exact hu
    rcases List.mem_append.1 hu' with h | h
    · exact Or.inl (heads_mem _ _ u h)
    · exact Or.inr (g2 u h)
  · obtain ⟨g1, g2⟩ := h5 c (by rw [h4]; exact hc)
    have g1' : heads (chO c) (chQ q c) ≠ 0 := g1
    cases hq : chQ q c with
    | nil => rw [hq] at g1'; exact absurd rfl g1'
    | cons x l =>
      rw [hq] at g1'
      have : x ∈ (x :: l).take (heads (chO c) (x :: l)) := by
        cases hh : heads (chO c) (x :: l) with
        | zero => exact absurd hh g1'
        | succ k => simp
      exact heads_mem _ _ x this
theorem NextO.chain {q : Proj} (h : NextO q) {c : Nat} (hc : c < 2) : 1 ≤ (chQ q c).length ∧ (chQ q c).length ≤ 4 ∧ chQ q c ∈ q.chains := by
  have hm : chQ q c ∈ q.chains := by
    show q.chains.getD c [] ∈ _
    rw [List.getD_eq_getElem?_getD, List.getElem?_eq_getElem (by rw [h.len]; exact hc), Option.getD_some]
    exact List.getElem_mem _
  exact ⟨(h.good.2.2.2.2.1 _ hm).1, (h.good.2.2.2.2.1 _ hm).2, hm⟩
theorem NextO.mem {q : Proj} (h : NextO q) {c : Nat} (hc : c < 2) {u : Int} (hu : u ∈ chQ q c) : u ∈ q.units ∧ 0 ≤ u ∧ u ≤ 15 := by
  have hm : u ∈ q.units := List.mem_flatten.2 ⟨_, (h.chain hc).2.2, hu⟩
  exact ⟨hm, h.good.2.2.2.2.2.1 u hm⟩
theorem NextO.nodup {q : Proj} (h : NextO q) {c : Nat} (hc : c < 2) : (chQ q c).Nodup := by
  have hn := h.good.2.2.2.2.2.2
  obtain ⟨pre, post, e⟩ := List.append_of_mem (h.chain hc).2.2
  have hu : q.units = pre.flatten ++ (chQ q c ++ post.flatten) := by
    unfold Proj.units
    rw [e]
    simp
  rw [hu] at hn
  exact (List.nodup_append.1 (List.nodup_append.1 hn).2.1).1
/-- the two chains have no unit in common -/
theorem NextO.apart {q : Proj} (h : NextO q) {u : Int} {c d : Nat} (hc : c < 2) (hd : d < 2) (h1 : u ∈ chQ q c) (h2 : u ∈ chQ q d) : c = d := by
  have hn := h.good.2.2.2.2.2.2
  have hl := h.len
  obtain ⟨A, B, e⟩ : ∃ A B, q.chains = [A, B] := by
    match hq : q.chains, hl with
    | [A, B], _ => exact ⟨A, B, rfl⟩
  have hu : q.units = A ++ B := by unfold Proj.units; rw [e]; simp
  rw [hu] at hn
  have hd' := (List.nodup_append.1 hn).2.2
  have e0 : chQ q 0 = A := by show q.chains.getD 0 [] = A; rw [e]; rfl
  have e1 : chQ q 1 = B := by show q.chains.getD 1 [] = B; rw [e]; rfl
  have c01 : c = 0 ∨ c = 1 := by omega
  have d01 : d = 0 ∨ d = 1 := by omega
  rcases c01 with rfl | rfl <;> rcases d01 with rfl | rfl
  · rfl
  · rw [e0] at h1; rw [e1] at h2; exact absurd rfl (hd' u h1 u h2)
  · rw [e1] at h1; rw [e0] at h2; exact absurd rfl (hd' u h2 u h1)
  · rfl
theorem nextO_old : NextO { qOld with epoch := 1 } := ⟨by decide, rfl, rfl, fun c _ u hu => Or.inl hu, fun c hc => by
  have : c = 0 ∨ c = 1 := by omega
  rcases this with rfl | rfl <;> decide⟩
theorem chn_of {q : Proj} (hg : q.good) (hl : q.chains.length = 2) (i : Nat) (hi : i < 1000) : Chn q (i : Int) (chQ q (i % 2)) ((i / 2 : Nat) : Int) := by
  have ho : ofP q (i : Int) = ((i : Int) % 2, (i : Int) / 2, true) := by
    unfold ofP
    rw [if_pos ⟨decide_eq_true hg, by omega, by omega⟩, hl]
    rfl
  have hm : chQ q (i % 2) ∈ q.chains := by
    show q.chains.getD (i % 2) [] ∈ _
    rw [List.getD_eq_getElem?_getD, List.getElem?_eq_getElem (by rw [hl]; omega), Option.getD_some]
    exact List.getElem_mem _
  have hlen := hg.2.2.2.2.1 _ hm
  refine ⟨by rw [ho]; show (i : Int) / 2 = _; omega, by rw [ho], ?_, inB_iff.2 ⟨by omega, by omega⟩, hlen.1, hlen.2⟩
  unfold chainP
  rw [ho, if_pos rfl]
  show q.chains.getD ((i : Int) % 2).toNat [] = _
  rw [show ((i : Int) % 2).toNat = i % 2 by omega]
abbrev E0 : Nat → Int := fun _ => 0
abbrev D0 : Nat → Bool := fun _ => false
theorem kv_start : Kv hdO.nd 100 0 (fun _ _ => none) E0 D0 0 0 (lay0 qOld) := ⟨fun _ _ => ⟨⟨rfl, rfl, Nat.le_refl _, (fun p hp => by cases hp), by simp [hdO, nd0, un0, pg0]⟩, fun _ => rfl, rfl, rfl⟩, rfl, rfl⟩
/-- how many pages the tail of such a unit is -/
theorem tailOf_max : ∀ (l : List (Int × (Int × ByteArray))) (e K : Int), e ≤ K → (∀ p ∈ l, p.1 + 1 ≤ K) → (e = K ∨ ∃ p ∈ l, p.1 + 1 = K) → tailOf e l = K
  | [], e, K, _, _, h => by
    rcases h with h | ⟨p, hp, -⟩
    · exact h
    · cases hp
  | p :: l, e, K, h1, h2, h3 => by
    show tailOf (max e (p.1 + 1)) l = K
    have hp := h2 p (List.mem_cons_self ..)
    refine tailOf_max l _ K (by omega) (fun x hx => h2 x (List.mem_cons_of_mem _ hx)) ?_
    rcases h3 with h3 | ⟨x, hx, hx1⟩
    · left; omega
    · rcases List.mem_cons.1 hx with rfl | hx
      · left; omega
      · exact Or.inr ⟨x, hx, hx1⟩
theorem PgW.tail {g : PgS} {R c : Nat} (h : PgW g R c) {K : Nat} (h1 : ∀ a v, pval g a = some v → 0 ≤ a ∧ a < K) (h2 : K = 0 ∨ ∃ v, pval g ((K : Int) - 1) = some v) : g.tail = K := by
  unfold PgS.tail
  rw [h.edge]
  refine tailOf_max g.m _ K (by omega) (fun p hp => ?_) ?_
  · have hg : pval g p.1 = some p.2 := (mem_iff_get h.apart p.1 p.2).1 hp
    have := h1 _ _ hg
    omega
  · rcases h2 with h2 | ⟨v, hv⟩
    · left; omega
    · exact Or.inr ⟨((K : Int) - 1, v), mem_of_get hv, by show (K : Int) - 1 + 1 = K; omega⟩
end Go.Proofs.YtghdhhbpbmhooaaGreat
