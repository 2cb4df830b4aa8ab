/- a fetch over pages that are trimmed below an edge: plain Lean (printed by wip/fett.py out of ApView and FetP) -/
import Derived.Test.YtohmmjaikhpcfaaGreatFetP
namespace Go.Proofs.YtohmmjaikhpcfaaGreat
open Go.RowKit Esch

/-- pages trimmed below E, c at most, in room enough -/
structure PgE (g : PgS) (R E c : Nat) : Prop where
  room : g.room = R
  edge : g.edge = E
  len : g.m.length ≤ c
  kinds : ∀ p ∈ g.m, p.2.1 = 1 ∨ p.2.1 = 2
  apart : (g.m.map (·.1)).Nodup
theorem PgE.mono {g : PgS} {R E c c' : Nat} (h : PgE g R E c) (hc : c ≤ c') : PgE g R E c' := ⟨h.room, h.edge, Nat.le_trans h.len hc, h.kinds, h.apart⟩
theorem PgE.kind {g : PgS} {R E c : Nat} (h : PgE g R E c) {a : Int} (ha : inB a = true ∧ (E : Int) ≤ a) : g.kind a = ((pval g a).map (·.1)).getD 0 := by
  unfold PgS.kind pval
  have := inB_iff.1 ha.1
  rw [if_neg (by rw [ha.1]; simp), if_neg (by rw [h.edge]; have := ha.2; omega)]
theorem PgE.kind_some {g : PgS} {R E c : Nat} (h : PgE g R E c) {a : Int} (ha : inB a = true ∧ (E : Int) ≤ a) {v : Int × ByteArray} (hv : pval g a = some v) : g.kind a = v.1 ∧ (v.1 = 1 ∨ v.1 = 2) := by
  rw [h.kind ha, hv]
  exact ⟨rfl, h.kinds _ (mem_of_get hv)⟩
theorem PgE.kind_none {g : PgS} {R E c : Nat} (h : PgE g R E c) {a : Int} (ha : inB a = true ∧ (E : Int) ≤ a) (hv : pval g a = none) : g.kind a = 0 := by
  rw [h.kind ha, hv]; rfl
theorem PgE.put {g : PgS} {R E c : Nat} (h : PgE g R E c) {a : Int} (hc : c < R) (hv : pval g a = none) {k : Int} (hk : k = 1 ∨ k = 2) (d : ByteArray) : (g.put a (k, d)).1 = 0 ∧ PgE (g.put a (k, d)).2 R E (c + 1) ∧ ∀ b, pval (g.put a (k, d)).2 b = if b = a then some (k, d) else pval g b := by
  unfold PgS.put
  have := h.len
  have := h.room
  rw [if_neg (by omega)]
  refine ⟨rfl, ⟨h.room, h.edge, by simp only [List.length_append, List.length_cons, List.length_nil]; omega, fun p hp => ?_, ?_⟩, fun b => get_snoc _ _ _ _ hv⟩
  · rcases List.mem_append.1 hp with hp | hp
    · exact h.kinds p hp
    · rw [List.mem_singleton.1 hp]; exact hk
  · simp only [List.map_append, List.map_cons, List.map_nil]
    rw [List.nodup_append]
    refine ⟨h.apart, by simp, ?_⟩
    intro x hx y hy
    simp only [List.mem_singleton] at hy
    subst hy
    obtain ⟨p, hp, rfl⟩ := List.mem_map.1 hx
    exact get_none_of hv p hp
theorem PgE.write {g : PgS} {R E c : Nat} (h : PgE g R E c) {a : Int} (ha : inB a = true ∧ (E : Int) ≤ a) {d : ByteArray} (hd : d.size ≤ 4096) : g.write a d = if (pval g a).isSome then (41, g) else g.put a (1, d) := by
  have := inB_iff.1 ha.1
  unfold PgS.write
  rw [if_neg (by rw [ha.1]; simp), if_neg (by omega), if_neg (by rw [h.edge]; have := ha.2; omega)]
  cases hv : pval g a with
  | none => rw [if_neg (by rw [h.kind_none ha hv]; simp)]; rfl
  | some v => rw [if_pos (by have := h.kind_some ha hv; omega)]; rfl
theorem PgE.fill {g : PgS} {R E c : Nat} (h : PgE g R E c) {a : Int} (ha : inB a = true ∧ (E : Int) ≤ a) : g.fill a = match pval g a with | none => g.put a (2, ⟨#[]⟩) | some v => (if v.1 = 2 then 0 else 41, g) := by
  unfold PgS.fill
  rw [if_neg (by rw [ha.1]; simp)]
  cases hv : pval g a with
  | none => rw [h.kind_none ha hv, if_neg (by decide), if_neg (by decide), if_neg (by decide)]
  | some v =>
    obtain ⟨h1, h2⟩ := h.kind_some ha hv
    rw [h1]
    rcases h2 with h2 | h2
    · rw [h2, if_neg (by decide), if_neg (by decide), if_pos rfl]; show _ = (if v.1 = 2 then (0 : Int) else 41, g); rw [if_neg (by rw [h2]; decide)]
    · rw [h2, if_neg (by decide), if_pos rfl]; show _ = (if v.1 = 2 then (0 : Int) else 41, g); rw [if_pos h2]
theorem PgE.read {g : PgS} {R E c : Nat} (h : PgE g R E c) {a : Int} (ha : inB a = true ∧ (E : Int) ≤ a) : g.read a = match pval g a with | none => (⟨#[]⟩, 42) | some v => if v.1 = 2 then (⟨#[]⟩, 46) else (v.2, 0) := by
  unfold PgS.read
  rw [if_neg (by rw [ha.1]; simp)]
  cases hv : pval g a with
  | none => rw [h.kind_none ha hv, if_neg (by decide), if_pos rfl]
  | some v =>
    obtain ⟨h1, h2⟩ := h.kind_some ha hv
    rw [h1]
    have ht : g.text a = v.2 := by unfold PgS.text; rw [show get g.m a = some v from hv]; rfl
    rcases h2 with h2 | h2
    · rw [h2, if_neg (by decide), if_neg (by decide), if_neg (by decide), ht]; show _ = (if v.1 = 2 then ((⟨#[]⟩ : ByteArray), (46 : Int)) else (v.2, 0)); rw [if_neg (by rw [h2]; decide)]
    · rw [h2, if_neg (by decide), if_neg (by decide), if_pos rfl]; show _ = (if v.1 = 2 then ((⟨#[]⟩ : ByteArray), (46 : Int)) else (v.2, 0)); rw [if_pos h2]
/-- nodes that are well, t numbers told, c pages on a unit at most; M: what lies where -/
structure VwE (s : NdS) (R t c : Nat) (E : Nat → Nat) (M : Pgs) : Prop where
  at' : ∃ P, Hlt s t P ∧ ∀ u, u < 16 → PgE (P u) R (E u) c ∧ ∀ a, pval (P u) a = M u a
theorem VwE.put {R t c : Nat} {E : Nat → Nat} {M : Pgs} {u : Nat} (hu : u < 16) {a : Int} {v : Int × ByteArray} {P : Nat → PgS} {s' : NdS} {g : PgS} (h1 : Hlt s' t (upd P u g)) (h2 : ∀ u, u < 16 → PgE (P u) R (E u) c ∧ ∀ a, pval (P u) a = M u a) (h3 : PgE g R (E u) (c + 1)) (h4 : ∀ b, pval g b = if b = a then some v else pval (P u) b) : VwE s' R t (c + 1) E (setPg M u a v) := by
  refine ⟨_, h1, fun j hj => ?_⟩
  unfold upd setPg
  by_cases e : j = u
  · subst e
    simp only [if_true, true_and]
    exact ⟨h3, fun b => by
      rw [h4]
      by_cases e : b = a
      · rw [if_pos e, if_pos e]
      · rw [if_neg e, if_neg e]; exact (h2 j hj).2 b⟩
  · simp only [e, false_and, if_false]
    exact ⟨(h2 j hj).1.mono (by omega), (h2 j hj).2⟩
section
variable {s : NdS} {R t c : Nat} {E : Nat → Nat} {M : Pgs} (h : VwE s R t c E M)
include h
theorem VwE.mono {c' : Nat} (hc : c ≤ c') : VwE s R t c' E M := by
  obtain ⟨P, h1, h2⟩ := h
  exact ⟨P, h1, fun u hu => ⟨(h2 u hu).1.mono hc, (h2 u hu).2⟩⟩
theorem VwE.next (ht : t < 16384) : (s.do q6).1 = anN t ∧ VwE (s.do q6).2 R (t + 1) c E M := by
  obtain ⟨P, h1, h2⟩ := h
  exact ⟨(h1.next ht).1, P, (h1.next ht).2, h2⟩
theorem VwE.page (u : Nat) (hu : u < 16) : ∃ g, (s.units u).pg = g ∧ PgE g R (E u) c ∧ ∀ a, pval g a = M u a := by
  obtain ⟨P, h1, h2⟩ := h
  exact ⟨P u, by rw [h1.units u hu], h2 u hu⟩
theorem VwE.write_new (u : Nat) (hu : u < 16) {a : Int} (ha : inB a = true ∧ (E u : Int) ≤ a) {d : ByteArray} (hd : d.size ≤ 4096) (hc : c < R) (hM : M u a = none) :
    (s.do ⟨1, u, 0, a, 0, 0, d, Esch.p0⟩).1 = anU 0 ⟨#[]⟩ ∧ VwE (s.do ⟨1, u, 0, a, 0, 0, d, Esch.p0⟩).2 R t (c + 1) E (setPg M u a (1, d)) := by
  obtain ⟨P, h1, h2⟩ := id h
  obtain ⟨g1, g2⟩ := h1.write u hu a d
  have hv : pval (P u) a = none := ((h2 u hu).2 a).trans hM
  obtain ⟨p1, p2, p3⟩ := (h2 u hu).1.put hc hv (Or.inl rfl) d
  have e : (P u).write a d = (P u).put a (1, d) := by rw [(h2 u hu).1.write ha hd, hv]; rfl
  rw [e] at g1 g2
  rw [p1] at g1
  exact ⟨g1, VwE.put hu g2 h2 p2 p3⟩
theorem VwE.write_old (u : Nat) (hu : u < 16) {a : Int} (ha : inB a = true ∧ (E u : Int) ≤ a) {d : ByteArray} (hd : d.size ≤ 4096) {v : Int × ByteArray} (hM : M u a = some v) :
    (s.do ⟨1, u, 0, a, 0, 0, d, Esch.p0⟩).1 = anU 41 ⟨#[]⟩ ∧ VwE (s.do ⟨1, u, 0, a, 0, 0, d, Esch.p0⟩).2 R t c E M := by
  obtain ⟨P, h1, h2⟩ := h
  obtain ⟨g1, g2⟩ := h1.write u hu a d
  have hv : pval (P u) a = some v := ((h2 u hu).2 a).trans hM
  have e : (P u).write a d = (41, P u) := by rw [(h2 u hu).1.write ha hd, hv]; rfl
  rw [e] at g1 g2
  refine ⟨g1, _, g2, fun j hj => ?_⟩
  unfold upd
  by_cases e : j = u
  · subst e; rw [if_pos rfl]; exact h2 j hj
  · rw [if_neg e]; exact h2 j hj
theorem VwE.fill_new (u : Nat) (hu : u < 16) {a : Int} (ha : inB a = true ∧ (E u : Int) ≤ a) (d : ByteArray) (hc : c < R) (hM : M u a = none) :
    (s.do ⟨2, u, 0, a, 0, 0, d, Esch.p0⟩).1 = anU 0 ⟨#[]⟩ ∧ VwE (s.do ⟨2, u, 0, a, 0, 0, d, Esch.p0⟩).2 R t (c + 1) E (setPg M u a (2, ⟨#[]⟩)) := by
  obtain ⟨P, h1, h2⟩ := id h
  obtain ⟨g1, g2⟩ := h1.fill u hu a d
  have hv : pval (P u) a = none := ((h2 u hu).2 a).trans hM
  obtain ⟨p1, p2, p3⟩ := (h2 u hu).1.put hc hv (Or.inr rfl) ⟨#[]⟩
  have e : (P u).fill a = (P u).put a (2, ⟨#[]⟩) := by rw [(h2 u hu).1.fill ha, hv]
  rw [e] at g1 g2
  rw [p1] at g1
  exact ⟨g1, VwE.put hu g2 h2 p2 p3⟩
theorem VwE.fill_old (u : Nat) (hu : u < 16) {a : Int} (ha : inB a = true ∧ (E u : Int) ≤ a) (d : ByteArray) {v : Int × ByteArray} (hM : M u a = some v) :
    (s.do ⟨2, u, 0, a, 0, 0, d, Esch.p0⟩).1 = anU (if v.1 = 2 then 0 else 41) ⟨#[]⟩ ∧ VwE (s.do ⟨2, u, 0, a, 0, 0, d, Esch.p0⟩).2 R t c E M := by
  obtain ⟨P, h1, h2⟩ := h
  obtain ⟨g1, g2⟩ := h1.fill u hu a d
  have hv : pval (P u) a = some v := ((h2 u hu).2 a).trans hM
  have e : (P u).fill a = (if v.1 = 2 then 0 else 41, P u) := by rw [(h2 u hu).1.fill ha, hv]
  rw [e] at g1 g2
  refine ⟨g1, _, g2, fun j hj => ?_⟩
  unfold upd
  by_cases e : j = u
  · subst e; rw [if_pos rfl]; exact h2 j hj
  · rw [if_neg e]; exact h2 j hj
theorem VwE.read (u : Nat) (hu : u < 16) {a : Int} (ha : inB a = true ∧ (E u : Int) ≤ a) (d : ByteArray) :
    (s.do ⟨3, u, 0, a, 0, 0, d, Esch.p0⟩).1 = (match M u a with | none => anU 42 ⟨#[]⟩ | some v => if v.1 = 2 then anU 46 ⟨#[]⟩ else anU 0 v.2) ∧ VwE (s.do ⟨3, u, 0, a, 0, 0, d, Esch.p0⟩).2 R t c E M := by
  obtain ⟨P, h1, h2⟩ := h
  obtain ⟨g1, g2⟩ := h1.read u hu a d
  refine ⟨?_, P, g2, h2⟩
  rw [g1, (h2 u hu).1.read ha, (h2 u hu).2 a]
  cases M u a with
  | none => rfl
  | some v =>
    by_cases e : v.1 = 2
    · simp only [if_pos e]
    · simp only [if_neg e]
end
theorem VwE.cap {s : NdS} {R t c : Nat} {E : Nat → Nat} {M : Pgs} (h : VwE s R t c E M) (hM : ∀ u, u < 16 → ∀ a v, M u a = some v → 0 ≤ a ∧ a < 14) : VwE s R t 14 E M := by
  obtain ⟨P, h1, h2⟩ := h
  refine ⟨P, h1, fun u hu => ⟨?_, (h2 u hu).2⟩⟩
  obtain ⟨g1, g2⟩ := h2 u hu
  refine ⟨g1.room, g1.edge, ?_, g1.kinds, g1.apart⟩
  have := nodup_len 14 ((P u).m.map (·.1)) g1.apart (fun x hx => by
    obtain ⟨p, hp, rfl⟩ := List.mem_map.1 hx
    have hg : get (P u).m p.1 = some p.2 := (mem_iff_get g1.apart p.1 p.2).1 hp
    exact hM u hu p.1 p.2 ((g2 p.1).symm.trans hg))
  rwa [List.length_map] at this
/-- a unit of the chain is written, or filled: in order; trimmed below E -/
structure VT (a : Nat) (nd : NdS) (R : Nat) (E : Nat → Nat) (M : Pgs) : Prop where
  vw : VwE nd R 0 14 E M
  ed : ∀ k, k < lenT a → (E (uT a k) : Int) ≤ ((a / 3 : Nat) : Int)
  inv : Inv M
  big : 14 < R
section
variable {a : Nat} {nd : NdS} {R : Nat} {E : Nat → Nat} {M : Pgs} (h : VT a nd R E M) (ha : a < 40) {m : Nat} {v : Int × ByteArray} (hp : Pre a M m v) {k : Nat} (hk : k < lenT a)
include h ha hp hk
theorem VT.write_old (hm : k < m) {d : ByteArray} (hd : d.size ≤ 4096) : (nd.do ⟨1, (uT a k : Nat), 0, ((a / 3 : Nat) : Int), 0, 0, d, Esch.p0⟩).1 = anU 41 ⟨#[]⟩ ∧ VT a (nd.do ⟨1, (uT a k : Nat), 0, ((a / 3 : Nat) : Int), 0, 0, d, Esch.p0⟩).2 R E M := by
  have hM := hp.at' k hk
  rw [if_pos hm] at hM
  obtain ⟨g1, g2⟩ := h.vw.write_old (uT a k) (by have := uT_lt hk; omega) ⟨inB_page ha, h.ed k hk⟩ hd hM
  exact ⟨g1, g2, h.ed, h.inv, h.big⟩
theorem VT.write_new (hm : k = m) {d : ByteArray} (hd : d.size ≤ 4096) (hv : m = 0 ∨ v = (1, d)) : (nd.do ⟨1, (uT a k : Nat), 0, ((a / 3 : Nat) : Int), 0, 0, d, Esch.p0⟩).1 = anU 0 ⟨#[]⟩ ∧ VT a (nd.do ⟨1, (uT a k : Nat), 0, ((a / 3 : Nat) : Int), 0, 0, d, Esch.p0⟩).2 R E (setPg M (uT a m) ((a / 3 : Nat) : Int) (1, d)) := by
  have hM := hp.at' k hk
  rw [if_neg (by omega)] at hM
  obtain ⟨g1, g2⟩ := h.vw.write_new (uT a k) (by have := uT_lt hk; omega) ⟨inB_page ha, h.ed k hk⟩ hd h.big hM
  subst hm
  have hI := h.inv.set ha hp hk hv (Or.inr ⟨rfl, hd⟩)
  exact ⟨g1, g2.cap (fun u _ p x hx => hI.dom u p x hx), h.ed, hI, h.big⟩
theorem VT.fill_old (hm : k < m) : (nd.do ⟨2, (uT a k : Nat), 0, ((a / 3 : Nat) : Int), 0, 0, ⟨#[]⟩, Esch.p0⟩).1 = anU (if v.1 = 2 then 0 else 41) ⟨#[]⟩ ∧ VT a (nd.do ⟨2, (uT a k : Nat), 0, ((a / 3 : Nat) : Int), 0, 0, ⟨#[]⟩, Esch.p0⟩).2 R E M := by
  have hM := hp.at' k hk
  rw [if_pos hm] at hM
  obtain ⟨g1, g2⟩ := h.vw.fill_old (uT a k) (by have := uT_lt hk; omega) ⟨inB_page ha, h.ed k hk⟩ ⟨#[]⟩ hM
  exact ⟨g1, g2, h.ed, h.inv, h.big⟩
theorem VT.fill_new (hm : k = m) (hv : m = 0 ∨ v = (2, ⟨#[]⟩)) : (nd.do ⟨2, (uT a k : Nat), 0, ((a / 3 : Nat) : Int), 0, 0, ⟨#[]⟩, Esch.p0⟩).1 = anU 0 ⟨#[]⟩ ∧ VT a (nd.do ⟨2, (uT a k : Nat), 0, ((a / 3 : Nat) : Int), 0, 0, ⟨#[]⟩, Esch.p0⟩).2 R E (setPg M (uT a m) ((a / 3 : Nat) : Int) (2, ⟨#[]⟩)) := by
  have hM := hp.at' k hk
  rw [if_neg (by omega)] at hM
  obtain ⟨g1, g2⟩ := h.vw.fill_new (uT a k) (by have := uT_lt hk; omega) ⟨inB_page ha, h.ed k hk⟩ ⟨#[]⟩ h.big hM
  subst hm
  have hI := h.inv.set ha hp hk hv (Or.inl rfl)
  exact ⟨g1, g2.cap (fun u _ p x hx => hI.dom u p x hx), h.ed, hI, h.big⟩
theorem VT.read : (nd.do ⟨3, (uT a k : Nat), 0, ((a / 3 : Nat) : Int), 0, 0, ⟨#[]⟩, Esch.p0⟩).1 = (if k < m then (if v.1 = 2 then anU 46 ⟨#[]⟩ else anU 0 v.2) else anU 42 ⟨#[]⟩) ∧ VT a (nd.do ⟨3, (uT a k : Nat), 0, ((a / 3 : Nat) : Int), 0, 0, ⟨#[]⟩, Esch.p0⟩).2 R E M := by
  obtain ⟨g1, g2⟩ := h.vw.read (uT a k) (by have := uT_lt hk; omega) ⟨inB_page ha, h.ed k hk⟩ ⟨#[]⟩
  refine ⟨?_, g2, h.ed, h.inv, h.big⟩
  rw [g1, hp.at' k hk]
  by_cases e : k < m
  · rw [if_pos e, if_pos e]
  · rw [if_neg e, if_neg e]
end
theorem FeI.stepT {a : Nat} {M : Pgs} {s : FeS} {W : Int × ByteArray} {m R : Nat} {E : Nat → Nat} {nd : NdS} (h : FeI a M s W m) (h6 : s.at ≠ 6) (ha : a < 40) (hV : VT a nd R E M) :
    ∃ M' m', VT a (nd.do s.ask.1).2 R E M' ∧ Pre a M' m' W ∧ m ≤ m' ∧ PgLe M M' ∧ FeI a M' (s.hear (nd.do s.ask.1).1 true) W m' ∧ muF (s.hear (nd.do s.ask.1).1 true) m' < muF s m := by
  obtain ⟨hcl, hcu⟩ := chainP_qT ha
  have hl := lenT_le a
  have hpl := h.pre.le
  have hof := ofP_qT ha
  have hep : s.p.epoch = 0 := by rw [h.p]
  have hcp : chainP s.p s.addr = chainP qT (a : Int) := by rw [h.p, h.addr]
  have hop : (ofP s.p s.addr).2.1 = ((a / 3 : Nat) : Int) := by rw [h.p, h.addr, hof]
  have key : ∀ x : AnS, (s.at = 2 ∨ s.at = 3 ∨ s.at = 4 ∨ s.at = 5) → x.code ≠ 45 → x.code ≠ 40 → x.code ≠ 43 → s.hear x true = s.look x (lenT a) := fun x hx h1 h2 h3 => by
    rw [FeS.hear_look h6 (by omega) h1 h2 h3, hcp, hcl]
  rcases h.wh with e | e | ⟨e, hfl⟩ | ⟨e, k, hi, h1, h2, h3, h4⟩ | ⟨e, -⟩
  · have hq : s.ask.1 = ⟨3, (uT a (lenT a - 1) : Nat), 0, ((a / 3 : Nat) : Int), 0, 0, ⟨#[]⟩, Esch.p0⟩ := by
      rw [FeS.ask_2' e, hcp, hcl, hcu _ (by omega), hop, hep]
    obtain ⟨r1, r2⟩ := hV.read ha h.pre (show lenT a - 1 < lenT a by omega)
    rw [hq, r1]
    refine ⟨M, m, r2, h.pre, Nat.le_refl _, PgLe.refl _, ?_⟩
    rw [muF_2 e]
    by_cases hm : lenT a - 1 < m
    · rw [if_pos hm]
      by_cases h2 : W.1 = 2
      · rw [if_pos h2, key _ (Or.inl e) (by show ¬ (46 : Int) = 45; decide) (by show ¬ (46 : Int) = 40; decide) (by show ¬ (46 : Int) = 43; decide), look_2_46 e _ rfl]
        exact ⟨⟨h.pre, h.gv, h.z, h.p, h.addr, h.err, Or.inr (Or.inr (Or.inr (Or.inr ⟨rfl, Or.inl ⟨by omega, goodV_2 h.gv h2⟩⟩)))⟩, by rw [muF_6 rfl]; decide⟩
      · rw [if_neg h2, key _ (Or.inl e) (by show ¬ (0 : Int) = 45; decide) (by show ¬ (0 : Int) = 40; decide) (by show ¬ (0 : Int) = 43; decide), look_2_0 e _ rfl]
        exact ⟨⟨h.pre, h.gv, h.z, h.p, h.addr, h.err, Or.inr (Or.inr (Or.inr (Or.inr ⟨rfl, Or.inl ⟨by omega, (goodV_1 h.gv h2).1⟩⟩)))⟩, by rw [muF_6 rfl]; decide⟩
    · rw [if_neg hm, key _ (Or.inl e) (by show ¬ (42 : Int) = 45; decide) (by show ¬ (42 : Int) = 40; decide) (by show ¬ (42 : Int) = 43; decide), look_2_42 e _ rfl]
      by_cases hn : lenT a = 1
      · rw [if_pos hn]
        obtain rfl : m = 0 := by omega
        obtain ⟨g1, g2⟩ := h.none'
        exact ⟨g1, by omega⟩
      · rw [if_neg hn]
        refine ⟨⟨h.pre, h.gv, h.z, h.p, h.addr, h.err, Or.inr (Or.inl rfl)⟩, ?_⟩
        rw [muF_3 rfl]
        by_cases g : m = 0
        · rw [if_pos g]; decide
        · rw [if_neg g]; decide
  · have hq : s.ask.1 = ⟨3, (uT a 0 : Nat), 0, ((a / 3 : Nat) : Int), 0, 0, ⟨#[]⟩, Esch.p0⟩ := by
      rw [FeS.ask_3 e, hcp, hcu _ (by omega), hop, hep]
    obtain ⟨r1, r2⟩ := hV.read ha h.pre (show 0 < lenT a by omega)
    rw [hq, r1]
    refine ⟨M, m, r2, h.pre, Nat.le_refl _, PgLe.refl _, ?_⟩
    rw [muF_3 e]
    by_cases hm : 0 < m
    · rw [if_pos hm, if_neg (show ¬ m = 0 by omega)]
      by_cases h2 : W.1 = 2
      · rw [if_pos h2, key _ (Or.inr (Or.inl e)) (by show ¬ (46 : Int) = 45; decide) (by show ¬ (46 : Int) = 40; decide) (by show ¬ (46 : Int) = 43; decide), look_3_46 e _ rfl]
        obtain ⟨g1, g2⟩ := FeI.mended (s := { s with kind := 2, s := ⟨#[]⟩, i := 0 }) (k := 0) h.pre h.gv h.z h.p h.addr h.err rfl (goodV_2 h.gv h2) (by omega) (by omega)
        exact ⟨g1, by omega⟩
      · rw [if_neg h2, key _ (Or.inr (Or.inl e)) (by show ¬ (0 : Int) = 45; decide) (by show ¬ (0 : Int) = 40; decide) (by show ¬ (0 : Int) = 43; decide), look_3_0 e _ rfl]
        obtain ⟨g1, g2⟩ := FeI.mended (s := { s with kind := 1, s := W.2, i := 0 }) (k := 0) h.pre h.gv h.z h.p h.addr h.err rfl (goodV_1 h.gv h2).1 (by omega) (by omega)
        exact ⟨g1, Int.lt_of_le_of_lt g2 (by decide)⟩
    · obtain rfl : m = 0 := by omega
      rw [if_neg hm, if_pos (rfl : (0 : Nat) = 0), key _ (Or.inr (Or.inl e)) (by show ¬ (42 : Int) = 45; decide) (by show ¬ (42 : Int) = 40; decide) (by show ¬ (42 : Int) = 43; decide), look_3_42 e _ rfl]
      obtain ⟨g1, g2⟩ := h.none'
      exact ⟨g1, Int.lt_of_le_of_lt g2 (by decide)⟩
  · have hq : s.ask.1 = ⟨2, (uT a 0 : Nat), 0, ((a / 3 : Nat) : Int), 0, 0, ⟨#[]⟩, Esch.p0⟩ := by
      rw [FeS.ask_4 e, hcp, hcu _ (by omega), hop, hep]
    rw [hq, muF_4 e]
    by_cases hm : 0 < m
    · obtain ⟨r1, r2⟩ := hV.fill_old ha h.pre (show 0 < lenT a by omega) hm
      rw [r1]
      refine ⟨M, m, r2, h.pre, Nat.le_refl _, PgLe.refl _, ?_⟩
      by_cases h2 : W.1 = 2
      · rw [if_pos h2, key _ (Or.inr (Or.inr (Or.inl e))) (by show ¬ (0 : Int) = 45; decide) (by show ¬ (0 : Int) = 40; decide) (by show ¬ (0 : Int) = 43; decide), look_4_0 e _ rfl]
        obtain ⟨g1, g2⟩ := FeI.mended (s := { s with kind := 2, s := ⟨#[]⟩, i := 0 }) (k := 0) h.pre h.gv h.z h.p h.addr h.err rfl (goodV_2 h.gv h2) (by omega) (by omega)
        exact ⟨g1, by omega⟩
      · rw [if_neg h2, key _ (Or.inr (Or.inr (Or.inl e))) (by show ¬ (41 : Int) = 45; decide) (by show ¬ (41 : Int) = 40; decide) (by show ¬ (41 : Int) = 43; decide), look_4_41 e _ rfl]
        exact ⟨⟨h.pre, h.gv, h.z, h.p, h.addr, h.err, Or.inr (Or.inl rfl)⟩, by rw [muF_3 rfl, if_neg (by omega)]; decide⟩
    · obtain rfl : m = 0 := by omega
      have hW := h.z rfl
      obtain ⟨r1, r2⟩ := hV.fill_new ha h.pre (show 0 < lenT a by omega) rfl (Or.inl rfl)
      rw [r1]
      have hM := h.pre.at' 0 (by omega)
      rw [if_neg (by omega)] at hM
      have hp' := h.pre.more (v' := (2, ⟨#[]⟩)) (show 0 < lenT a by omega) (Or.inl rfl)
      rw [← hW] at hp'
      refine ⟨_, 1, r2, by rw [← hW]; exact hp', by omega, PgLe.set _ hM, ?_⟩
      rw [key _ (Or.inr (Or.inr (Or.inl e))) (by show ¬ (0 : Int) = 45; decide) (by show ¬ (0 : Int) = 40; decide) (by show ¬ (0 : Int) = 43; decide), look_4_0 e _ rfl]
      obtain ⟨g1, g2⟩ := FeI.mended (s := { s with kind := 2, s := ⟨#[]⟩, i := 0 }) (k := 0) hp' h.gv (fun h => absurd h (by decide)) h.p h.addr h.err rfl hW (by omega) (by omega)
      rw [hW] at g1
      exact ⟨by rw [hW]; exact g1, Int.lt_of_le_of_lt g2 (by decide)⟩
  · have hit : s.i.toNat = k := by omega
    rw [muF_5 e, hi]
    by_cases hkd : s.kind = 1
    · have hW1 : W = (1, s.s) := by rw [h4, hkd]
      have hsz : s.s.size ≤ 4096 := by
        have := (goodV_1 h.gv (by rw [hW1]; show (1 : Int) ≠ 2; decide)).2
        rw [hW1] at this; exact this
      have hq : s.ask.1 = ⟨1, (uT a k : Nat), 0, ((a / 3 : Nat) : Int), 0, 0, s.s, Esch.p0⟩ := by
        rw [FeS.ask_5W e hkd, hcp, hit, hcu _ h2, hop, hep]
      rw [hq]
      by_cases hm : k < m
      · obtain ⟨r1, r2⟩ := hV.write_old ha h.pre h2 hm hsz
        rw [r1, key _ (Or.inr (Or.inr (Or.inr e))) (by show ¬ (41 : Int) = 45; decide) (by show ¬ (41 : Int) = 40; decide) (by show ¬ (41 : Int) = 43; decide), look_5 e _ (Or.inr rfl)]
        obtain ⟨g1, g2⟩ := FeI.mended (s := s) (k := k) h.pre h.gv h.z h.p h.addr h.err hi h4 h2 (by omega)
        exact ⟨M, m, r2, h.pre, Nat.le_refl _, PgLe.refl _, g1, by omega⟩
      · obtain rfl : k = m := by omega
        obtain ⟨r1, r2⟩ := hV.write_new ha h.pre h2 rfl hsz (Or.inr hW1)
        have hM := h.pre.at' k h2
        rw [if_neg (by omega)] at hM
        have hp' := h.pre.more (v' := W) h2 (Or.inr rfl)
        rw [r1, key _ (Or.inr (Or.inr (Or.inr e))) (by show ¬ (0 : Int) = 45; decide) (by show ¬ (0 : Int) = 40; decide) (by show ¬ (0 : Int) = 43; decide), look_5 e _ (Or.inl rfl)]
        obtain ⟨g1, g2⟩ := FeI.mended (s := s) (k := k) hp' h.gv (fun h => absurd h (by omega)) h.p h.addr h.err hi h4 h2 (by omega)
        rw [← hW1] at r2
        exact ⟨_, k + 1, r2, hp', by omega, PgLe.set _ hM, g1, by omega⟩
    · have hW2 : W = (2, ⟨#[]⟩) := by
        refine goodV_2 h.gv (Classical.byContradiction fun hne => hkd ?_)
        have := (goodV_1 h.gv hne).1
        rw [h4] at this
        exact (Prod.mk.inj this).1
      have hq : s.ask.1 = ⟨2, (uT a k : Nat), 0, ((a / 3 : Nat) : Int), 0, 0, ⟨#[]⟩, Esch.p0⟩ := by
        rw [FeS.ask_5F e hkd, hcp, hit, hcu _ h2, hop, hep]
      rw [hq]
      by_cases hm : k < m
      · obtain ⟨r1, r2⟩ := hV.fill_old ha h.pre h2 hm
        rw [r1, if_pos (by rw [hW2]), key _ (Or.inr (Or.inr (Or.inr e))) (by show ¬ (0 : Int) = 45; decide) (by show ¬ (0 : Int) = 40; decide) (by show ¬ (0 : Int) = 43; decide), look_5 e _ (Or.inl rfl)]
        obtain ⟨g1, g2⟩ := FeI.mended (s := s) (k := k) h.pre h.gv h.z h.p h.addr h.err hi h4 h2 (by omega)
        exact ⟨M, m, r2, h.pre, Nat.le_refl _, PgLe.refl _, g1, by omega⟩
      · obtain rfl : k = m := by omega
        obtain ⟨r1, r2⟩ := hV.fill_new ha h.pre h2 rfl (Or.inr hW2)
        have hM := h.pre.at' k h2
        rw [if_neg (by omega)] at hM
        have hp' := h.pre.more (v' := W) h2 (Or.inr rfl)
        rw [r1, key _ (Or.inr (Or.inr (Or.inr e))) (by show ¬ (0 : Int) = 45; decide) (by show ¬ (0 : Int) = 40; decide) (by show ¬ (0 : Int) = 43; decide), look_5 e _ (Or.inl rfl)]
        obtain ⟨g1, g2⟩ := FeI.mended (s := s) (k := k) hp' h.gv (fun h => absurd h (by omega)) h.p h.addr h.err hi h4 h2 (by omega)
        rw [← hW2] at r2
        exact ⟨_, k + 1, r2, hp', by omega, PgLe.set _ hM, g1, by omega⟩
  · exact absurd e h6
/-- a round of a fetch -/
theorem FeI.turnT {a : Nat} {M : Pgs} {s : HdS × FeS} {W : Int × ByteArray} {m R : Nat} {E : Nat → Nat} (h : FeI a M s.2 W m) (ha : a < 40) (hV : VT a s.1.nd R E M) (f : Int) :
    ∃ M' m', VT a (feTurn s f).1.nd R E M' ∧ PgLe M M' ∧ FeI a M' (feTurn s f).2 W m' ∧ muF (feTurn s f).2 m' ≤ muF s.2 m ∧ (f = 0 → s.2.at ≠ 6 → muF (feTurn s f).2 m' < muF s.2 m) := by
  unfold feTurn
  by_cases h6 : s.2.at = 6
  · rw [if_pos h6]
    exact ⟨M, m, hV, PgLe.refl _, h, Int.le_refl _, fun _ e => absurd h6 e⟩
  · rw [if_neg h6]
    obtain ⟨M', m', g1, g2, g3, g4, g5, g6⟩ := h.stepT h6 ha hV
    unfold HdS.ask
    by_cases f0 : f = 0
    · rw [if_pos f0]
      exact ⟨M', m', g1, g4, g5, by simp only; omega, fun _ _ => g6⟩
    · rw [if_neg f0]
      by_cases f2 : f = 2
      · rw [if_pos f2]
        simp only [FeS.hear_deaf]
        exact ⟨M', m', g1, g4, h.deaf h6 g2 g3, h.mu_le g3, fun e => absurd e f0⟩
      · rw [if_neg f2]
        by_cases f3 : f = 3 ∧ s.1.held.length < 64
        · rw [if_pos f3]
          simp only [FeS.hear_deaf]
          exact ⟨M, m, hV, PgLe.refl _, h, Int.le_refl _, fun e => absurd e f0⟩
        · rw [if_neg f3]
          simp only [FeS.hear_deaf]
          exact ⟨M, m, hV, PgLe.refl _, h, Int.le_refl _, fun e => absurd e f0⟩
theorem stR_invT {a : Nat} {hd : HdS} {M : Pgs} {W : Int × ByteArray} {m R : Nat} {E : Nat → Nat} {fill : Bool} {fates : List Int} (h : FeI a M (fe0 qT a fill) W m) (ha : a < 40) (hV : VT a hd.nd R E M) : ∀ i, ∃ M' m', VT a (stR hd qT a fill fates i).1.nd R E M' ∧ PgLe M M' ∧ FeI a M' (stR hd qT a fill fates i).2 W m' ∧ ((stR hd qT a fill fates i).2.at = 6 ∨ muF (stR hd qT a fill fates i).2 m' ≤ 6 - ((i : Int) - fates.length))
  | 0 => by
    obtain ⟨fe, hfe⟩ : ∃ fe, fe = fe0 qT a fill := ⟨_, rfl⟩
    rw [stR_zero, ← hfe]
    rw [← hfe] at h
    have := h.mu
    exact ⟨M, m, hV, PgLe.refl _, h, Or.inr (by simp only; omega)⟩
  | i + 1 => by
    obtain ⟨M', m', g1, g2, g3, g4⟩ := stR_invT (fill := fill) (fates := fates) h ha hV i
    obtain ⟨M2, m2, e1, e2, e3, e4, e5⟩ := g3.turnT ha g1 (fateF fates i)
    refine ⟨M2, m2, e1, g2.trans e2, e3, ?_⟩
    show (feTurn _ _).2.at = 6 ∨ muF (feTurn _ _).2 m2 ≤ _
    rcases g4 with g4 | g4
    · left; unfold feTurn; rw [if_pos g4]; exact g4
    · by_cases h6 : (stR hd qT a fill fates i).2.at = 6
      · left; unfold feTurn; rw [if_pos h6]; exact h6
      · by_cases hf : i < fates.length
        · right
          have := e3.mu
          omega
        · have : fateF fates i = 0 := if_neg hf
          have := e5 this h6
          right; omega
/-- what a fetch comes to -/
theorem fetch_endT {a : Nat} {hd : HdS} {M : Pgs} {R : Nat} {E : Nat → Nat} (fill : Bool) (fates : List Int) (ha : a < 40) (hV : VT a hd.nd R E M) {m0 : Nat} {v0 : Int × ByteArray} (h0 : Pre a M m0 v0) (gv : GoodV v0) :
    ∃ W M' m', W = (if m0 = 0 then (2, ⟨#[]⟩) else v0) ∧ VT a (stR hd qT a fill fates (fates.length + 30)).1.nd R E M' ∧ PgLe M M' ∧ Pre a M' m' W ∧ GoodV W ∧ ∃ kd d, FOverV (stR hd qT a fill fates (fates.length + 30)).2 = .tuple #[.int .i64 kd, .string d, .int .i64 0, .bool true] ∧ ((m' = lenT a ∧ W = (kd, d)) ∨ (fill = false ∧ kd = 0 ∧ d = ⟨#[]⟩ ∧ m' = 0)) := by
  obtain ⟨W, hW⟩ : ∃ W : Int × ByteArray, W = if m0 = 0 then (2, ⟨#[]⟩) else v0 := ⟨_, rfl⟩
  have hpre : Pre a M m0 W := by
    by_cases e : m0 = 0
    · subst e
      exact ⟨h0.le, fun k hk => by rw [h0.at' k hk, if_neg (by omega), if_neg (by omega)]⟩
    · rw [hW, if_neg e]; exact h0
  have hgw : GoodV W := by
    by_cases e : m0 = 0
    · rw [hW, if_pos e]; exact Or.inl rfl
    · rw [hW, if_neg e]; exact gv
  have hfe : fe0 qT a fill = ⟨qT, a, fill, 2, 0, 0, 0, ⟨#[]⟩, 0⟩ := by unfold fe0; rw [ofP_qT ha]; rfl
  have hI : FeI a M (fe0 qT a fill) W m0 := by
    rw [hfe]
    exact ⟨hpre, hgw, fun e => by rw [hW, if_pos e], rfl, rfl, rfl, Or.inl rfl⟩
  obtain ⟨M', m', g1, g2, g3, g4⟩ := stR_invT (fates := fates) hI ha hV (fates.length + 30)
  have h6 : (stR hd qT a fill fates (fates.length + 30)).2.at = 6 := by
    rcases g4 with g4 | g4
    · exact g4
    · exact g3.mu.2.2 (by omega)
  have hfill : ∀ i, (stR hd qT a fill fates i).2.fill = fill := by
    intro i
    induction i with
    | zero => show (fe0 qT a fill).fill = fill; rw [hfe]
    | succ i ih =>
      show (feTurn _ _).2.fill = fill
      unfold feTurn
      by_cases e : (stR hd qT a fill fates i).2.at = 6
      · rw [if_pos e]; exact ih
      · rw [if_neg e]
        show (FeS.hear _ _ _).fill = fill
        rw [FeS.hear_fill]
        exact ih
  refine ⟨W, M', m', hW, g1, g2, g3.pre, hgw, (stR hd qT a fill fates (fates.length + 30)).2.kind, (stR hd qT a fill fates (fates.length + 30)).2.s, ?_, ?_⟩
  · unfold FOverV
    rw [if_pos h6, g3.err]
  · rcases g3.wh with e | e | ⟨e, -⟩ | ⟨e, -⟩ | ⟨-, e⟩
    · omega
    · omega
    · omega
    · omega
    · rcases e with e | ⟨e1, e2, e3, e4⟩
      · exact Or.inl e
      · exact Or.inr ⟨by rw [← hfill (fates.length + 30)]; exact e1, e2, e3, e4⟩
end Go.Proofs.YtohmmjaikhpcfaaGreat
