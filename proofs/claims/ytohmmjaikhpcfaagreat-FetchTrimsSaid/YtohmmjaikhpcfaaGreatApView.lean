/- what lies on the units' pages, in one word; plain Lean -/
import Derived.Test.YtohmmjaikhpcfaaGreatApPlain
namespace Go.Proofs.YtohmmjaikhpcfaaGreat
open Go.RowKit Esch

theorem get_snoc {K V : Type} [DecidableEq K] (m : List (K × V)) (k k' : K) (v : V) (h : get m k = none) : get (m ++ [(k, v)]) k' = if k' = k then some v else get m k' := by
  induction m with
  | nil =>
    show (if k = k' then some v else none) = _
    by_cases e : k' = k
    · subst e; simp
    · rw [if_neg (fun h => e h.symm), if_neg e]; rfl
  | cons p m ih =>
    obtain ⟨a, b⟩ := p
    have h' : (if a = k then some b else get m k) = none := h
    show (if a = k' then some b else get (m ++ [(k, v)]) k') = if k' = k then some v else (if a = k' then some b else get m k')
    by_cases e : a = k
    · rw [if_pos e] at h'; cases h'
    · rw [if_neg e] at h'
      rw [ih h']
      by_cases e1 : a = k'
      · subst e1
        rw [if_pos rfl, if_pos rfl, if_neg e]
      · rw [if_neg e1, if_neg e1]
/-- pages that are not trimmed, c at most, in room enough -/
structure PgW (g : PgS) (R c : Nat) : Prop where
  room : g.room = R
  edge : g.edge = 0
  len : g.m.length ≤ c
  kinds : ∀ p ∈ g.m, p.2.1 = 1 ∨ p.2.1 = 2
  apart : (g.m.map (·.1)).Nodup
def pval (g : PgS) (a : Int) : Option (Int × ByteArray) := get g.m a
theorem PgW.mono {g : PgS} {R c c' : Nat} (h : PgW g R c) (hc : c ≤ c') : PgW g R c' := ⟨h.room, h.edge, Nat.le_trans h.len hc, h.kinds, h.apart⟩
theorem PgW.kind {g : PgS} {R c : Nat} (h : PgW g R c) {a : Int} (ha : inB a = true) : g.kind a = ((pval g a).map (·.1)).getD 0 := by
  unfold PgS.kind pval
  have := inB_iff.1 ha
  rw [if_neg (by rw [ha]; simp), if_neg (by rw [h.edge]; omega)]
theorem PgW.kind_some {g : PgS} {R c : Nat} (h : PgW g R c) {a : Int} (ha : inB a = true) {v : Int × ByteArray} (hv : pval g a = some v) : g.kind a = v.1 ∧ (v.1 = 1 ∨ v.1 = 2) := by
  rw [h.kind ha, hv]
  exact ⟨rfl, h.kinds _ (mem_of_get hv)⟩
theorem PgW.kind_none {g : PgS} {R c : Nat} (h : PgW g R c) {a : Int} (ha : inB a = true) (hv : pval g a = none) : g.kind a = 0 := by
  rw [h.kind ha, hv]; rfl
theorem PgW.put {g : PgS} {R c : Nat} (h : PgW g R c) {a : Int} (hc : c < R) (hv : pval g a = none) {k : Int} (hk : k = 1 ∨ k = 2) (d : ByteArray) : (g.put a (k, d)).1 = 0 ∧ PgW (g.put a (k, d)).2 R (c + 1) ∧ ∀ b, pval (g.put a (k, d)).2 b = if b = a then some (k, d) else pval g b := by
  unfold PgS.put
  have := h.len
  have := h.room
  rw [if_neg (by omega)]
  refine ⟨rfl, ⟨h.room, h.edge, by simp only [List.length_append, List.length_cons, List.length_nil]; omega, fun p hp => ?_, ?_⟩, fun b => get_snoc _ _ _ _ hv⟩
  · rcases List.mem_append.1 hp with hp | hp
    · exact h.kinds p hp
    · rw [List.mem_singleton.1 hp]; exact hk
  · simp only [List.map_append, List.map_cons, List.map_nil]
    rw [List.nodup_append]
    refine ⟨h.apart, by simp, ?_⟩
    intro x hx y hy
    simp only [List.mem_singleton] at hy
    subst hy
    obtain ⟨p, hp, rfl⟩ := List.mem_map.1 hx
    exact get_none_of hv p hp
theorem PgW.write {g : PgS} {R c : Nat} (h : PgW g R c) {a : Int} (ha : inB a = true) {d : ByteArray} (hd : d.size ≤ 4096) : g.write a d = if (pval g a).isSome then (41, g) else g.put a (1, d) := by
  have := inB_iff.1 ha
  unfold PgS.write
  rw [if_neg (by rw [ha]; simp), if_neg (by omega), if_neg (by rw [h.edge]; omega)]
  cases hv : pval g a with
  | none => rw [if_neg (by rw [h.kind_none ha hv]; simp)]; rfl
  | some v => rw [if_pos (by have := h.kind_some ha hv; omega)]; rfl
theorem PgW.fill {g : PgS} {R c : Nat} (h : PgW g R c) {a : Int} (ha : inB a = true) : g.fill a = match pval g a with | none => g.put a (2, ⟨#[]⟩) | some v => (if v.1 = 2 then 0 else 41, g) := by
  unfold PgS.fill
  rw [if_neg (by rw [ha]; simp)]
  cases hv : pval g a with
  | none => rw [h.kind_none ha hv, if_neg (by decide), if_neg (by decide), if_neg (by decide)]
  | some v =>
    obtain ⟨h1, h2⟩ := h.kind_some ha hv
    rw [h1]
    rcases h2 with h2 | h2
    · rw [h2, if_neg (by decide), if_neg (by decide), if_pos rfl]; show _ = (if v.1 = 2 then (0 : Int) else 41, g); rw [if_neg (by rw [h2]; decide)]
    · rw [h2, if_neg (by decide), if_pos rfl]; show _ = (if v.1 = 2 then (0 : Int) else 41, g); rw [if_pos h2]
theorem PgW.read {g : PgS} {R c : Nat} (h : PgW g R c) {a : Int} (ha : inB a = true) : g.read a = match pval g a with | none => (⟨#[]⟩, 42) | some v => if v.1 = 2 then (⟨#[]⟩, 46) else (v.2, 0) := by
  unfold PgS.read
  rw [if_neg (by rw [ha]; simp)]
  cases hv : pval g a with
  | none => rw [h.kind_none ha hv, if_neg (by decide), if_pos rfl]
  | some v =>
    obtain ⟨h1, h2⟩ := h.kind_some ha hv
    rw [h1]
    have ht : g.text a = v.2 := by unfold PgS.text; rw [show get g.m a = some v from hv]; rfl
    rcases h2 with h2 | h2
    · rw [h2, if_neg (by decide), if_neg (by decide), if_neg (by decide), ht]; show _ = (if v.1 = 2 then ((⟨#[]⟩ : ByteArray), (46 : Int)) else (v.2, 0)); rw [if_neg (by rw [h2]; decide)]
    · rw [h2, if_neg (by decide), if_neg (by decide), if_pos rfl]; show _ = (if v.1 = 2 then ((⟨#[]⟩ : ByteArray), (46 : Int)) else (v.2, 0)); rw [if_pos h2]
abbrev Pgs := Nat → Int → Option (Int × ByteArray)
def setPg (M : Pgs) (u : Nat) (a : Int) (v : Int × ByteArray) : Pgs := fun j b => if j = u ∧ b = a then some v else M j b
/-- nodes that are well, t numbers told, c pages on a unit at most; M: what lies where -/
structure Vw (s : NdS) (R t c : Nat) (M : Pgs) : Prop where
  at' : ∃ P, Hlt s t P ∧ ∀ u, u < 16 → PgW (P u) R c ∧ ∀ a, pval (P u) a = M u a
theorem Vw.put {R t c : Nat} {M : Pgs} {u : Nat} (hu : u < 16) {a : Int} {v : Int × ByteArray} {P : Nat → PgS} {s' : NdS} {g : PgS} (h1 : Hlt s' t (upd P u g)) (h2 : ∀ u, u < 16 → PgW (P u) R c ∧ ∀ a, pval (P u) a = M u a) (h3 : PgW g R (c + 1)) (h4 : ∀ b, pval g b = if b = a then some v else pval (P u) b) : Vw s' R t (c + 1) (setPg M u a v) := by
  refine ⟨_, h1, fun j hj => ?_⟩
  unfold upd setPg
  by_cases e : j = u
  · subst e
    simp only [if_true, true_and]
    exact ⟨h3, fun b => by
      rw [h4]
      by_cases e : b = a
      · rw [if_pos e, if_pos e]
      · rw [if_neg e, if_neg e]; exact (h2 j hj).2 b⟩
  · simp only [e, false_and, if_false]
    exact ⟨(h2 j hj).1.mono (by omega), (h2 j hj).2⟩
section
variable {s : NdS} {R t c : Nat} {M : Pgs} (h : Vw s R t c M)
include h
theorem Vw.mono {c' : Nat} (hc : c ≤ c') : Vw s R t c' M := by
  obtain ⟨P, h1, h2⟩ := h
  exact ⟨P, h1, fun u hu => ⟨(h2 u hu).1.mono hc, (h2 u hu).2⟩⟩
theorem Vw.next (ht : t < 16384) : (s.do q6).1 = anN t ∧ Vw (s.do q6).2 R (t + 1) c M := by
  obtain ⟨P, h1, h2⟩ := h
  exact ⟨(h1.next ht).1, P, (h1.next ht).2, h2⟩
theorem Vw.page (u : Nat) (hu : u < 16) : ∃ g, (s.units u).pg = g ∧ PgW g R c ∧ ∀ a, pval g a = M u a := by
  obtain ⟨P, h1, h2⟩ := h
  exact ⟨P u, by rw [h1.units u hu], h2 u hu⟩
theorem Vw.write_new (u : Nat) (hu : u < 16) {a : Int} (ha : inB a = true) {d : ByteArray} (hd : d.size ≤ 4096) (hc : c < R) (hM : M u a = none) :
    (s.do ⟨1, u, 0, a, 0, 0, d, Esch.p0⟩).1 = anU 0 ⟨#[]⟩ ∧ Vw (s.do ⟨1, u, 0, a, 0, 0, d, Esch.p0⟩).2 R t (c + 1) (setPg M u a (1, d)) := by
  obtain ⟨P, h1, h2⟩ := id h
  obtain ⟨g1, g2⟩ := h1.write u hu a d
  have hv : pval (P u) a = none := ((h2 u hu).2 a).trans hM
  obtain ⟨p1, p2, p3⟩ := (h2 u hu).1.put hc hv (Or.inl rfl) d
  have e : (P u).write a d = (P u).put a (1, d) := by rw [(h2 u hu).1.write ha hd, hv]; rfl
  rw [e] at g1 g2
  rw [p1] at g1
  exact ⟨g1, Vw.put hu g2 h2 p2 p3⟩
theorem Vw.write_old (u : Nat) (hu : u < 16) {a : Int} (ha : inB a = true) {d : ByteArray} (hd : d.size ≤ 4096) {v : Int × ByteArray} (hM : M u a = some v) :
    (s.do ⟨1, u, 0, a, 0, 0, d, Esch.p0⟩).1 = anU 41 ⟨#[]⟩ ∧ Vw (s.do ⟨1, u, 0, a, 0, 0, d, Esch.p0⟩).2 R t c M := by
  obtain ⟨P, h1, h2⟩ := h
  obtain ⟨g1, g2⟩ := h1.write u hu a d
  have hv : pval (P u) a = some v := ((h2 u hu).2 a).trans hM
  have e : (P u).write a d = (41, P u) := by rw [(h2 u hu).1.write ha hd, hv]; rfl
  rw [e] at g1 g2
  refine ⟨g1, _, g2, fun j hj => ?_⟩
  unfold upd
  by_cases e : j = u
  · subst e; rw [if_pos rfl]; exact h2 j hj
  · rw [if_neg e]; exact h2 j hj
theorem Vw.fill_new (u : Nat) (hu : u < 16) {a : Int} (ha : inB a = true) (d : ByteArray) (hc : c < R) (hM : M u a = none) :
    (s.do ⟨2, u, 0, a, 0, 0, d, Esch.p0⟩).1 = anU 0 ⟨#[]⟩ ∧ Vw (s.do ⟨2, u, 0, a, 0, 0, d, Esch.p0⟩).2 R t (c + 1) (setPg M u a (2, ⟨#[]⟩)) := by
  obtain ⟨P, h1, h2⟩ := id h
  obtain ⟨g1, g2⟩ := h1.fill u hu a d
  have hv : pval (P u) a = none := ((h2 u hu).2 a).trans hM
  obtain ⟨p1, p2, p3⟩ := (h2 u hu).1.put hc hv (Or.inr rfl) ⟨#[]⟩
  have e : (P u).fill a = (P u).put a (2, ⟨#[]⟩) := by rw [(h2 u hu).1.fill ha, hv]
  rw [e] at g1 g2
  rw [p1] at g1
  exact ⟨g1, Vw.put hu g2 h2 p2 p3⟩
theorem Vw.fill_old (u : Nat) (hu : u < 16) {a : Int} (ha : inB a = true) (d : ByteArray) {v : Int × ByteArray} (hM : M u a = some v) :
    (s.do ⟨2, u, 0, a, 0, 0, d, Esch.p0⟩).1 = anU (if v.1 = 2 then 0 else 41) ⟨#[]⟩ ∧ Vw (s.do ⟨2, u, 0, a, 0, 0, d, Esch.p0⟩).2 R t c M := by
  obtain ⟨P, h1, h2⟩ := h
  obtain ⟨g1, g2⟩ := h1.fill u hu a d
  have hv : pval (P u) a = some v := ((h2 u hu).2 a).trans hM
  have e : (P u).fill a = (if v.1 = 2 then 0 else 41, P u) := by rw [(h2 u hu).1.fill ha, hv]
  rw [e] at g1 g2
  refine ⟨g1, _, g2, fun j hj => ?_⟩
  unfold upd
  by_cases e : j = u
  · subst e; rw [if_pos rfl]; exact h2 j hj
  · rw [if_neg e]; exact h2 j hj
theorem Vw.read (u : Nat) (hu : u < 16) {a : Int} (ha : inB a = true) (d : ByteArray) :
    (s.do ⟨3, u, 0, a, 0, 0, d, Esch.p0⟩).1 = (match M u a with | none => anU 42 ⟨#[]⟩ | some v => if v.1 = 2 then anU 46 ⟨#[]⟩ else anU 0 v.2) ∧ Vw (s.do ⟨3, u, 0, a, 0, 0, d, Esch.p0⟩).2 R t c M := by
  obtain ⟨P, h1, h2⟩ := h
  obtain ⟨g1, g2⟩ := h1.read u hu a d
  refine ⟨?_, P, g2, h2⟩
  rw [g1, (h2 u hu).1.read ha, (h2 u hu).2 a]
  cases M u a with
  | none => rfl
  | some v =>
    by_cases e : v.1 = 2
    · simp only [if_pos e]
    · simp only [if_neg e]
end
theorem vw_new {q : Proj} (he : q.epoch = 0) (R : Nat) : Vw (nd0 q R) R 0 0 (fun _ _ => none) :=
  ⟨fun _ => pg0 R, ⟨fun _ _ => rfl, by show (⟨q.epoch, true, 0⟩ : Ord) = _; rw [he]; rfl⟩, fun _ _ => ⟨⟨rfl, rfl, Nat.le_refl _, (fun p hp => by cases hp), by simp [pg0]⟩, fun _ => rfl⟩⟩
end Go.Proofs.YtohmmjaikhpcfaaGreat
