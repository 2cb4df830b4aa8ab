/- what lies on the units' pages, in one word; plain Lean -/
import Derived.Test.YtghdhhbpbmhooaaGreatPkBase
import Derived.Test.YtghdhhbpbmhooaaGreatPkApp
namespace Go.Proofs.YtghdhhbpbmhooaaGreat
open Go.RowKit Esch

theorem get_snoc {K V : Type} [DecidableEq K] (m : List (K × V)) (k k' : K) (v : V) (h : get m k = none) : get (m ++ [(k, v)]) k' = if k' = k then some v else get m k' := by
  induction m with
  | nil =>
    show (if k = k' then some v else none) = _
    by_cases e : k' = k
    · subst e; simp
    · rw [if_neg (fun h => e h.symm), if_neg e]; rfl
  | cons p m ih =>
    obtain ⟨a, b⟩ := p
    have h' : (if a = k then some b else get m k) = none := h
    show (if a = k' then some b else get (m ++ [(k, v)]) k') = if k' = k then some v else (if a = k' then some b else get m k')
    by_cases e : a = k
    · rw [if_pos e] at h'; cases h'
    · rw [if_neg e] at h'
      rw [ih h']
      by_cases e1 : a = k'
      · subst e1
        rw [if_pos rfl, if_pos rfl, if_neg e]
      · rw [if_neg e1, if_neg e1]
/-- pages that are not trimmed, c at most, in room enough -/
structure PgW (g : PgS) (R c : Nat) : Prop where
  room : g.room = R
  edge : g.edge = 0
  len : g.m.length ≤ c
  kinds : ∀ p ∈ g.m, p.2.1 = 1 ∨ p.2.1 = 2
  apart : (g.m.map (·.1)).Nodup
def pval (g : PgS) (a : Int) : Option (Int × ByteArray) := get g.m a
theorem PgW.mono {g : PgS} {R c c' : Nat} (h : PgW g R c) (hc : c ≤ c') : PgW g R c' := ⟨h.room, h.edge, Nat.le_trans h.len hc, h.kinds, h.apart⟩
theorem PgW.kind {g : PgS} {R c : Nat} (h : PgW g R c) {a : Int} (ha : inB a = true) : g.kind a = ((pval g a).map (·.1)).getD 0 := by
  unfold PgS.kind pval
  have := inB_iff.1 ha
  rw [if_neg (by rw [ha]; simp), if_neg (by rw [h.edge]; omega)]
theorem PgW.kind_some {g : PgS} {R c : Nat} (h : PgW g R c) {a : Int} (ha : inB a = true) {v : Int × ByteArray} (hv : pval g a = some v) : g.kind a = v.1 ∧ (v.1 = 1 ∨ v.1 = 2) := by
  rw [h.kind ha, hv]
  exact ⟨rfl, h.kinds _ (mem_of_get hv)⟩
theorem PgW.kind_none {g : PgS} {R c : Nat} (h : PgW g R c) {a : Int} (ha : inB a = true) (hv : pval g a = none) : g.kind a = 0 := by
  rw [h.kind ha, hv]; rfl
theorem PgW.put {g : PgS} {R c : Nat} (h : PgW g R c) {a : Int} (hc : c < R) (hv : pval g a = none) {k : Int} (hk : k = 1 ∨ k = 2) (d : ByteArray) : (g.put a (k, d)).1 = 0 ∧ PgW (g.put a (k, d)).2 R (c + 1) ∧ ∀ b, pval (g.put a (k, d)).2 b = if b = a then some (k, d) else pval g b := by
  unfold PgS.put
  have := h.len
  have := h.room
  rw [if_neg (by omega)]
  refine ⟨rfl, ⟨h.room, h.edge, by simp only [List.length_append, List.length_cons, List.length_nil]; omega, fun p hp => ?_, ?_⟩, fun b => get_snoc _ _ _ _ hv⟩
  · rcases List.mem_append.1 hp with hp | hp
    · exact h.kinds p hp
    · rw [List.mem_singleton.1 hp]; exact hk
  · simp only [List.map_append, List.map_cons, List.map_nil]
    rw [List.nodup_append]
    refine ⟨h.apart, by simp, ?_⟩
    intro x hx y hy
    simp only [List.mem_singleton] at hy
    subst hy
    obtain ⟨p, hp, rfl⟩ := List.mem_map.1 hx
    exact get_none_of hv p hp
theorem PgW.write {g : PgS} {R c : Nat} (h : PgW g R c) {a : Int} (ha : inB a = true) {d : ByteArray} (hd : d.size ≤ 4096) : g.write a d = if (pval g a).isSome then (41, g) else g.put a (1, d) := by
  have := inB_iff.1 ha
  unfold PgS.write
  rw [if_neg (by rw [ha]; simp), if_neg (by omega), if_neg (by rw [h.edge]; omega)]
  cases hv : pval g a with
  | none => rw [if_neg (by rw [h.kind_none ha hv]; simp)]; rfl
  | some v => rw [if_pos (by have := h.kind_some ha hv; omega)]; rfl
theorem PgW.fill {g : PgS} {R c : Nat} (h : PgW g R c) {a : Int} (ha : inB a = true) : g.fill a = match pval g a with | none => g.put a (2, ⟨#[]⟩) | some v => (if v.1 = 2 then 0 else 41, g) := by
  unfold PgS.fill
  rw [if_neg (by rw [ha]; simp)]
  cases hv : pval g a with
  | none => rw [h.kind_none ha hv, if_neg (by decide), if_neg (by decide), if_neg (by decide)]
  | some v =>
    obtain ⟨h1, h2⟩ := h.kind_some ha hv
    rw [h1]
    rcases h2 with h2 | h2
    · rw [h2, if_neg (by decide), if_neg (by decide), if_pos rfl]; show _ = (if v.1 = 2 then (0 : Int) else 41, g); rw [if_neg (by rw [h2]; decide)]
    · rw [h2, if_neg (by decide), if_pos rfl]; show _ = (if v.1 = 2 then (0 : Int) else 41, g); rw [if_pos h2]
theorem PgW.read {g : PgS} {R c : Nat} (h : PgW g R c) {a : Int} (ha : inB a = true) : g.read a = match pval g a with | none => (⟨#[]⟩, 42) | some v => if v.1 = 2 then (⟨#[]⟩, 46) else (v.2, 0) := by
  unfold PgS.read
  rw [if_neg (by rw [ha]; simp)]
  cases hv : pval g a with
  | none => rw [h.kind_none ha hv, if_neg (by decide), if_pos rfl]
  | some v =>
    obtain ⟨h1, h2⟩ := h.kind_some ha hv
    rw [h1]
    have ht : g.text a = v.2 := by unfold PgS.text; rw [show get g.m a = some v from hv]; rfl
    rcases h2 with h2 | h2
    · rw [h2, if_neg (by decide), if_neg (by decide), if_neg (by decide), ht]; show _ = (if v.1 = 2 then ((⟨#[]⟩ : ByteArray), (46 : Int)) else (v.2, 0)); rw [if_neg (by rw [h2]; decide)]
    · rw [h2, if_neg (by decide), if_neg (by decide), if_pos rfl]; show _ = (if v.1 = 2 then ((⟨#[]⟩ : ByteArray), (46 : Int)) else (v.2, 0)); rw [if_pos h2]
abbrev Pgs := Nat → Int → Option (Int × ByteArray)
def setPg (M : Pgs) (u : Nat) (a : Int) (v : Int × ByteArray) : Pgs := fun j b => if j = u ∧ b = a then some v else M j b
theorem setPg_at (M : Pgs) (u : Nat) (a : Int) (v : Int × ByteArray) : setPg M u a v u a = some v := by unfold setPg; rw [if_pos ⟨rfl, rfl⟩]
theorem hear_tok {s : ApS} (h : s.at = 2) {x : AnS} (hx : x.code = 0) (ho : (ofP s.p x.n).2.2 = true) : s.hear x true = { s with «at» := 3, i := 0, addr := x.n } := by
  unfold ApS.hear
  rw [if_neg (by omega), if_neg (by simp), if_neg (by omega), if_neg (by omega), if_neg (by omega), if_neg (by omega), if_neg (by omega), if_pos h, if_neg (by omega), if_pos ⟨hx, ho⟩]
theorem hear_ok3 {s : ApS} (h : s.at = 3) {x : AnS} (hx : x.code = 0) : s.hear x true = ({ s with perhaps := true } : ApS).next := by
  unfold ApS.hear
  rw [if_neg (by omega), if_neg (by simp), if_neg (by omega), if_neg (by omega), if_neg (by omega), if_neg (by omega), if_neg (by omega), if_neg (by omega), if_pos h, if_pos hx]
end Go.Proofs.YtghdhhbpbmhooaaGreat
