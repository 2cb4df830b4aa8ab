/- the document's nodes: any question -/
import Derived.Test.YtnojjohkpkmliaaGreatRNodes2
import Derived.Test.YtnojjohkpkmliaaGreatPkNodes
namespace Go.Proofs.YtnojjohkpkmliaaGreat
open Go.RowKit Esch

structure RNd (w : World) (nb : Nat) (R : Nat → Prop) (T : Nat) (s : NdS) : Prop where
  at' : ∃ ob lb ub pb D, RNodesAt w nb ob lb ub pb D s ∧ ∀ k, D k ≤ 18 → R k
  lt : ∀ k, R k → k < w.heap.size
  used : s.l.used.length ≤ T
theorem RNd.mod {F R : Nat → Prop} {w w' : World} {nb T : Nat} {s : NdS} (h : RNd w nb R T s) (hM : Mod F w w') (hF : ∀ k, R k → ¬ F k) : RNd w' nb R T s := by
  obtain ⟨⟨ob, lb, ub, pb, D, hN, hD⟩, hl, hu⟩ := h
  exact ⟨⟨ob, lb, ub, pb, D, hN.mod hM (fun k hk => hF k (hD k hk)), hD⟩, fun k hk => Nat.lt_of_lt_of_le (hl k hk) hM.size, hu⟩
theorem RNd.below {R : Nat → Prop} {w w' : World} {nb T : Nat} {s : NdS} (h : RNd w nb R T s) (hB : Below w.heap.size w w') : RNd w' nb R T s := h.mod (F := none') (Mod.of_below hB) (fun _ _ => id)
theorem RNd.sub {R R' : Nat → Prop} {w : World} {nb T T' : Nat} {s : NdS} (h : RNd w nb R T s) (hR : ∀ k, R k → R' k) (hl : ∀ k, R' k → k < w.heap.size) (hT : T ≤ T') : RNd w nb R' T' s := by
  obtain ⟨⟨ob, lb, ub, pb, D, hN, hD⟩, -, hu⟩ := h
  exact ⟨⟨ob, lb, ub, pb, D, hN, fun k hk => hR k (hD k hk)⟩, hl, by omega⟩
theorem RNd.grow {R : Nat → Prop} {w w0 : World} {nb T T' : Nat} {s : NdS} (h : RNd w nb R T s) (hT : T ≤ T') : RNd w nb (grow R w0 w) T' s := h.sub (fun _ hk => Or.inl hk) (fun k hk => hk.elim (h.lt k) (·.2)) hT
def RNdPost (w : World) (nb : Nat) (R : Nat → Prop) (T : Nat) (r : AnS × NdS) (e : Ending) (w' : World) : Prop :=
  ∃ a c, e = .returned (aV r.1 a c) ∧ ListsAt (From w.heap.size) w' a r.1.p.chains ∧ RNd w' nb (grow R w w') (T + 16) r.2 ∧ Mod R w w'
theorem rNdDo_all {w : World} {nb T : Nat} {R : Nat → Prop} {s : NdS} (q : QS) (ca : Option Addr) (cc : Nat) (h : RNd w nb R T s) (hT : T ≤ 4000) (hd : q.data.size ≤ 9223372036854775807) (S' : Nat → Prop) (hq : ListsAt S' w ca q.p.chains) (hS : ∀ k, S' k → k < w.heap.size → ¬ R k) :
    Calls Tryz.prog 13 #[.pointer (some ⟨nb, 0, none⟩), qV q ca cc] w (RNdPost w nb R T (s.do q)) := by
  have h0 := h
  obtain ⟨⟨ob, lb, ub, pb, D, hN, hD⟩, hlt, hus⟩ := h
  by_cases hk : 1 ≤ q.kind ∧ q.kind ≤ 5
  · have hk' : q.kind = 1 ∨ q.kind = 2 ∨ q.kind = 3 ∨ q.kind = 4 ∨ q.kind = 5 := by omega
    by_cases hu : 0 ≤ q.unit ∧ q.unit < 16
    · obtain ⟨i, hqi⟩ : ∃ i : Nat, q.unit = i := ⟨q.unit.toNat, by omega⟩
      have hi : i < 16 := by omega
      rw [nd_unit hk hqi hi]
      simp only [qV]
      rw [hqi]
      have hok := UnS.do_good (hN.pok i hi) q.kind q.epoch q.page q.data
      obtain ⟨d1, d2⟩ := hN.du i hi
      refine (r13_unit q.epoch q.page q.size q.n q.p.epoch q.data ca q.p.chains.length cc hN i hi q.kind hk' hd).mono ?_
      rintro e w' ⟨rfl, hU', hM⟩
      have hz := hM.size
      have hM' : Mod R w w' := hM.mono (fun k _ e => by rcases e with rfl | rfl <;> exact hD _ (by omega))
      refine ⟨none, 0, rfl, ListsAt.nil _ _ _, ⟨⟨ob, lb, ub, pb, _, hN.setUnit hi hU' hok hM, fun k hk => ?_⟩, fun k hk => hk.elim (fun h => Nat.lt_of_lt_of_le (hlt k h) hz) (·.2), by show s.l.used.length ≤ T + 16; omega⟩, hM'⟩
      by_cases e : k < w.heap.size
      · simp only [if_pos e] at hk; exact Or.inl (hD k hk)
      · simp only [if_neg e] at hk
        by_cases e2 : k < w'.heap.size
        · exact Or.inr ⟨by omega, e2⟩
        · simp only [if_neg e2] at hk; omega
    · have hr : s.do q = (anE, s) := by unfold NdS.do; rw [if_pos hk, if_neg hu]
      rw [hr]
      refine (r13_out q.unit q.epoch q.page q.size q.n q.p.epoch q.data ca q.p.chains.length cc w nb (by omega) q.kind hk').mono ?_
      rintro e w' ⟨rfl, hB⟩
      exact ⟨none, 0, rfl, ListsAt.nil _ _ _, (h0.below hB).grow (by omega), Mod.of_below hB⟩
  · by_cases hk2 : 6 ≤ q.kind ∧ q.kind ≤ 8
    · have hr : s.do q = (⟨(ordDo s.o q.kind q.epoch q.page).1, (ordDo s.o q.kind q.epoch q.page).2.1, ⟨#[]⟩, p0, 0, 0, (ordDo s.o q.kind q.epoch q.page).2.2.epoch⟩, { s with o := (ordDo s.o q.kind q.epoch q.page).2.2 }) := by unfold NdS.do; rw [if_neg hk, if_pos hk2]
      rw [hr]
      refine (r13_ord q.unit q.epoch q.page q.size q.n q.p.epoch q.data ca q.p.chains.length cc hN q.kind (by omega)).mono ?_
      rintro e w' ⟨rfl, hO, hM⟩
      have hz := hM.size
      have hM' : Mod R w w' := hM.mono (fun k _ e => by subst e; exact hD _ (by rw [hN.dor]; omega))
      exact ⟨none, 0, rfl, ListsAt.nil _ _ _, ⟨⟨ob, lb, ub, pb, D, hN.setOrd hO (ordDo_ok hN.ook q.kind q.epoch q.page) hM, fun k hk => Or.inl (hD k hk)⟩, fun k hk => hk.elim (fun h => Nat.lt_of_lt_of_le (hlt k h) hz) (·.2), by show s.l.used.length ≤ T + 16; omega⟩, hM'⟩
    · by_cases hk3 : 9 ≤ q.kind ∧ q.kind ≤ 11
      · have hr : s.do q = (⟨(layDo s.l q.kind q.p q.page q.size q.n).1.code, (layDo s.l q.kind q.p q.page q.size q.n).1.n, ⟨#[]⟩, (layDo s.l q.kind q.p q.page q.size q.n).1.p, (layDo s.l q.kind q.p q.page q.size q.n).1.mark, (layDo s.l q.kind q.p q.page q.size q.n).1.size, 0⟩,
            { s with l := (layDo s.l q.kind q.p q.page q.size q.n).2 }) := by unfold NdS.do; rw [if_neg hk, if_neg hk2, if_pos hk3]
        rw [hr]
        refine (r13_lay q.unit q.epoch q.page q.size q.n q.data ca cc q.p hN (by omega) S' hq (fun k hk hl e => hS k hk hl (hD k (by omega))) q.kind (by omega)).mono ?_
        rintro e w' ⟨a, c, rfl, hl, hL, hM⟩
        have hz := hM.size
        have s1 : D lb = 17 := hN.lay.sb
        have hM' : Mod R w w' := hM.mono (fun k _ e => by subst e; exact hD _ (by omega))
        refine ⟨a, c, rfl, hl, ⟨⟨ob, lb, ub, pb, _, hN.setLay hL (layDo_ok hN.lok _ _ _ _ _) hM, fun k hk => ?_⟩, fun k hk => hk.elim (fun h => Nat.lt_of_lt_of_le (hlt k h) hz) (·.2), ?_⟩, hM'⟩
        · by_cases e : k < w.heap.size
          · simp only [if_pos e] at hk; exact Or.inl (hD k hk)
          · simp only [if_neg e] at hk
            by_cases e2 : k < w'.heap.size
            · exact Or.inr ⟨by omega, e2⟩
            · simp only [if_neg e2] at hk; omega
        · have := layDo_used s.l q.kind q.p q.page q.size q.n
          show (layDo s.l q.kind q.p q.page q.size q.n).2.used.length ≤ T + 16
          omega
      · have hr : s.do q = (anE, s) := by unfold NdS.do; rw [if_neg hk, if_neg hk2, if_neg hk3]
        rw [hr]
        refine (r13_no q.unit q.epoch q.page q.size q.n q.p.epoch q.data ca q.p.chains.length cc w nb q.kind (by omega)).mono ?_
        rintro e w' ⟨rfl, hB⟩
        exact ⟨none, 0, rfl, ListsAt.nil _ _ _, (h0.below hB).grow (by omega), Mod.of_below hB⟩
end Go.Proofs.YtnojjohkpkmliaaGreat
