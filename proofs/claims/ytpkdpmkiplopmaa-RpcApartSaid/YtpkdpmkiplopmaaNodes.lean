import Derived.Test.YtpkdpmkiplopmaaUnit4
import Derived.Test.YtpkdpmkiplopmaaOrder3
import Derived.Test.YtpkdpmkiplopmaaLayout6
/- all nodes together: the program's -/
namespace Go.Proofs.Ytpkdpmkiplopmaa
open Go.RowKit Esch

structure NdS where
  units : Nat → UnS
  o : Ord
  l : LayS
structure NodesAt (w : World) (nb g cap ob lb lm T : Nat) (ub pb mb : Nat → Nat) (D : Nat → Nat) (s : NdS) : Prop where
  c0 : w.cell? ⟨nb, 0, none⟩ = some (.slice (some ⟨g, 0, none⟩) 16 cap)
  c1 : w.cell? ⟨nb, 1, none⟩ = some (.pointer (some ⟨ob, 0, none⟩))
  c2 : w.cell? ⟨nb, 2, none⟩ = some (.pointer (some ⟨lb, 0, none⟩))
  row : ∀ i, i < 16 → w.cell? ⟨g, i, none⟩ = some (.pointer (some ⟨ub i, 0, none⟩))
  unit : ∀ i, i < 16 → UnitAt w (ub i) (pb i) (mb i) (s.units i) ∧ (s.units i).pg.ok
  du : ∀ i, i < 16 → D (ub i) = i ∧ D (pb i) = i ∧ D (mb i) = i
  ord : OrdAt w ob s.o
  ook : s.o.ok
  dord : D ob = 16
  lay : LayAt (fun k => D k = 17) w lb lm T s.l
  lok : s.l.ok
  dn : D nb = 18
  dg : D g = 18
/-- nodes stay as they are where nothing of theirs is written -/
theorem NodesAt.mod {F : Nat → Prop} {w w' : World} {nb g cap ob lb lm T : Nat} {ub pb mb D : Nat → Nat} {s : NdS} (h : NodesAt w nb g cap ob lb lm T ub pb mb D s) (hM : Mod F w w') (hF : ∀ k, k < w.heap.size → D k ≤ 18 → ¬ F k) : NodesAt w' nb g cap ob lb lm T ub pb mb D s := by
  have hn := hF nb (cell_lt h.c0) (by rw [h.dn]; omega)
  have hg : ∀ i, i < 16 → ¬ F g := fun i hi => hF g (cell_lt (h.row i hi)) (by rw [h.dg]; omega)
  refine ⟨hM.at h.c0 hn, hM.at h.c1 hn, hM.at h.c2 hn, fun i hi => hM.at (h.row i hi) (hg i hi), fun i hi => ?_, h.du, h.ord.mod hM (hF ob h.ord.lt (by rw [h.dord]; omega)), h.ook, h.dord, h.lay.mod hM (fun k hk hl => hF k hl (by show D k ≤ 18; rw [show D k = 17 from hk]; omega)), h.lok, h.dn, h.dg⟩
  obtain ⟨d1, d2, d3⟩ := h.du i hi
  have hu := (h.unit i hi).1
  exact ⟨hu.mod hM (hF _ (cell_lt hu.c0) (by omega)) (hF _ (cell_lt hu.pages.c0) (by omega)) (hF _ hu.pages.mlt (by omega)), (h.unit i hi).2⟩
theorem NodesAt.below {w w' : World} {nb g cap ob lb lm T : Nat} {ub pb mb D : Nat → Nat} {s : NdS} (h : NodesAt w nb g cap ob lb lm T ub pb mb D s) (hB : Below w.heap.size w w') : NodesAt w' nb g cap ob lb lm T ub pb mb D s := h.mod (F := none') (Mod.of_below hB) (fun _ _ _ => id)
/-- a unit has changed -/
theorem NodesAt.setUnit {w w' : World} {nb g cap ob lb lm T i : Nat} {ub pb mb D : Nat → Nat} {s : NdS} {u : UnS} (h : NodesAt w nb g cap ob lb lm T ub pb mb D s) (hi : i < 16) (hu : UnitAt w' (ub i) (pb i) (mb i) u) (hok : u.pg.ok) (hM : Mod (fun k => k = ub i ∨ k = pb i ∨ k = mb i) w w') :
    NodesAt w' nb g cap ob lb lm T ub pb mb D { s with units := fun j => if j = i then u else s.units j } := by
  obtain ⟨d1, d2, d3⟩ := h.du i hi
  have hF : ∀ k, D k ≠ i → ¬ (k = ub i ∨ k = pb i ∨ k = mb i) := by
    rintro k hk (rfl | rfl | rfl)
    · exact hk d1
    · exact hk d2
    · exact hk d3
  have hn := hF nb (by rw [h.dn]; omega)
  have hg := hF g (by rw [h.dg]; omega)
  refine ⟨hM.at h.c0 hn, hM.at h.c1 hn, hM.at h.c2 hn, fun j hj => hM.at (h.row j hj) hg, fun j hj => ?_, h.du, h.ord.mod hM (hF ob (by rw [h.dord]; omega)), h.ook, h.dord, h.lay.mod hM (fun k hk _ => hF k (by rw [show D k = 17 from hk]; omega)), h.lok, h.dn, h.dg⟩
  by_cases e : j = i
  · subst e
    simp only [if_true]
    exact ⟨hu, hok⟩
  · simp only [if_neg e]
    obtain ⟨e1, e2, e3⟩ := h.du j hj
    have hj' := (h.unit j hj).1
    exact ⟨hj'.mod hM (hF _ (by omega)) (hF _ (by omega)) (hF _ (by omega)), (h.unit j hj).2⟩
theorem NodesAt.setOrd {w w' : World} {nb g cap ob lb lm T : Nat} {ub pb mb D : Nat → Nat} {s : NdS} {o : Ord} (h : NodesAt w nb g cap ob lb lm T ub pb mb D s) (ho : OrdAt w' ob o) (hok : o.ok) (hM : Mod (· = ob) w w') :
    NodesAt w' nb g cap ob lb lm T ub pb mb D { s with o := o } := by
  have hF : ∀ k, D k ≠ 16 → ¬ (k = ob) := fun k hk e => hk (by rw [e]; exact h.dord)
  have hn := hF nb (by rw [h.dn]; omega)
  have hg := hF g (by rw [h.dg]; omega)
  refine ⟨hM.at h.c0 hn, hM.at h.c1 hn, hM.at h.c2 hn, fun j hj => hM.at (h.row j hj) hg, fun j hj => ?_, h.du, ho, hok, h.dord, h.lay.mod hM (fun k hk _ => hF k (by rw [show D k = 17 from hk]; omega)), h.lok, h.dn, h.dg⟩
  obtain ⟨e1, e2, e3⟩ := h.du j hj
  have hj' := (h.unit j hj).1
  exact ⟨hj'.mod hM (hF _ (by omega)) (hF _ (by omega)) (hF _ (by omega)), (h.unit j hj).2⟩
/-- the layout has changed, and what is new is the layout's -/
theorem NodesAt.setLay {w w' : World} {nb g cap ob lb lm T T' : Nat} {ub pb mb D : Nat → Nat} {s : NdS} {l : LayS} (h : NodesAt w nb g cap ob lb lm T ub pb mb D s) (hl : LayAt (fun k => D k = 17 ∨ w.heap.size ≤ k) w' lb lm T' l) (hok : l.ok) (hM : Mod (fun j => j = lb ∨ j = lm) w w') :
    NodesAt w' nb g cap ob lb lm T' ub pb mb (fun k => if k < w.heap.size then D k else 17) { s with l := l } := by
  have hF : ∀ k, D k ≠ 17 → ¬ (k = lb ∨ k = lm) := by
    rintro k hk (rfl | rfl)
    · exact hk h.lay.sb
    · exact hk h.lay.sm
  have hn := hF nb (by rw [h.dn]; omega)
  have hg := hF g (by rw [h.dg]; omega)
  have hlt : ∀ {k : Nat}, k < w.heap.size → (if k < w.heap.size then D k else 17) = D k := fun hk => if_pos hk
  refine ⟨hM.at h.c0 hn, hM.at h.c1 hn, hM.at h.c2 hn, fun j hj => hM.at (h.row j hj) hg, fun j hj => ?_, fun j hj => ?_, h.ord.mod hM (hF ob (by rw [h.dord]; omega)), h.ook, ?_, hl.sub (fun k _ hk => ?_), hok, ?_, ?_⟩
  · obtain ⟨e1, e2, e3⟩ := h.du j hj
    have hj' := (h.unit j hj).1
    exact ⟨hj'.mod hM (hF _ (by omega)) (hF _ (by omega)) (hF _ (by omega)), (h.unit j hj).2⟩
  · have hj' := (h.unit j hj).1
    simp only [hlt (cell_lt hj'.c0), hlt (cell_lt hj'.pages.c0), hlt hj'.pages.mlt]
    exact h.du j hj
  · simp only [hlt h.ord.lt]; exact h.dord
  · show (if k < w.heap.size then D k else 17) = 17
    by_cases e : k < w.heap.size
    · rw [if_pos e]; rcases hk with hk | hk
      · exact hk
      · omega
    · rw [if_neg e]
  · simp only [hlt (cell_lt h.c0)]; exact h.dn
  · simp only [hlt (cell_lt (h.row 0 (by omega)))]; exact h.dg
end Go.Proofs.Ytpkdpmkiplopmaa
