import Derived.Test.YtpkdpmkiplopmaaNodes3
import Derived.Test.YtpkdpmkiplopmaaDec
/- all nodes together: made -/
namespace Go.Proofs.Ytpkdpmkiplopmaa
open Go.RowKit Esch

def un0 (room : Nat) : UnS := ⟨pg0 room, 0, false⟩
/-- nodes that are being made, so far k units -/
structure NewAt (w : World) (nb ob lb lm room : Nat) (q : Proj) (k : Nat) (va : Option Addr) (vc : Nat) (xs : List Value) (ub pb mb D : Nat → Nat) (wr : World) : Prop where
  c0 : wr.cell? ⟨nb, 0, none⟩ = some (.slice va k vc)
  f0 : wr.frozen? ⟨nb, 0, none⟩ = false
  c1 : wr.cell? ⟨nb, 1, none⟩ = some (.pointer (some ⟨ob, 0, none⟩))
  c2 : wr.cell? ⟨nb, 2, none⟩ = some (.pointer (some ⟨lb, 0, none⟩))
  row : wr.ownsRow (nb + 1) 51 1 (.slice va k vc) k xs
  xlen : xs.length = k
  xat : ∀ i, i < k → xs[i]? = some (.pointer (some ⟨ub i, 0, none⟩))
  unit : ∀ i, i < k → UnitAt wr (ub i) (pb i) (mb i) (un0 room)
  du : ∀ i, i < k → D (ub i) = i ∧ D (pb i) = i ∧ D (mb i) = i
  own : ∀ j, (Value.slice va k vc).ownBlock = some j → D j = 18
  ord : OrdAt wr ob ⟨-1, false, 0⟩
  dord : D ob = 16
  lay : LayAt (fun k => D k = 17) wr lb lm 16 (lay0 q)
  dn : D nb = 18
  old : ∀ j, j < w.heap.size + 1 → D j = 99
  box : wr.cell? ⟨w.heap.size, 0, none⟩ = some (.int .i64 q.epoch)
  below : Below w.heap.size w wr
theorem NewAt.ownLt {w : World} {nb ob lb lm room : Nat} {q : Proj} {k : Nat} {va : Option Addr} {vc : Nat} {xs : List Value} {ub pb mb D : Nat → Nat} {wr : World} (h : NewAt w nb ob lb lm room q k va vc xs ub pb mb D wr) {j : Nat} (hj : (Value.slice va k vc).ownBlock = some j) : nb < j ∧ j < wr.heap.size := by
  rcases h.row.2 with ⟨e, -⟩ | ⟨g, cap, cur, e, hb, hg, -⟩
  · cases e; cases hj
  · cases e
    have hj : g = j := Option.some.inj hj
    subst hj
    exact ⟨hb, block_lt hg⟩
theorem NewAt.step {w : World} {nb ob lb lm room : Nat} {q : Proj} {k : Nat} {va : Option Addr} {vc : Nat} {xs : List Value} {ub pb mb D : Nat → Nat} {wr w5 w8 : World} {u p m gg cap : Nat} {o : Obj} (h : NewAt w nb ob lb lm room q k va vc xs ub pb mb D wr) (hk : k < 16)
    (hB5 : Below wr.heap.size wr w5) (hu : UnitAt w5 u p m (un0 room)) (hu1 : wr.heap.size ≤ u) (hp1 : wr.heap.size ≤ p) (hm1 : wr.heap.size ≤ m)
    (hown1 : w8.ownsRow (nb + 1) 51 1 (.slice (some ⟨gg, 0, none⟩) (k + 1) cap) (k + 1) (xs ++ [.pointer (some ⟨u, 0, none⟩)])) (hgrow : (w5.alloc o).grownBy w8 (Value.slice va k vc).ownBlock) (hat : (Value.slice va k vc).ownBlock = some gg ∨ gg = w5.heap.size + 1) :
    NewAt w nb ob lb lm room q (k + 1) (some ⟨gg, 0, none⟩) cap (xs ++ [.pointer (some ⟨u, 0, none⟩)]) (fun i => if i = k then u else ub i) (fun i => if i = k then p else pb i) (fun i => if i = k then m else mb i)
      (fun j => if j < wr.heap.size then D j else if j < w5.heap.size then k else 18) (w8.setCell ⟨nb, 0, none⟩ (.slice (some ⟨gg, 0, none⟩) (k + 1) cap)) := by
  have hz := hB5.size
  have hnl := cell_lt h.c0
  have hon : (Value.slice va k vc).ownBlock ≠ some nb := fun e => by have := (h.ownLt e).1; omega
  have hM5 : Mod (fun j => j = nb ∨ (Value.slice va k vc).ownBlock = some j) w5 (w8.setCell ⟨nb, 0, none⟩ (.slice (some ⟨gg, 0, none⟩) (k + 1) cap)) :=
    ((((Mod.refl (fun j => j = nb ∨ (Value.slice va k vc).ownBlock = some j) w5).alloc o).trans ((grown_mod2 hgrow).mono (fun _ _ h => Or.inr h))).setCellAt (fun _ => Or.inl rfl) _)
  have hM : Mod (fun j => j = nb ∨ (Value.slice va k vc).ownBlock = some j) wr (w8.setCell ⟨nb, 0, none⟩ (.slice (some ⟨gg, 0, none⟩) (k + 1) cap)) := (mod_none (Mod.of_below hB5)).trans hM5
  have hF : ∀ j, D j ≠ 18 → ¬ (j = nb ∨ (Value.slice va k vc).ownBlock = some j) := by
    rintro j hj (rfl | e)
    · exact hj h.dn
    · exact hj (h.own j e)
  have hF5 : ∀ j, wr.heap.size ≤ j → ¬ (j = nb ∨ (Value.slice va k vc).ownBlock = some j) := by
    rintro j hj (rfl | e)
    · omega
    · have := (h.ownLt e).2; omega
  have hlt : ∀ {j : Nat}, j < wr.heap.size → (if j < wr.heap.size then D j else if j < w5.heap.size then k else 18) = D j := fun hj => if_pos hj
  have hnew : ∀ {j : Nat}, wr.heap.size ≤ j → j < w5.heap.size → (if j < wr.heap.size then D j else if j < w5.heap.size then k else 18) = k := fun h1 h2 => by rw [if_neg (by omega), if_pos h2]
  have hgz := hgrow.size
  simp only [World.size_alloc] at hgz
  have c1 := hgrow
  have hgq : gg ≠ nb := by
    rcases hat with e | e
    · intro e'; exact hon (by rw [e, e'])
    · omega
  have n8 : nb < w8.heap.size := by omega
  have d1 : w8.cell? ⟨nb, 1, none⟩ = some (.pointer (some ⟨ob, 0, none⟩)) := grown_at hgrow hon ((cell_alloc_lt _ _ _ _ (by omega)).trans (below_at hB5 h.c1 hnl))
  have d2 : w8.cell? ⟨nb, 2, none⟩ = some (.pointer (some ⟨lb, 0, none⟩)) := grown_at hgrow hon ((cell_alloc_lt _ _ _ _ (by omega)).trans (below_at hB5 h.c2 hnl))
  have d0 : w8.cell? ⟨nb, 0, none⟩ = some (.slice va k vc) := grown_at hgrow hon ((cell_alloc_lt _ _ _ _ (by omega)).trans (below_at hB5 h.c0 hnl))
  have e0 : w8.frozen? ⟨nb, 0, none⟩ = false := (grown_fr hgrow hon (by rw [World.size_alloc]; omega)).trans ((frozen_alloc_lt _ _ _ _ (by omega)).trans ((hB5.frozen (p := ⟨nb, 0, none⟩) hnl).trans h.f0))
  have hul := cell_lt hu.c0
  have hpl := cell_lt hu.pages.c0
  have hml := hu.pages.mlt
  refine ⟨by go_simp, by go_simp, by go_simp, by go_simp, ?_, by simp [h.xlen], fun i hi => ?_, fun i hi => ?_, fun i hi => ?_, fun j hj => ?_, h.ord.mod hM (hF ob (by rw [h.dord]; omega)), ?_, ?_, ?_, fun j hj => ?_, hM.at h.box (hF _ (by rw [h.old _ (by omega)]; omega)), ?_⟩
  · refine hown1.kept (grownBy_set _ _ _ _) (Or.inr ?_)
    intro e; exact hgq (Option.some.inj e)
  · by_cases e : i = k
    · subst e
      rw [if_pos rfl, ← h.xlen]
      simp
    · rw [if_neg e, List.getElem?_append_left (by rw [h.xlen]; omega)]
      exact h.xat i (by omega)
  · by_cases e : i = k
    · subst e
      simp only [if_true]
      exact hu.mod hM5 (hF5 _ hu1) (hF5 _ hp1) (hF5 _ hm1)
    · simp only [if_neg e]
      obtain ⟨e1, e2, e3⟩ := h.du i (by omega)
      exact (h.unit i (by omega)).mod hM (hF _ (by omega)) (hF _ (by omega)) (hF _ (by omega))
  · by_cases e : i = k
    · subst e
      simp only [if_true]
      exact ⟨hnew hu1 hul, hnew hp1 hpl, hnew hm1 hml⟩
    · simp only [if_neg e]
      have hu' := h.unit i (by omega)
      rw [hlt (cell_lt hu'.c0), hlt (cell_lt hu'.pages.c0), hlt hu'.pages.mlt]
      exact h.du i (by omega)
  · have hj : gg = j := Option.some.inj hj
    subst hj
    rcases hat with e | e
    · rw [hlt (h.ownLt e).2]; exact h.own _ e
    · rw [if_neg (by omega), if_neg (by omega)]
  · rw [hlt h.ord.lt]; exact h.dord
  · refine LayAt.mod (h.lay.sub (fun j hj hd => ?_)) hM (fun j hj hl => hF j ?_)
    · show (if j < wr.heap.size then D j else if j < w5.heap.size then k else 18) = 17
      rw [hlt hj]; exact hd
    · have hj : (if j < wr.heap.size then D j else if j < w5.heap.size then k else 18) = 17 := hj
      rw [hlt hl] at hj
      omega
  · rw [hlt hnl]; exact h.dn
  · rw [hlt (by have := cell_lt h.box; omega)]; exact h.old j hj
  · exact h.below.trans (hM.below_at h.below.size (fun j hj e => by
      rcases e with rfl | e
      · have := h.old j (by omega); rw [h.dn] at this; omega
      · have := h.old j (by omega); rw [h.own j e] at this; omega))
end Go.Proofs.Ytpkdpmkiplopmaa
