/- the document's layout: Do, a change -/
import Derived.Test.YtnojjohkpkmliaaGreatRLay3
namespace Go.Proofs.YtnojjohkpkmliaaGreat
open Go.RowKit Esch

theorem boxAns (w : World) (T : TypeId) : ∃ W, W = w.alloc (.cells #[.int .i64 0, .int .i64 0, .string ⟨#[]⟩, .int .i64 0, .slice none 0 0, .int .i64 0, .int .i64 0, .int .i64 0] T) ∧ Below w.heap.size w W ∧ W.heap.size = w.heap.size + 1 ∧ W.heap[w.heap.size]? = some (.cells ans0 T (0, 0)) :=
  ⟨_, rfl, by (repeat (first | with_reducible exact (Below.refl _ _) | with_reducible refine Below.drew ?_ | with_reducible refine Esch.below_drewN ?_ _ | with_reducible refine Below.setCell ?_ (by first | omega | (simp; done) | (simp; omega)) _ | with_reducible refine Below.alloc ?_ (by first | omega | (simp; done) | (simp; omega)) _)), by simp, alloc_new w (.cells ans0 T)⟩
section
variable (k u e page z n : Int) (d : ByteArray) (q : Proj) (ca : Option Addr) (cc : Nat)
set_option maxRecDepth 100000 in
set_option maxHeartbeats 1000000 in
theorem rDo_10n (S S' : Nat → Prop) (w : World) (b : Nat) (s : LayS) (hs : s.ok) (h : RLayAt S w b s) (hq : ListsAt S' w ca q.chains) (hm : mayB s q = false) :
    Calls Tryz.prog 44 #[.pointer (some ⟨b, 0, none⟩), .agg #[.int .i64 10, .int .i64 u, .int .i64 e, .int .i64 page, .int .i64 z, .int .i64 n, .string d, .int .i64 q.epoch, .slice ca q.chains.length cc]] w (RDoPost S w b (layDo s 10 q page z n)) := by
  have hr : layDo s 10 q page z n = (⟨48, 0, s.p, 0, 0⟩, s) := by unfold layDo; rw [if_neg (by decide), if_pos rfl, hm]; rfl
  rw [hr]
  clear hr
  obtain ⟨W0, hW0, hB0, hz0, ⟨a0, a1, a2, a3, a4, a5, a6, a7, a8⟩, gb⟩ := askBox w 42 39 (.int .i64 10) (.int .i64 u) (.int .i64 e) (.int .i64 page) (.int .i64 z) (.int .i64 n) (.string d) (.int .i64 q.epoch) (.slice ca q.chains.length cc)
  have HW0 := Lib.hid hW0
  clear hW0
  have hL0 := (h.sub (S' := fun k => S k ∧ k < w.heap.size) (fun k hk hs => ⟨hs, hk⟩)).below hB0
  have c3 := hL0.c3
  have c4 := hL0.c4
  have c5 := hL0.c5
  have fb := hL0.fr
  have hbw := h.lt
  have hbz : b < W0.heap.size := by omega
  have HL0 := Lib.hid hL0
  have HL := Lib.hid h
  obtain ⟨W1, hW1, hB01, hz1, gx⟩ := boxAns W0 39
  have HW1 := Lib.hid hW1
  have hmy := rlayMay_any _ S' W1 b s q ca cc hs (hL0.below hB01) (hq.mod (Mod.of_below (F := none') (hB0.trans (hB01.mono (by omega)))) (fun _ _ _ => id))
  rw [hm] at hmy
  have Hs := Lib.hid hs
  obtain ⟨pa, pc, b1, hp⟩ := hL0.c1
  have b0 := hL0.c0
  have Hp := Lib.hid hp
  clear h hL0 fb hW1 hs hq hm hp
  go_enter Tryz.func44, Tryz.ntmps44
  go_wp2_with fail
  rw [← HW0.out]
  obtain ⟨pb, hpb⟩ : ∃ pb, pb = w.heap.size := ⟨_, rfl⟩
  rw [← hpb] at a0 a1 a2 a3 a4 a5 a6 a7 a8 gb ⊢
  have hpz : pb + 1 < W0.heap.size := by omega
  have hpw : w.heap.size ≤ pb := by omega
  have hpb1 : b < pb := by omega
  have Hpb := Lib.hid hpb
  clear hpb
  rw [← HW1.out]
  rw [show W0.heap.size = pb + 1 + 1 by omega] at gx
  refine hmy.mono ?_
  clear hmy
  rintro r w1 ⟨rfl, hB1⟩
  have hz2 := hB1.size
  have hpx : pb + 1 + 1 < W1.heap.size := by omega
  have hM01 : Mod (F := none') W0 w1 := Mod.of_below (hB01.trans (hB1.mono (by omega)))
  replace b0 := hM01.at b0 id
  replace b1 := hM01.at b1 id
  have x0' : w1.cell? ⟨pb + 1 + 1, 0, none⟩ = ans0[0]? := (ans_cells ((hB1.block (pb + 1 + 1) hpx).trans gx)).1 0
  have x1' : w1.cell? ⟨pb + 1 + 1, 1, none⟩ = ans0[1]? := (ans_cells ((hB1.block (pb + 1 + 1) hpx).trans gx)).1 1
  have x2' : w1.cell? ⟨pb + 1 + 1, 2, none⟩ = ans0[2]? := (ans_cells ((hB1.block (pb + 1 + 1) hpx).trans gx)).1 2
  have x3' : w1.cell? ⟨pb + 1 + 1, 3, none⟩ = ans0[3]? := (ans_cells ((hB1.block (pb + 1 + 1) hpx).trans gx)).1 3
  have x4' : w1.cell? ⟨pb + 1 + 1, 4, none⟩ = ans0[4]? := (ans_cells ((hB1.block (pb + 1 + 1) hpx).trans gx)).1 4
  have x5' : w1.cell? ⟨pb + 1 + 1, 5, none⟩ = ans0[5]? := (ans_cells ((hB1.block (pb + 1 + 1) hpx).trans gx)).1 5
  have x6' : w1.cell? ⟨pb + 1 + 1, 6, none⟩ = ans0[6]? := (ans_cells ((hB1.block (pb + 1 + 1) hpx).trans gx)).1 6
  have x7' : w1.cell? ⟨pb + 1 + 1, 7, none⟩ = ans0[7]? := (ans_cells ((hB1.block (pb + 1 + 1) hpx).trans gx)).1 7
  have fx0 : w1.frozen? ⟨pb + 1 + 1, 0, none⟩ = false := (ans_cells ((hB1.block (pb + 1 + 1) hpx).trans gx)).2 0
  have fx1 : w1.frozen? ⟨pb + 1 + 1, 1, none⟩ = false := (ans_cells ((hB1.block (pb + 1 + 1) hpx).trans gx)).2 1
  have fx2 : w1.frozen? ⟨pb + 1 + 1, 2, none⟩ = false := (ans_cells ((hB1.block (pb + 1 + 1) hpx).trans gx)).2 2
  have fx3 : w1.frozen? ⟨pb + 1 + 1, 3, none⟩ = false := (ans_cells ((hB1.block (pb + 1 + 1) hpx).trans gx)).2 3
  have fx4 : w1.frozen? ⟨pb + 1 + 1, 4, none⟩ = false := (ans_cells ((hB1.block (pb + 1 + 1) hpx).trans gx)).2 4
  have fx5 : w1.frozen? ⟨pb + 1 + 1, 5, none⟩ = false := (ans_cells ((hB1.block (pb + 1 + 1) hpx).trans gx)).2 5
  have fx6 : w1.frozen? ⟨pb + 1 + 1, 6, none⟩ = false := (ans_cells ((hB1.block (pb + 1 + 1) hpx).trans gx)).2 6
  have fx7 : w1.frozen? ⟨pb + 1 + 1, 7, none⟩ = false := (ans_cells ((hB1.block (pb + 1 + 1) hpx).trans gx)).2 7
  simp only [ans0, List.getElem?_toArray, List.getElem?_cons_zero, List.getElem?_cons_succ] at x0' x1' x2' x3' x4' x5' x6' x7'
  have y0' : (w1.setCell ⟨pb + 1 + 1, 0, none⟩ (.int .i64 48)).cell? ⟨pb + 1 + 1, 0, none⟩ = some (.int .i64 48) := by go_simp
  have y1' := (show (w1.setCell ⟨pb + 1 + 1, 0, none⟩ (.int .i64 48)).cell? ⟨pb + 1 + 1, 1, none⟩ = w1.cell? ⟨pb + 1 + 1, 1, none⟩ from by go_simp).trans x1'
  have y2' := (show (w1.setCell ⟨pb + 1 + 1, 0, none⟩ (.int .i64 48)).cell? ⟨pb + 1 + 1, 2, none⟩ = w1.cell? ⟨pb + 1 + 1, 2, none⟩ from by go_simp).trans x2'
  have y3' := (show (w1.setCell ⟨pb + 1 + 1, 0, none⟩ (.int .i64 48)).cell? ⟨pb + 1 + 1, 3, none⟩ = w1.cell? ⟨pb + 1 + 1, 3, none⟩ from by go_simp).trans x3'
  have y4' := (show (w1.setCell ⟨pb + 1 + 1, 0, none⟩ (.int .i64 48)).cell? ⟨pb + 1 + 1, 4, none⟩ = w1.cell? ⟨pb + 1 + 1, 4, none⟩ from by go_simp).trans x4'
  have y5' := (show (w1.setCell ⟨pb + 1 + 1, 0, none⟩ (.int .i64 48)).cell? ⟨pb + 1 + 1, 5, none⟩ = w1.cell? ⟨pb + 1 + 1, 5, none⟩ from by go_simp).trans x5'
  have y6' := (show (w1.setCell ⟨pb + 1 + 1, 0, none⟩ (.int .i64 48)).cell? ⟨pb + 1 + 1, 6, none⟩ = w1.cell? ⟨pb + 1 + 1, 6, none⟩ from by go_simp).trans x6'
  have y7' := (show (w1.setCell ⟨pb + 1 + 1, 0, none⟩ (.int .i64 48)).cell? ⟨pb + 1 + 1, 7, none⟩ = w1.cell? ⟨pb + 1 + 1, 7, none⟩ from by go_simp).trans x7'
  have hcp := copyK_any _ (w1.setCell ⟨pb + 1 + 1, 0, none⟩ (.int .i64 48)) s.p.epoch pa pc s.p.chains (good_small Hs.out.good) ((Hp.out.mod hM01 (fun _ _ _ => id)).mod (F := (· = pb + 1 + 1)) (by (repeat' (first | (with_reducible exact (Mod.refl _ _)) | (with_reducible apply Mod.drew) | (with_reducible apply Mod.drewN) | (with_reducible apply Mod.alloc) | (with_reducible apply Mod.setCellAt) | (intro _; first | rfl | exact Or.inl rfl | exact Or.inr rfl) | (intro h; exfalso; omega)))) (fun k hk _ e => by have := hk.1.2; omega))
  go_wp2_with fail
  refine hcp.mono ?_
  clear hcp
  rintro r w2 ⟨va, vc, rfl, hls, hB2⟩
  have hzs : (w1.setCell ⟨pb + 1 + 1, 0, none⟩ (.int .i64 48)).heap.size = w1.heap.size := by simp
  rw [hzs] at hB2 hls
  have hz3 := hB2.size
  rw [hzs] at hz3
  have z0' := below_at hB2 y0' (by omega)
  have z1' := below_at hB2 y1' (by omega)
  have z2' := below_at hB2 y2' (by omega)
  have z3' := below_at hB2 y3' (by omega)
  have z4' := below_at hB2 y4' (by omega)
  have z5' := below_at hB2 y5' (by omega)
  have z6' := below_at hB2 y6' (by omega)
  have z7' := below_at hB2 y7' (by omega)
  have fz0 : w2.frozen? ⟨pb + 1 + 1, 0, none⟩ = false := (hB2.frozen (p := ⟨pb + 1 + 1, 0, none⟩) (by show pb + 1 + 1 < w1.heap.size; omega)).trans ((World.frozen?_setCell _ _ _ _).trans fx0)
  have fz1 : w2.frozen? ⟨pb + 1 + 1, 1, none⟩ = false := (hB2.frozen (p := ⟨pb + 1 + 1, 1, none⟩) (by show pb + 1 + 1 < w1.heap.size; omega)).trans ((World.frozen?_setCell _ _ _ _).trans fx1)
  have fz2 : w2.frozen? ⟨pb + 1 + 1, 2, none⟩ = false := (hB2.frozen (p := ⟨pb + 1 + 1, 2, none⟩) (by show pb + 1 + 1 < w1.heap.size; omega)).trans ((World.frozen?_setCell _ _ _ _).trans fx2)
  have fz3 : w2.frozen? ⟨pb + 1 + 1, 3, none⟩ = false := (hB2.frozen (p := ⟨pb + 1 + 1, 3, none⟩) (by show pb + 1 + 1 < w1.heap.size; omega)).trans ((World.frozen?_setCell _ _ _ _).trans fx3)
  have fz4 : w2.frozen? ⟨pb + 1 + 1, 4, none⟩ = false := (hB2.frozen (p := ⟨pb + 1 + 1, 4, none⟩) (by show pb + 1 + 1 < w1.heap.size; omega)).trans ((World.frozen?_setCell _ _ _ _).trans fx4)
  have fz5 : w2.frozen? ⟨pb + 1 + 1, 5, none⟩ = false := (hB2.frozen (p := ⟨pb + 1 + 1, 5, none⟩) (by show pb + 1 + 1 < w1.heap.size; omega)).trans ((World.frozen?_setCell _ _ _ _).trans fx5)
  have fz6 : w2.frozen? ⟨pb + 1 + 1, 6, none⟩ = false := (hB2.frozen (p := ⟨pb + 1 + 1, 6, none⟩) (by show pb + 1 + 1 < w1.heap.size; omega)).trans ((World.frozen?_setCell _ _ _ _).trans fx6)
  have fz7 : w2.frozen? ⟨pb + 1 + 1, 7, none⟩ = false := (hB2.frozen (p := ⟨pb + 1 + 1, 7, none⟩) (by show pb + 1 + 1 < w1.heap.size; omega)).trans ((World.frozen?_setCell _ _ _ _).trans fx7)
  have hMx : Mod (· = pb + 1 + 1) W0 w2 := Mod.trans (b := w1.setCell ⟨pb + 1 + 1, 0, none⟩ (.int .i64 48)) (Mod.setCellAt (F := (· = pb + 1 + 1)) (hM01.mono (fun _ _ h => h.elim)) (fun _ => rfl) _) (Mod.of_below (by rw [hzs]; exact hB2))
  have g0' : w2.cell? ⟨pb + 1, 0, none⟩ = ans0[0]? := (ans_cells ((hMx.block (pb + 1) hpz (by omega)).trans gb)).1 0
  have g1' : w2.cell? ⟨pb + 1, 1, none⟩ = ans0[1]? := (ans_cells ((hMx.block (pb + 1) hpz (by omega)).trans gb)).1 1
  have g2' : w2.cell? ⟨pb + 1, 2, none⟩ = ans0[2]? := (ans_cells ((hMx.block (pb + 1) hpz (by omega)).trans gb)).1 2
  have g3' : w2.cell? ⟨pb + 1, 3, none⟩ = ans0[3]? := (ans_cells ((hMx.block (pb + 1) hpz (by omega)).trans gb)).1 3
  have g4' : w2.cell? ⟨pb + 1, 4, none⟩ = ans0[4]? := (ans_cells ((hMx.block (pb + 1) hpz (by omega)).trans gb)).1 4
  have g5' : w2.cell? ⟨pb + 1, 5, none⟩ = ans0[5]? := (ans_cells ((hMx.block (pb + 1) hpz (by omega)).trans gb)).1 5
  have g6' : w2.cell? ⟨pb + 1, 6, none⟩ = ans0[6]? := (ans_cells ((hMx.block (pb + 1) hpz (by omega)).trans gb)).1 6
  have g7' : w2.cell? ⟨pb + 1, 7, none⟩ = ans0[7]? := (ans_cells ((hMx.block (pb + 1) hpz (by omega)).trans gb)).1 7
  have f0' : w2.frozen? ⟨pb + 1, 0, none⟩ = false := (ans_cells ((hMx.block (pb + 1) hpz (by omega)).trans gb)).2 0
  have f1' : w2.frozen? ⟨pb + 1, 1, none⟩ = false := (ans_cells ((hMx.block (pb + 1) hpz (by omega)).trans gb)).2 1
  have f2' : w2.frozen? ⟨pb + 1, 2, none⟩ = false := (ans_cells ((hMx.block (pb + 1) hpz (by omega)).trans gb)).2 2
  have f3' : w2.frozen? ⟨pb + 1, 3, none⟩ = false := (ans_cells ((hMx.block (pb + 1) hpz (by omega)).trans gb)).2 3
  have f4' : w2.frozen? ⟨pb + 1, 4, none⟩ = false := (ans_cells ((hMx.block (pb + 1) hpz (by omega)).trans gb)).2 4
  have f5' : w2.frozen? ⟨pb + 1, 5, none⟩ = false := (ans_cells ((hMx.block (pb + 1) hpz (by omega)).trans gb)).2 5
  have f6' : w2.frozen? ⟨pb + 1, 6, none⟩ = false := (ans_cells ((hMx.block (pb + 1) hpz (by omega)).trans gb)).2 6
  have f7' : w2.frozen? ⟨pb + 1, 7, none⟩ = false := (ans_cells ((hMx.block (pb + 1) hpz (by omega)).trans gb)).2 7
  simp only [ans0, List.getElem?_toArray, List.getElem?_cons_zero, List.getElem?_cons_succ] at g0' g1' g2' g3' g4' g5' g6' g7'
  have hpz2 : pb + 1 < w2.heap.size := by have := hMx.size; omega
  have hbz2 : b < w2.heap.size := by have := hMx.size; omega
  have hBw2 : Below w.heap.size w w2 := hB0.trans (hMx.below_at (by omega) (fun k hk e => by omega))
  have HLS : Hid (ListsAt (From w1.heap.size) w2 va s.p.chains) := Lib.hid hls
  have hz4 : W0.heap.size < w1.heap.size := by omega
  clear hls hB1 hB2 hM01 hMx gb gx a0 a1 a2 a3 a4 a5 a6 a7 a8 x0' y0' fx0 x1' y1' fx1 x2' y2' fx2 x3' y3' fx3 x4' y4' fx4 x5' y5' fx5 x6' y6' fx6 x7' y7' fx7
  go_wp2_with fail
  refine bodyPost_ret (v := ansL ⟨48, 0, s.p, 0, 0⟩ va vc) (by simp only [results, Tryz.results44, ansL]; go_simp) rfl ?_
  refine ⟨va, vc, rfl, (HLS.out.mod (F := fun k => k = pb + 1 ∨ k = pb + 1 + 1) (by (repeat' (first | (with_reducible exact (Mod.refl _ _)) | (with_reducible apply Mod.drew) | (with_reducible apply Mod.drewN) | (with_reducible apply Mod.alloc) | (with_reducible apply Mod.setCellAt) | (intro _; first | rfl | exact Or.inl rfl | exact Or.inr rfl) | (intro h; exfalso; omega)))) ?_).sub ?_, HL.out.later (by (repeat (first | with_reducible exact hBw2 | with_reducible refine Below.drew ?_ | with_reducible refine Esch.below_drewN ?_ _ | with_reducible refine Below.setCell ?_ (by first | omega | (simp; done) | (simp; omega)) _ | with_reducible refine Below.alloc ?_ (by first | omega | (simp; done) | (simp; omega)) _))), Mod.of_below (by (repeat (first | with_reducible exact hBw2 | with_reducible refine Below.drew ?_ | with_reducible refine Esch.below_drewN ?_ _ | with_reducible refine Below.setCell ?_ (by first | omega | (simp; done) | (simp; omega)) _ | with_reducible refine Below.alloc ?_ (by first | omega | (simp; done) | (simp; omega)) _)))⟩
  · intro k hk _ e; have : w1.heap.size ≤ k := hk; omega
  · intro k _ hk; have : w1.heap.size ≤ k := hk; show w.heap.size ≤ k; omega
end
end Go.Proofs.YtnojjohkpkmliaaGreat
