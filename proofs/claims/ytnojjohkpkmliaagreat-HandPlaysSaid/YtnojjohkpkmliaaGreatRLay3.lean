/- the document's layout: Do -/
import Derived.Test.YtnojjohkpkmliaaGreatRLay2
namespace Go.Proofs.YtnojjohkpkmliaaGreat
open Go.RowKit Esch

def RDoPost (S : Nat → Prop) (w : World) (b : Nat) (r : LayA × LayS) (e : Ending) (w' : World) : Prop := ∃ a c, e = .returned (ansL r.1 a c) ∧ ListsAt (From w.heap.size) w' a r.1.p.chains ∧ RLayAt (fun k => S k ∨ w.heap.size ≤ k) w' b r.2 ∧ Mod (· = b) w w'
theorem RLayAt.later {S : Nat → Prop} {w w' : World} {b : Nat} {s : LayS} (h : RLayAt S w b s) (hB : Below w.heap.size w w') : RLayAt (fun k => S k ∨ w.heap.size ≤ k) w' b s := (h.below hB).sub (fun _ _ h => Or.inl h)
section
variable (k u e page z n : Int) (d : ByteArray) (q : Proj) (ca : Option Addr) (cc : Nat)
set_option maxRecDepth 100000 in
set_option maxHeartbeats 1000000 in
theorem rDo_9 (S : Nat → Prop) (w : World) (b : Nat) (s : LayS) (hs : s.ok) (h : RLayAt S w b s) :
    Calls Tryz.prog 44 #[.pointer (some ⟨b, 0, none⟩), .agg #[.int .i64 9, .int .i64 u, .int .i64 e, .int .i64 page, .int .i64 z, .int .i64 n, .string d, .int .i64 q.epoch, .slice ca q.chains.length cc]] w (RDoPost S w b (layDo s 9 q page z n)) := by
  have hr : layDo s 9 q page z n = (⟨0, s.n, s.p, s.mark, s.size⟩, s) := rfl
  rw [hr]
  clear hr
  obtain ⟨W0, hW0, hB0, hz0, ⟨a0, a1, a2, a3, a4, a5, a6, a7, a8⟩, gb⟩ := askBox w 42 39 (.int .i64 9) (.int .i64 u) (.int .i64 e) (.int .i64 page) (.int .i64 z) (.int .i64 n) (.string d) (.int .i64 q.epoch) (.slice ca q.chains.length cc)
  have HW0 := Lib.hid hW0
  clear hW0
  have hL0 := (h.sub (S' := fun k => S k ∧ k < w.heap.size) (fun k hk hs => ⟨hs, hk⟩)).below hB0
  have c3 := hL0.c3
  have c4 := hL0.c4
  have c5 := hL0.c5
  have fb := hL0.fr
  have hbw := h.lt
  have hbz : b < W0.heap.size := by omega
  have HL0 := Lib.hid hL0
  have HL := Lib.hid h
  obtain ⟨pa, pc, c1, hp⟩ := hL0.c1
  have c0 := hL0.c0
  have hnw := copyK_any _ W0.drew s.p.epoch pa pc s.p.chains (good_small hs.good) (hp.mod (F := none') ((Mod.refl none' _).drew) (fun _ _ _ => id))
  clear h hL0 hs fb hp
  go_enter Tryz.func44, Tryz.ntmps44
  go_wp2_with fail
  rw [← HW0.out]
  obtain ⟨pb, hpb⟩ : ∃ pb, pb = w.heap.size := ⟨_, rfl⟩
  rw [← hpb] at a0 a1 a2 a3 a4 a5 a6 a7 a8 gb ⊢
  have hpz : pb + 1 < W0.heap.size := by omega
  have hpw : w.heap.size ≤ pb := by omega
  have hpb1 : b < pb := by omega
  have Hpb := Lib.hid hpb
  clear hpb
  have d0 : W0.drew.cell? ⟨b, 0, none⟩ = some (.int .i64 s.p.epoch) := c0
  have d1 : W0.drew.cell? ⟨b, 1, none⟩ = some (.slice pa s.p.chains.length pc) := c1
  have d3 : W0.drew.cell? ⟨b, 3, none⟩ = some (.int .i64 s.mark) := c3
  have d4 : W0.drew.cell? ⟨b, 4, none⟩ = some (.int .i64 s.size) := c4
  have d5 : W0.drew.cell? ⟨b, 5, none⟩ = some (.int .i64 s.n) := c5
  go_region_held3 (fun w' => w'.cell? ⟨b, 0, none⟩ = some (.int .i64 s.p.epoch) ∧ w'.cell? ⟨b, 1, none⟩ = some (.slice pa s.p.chains.length pc) ∧ w'.cell? ⟨b, 3, none⟩ = some (.int .i64 s.mark) ∧ w'.cell? ⟨b, 4, none⟩ = some (.int .i64 s.size) ∧ w'.cell? ⟨b, 5, none⟩ = some (.int .i64 s.n))
    (first
      | with_reducible exact ⟨d0, d1, d3, d4, d5⟩
      | with_reducible exact ⟨k0, k1, k3, k4, k5⟩
      | with_reducible exact ⟨Mod.at (F := (· = pb + 1)) (by (repeat' (first | (with_reducible exact (Mod.refl _ _)) | (with_reducible apply Mod.drew) | (with_reducible apply Mod.drewN) | (with_reducible apply Mod.alloc) | (with_reducible apply Mod.setCellAt) | (intro _; first | rfl | exact Or.inl rfl | exact Or.inr rfl) | (intro h; exfalso; omega)))) k0 (by omega), Mod.at (F := (· = pb + 1)) (by (repeat' (first | (with_reducible exact (Mod.refl _ _)) | (with_reducible apply Mod.drew) | (with_reducible apply Mod.drewN) | (with_reducible apply Mod.alloc) | (with_reducible apply Mod.setCellAt) | (intro _; first | rfl | exact Or.inl rfl | exact Or.inr rfl) | (intro h; exfalso; omega)))) k1 (by omega), Mod.at (F := (· = pb + 1)) (by (repeat' (first | (with_reducible exact (Mod.refl _ _)) | (with_reducible apply Mod.drew) | (with_reducible apply Mod.drewN) | (with_reducible apply Mod.alloc) | (with_reducible apply Mod.setCellAt) | (intro _; first | rfl | exact Or.inl rfl | exact Or.inr rfl) | (intro h; exfalso; omega)))) k3 (by omega), Mod.at (F := (· = pb + 1)) (by (repeat' (first | (with_reducible exact (Mod.refl _ _)) | (with_reducible apply Mod.drew) | (with_reducible apply Mod.drewN) | (with_reducible apply Mod.alloc) | (with_reducible apply Mod.setCellAt) | (intro _; first | rfl | exact Or.inl rfl | exact Or.inr rfl) | (intro h; exfalso; omega)))) k4 (by omega), Mod.at (F := (· = pb + 1)) (by (repeat' (first | (with_reducible exact (Mod.refl _ _)) | (with_reducible apply Mod.drew) | (with_reducible apply Mod.drewN) | (with_reducible apply Mod.alloc) | (with_reducible apply Mod.setCellAt) | (intro _; first | rfl | exact Or.inl rfl | exact Or.inr rfl) | (intro h; exfalso; omega)))) k5 (by omega)⟩)
    (first
      | (go_at_call 9; (with_reducible refine hnw.mono ?_); rintro e w1 ⟨va, vc, rfl, hls, hB1'⟩
         have hB1 : Below W0.heap.size W0 w1 := below_drew hB1'
         clear hB1'
         have g0' : w1.cell? ⟨pb + 1, 0, none⟩ = ans0[0]? := (ans_cells ((hB1.block (pb + 1) hpz).trans gb)).1 0
         have g1' : w1.cell? ⟨pb + 1, 1, none⟩ = ans0[1]? := (ans_cells ((hB1.block (pb + 1) hpz).trans gb)).1 1
         have g2' : w1.cell? ⟨pb + 1, 2, none⟩ = ans0[2]? := (ans_cells ((hB1.block (pb + 1) hpz).trans gb)).1 2
         have g3' : w1.cell? ⟨pb + 1, 3, none⟩ = ans0[3]? := (ans_cells ((hB1.block (pb + 1) hpz).trans gb)).1 3
         have g4' : w1.cell? ⟨pb + 1, 4, none⟩ = ans0[4]? := (ans_cells ((hB1.block (pb + 1) hpz).trans gb)).1 4
         have g5' : w1.cell? ⟨pb + 1, 5, none⟩ = ans0[5]? := (ans_cells ((hB1.block (pb + 1) hpz).trans gb)).1 5
         have g6' : w1.cell? ⟨pb + 1, 6, none⟩ = ans0[6]? := (ans_cells ((hB1.block (pb + 1) hpz).trans gb)).1 6
         have g7' : w1.cell? ⟨pb + 1, 7, none⟩ = ans0[7]? := (ans_cells ((hB1.block (pb + 1) hpz).trans gb)).1 7
         have f0' : w1.frozen? ⟨pb + 1, 0, none⟩ = false := (ans_cells ((hB1.block (pb + 1) hpz).trans gb)).2 0
         have f1' : w1.frozen? ⟨pb + 1, 1, none⟩ = false := (ans_cells ((hB1.block (pb + 1) hpz).trans gb)).2 1
         have f2' : w1.frozen? ⟨pb + 1, 2, none⟩ = false := (ans_cells ((hB1.block (pb + 1) hpz).trans gb)).2 2
         have f3' : w1.frozen? ⟨pb + 1, 3, none⟩ = false := (ans_cells ((hB1.block (pb + 1) hpz).trans gb)).2 3
         have f4' : w1.frozen? ⟨pb + 1, 4, none⟩ = false := (ans_cells ((hB1.block (pb + 1) hpz).trans gb)).2 4
         have f5' : w1.frozen? ⟨pb + 1, 5, none⟩ = false := (ans_cells ((hB1.block (pb + 1) hpz).trans gb)).2 5
         have f6' : w1.frozen? ⟨pb + 1, 6, none⟩ = false := (ans_cells ((hB1.block (pb + 1) hpz).trans gb)).2 6
         have f7' : w1.frozen? ⟨pb + 1, 7, none⟩ = false := (ans_cells ((hB1.block (pb + 1) hpz).trans gb)).2 7
         simp only [ans0, List.getElem?_toArray, List.getElem?_cons_zero, List.getElem?_cons_succ] at g0' g1' g2' g3' g4' g5' g6' g7'
         have hpz2 : pb + 1 < w1.heap.size := by have := hB1.size; omega
         have hbz2 : b < w1.heap.size := by have := hB1.size; omega
         have k0 := below_at hB1 c0 hbz
         have k1 := below_at hB1 c1 hbz
         have k3 := below_at hB1 c3 hbz
         have k4 := below_at hB1 c4 hbz
         have k5 := below_at hB1 c5 hbz
         clear a0 a1 a2 a3 a4 a5 a6 a7 a8 gb))
  have hBw1 := hB0.trans (hB1.mono (by omega))
  have HLS := Lib.hid hls
  clear hls
  go_wp2_with fail
  refine bodyPost_ret (v := ansL ⟨0, s.n, s.p, s.mark, s.size⟩ va vc) (by simp only [results, Tryz.results44, ansL]; go_simp) rfl ?_
  have hfin : ∀ W, Below W0.heap.size W0 W → Below w.heap.size w W := fun W h => hB0.trans (h.mono (by omega))
  refine ⟨va, vc, rfl, (HLS.out.mod (F := (· = pb + 1)) (by (repeat' (first | (with_reducible exact (Mod.refl _ _)) | (with_reducible apply Mod.drew) | (with_reducible apply Mod.drewN) | (with_reducible apply Mod.alloc) | (with_reducible apply Mod.setCellAt) | (intro _; first | rfl | exact Or.inl rfl | exact Or.inr rfl) | (intro h; exfalso; omega)))) ?_).sub ?_, HL.out.later (by (repeat (first | with_reducible exact hBw1 | with_reducible refine Below.drew ?_ | with_reducible refine Esch.below_drewN ?_ _ | with_reducible refine Below.setCell ?_ (by first | omega | (simp; done) | (simp; omega)) _ | with_reducible refine Below.alloc ?_ (by first | omega | (simp; done) | (simp; omega)) _))), Mod.of_below (by (repeat (first | with_reducible exact hBw1 | with_reducible refine Below.drew ?_ | with_reducible refine Esch.below_drewN ?_ _ | with_reducible refine Below.setCell ?_ (by first | omega | (simp; done) | (simp; omega)) _ | with_reducible refine Below.alloc ?_ (by first | omega | (simp; done) | (simp; omega)) _)))⟩
  · intro k hk _ e; have : W0.heap.size ≤ k := hk; omega
  · intro k _ hk; have : W0.heap.size ≤ k := hk; show w.heap.size ≤ k; omega

set_option maxRecDepth 100000 in
set_option maxHeartbeats 1000000 in
theorem rDo_other (S : Nat → Prop) (w : World) (b : Nat) (s : LayS) (h : RLayAt S w b s) (hk : k ≠ 9 ∧ k ≠ 10 ∧ k ≠ 11) :
    Calls Tryz.prog 44 #[.pointer (some ⟨b, 0, none⟩), .agg #[.int .i64 k, .int .i64 u, .int .i64 e, .int .i64 page, .int .i64 z, .int .i64 n, .string d, .int .i64 q.epoch, .slice ca q.chains.length cc]] w (RDoPost S w b (layDo s k q page z n)) := by
  obtain ⟨k1, k2, k3⟩ := hk
  have hr : layDo s k q page z n = (⟨1, 0, p0, 0, 0⟩, s) := by unfold layDo; rw [if_neg k1, if_neg k2, if_neg k3]
  rw [hr]
  clear hr
  have e1 : (k == 9) = false := by simp [k1]
  have e2 : (k == 10) = false := by simp [k2]
  have e3 : (k == 11) = false := by simp [k3]
  clear k1 k2 k3
  obtain ⟨W0, hW0, hB0, hz0, ⟨a0, a1, a2, a3, a4, a5, a6, a7, a8⟩, gb⟩ := askBox w 42 39 (.int .i64 k) (.int .i64 u) (.int .i64 e) (.int .i64 page) (.int .i64 z) (.int .i64 n) (.string d) (.int .i64 q.epoch) (.slice ca q.chains.length cc)
  have HW0 := Lib.hid hW0
  clear hW0
  have hL0 := (h.sub (S' := fun k => S k ∧ k < w.heap.size) (fun k hk hs => ⟨hs, hk⟩)).below hB0
  have c3 := hL0.c3
  have c4 := hL0.c4
  have c5 := hL0.c5
  have fb := hL0.fr
  have hbw := h.lt
  have hbz : b < W0.heap.size := by omega
  have HL0 := Lib.hid hL0
  have HL := Lib.hid h
  clear h hL0 fb c3 c4 c5
  go_enter Tryz.func44, Tryz.ntmps44
  go_wp2_with fail
  refine bodyPost_ret (v := ansL ⟨1, 0, p0, 0, 0⟩ none 0) (by simp only [results, Tryz.results44, ansL]; go_simp; try exact ⟨rfl, rfl⟩) rfl ?_
  exact ⟨none, 0, rfl, ListsAt.nil _ _ _, HL.out.later (by (repeat (first | with_reducible exact (Below.refl _ _) | with_reducible refine Below.drew ?_ | with_reducible refine Esch.below_drewN ?_ _ | with_reducible refine Below.setCell ?_ (by first | omega | (simp; done) | (simp; omega)) _ | with_reducible refine Below.alloc ?_ (by first | omega | (simp; done) | (simp; omega)) _))), Mod.of_below (by (repeat (first | with_reducible exact (Below.refl _ _) | with_reducible refine Below.drew ?_ | with_reducible refine Esch.below_drewN ?_ _ | with_reducible refine Below.setCell ?_ (by first | omega | (simp; done) | (simp; omega)) _ | with_reducible refine Below.alloc ?_ (by first | omega | (simp; done) | (simp; omega)) _)))⟩

set_option maxRecDepth 100000 in
set_option maxHeartbeats 1000000 in
theorem rDo_11b (S : Nat → Prop) (w : World) (b : Nat) (s : LayS) (h : RLayAt S w b s) (hm : markBad page z n) :
    Calls Tryz.prog 44 #[.pointer (some ⟨b, 0, none⟩), .agg #[.int .i64 11, .int .i64 u, .int .i64 e, .int .i64 page, .int .i64 z, .int .i64 n, .string d, .int .i64 q.epoch, .slice ca q.chains.length cc]] w (RDoPost S w b (layDo s 11 q page z n)) := by
  have hr : layDo s 11 q page z n = (⟨1, 0, p0, 0, 0⟩, s) := by unfold layDo; rw [if_neg (by decide), if_neg (by decide), if_pos rfl, if_pos hm]
  rw [hr]
  clear hr
  have hm' : page < 0 ∨ (0 ≤ page ∧ 16384 ≤ page) ∨ (0 ≤ page ∧ page < 16384 ∧ z < 1) ∨ (0 ≤ page ∧ page < 16384 ∧ 1 ≤ z ∧ 65536 < z) ∨ (0 ≤ page ∧ page < 16384 ∧ 1 ≤ z ∧ z ≤ 65536 ∧ n < 0) ∨ (0 ≤ page ∧ page < 16384 ∧ 1 ≤ z ∧ z ≤ 65536 ∧ 0 ≤ n ∧ 16384 < n) := by unfold markBad at hm; omega
  obtain ⟨W0, hW0, hB0, hz0, ⟨a0, a1, a2, a3, a4, a5, a6, a7, a8⟩, gb⟩ := askBox w 42 39 (.int .i64 11) (.int .i64 u) (.int .i64 e) (.int .i64 page) (.int .i64 z) (.int .i64 n) (.string d) (.int .i64 q.epoch) (.slice ca q.chains.length cc)
  have HW0 := Lib.hid hW0
  clear hW0
  have hL0 := (h.sub (S' := fun k => S k ∧ k < w.heap.size) (fun k hk hs => ⟨hs, hk⟩)).below hB0
  have c3 := hL0.c3
  have c4 := hL0.c4
  have c5 := hL0.c5
  have fb := hL0.fr
  have hbw := h.lt
  have hbz : b < W0.heap.size := by omega
  have HL0 := Lib.hid hL0
  have HL := Lib.hid h
  clear h hL0 fb hm c3 c4 c5
  rcases hm' with m1 | ⟨m1, m2⟩ | ⟨m1, m2, m3⟩ | ⟨m1, m2, m3, m4⟩ | ⟨m1, m2, m3, m4, m5⟩ | ⟨m1, m2, m3, m4, m5, m6⟩
  all_goals
    go_enter Tryz.func44, Tryz.ntmps44
    go_wp2_with fail
    refine bodyPost_ret (v := ansL ⟨1, 0, p0, 0, 0⟩ none 0) (by simp only [results, Tryz.results44, ansL]; go_simp; try exact ⟨rfl, rfl⟩) rfl ?_
    exact ⟨none, 0, rfl, ListsAt.nil _ _ _, HL.out.later (by (repeat (first | with_reducible exact (Below.refl _ _) | with_reducible refine Below.drew ?_ | with_reducible refine Esch.below_drewN ?_ _ | with_reducible refine Below.setCell ?_ (by first | omega | (simp; done) | (simp; omega)) _ | with_reducible refine Below.alloc ?_ (by first | omega | (simp; done) | (simp; omega)) _))), Mod.of_below (by (repeat (first | with_reducible exact (Below.refl _ _) | with_reducible refine Below.drew ?_ | with_reducible refine Esch.below_drewN ?_ _ | with_reducible refine Below.setCell ?_ (by first | omega | (simp; done) | (simp; omega)) _ | with_reducible refine Below.alloc ?_ (by first | omega | (simp; done) | (simp; omega)) _)))⟩

theorem RLayAt.setMark {S : Nat → Prop} {w : World} {b : Nat} {s : LayS} (h : RLayAt S w b s) (x y t : Int) :
    RLayAt S (((w.setCell ⟨b, 3, none⟩ (.int .i64 x)).setCell ⟨b, 4, none⟩ (.int .i64 y)).setCell ⟨b, 5, none⟩ (.int .i64 t)) b { s with mark := x, size := y, n := t } := by
  have hl := h.lt
  obtain ⟨a0, d0, x1, hl1⟩ := h.c1
  obtain ⟨a1, d1, x2, hl2, hcap⟩ := h.c2
  have c0 := h.c0
  have c3 := h.c3
  have c4 := h.c4
  have c5 := h.c5
  refine ⟨by go_simp, ⟨a0, d0, by go_simp, hl1.mod (F := (· = b)) (by (repeat' (first | (with_reducible exact (Mod.refl _ _)) | (with_reducible apply Mod.drew) | (with_reducible apply Mod.drewN) | (with_reducible apply Mod.alloc) | (with_reducible apply Mod.setCellAt) | (intro _; first | rfl | exact Or.inl rfl | exact Or.inr rfl) | (intro h; exfalso; omega)))) (fun k hk _ e => hk.2 e)⟩, ⟨a1, d1, by go_simp, hl2.mod (F := (· = b)) (by (repeat' (first | (with_reducible exact (Mod.refl _ _)) | (with_reducible apply Mod.drew) | (with_reducible apply Mod.drewN) | (with_reducible apply Mod.alloc) | (with_reducible apply Mod.setCellAt) | (intro _; first | rfl | exact Or.inl rfl | exact Or.inr rfl) | (intro h; exfalso; omega)))) (fun k hk _ e => hk.2 e), hcap⟩, by go_simp, by go_simp, by go_simp, fun o ho => ?_, h.sb⟩
  rw [World.frozen?_setCell, World.frozen?_setCell, World.frozen?_setCell]; exact h.fr o ho

set_option maxRecDepth 100000 in
set_option maxHeartbeats 1000000 in
theorem rDo_11n (S : Nat → Prop) (w : World) (b : Nat) (s : LayS) (h : RLayAt S w b s) (hm : ¬ markBad page z n) (hn : ¬ s.n < n) :
    Calls Tryz.prog 44 #[.pointer (some ⟨b, 0, none⟩), .agg #[.int .i64 11, .int .i64 u, .int .i64 e, .int .i64 page, .int .i64 z, .int .i64 n, .string d, .int .i64 q.epoch, .slice ca q.chains.length cc]] w (RDoPost S w b (layDo s 11 q page z n)) := by
  have hr : layDo s 11 q page z n = (⟨0, s.n, p0, s.mark, s.size⟩, s) := by unfold layDo; rw [if_neg (by decide), if_neg (by decide), if_pos rfl, if_neg hm, if_neg hn]
  rw [hr]
  clear hr
  obtain ⟨m1, m2, m3, m4, m5, m6⟩ : 0 ≤ page ∧ page < 16384 ∧ 1 ≤ z ∧ z ≤ 65536 ∧ 0 ≤ n ∧ n ≤ 16384 := by unfold markBad at hm; omega
  have hn' : n ≤ s.n := by omega
  obtain ⟨W0, hW0, hB0, hz0, ⟨a0, a1, a2, a3, a4, a5, a6, a7, a8⟩, gb⟩ := askBox w 42 39 (.int .i64 11) (.int .i64 u) (.int .i64 e) (.int .i64 page) (.int .i64 z) (.int .i64 n) (.string d) (.int .i64 q.epoch) (.slice ca q.chains.length cc)
  have HW0 := Lib.hid hW0
  clear hW0
  have hL0 := (h.sub (S' := fun k => S k ∧ k < w.heap.size) (fun k hk hs => ⟨hs, hk⟩)).below hB0
  have c3 := hL0.c3
  have c4 := hL0.c4
  have c5 := hL0.c5
  have fb := hL0.fr
  have hbw := h.lt
  have hbz : b < W0.heap.size := by omega
  have HL0 := Lib.hid hL0
  have HL := Lib.hid h
  clear h hL0 fb hm hn
  go_enter Tryz.func44, Tryz.ntmps44
  go_wp2_with fail
  rw [← HW0.out]
  obtain ⟨pb, hpb⟩ : ∃ pb, pb = w.heap.size := ⟨_, rfl⟩
  rw [← hpb] at a0 a1 a2 a3 a4 a5 a6 a7 a8 gb ⊢
  have hpz : pb + 1 < W0.heap.size := by omega
  have hpw : w.heap.size ≤ pb := by omega
  have hpb1 : b < pb := by omega
  have Hpb := Lib.hid hpb
  clear hpb
  have g0' : W0.cell? ⟨pb + 1, 0, none⟩ = ans0[0]? := (ans_cells gb).1 0
  have g1' : W0.cell? ⟨pb + 1, 1, none⟩ = ans0[1]? := (ans_cells gb).1 1
  have g2' : W0.cell? ⟨pb + 1, 2, none⟩ = ans0[2]? := (ans_cells gb).1 2
  have g3' : W0.cell? ⟨pb + 1, 3, none⟩ = ans0[3]? := (ans_cells gb).1 3
  have g4' : W0.cell? ⟨pb + 1, 4, none⟩ = ans0[4]? := (ans_cells gb).1 4
  have g5' : W0.cell? ⟨pb + 1, 5, none⟩ = ans0[5]? := (ans_cells gb).1 5
  have g6' : W0.cell? ⟨pb + 1, 6, none⟩ = ans0[6]? := (ans_cells gb).1 6
  have g7' : W0.cell? ⟨pb + 1, 7, none⟩ = ans0[7]? := (ans_cells gb).1 7
  have f0' : W0.frozen? ⟨pb + 1, 0, none⟩ = false := (ans_cells gb).2 0
  have f1' : W0.frozen? ⟨pb + 1, 1, none⟩ = false := (ans_cells gb).2 1
  have f2' : W0.frozen? ⟨pb + 1, 2, none⟩ = false := (ans_cells gb).2 2
  have f3' : W0.frozen? ⟨pb + 1, 3, none⟩ = false := (ans_cells gb).2 3
  have f4' : W0.frozen? ⟨pb + 1, 4, none⟩ = false := (ans_cells gb).2 4
  have f5' : W0.frozen? ⟨pb + 1, 5, none⟩ = false := (ans_cells gb).2 5
  have f6' : W0.frozen? ⟨pb + 1, 6, none⟩ = false := (ans_cells gb).2 6
  have f7' : W0.frozen? ⟨pb + 1, 7, none⟩ = false := (ans_cells gb).2 7
  simp only [ans0, List.getElem?_toArray, List.getElem?_cons_zero, List.getElem?_cons_succ] at g0' g1' g2' g3' g4' g5' g6' g7'
  go_quiet (fail)
  go_wp2_with fail
  refine region_tail 13 (by kernel_rfl) (by kernel_rfl) (fun T hT K hK => ?_)
  simp only [List.take_succ_cons, List.take_zero]
  repeat still_step
  refine wpStill_nil (hK _ ?_)
  clear hK
  simp only [List.drop_succ_cons, List.drop_zero] at hT
  subst hT
  go_wp2_with fail
  have hfin : Below w.heap.size w W0 := hB0
  refine bodyPost_ret (v := ansL ⟨0, s.n, p0, s.mark, s.size⟩ none 0) (by simp only [results, Tryz.results44, ansL]; go_simp; try exact ⟨rfl, rfl⟩) rfl ?_
  exact ⟨none, 0, rfl, ListsAt.nil _ _ _, HL.out.later (by (repeat (first | with_reducible exact hB0 | with_reducible refine Below.drew ?_ | with_reducible refine Esch.below_drewN ?_ _ | with_reducible refine Below.setCell ?_ (by first | omega | (simp; done) | (simp; omega)) _ | with_reducible refine Below.alloc ?_ (by first | omega | (simp; done) | (simp; omega)) _))), Mod.of_below (by (repeat (first | with_reducible exact hB0 | with_reducible refine Below.drew ?_ | with_reducible refine Esch.below_drewN ?_ _ | with_reducible refine Below.setCell ?_ (by first | omega | (simp; done) | (simp; omega)) _ | with_reducible refine Below.alloc ?_ (by first | omega | (simp; done) | (simp; omega)) _)))⟩

set_option maxRecDepth 100000 in
set_option maxHeartbeats 1000000 in
theorem rDo_11y (S : Nat → Prop) (w : World) (b : Nat) (s : LayS) (h : RLayAt S w b s) (hm : ¬ markBad page z n) (hn : s.n < n) :
    Calls Tryz.prog 44 #[.pointer (some ⟨b, 0, none⟩), .agg #[.int .i64 11, .int .i64 u, .int .i64 e, .int .i64 page, .int .i64 z, .int .i64 n, .string d, .int .i64 q.epoch, .slice ca q.chains.length cc]] w (RDoPost S w b (layDo s 11 q page z n)) := by
  have hr : layDo s 11 q page z n = (⟨0, n, p0, page, z⟩, { s with mark := page, size := z, n := n }) := by unfold layDo; rw [if_neg (by decide), if_neg (by decide), if_pos rfl, if_neg hm, if_pos hn]
  rw [hr]
  clear hr
  obtain ⟨m1, m2, m3, m4, m5, m6⟩ : 0 ≤ page ∧ page < 16384 ∧ 1 ≤ z ∧ z ≤ 65536 ∧ 0 ≤ n ∧ n ≤ 16384 := by unfold markBad at hm; omega
  obtain ⟨W0, hW0, hB0, hz0, ⟨a0, a1, a2, a3, a4, a5, a6, a7, a8⟩, gb⟩ := askBox w 42 39 (.int .i64 11) (.int .i64 u) (.int .i64 e) (.int .i64 page) (.int .i64 z) (.int .i64 n) (.string d) (.int .i64 q.epoch) (.slice ca q.chains.length cc)
  have HW0 := Lib.hid hW0
  clear hW0
  have hL0 := (h.sub (S' := fun k => S k ∧ k < w.heap.size) (fun k hk hs => ⟨hs, hk⟩)).below hB0
  have c3 := hL0.c3
  have c4 := hL0.c4
  have c5 := hL0.c5
  have fb := hL0.fr
  have hbw := h.lt
  have hbz : b < W0.heap.size := by omega
  have HL0 := Lib.hid hL0
  have HL := Lib.hid h
  have fb3 := fb 3 (by omega)
  have fb4 := fb 4 (by omega)
  have fb5 := fb 5 (by omega)
  clear h hL0 fb hm
  go_enter Tryz.func44, Tryz.ntmps44
  go_wp2_with fail
  rw [← HW0.out]
  obtain ⟨pb, hpb⟩ : ∃ pb, pb = w.heap.size := ⟨_, rfl⟩
  rw [← hpb] at a0 a1 a2 a3 a4 a5 a6 a7 a8 gb ⊢
  have hpz : pb + 1 < W0.heap.size := by omega
  have hpw : w.heap.size ≤ pb := by omega
  have hpb1 : b < pb := by omega
  have Hpb := Lib.hid hpb
  clear hpb
  have g0' : W0.cell? ⟨pb + 1, 0, none⟩ = ans0[0]? := (ans_cells gb).1 0
  have g1' : W0.cell? ⟨pb + 1, 1, none⟩ = ans0[1]? := (ans_cells gb).1 1
  have g2' : W0.cell? ⟨pb + 1, 2, none⟩ = ans0[2]? := (ans_cells gb).1 2
  have g3' : W0.cell? ⟨pb + 1, 3, none⟩ = ans0[3]? := (ans_cells gb).1 3
  have g4' : W0.cell? ⟨pb + 1, 4, none⟩ = ans0[4]? := (ans_cells gb).1 4
  have g5' : W0.cell? ⟨pb + 1, 5, none⟩ = ans0[5]? := (ans_cells gb).1 5
  have g6' : W0.cell? ⟨pb + 1, 6, none⟩ = ans0[6]? := (ans_cells gb).1 6
  have g7' : W0.cell? ⟨pb + 1, 7, none⟩ = ans0[7]? := (ans_cells gb).1 7
  have f0' : W0.frozen? ⟨pb + 1, 0, none⟩ = false := (ans_cells gb).2 0
  have f1' : W0.frozen? ⟨pb + 1, 1, none⟩ = false := (ans_cells gb).2 1
  have f2' : W0.frozen? ⟨pb + 1, 2, none⟩ = false := (ans_cells gb).2 2
  have f3' : W0.frozen? ⟨pb + 1, 3, none⟩ = false := (ans_cells gb).2 3
  have f4' : W0.frozen? ⟨pb + 1, 4, none⟩ = false := (ans_cells gb).2 4
  have f5' : W0.frozen? ⟨pb + 1, 5, none⟩ = false := (ans_cells gb).2 5
  have f6' : W0.frozen? ⟨pb + 1, 6, none⟩ = false := (ans_cells gb).2 6
  have f7' : W0.frozen? ⟨pb + 1, 7, none⟩ = false := (ans_cells gb).2 7
  simp only [ans0, List.getElem?_toArray, List.getElem?_cons_zero, List.getElem?_cons_succ] at g0' g1' g2' g3' g4' g5' g6' g7'
  go_quiet (fail)
  go_wp2_with fail
  go_region
  go_wp2_with fail
  refine region_tail 13 (by kernel_rfl) (by kernel_rfl) (fun T hT K hK => ?_)
  simp only [List.take_succ_cons, List.take_zero]
  repeat still_step
  refine wpStill_nil (hK _ ?_)
  clear hK
  simp only [List.drop_succ_cons, List.drop_zero] at hT
  subst hT
  go_wp2_with fail
  refine bodyPost_ret (v := ansL ⟨0, n, p0, page, z⟩ none 0) (by simp only [results, Tryz.results44, ansL]; go_simp; try exact ⟨rfl, rfl⟩) rfl ?_
  have hMf : ∀ m W, Mod (· = pb + 1) ((((W0.drewN m).setCell ⟨b, 3, none⟩ (.int .i64 page)).setCell ⟨b, 4, none⟩ (.int .i64 z)).setCell ⟨b, 5, none⟩ (.int .i64 n)) W → RLayAt (fun k => S k ∨ w.heap.size ≤ k) W b { s with mark := page, size := z, n := n } ∧ Mod (· = b) w W := by
    intro m W hF
    have h1 := (HL0.out.mod (F := none') ((Mod.refl none' W0).drewN m) (fun _ _ _ => id)).setMark page z n
    have h2 : Mod (· = b) w ((((W0.drewN m).setCell ⟨b, 3, none⟩ (.int .i64 page)).setCell ⟨b, 4, none⟩ (.int .i64 z)).setCell ⟨b, 5, none⟩ (.int .i64 n)) := by
      have h0 := Mod.of_below (F := (· = b)) hB0
      (repeat' (first | (with_reducible exact h0) | (with_reducible apply Mod.drew) | (with_reducible apply Mod.drewN) | (with_reducible apply Mod.alloc) | (with_reducible apply Mod.setCellAt) | (intro _; first | rfl | exact Or.inl rfl | exact Or.inr rfl) | (intro h; exfalso; omega)))
    refine ⟨(h1.mod hF ?_).sub (fun k _ hk => Or.inl hk.1), h2.trans' hF (fun k hk e => by omega)⟩
    intro k hk _ e
    have := hk.2
    omega
  exact ⟨none, 0, rfl, ListsAt.nil _ _ _, hMf _ _ (by (repeat' (first | (with_reducible exact (Mod.refl _ _)) | (with_reducible apply Mod.drew) | (with_reducible apply Mod.drewN) | (with_reducible apply Mod.alloc) | (with_reducible apply Mod.setCellAt) | (intro _; first | rfl | exact Or.inl rfl | exact Or.inr rfl) | (intro h; exfalso; omega))))⟩

end
end Go.Proofs.YtnojjohkpkmliaaGreat
