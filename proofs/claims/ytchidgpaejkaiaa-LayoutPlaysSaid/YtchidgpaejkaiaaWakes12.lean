import Derived.Test.YtchidgpaejkaiaaLayout6
/- what the laws of the layout wake it by -/
namespace Go.Proofs.Ytchidgpaejkaiaa
open Go.RowKit Esch

theorem lit2 (w : World) (x y : Int) : ListsAt (From w.heap.size) ((w.alloc (.cells #[.int .i64 x, .int .i64 y] 3)).alloc (.cells #[.slice (some ⟨w.heap.size, 0, none⟩) 2 2] 45)) (some ⟨w.heap.size + 1, 0, none⟩) [[x, y]] := by
  refine ⟨by simp, fun _ => ⟨w.heap.size + 1, 0, rfl, by show w.heap.size ≤ _; omega, by simp, fun i hi => ?_⟩⟩
  simp only [List.length_cons, List.length_nil] at hi
  obtain rfl : i = 0 := by omega
  refine ⟨some ⟨w.heap.size, 0, none⟩, 2, by go_simp, ⟨by simp, fun _ => ⟨w.heap.size, 0, rfl, Nat.le_refl _, by simp only [World.size_alloc]; omega, fun j hj => ?_⟩⟩, by simp, by omega⟩
  simp only [List.getD_cons_zero, List.length_cons, List.length_nil] at hj
  have : j = 0 ∨ j = 1 := by omega
  rcases this with rfl | rfl
  · go_simp
  · go_simp

abbrev q0' : Proj := ⟨0, [[0, 1]]⟩
abbrev q1' : Proj := ⟨1, [[0, 2]]⟩
abbrev q2' : Proj := ⟨2, [[0, 1]]⟩
theorem wk1 : layDo (lay0 q0') 10 q1' 0 0 0 = (⟨0, 0, q1', 0, 0⟩, (lay0 q0').count q1') := by
  unfold layDo; rw [if_neg (by decide), if_pos rfl, if_pos (by decide)]
theorem wk2 : layDo ((lay0 q0').count q1') 10 q2' 0 0 0 = (⟨48, 0, q1', 0, 0⟩, (lay0 q0').count q1') := by
  unfold layDo; rw [if_neg (by decide), if_pos rfl, if_neg (by decide)]; rfl
def wk3s : LayS := { (lay0 q0').count q1' with mark := 3, size := 9, n := 2 }
theorem wk3 : layDo ((lay0 q0').count q1') 11 p0 3 9 2 = (⟨0, 2, p0, 3, 9⟩, wk3s) := by
  unfold layDo; rw [if_neg (by decide), if_neg (by decide), if_pos rfl, if_neg (by decide), if_pos (by decide)]; rfl
theorem wk4 : layDo wk3s 11 p0 7 9 2 = (⟨0, 2, p0, 3, 9⟩, wk3s) := by
  unfold layDo; rw [if_neg (by decide), if_neg (by decide), if_pos rfl, if_neg (by decide), if_neg (by decide)]; rfl
theorem wk_ok0 : (lay0 q0').ok := lay0_ok (by decide)
theorem wk_ok1 : ((lay0 q0').count q1').ok := wk_ok0.count (by decide)
theorem wk_ok3 : wk3s.ok := ⟨wk_ok1.good, wk_ok1.used, wk_ok1.has⟩
theorem wk_used : (unitsOf wk3s.used).length = 3 := by decide

/-- a box of an answer -/
theorem ansBoxed (w : World) (T : TypeId) (x0 x1 x2 x3 x4 x5 x6 x7 : Value) : ∃ W, W = w.alloc (.cells #[x0, x1, x2, x3, x4, x5, x6, x7] T) ∧ Below w.heap.size w W ∧ W.heap.size = w.heap.size + 1 ∧
    W.cell? ⟨w.heap.size, 0, none⟩ = some x0 ∧ W.cell? ⟨w.heap.size, 3, none⟩ = some x3 ∧ W.cell? ⟨w.heap.size, 5, none⟩ = some x5 := ⟨_, rfl, by (repeat (first | with_reducible exact (Below.refl _ _) | with_reducible refine Below.drew ?_ | with_reducible refine Esch.below_drewN ?_ _ | with_reducible refine Below.setCell ?_ (by first | omega | (simp; done) | (simp; omega)) _ | with_reducible refine Below.alloc ?_ (by first | omega | (simp; done) | (simp; omega)) _)), by simp, by go_simp, by go_simp, by go_simp⟩

set_option maxRecDepth 100000 in
set_option maxHeartbeats 2000000 in
theorem wakes12_any (w : World) : Calls Try.prog 13 #[] w fun e w' => e = .returned (.bool true) ∧ Below w.heap.size w w' := by
  go_enter Try.func13, Try.ntmps13
  go_wp2_with fail
  refine (layNew_any _ _ q0' _ _ (by decide) (lit2 _ 0 1)).mono ?_
  rintro e w1 ⟨b, mb, rfl, hL, hB1⟩
  simp only [World.size_alloc] at hB1 hL
  have hz1 := hB1.size
  have hBw1 : Below w.heap.size w w1 := (((Below.refl _ w).alloc (Nat.le_refl _) _).alloc (by simp) _).trans (hB1.mono (by omega))
  have hbw : w.heap.size ≤ b := by have : w.heap.size + 1 + 1 ≤ b := hL.sb; omega
  have hmw : w.heap.size ≤ mb := by have : w.heap.size + 1 + 1 ≤ mb := hL.sm; omega
  clear hB1
  go_wp2_with fail
  have hLw := hL.below (w' := (w1.alloc (.cells #[.int .i64 0, .int .i64 2] 3)).alloc (.cells #[.slice (some ⟨w1.heap.size, 0, none⟩) 2 2] 45)) (by (repeat (first | with_reducible exact (Below.refl _ _) | with_reducible refine Below.drew ?_ | with_reducible refine Esch.below_drewN ?_ _ | with_reducible refine Below.setCell ?_ (by first | omega | (simp; done) | (simp; omega)) _ | with_reducible refine Below.alloc ?_ (by first | omega | (simp; done) | (simp; omega)) _)))
  have hb1 := hL.lt
  have hm1 := hL.map.lt
  have hd1 := layDo_any 10 0 0 0 0 0 ⟨#[]⟩ q1' (some ⟨w1.heap.size + 1, 0, none⟩) 1 _ _ _ b mb _ _ wk_ok0 (by omega) hLw (lit2 w1 0 2) (fun k hk _ => by have : w1.heap.size ≤ k := hk; omega)
  rw [wk1] at hd1
  refine hd1.mono ?_
  clear hd1 hLw
  rintro e w2 ⟨a2, c2, rfl, -, hL2, hM2⟩
  have hz2 := hM2.size
  simp only [World.size_alloc] at hz2
  have hBw2 : Below w.heap.size w w2 := (show Below w.heap.size w _ from by (repeat (first | with_reducible exact hBw1 | with_reducible refine Below.drew ?_ | with_reducible refine Esch.below_drewN ?_ _ | with_reducible refine Below.setCell ?_ (by first | omega | (simp; done) | (simp; omega)) _ | with_reducible refine Below.alloc ?_ (by first | omega | (simp; done) | (simp; omega)) _))).trans (hM2.below_at (by simp only [World.size_alloc]; omega) (fun k hk e => by omega))
  simp only [ansL]
  go_wp2_with fail
  obtain ⟨W2, hW2, hBW2, hzW2, x0, -, -⟩ := ansBoxed w2 41 (.int .i64 0) (.int .i64 0) (.string ⟨#[]⟩) (.int .i64 1) (.slice a2 1 c2) (.int .i64 0) (.int .i64 0) (.int .i64 0)
  rw [← hW2]
  clear hW2
  have hLa := hL2.below hBW2
  have hBwa := hBw2.trans (hBW2.mono hBw2.size)
  have ha1 := hLa.lt
  have ha2 := hLa.map.lt
  have hLb := hLa.below (w' := (W2.alloc (.cells #[.int .i64 0, .int .i64 1] 3)).alloc (.cells #[.slice (some ⟨W2.heap.size, 0, none⟩) 2 2] 45)) (by (repeat (first | with_reducible exact (Below.refl _ _) | with_reducible refine Below.drew ?_ | with_reducible refine Esch.below_drewN ?_ _ | with_reducible refine Below.setCell ?_ (by first | omega | (simp; done) | (simp; omega)) _ | with_reducible refine Below.alloc ?_ (by first | omega | (simp; done) | (simp; omega)) _)))
  have hd2 := layDo_any 10 0 0 0 0 0 ⟨#[]⟩ q2' (some ⟨W2.heap.size + 1, 0, none⟩) 1 _ _ _ b mb _ _ wk_ok1 (by omega) hLb (lit2 W2 0 1) (fun k hk _ => by have : W2.heap.size ≤ k := hk; omega)
  rw [wk2, hzW2] at hd2
  refine hd2.mono ?_
  clear hd2 hLb hL2 hM2 hLa
  rintro e w3 ⟨a3, c3, rfl, -, hL3, hM3⟩
  have hz3 := hM3.size
  simp only [World.size_alloc] at hz3
  have hBw3 : Below w.heap.size w w3 := (show Below w.heap.size w _ from by (repeat (first | with_reducible exact hBwa | with_reducible refine Below.drew ?_ | with_reducible refine Esch.below_drewN ?_ _ | with_reducible refine Below.setCell ?_ (by first | omega | (simp; done) | (simp; omega)) _ | with_reducible refine Below.alloc ?_ (by first | omega | (simp; done) | (simp; omega)) _))).trans (hM3.below_at (by simp only [World.size_alloc]; omega) (fun k hk e => by omega))
  replace x0 := hM3.at (show World.cell? _ ⟨w2.heap.size, 0, none⟩ = _ from (cell_alloc_lt2 W2 _ _ _ _ (by omega)).trans x0) (by omega)
  simp only [ansL]
  go_wp2_with fail
  obtain ⟨W3, hW3, hBW3, hzW3, y0, y3, -⟩ := ansBoxed w3 41 (.int .i64 48) (.int .i64 0) (.string ⟨#[]⟩) (.int .i64 1) (.slice a3 1 c3) (.int .i64 0) (.int .i64 0) (.int .i64 0)
  rw [← hW3]
  clear hW3
  have hBwb := hBw3.trans (hBW3.mono hBw3.size)
  have hLc := hL3.below hBW3
  have hb1 := hLc.lt
  have hb2 := hLc.map.lt
  replace x0 := below_at hBW3 x0 (by omega)
  have hd3 := layDo_any 11 0 0 3 9 2 ⟨#[]⟩ p0 none 0 _ (fun _ => False) _ b mb _ _ wk_ok1 (by omega) hLc (ListsAt.nil _ _ _) (fun k hk _ => hk.elim)
  rw [wk3] at hd3
  refine hd3.mono ?_
  clear hd3 hL3 hM3 hLc
  rintro e w4 ⟨a4, c4, rfl, -, hL4, hM4⟩
  have hz4 := hM4.size
  have hBw4 : Below w.heap.size w w4 := hBwb.trans (hM4.below_at hBwb.size (fun k hk e => by omega))
  replace x0 := hM4.at x0 (by omega)
  replace y0 := hM4.at y0 (by omega)
  replace y3 := hM4.at y3 (by omega)
  simp only [ansL, p0, List.length_nil]
  go_wp2_with fail
  obtain ⟨W4, hW4, hBW4, hzW4, -, -, t5⟩ := ansBoxed w4 41 (.int .i64 0) (.int .i64 2) (.string ⟨#[]⟩) (.int .i64 0) (.slice a4 0 c4) (.int .i64 3) (.int .i64 9) (.int .i64 0)
  rw [← hW4]
  clear hW4
  have hBwc := hBw4.trans (hBW4.mono hBw4.size)
  have hLd := hL4.below hBW4
  have hc1 := hLd.lt
  have hc2 := hLd.map.lt
  replace x0 := below_at hBW4 x0 (by omega)
  replace y0 := below_at hBW4 y0 (by omega)
  replace y3 := below_at hBW4 y3 (by omega)
  have hd4 := layDo_any 11 0 0 7 9 2 ⟨#[]⟩ p0 none 0 _ (fun _ => False) _ b mb _ _ wk_ok3 (by omega) hLd (ListsAt.nil _ _ _) (fun k hk _ => hk.elim)
  rw [wk4] at hd4
  refine hd4.mono ?_
  clear hd4 hL4 hM4 hLd
  rintro e w5 ⟨a5, c5, rfl, -, hL5, hM5⟩
  have hz5 := hM5.size
  have hBw5 : Below w.heap.size w w5 := hBwc.trans (hM5.below_at hBwc.size (fun k hk e => by omega))
  replace x0 := hM5.at x0 (by omega)
  replace y0 := hM5.at y0 (by omega)
  replace y3 := hM5.at y3 (by omega)
  replace t5 := hM5.at t5 (by omega)
  simp only [ansL, p0, List.length_nil]
  have r1 : w2.heap.size < w5.heap.size := by omega
  have r2 : w3.heap.size < w5.heap.size := by omega
  have r3 : w4.heap.size < w5.heap.size := by omega
  have hus := layUsed_any _ _ b mb _ _ wk_ok3 (hL5.below (w' := w5.alloc (.cells #[.int .i64 0, .int .i64 2, .string ⟨#[]⟩, .int .i64 0, .slice a5 0 c5, .int .i64 3, .int .i64 9, .int .i64 0] 41)) (by (repeat (first | with_reducible exact (Below.refl _ _) | with_reducible refine Below.drew ?_ | with_reducible refine Esch.below_drewN ?_ _ | with_reducible refine Below.setCell ?_ (by first | omega | (simp; done) | (simp; omega)) _ | with_reducible refine Below.alloc ?_ (by first | omega | (simp; done) | (simp; omega)) _))))
  go_wp2_with fail
  refine hus.mono ?_
  clear hus
  rintro e w6 ⟨ua, uc, rfl, -, hB6, -⟩
  rw [wk_used]
  go_wp2_with fail
  go_ret
  have hBw6 := (show Below w.heap.size w _ from by (repeat (first | with_reducible exact hBw5 | with_reducible refine Below.drew ?_ | with_reducible refine Esch.below_drewN ?_ _ | with_reducible refine Below.setCell ?_ (by first | omega | (simp; done) | (simp; omega)) _ | with_reducible refine Below.alloc ?_ (by first | omega | (simp; done) | (simp; omega)) _))).trans (hB6.mono (by simp only [World.size_alloc]; omega))
  exact ⟨rfl, hBw6⟩
end Go.Proofs.Ytchidgpaejkaiaa
