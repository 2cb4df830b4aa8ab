/- what the laws of the nodes wake them by -/
import Derived.Test.YtnojjohkpkmliaaGreatPkNodes
namespace Go.Proofs.YtnojjohkpkmliaaGreat
open Go.RowKit Esch

theorem lit2n (w : World) (x y : Int) : ListsAt (From w.heap.size) ((w.alloc (.cells #[.int .i64 x, .int .i64 y] 3)).alloc (.cells #[.slice (some ⟨w.heap.size, 0, none⟩) 2 2] 65)) (some ⟨w.heap.size + 1, 0, none⟩) [[x, y]] := by
  refine ⟨by simp, fun _ => ⟨w.heap.size + 1, 0, rfl, by show w.heap.size ≤ _; omega, by simp, fun i hi => ?_⟩⟩
  simp only [List.length_cons, List.length_nil] at hi
  obtain rfl : i = 0 := by omega
  refine ⟨some ⟨w.heap.size, 0, none⟩, 2, by go_simp, ⟨by simp, fun _ => ⟨w.heap.size, 0, rfl, Nat.le_refl _, by simp only [World.size_alloc]; omega, fun j hj => ?_⟩⟩, by simp, by omega⟩
  simp only [List.getD_cons_zero, List.length_cons, List.length_nil] at hj
  have : j = 0 ∨ j = 1 := by omega
  rcases this with rfl | rfl
  · go_simp
  · go_simp

abbrev q13 : Proj := ⟨2, [[0, 1]]⟩
/-- a box of an answer -/
theorem ansBoxN (w : World) (T : TypeId) (x0 x1 x2 x3 x4 x5 x6 x7 : Value) : ∃ W, W = w.alloc (.cells #[x0, x1, x2, x3, x4, x5, x6, x7] T) ∧ Below w.heap.size w W ∧ W.heap.size = w.heap.size + 1 ∧
    W.cell? ⟨w.heap.size, 0, none⟩ = some x0 ∧ W.cell? ⟨w.heap.size, 1, none⟩ = some x1 ∧ W.cell? ⟨w.heap.size, 3, none⟩ = some x3 := ⟨_, rfl, by (repeat (first | with_reducible exact (Below.refl _ _) | with_reducible refine Below.drew ?_ | with_reducible refine Esch.below_drewN ?_ _ | with_reducible refine Below.setCell ?_ (by first | omega | (simp; done) | (simp; omega)) _ | with_reducible refine Below.alloc ?_ (by first | omega | (simp; done) | (simp; omega)) _)), by simp, by go_simp, by go_simp, by go_simp⟩

theorem wk13o : ordDo ⟨2, true, 0⟩ 6 2 0 = (0, 0, ⟨2, true, 1⟩) := rfl
def wk13u : UnS := ⟨⟨9, 0, [(0, (1, ⟨#[97]⟩))]⟩, 0, false⟩
theorem wk13d : (un0 9).do 1 2 0 ⟨#[97]⟩ = ((0, 0, ⟨#[]⟩, 0), wk13u) := by rfl
theorem wk13uok : wk13u.pg.ok := by
  have := (pg0_ok (show 9 ≤ 4096 by decide)).write_ok 0 ⟨#[97]⟩
  exact this
theorem wk13l (s : LayS) : layDo s 9 p0 0 0 0 = (⟨0, s.n, s.p, s.mark, s.size⟩, s) := by unfold layDo; rw [if_pos rfl]
set_option maxRecDepth 100000 in
set_option maxHeartbeats 2000000 in
theorem wakes13_any (w : World) : Calls Tryz.prog 7 #[] w fun e w' => e = .returned (.bool true) ∧ Below w.heap.size w w' := by
  go_enter Tryz.func7, Tryz.ntmps7
  go_wp2_with fail
  have hnew : Calls Tryz.prog 8 #[.agg #[.int .i64 2, .slice (some ⟨w.heap.size + 1, 0, none⟩) 1 1], .int .i64 9] _ (NdNew _ q13 9) := rpcNew_any _ _ q13 _ 1 9 (by decide) (lit2n w 0 1) (by decide) (by decide)
  refine hnew.mono ?_
  clear hnew
  rintro e w1 ⟨nb, g, cap, ob, lb, lm, ub, pb, mb, D, rfl, hN, hD, hB1⟩
  simp only [World.size_alloc] at hB1 hD
  have hz1 := hB1.size
  have hBw1 : Below w.heap.size w w1 := (((Below.refl _ w).alloc (Nat.le_refl _) _).alloc (by simp) _).trans (hB1.mono (by omega))
  clear hB1
  go_wp2_with fail
  have hd1 := rpcDo_ord 0 2 0 0 0 0 ⟨#[]⟩ none 0 0 hN 6 (by decide)
  rw [show ordDo (nd0 q13 9).o 6 2 0 = (0, 0, ⟨2, true, 1⟩) from wk13o] at hd1
  refine hd1.mono ?_
  clear hd1
  rintro e w2 ⟨rfl, hO2, hM2⟩
  have hz2 := hM2.size
  have hN2 := hN.setOrd hO2 (by unfold Ord.ok; decide) hM2
  have hBw2 : Below w.heap.size w w2 := hBw1.trans (hM2.below_at hBw1.size (fun k hk e => by have := hD k (by omega); rw [e, hN.dord] at this; omega))
  simp only [ansV]
  clear hO2 hM2 hN
  go_wp2_with fail
  obtain ⟨W2, hW2, hBW2, hzW2, a0, a1, -⟩ := ansBoxN w2 39 (.int .i64 0) (.int .i64 0) (.string ⟨#[]⟩) (.int .i64 0) (.slice none 0 0) (.int .i64 0) (.int .i64 0) (.int .i64 2)
  rw [← hW2]
  clear hW2
  have k1 := cell_lt (hN2.unit 1 (by decide)).1.c0
  have k2 := cell_lt (hN2.unit 1 (by decide)).1.pages.c0
  have k3 := (hN2.unit 1 (by decide)).1.pages.mlt
  have k4 := hN2.lay.lt
  have k5 := hN2.lay.map.lt
  have hN2 := hN2.below hBW2
  have hBw2a := hBw2.trans (hBW2.mono hBw2.size)
  have hd2 : Calls Tryz.prog 12 #[.pointer (some ⟨nb, 0, none⟩), .agg #[.int .i64 1, .int .i64 1, .int .i64 2, .int .i64 0, .int .i64 0, .int .i64 0, .string ⟨#[97]⟩, .int .i64 0, .slice none 0 0]] W2 _ := rpcDo_unit 2 0 0 0 0 ⟨#[97]⟩ none 0 0 hN2 1 (by decide) 1 (by decide) (by decide)
  rw [show ((nd0 q13 9).units 1).do 1 2 0 ⟨#[97]⟩ = ((0, 0, ⟨#[]⟩, 0), wk13u) from wk13d] at hd2
  refine hd2.mono ?_
  clear hd2
  rintro e w3 ⟨rfl, hU3, hM3⟩
  have hz3 := hM3.size
  have hN3 := hN2.setUnit (i := 1) (by decide) hU3 wk13uok hM3
  obtain ⟨d1, d2, d3⟩ := hN2.du 1 (by decide)
  have hBw3 : Below w.heap.size w w3 := hBw2a.trans (hM3.below_at hBw2a.size (fun k hk e => by have := hD k (by omega); rcases e with rfl | rfl | rfl <;> omega))
  replace a0 := hM3.at a0 (by omega)
  replace a1 := hM3.at a1 (by omega)
  simp only [ansU]
  clear hU3 hM3 d1 d2 d3
  go_wp2_with fail
  obtain ⟨W3, hW3, hBW3, hzW3, b0, -, -⟩ := ansBoxN w3 39 (.int .i64 0) (.int .i64 0) (.string ⟨#[]⟩) (.int .i64 0) (.slice none 0 0) (.int .i64 0) (.int .i64 0) (.int .i64 0)
  rw [← hW3]
  clear hW3
  have hN3 := hN3.below hBW3
  have hBw3a := hBw3.trans (hBW3.mono hBw3.size)
  replace a0 := below_at hBW3 a0 (by omega)
  replace a1 := below_at hBW3 a1 (by omega)
  have hd3 : Calls Tryz.prog 12 #[.pointer (some ⟨nb, 0, none⟩), .agg #[.int .i64 9, .int .i64 0, .int .i64 0, .int .i64 0, .int .i64 0, .int .i64 0, .string ⟨#[]⟩, .int .i64 0, .slice none 0 0]] W3 _ := rpcDo_lay 0 0 0 0 0 ⟨#[]⟩ none 0 p0 hN3 (by omega) (fun _ => False) (ListsAt.nil _ _ _) (fun k h _ => h.elim) 9 (by decide)
  rw [wk13l] at hd3
  refine hd3.mono ?_
  clear hd3
  rintro e w4 ⟨a4, c4, rfl, -, hL4, hM4⟩
  have hz4 := hM4.size
  have hN4 := hN3.setLay hL4 hN3.lok hM4
  have hBw4 : Below w.heap.size w w4 := hBw3a.trans (hM4.below_at hBw3a.size (fun k hk e => by
    have := hD k (by omega)
    have s1 : D lb = 17 := hN3.lay.sb
    have s2 : D lm = 17 := hN3.lay.sm
    rcases e with rfl | rfl <;> omega))
  replace a0 := hM4.at a0 (by omega)
  replace a1 := hM4.at a1 (by omega)
  replace b0 := hM4.at b0 (by omega)
  simp only [ansL]
  clear hL4 hM4 hN3 hN2
  have hN5 : ∃ D' s', NodesAt w4 nb g cap ob lb lm (16 + 16) ub pb mb D' s' ∧ (s'.units 1).pg.m.length = 1 := ⟨_, _, hN4, rfl⟩
  have he4 : (nd0 q13 9).l.p.epoch = 2 := rfl
  have HN5 := Lib.hid hN5
  have r1 : w2.heap.size < w4.heap.size := by omega
  have r2 : w3.heap.size < w4.heap.size := by omega
  clear hN4 hN5
  go_wp2_with fail
  obtain ⟨D', s', hN, hu1⟩ := HN5.out
  obtain ⟨W4, hW4⟩ : ∃ W4, W4 = w4.alloc (.cells #[.int .i64 0, .int .i64 (nd0 q13 9).l.n, .string ⟨#[]⟩, .int .i64 2, .slice a4 (nd0 q13 9).l.p.chains.length c4, .int .i64 (nd0 q13 9).l.mark, .int .i64 (nd0 q13 9).l.size, .int .i64 0] 39) := ⟨_, rfl⟩
  have hB4a : Below w4.heap.size w4 W4 := by rw [hW4]; (repeat (first | with_reducible exact (Below.refl _ _) | with_reducible refine Below.drew ?_ | with_reducible refine Esch.below_drewN ?_ _ | with_reducible refine Below.setCell ?_ (by first | omega | (simp; done) | (simp; omega)) _ | with_reducible refine Below.alloc ?_ (by first | omega | (simp; done) | (simp; omega)) _))
  have hN := hN.below hB4a
  have hBw5 := hBw4.trans (hB4a.mono hBw4.size)
  rw [← hW4]
  have hun : Calls Tryz.prog 28 #[.pointer (some ⟨nb, 0, none⟩), .int .i64 1] W4 _ := rpcUnit_in hN 1 (by decide)
  clear hW4 hB4a
  refine hun.mono ?_
  clear hun
  rintro e w5 ⟨rfl, hM5⟩
  have hN5 := hN.mod hM5 (fun _ _ _ => id)
  have hpg := unPages_any w5 _ _ _ _ (hN5.unit 1 (by decide)).1
  go_wp2_with fail
  refine hpg.mono ?_
  clear hpg
  rintro e w6 ⟨rfl, rfl⟩
  have hus := pused_any w6 _ _ _ (hN5.unit 1 (by decide)).1.pages
  rw [hu1] at hus
  go_wp2_with fail
  refine hus.mono ?_
  clear hus
  rintro e w7 ⟨rfl, hM7⟩
  have hN7 := hN5.mod hM7 (fun _ _ _ => id)
  have hun2 := rpcUnit_out hN7 16 (by decide)
  clear hN hN5
  go_wp2_with fail
  refine hun2.mono ?_
  clear hun2
  rintro e w8 ⟨rfl, hM8⟩
  have hB8 : Below w.heap.size w w8 := hBw5.trans (((hM5.trans (hM7.trans hM8)).below).mono hBw5.size)
  go_wp2_with fail
  go_ret
  exact ⟨rfl, by (repeat (first | with_reducible exact hB8 | with_reducible refine Below.drew ?_ | with_reducible refine Esch.below_drewN ?_ _ | with_reducible refine Below.setCell ?_ (by first | omega | (simp; done) | (simp; omega)) _ | with_reducible refine Below.alloc ?_ (by first | omega | (simp; done) | (simp; omega)) _))⟩
end Go.Proofs.YtnojjohkpkmliaaGreat
