/- the layout: its answers -/
import Derived.Test.YtghdhhbpbmhooaaGreatPkLay
namespace Go.Proofs.YtghdhhbpbmhooaaGreat
open Go.RowKit Esch

@[simp] def ansL (x : LayA) (a : Option Addr) (c : Nat) : Value := .agg #[.int .i64 x.code, .int .i64 x.n, .string ⟨#[]⟩, .int .i64 x.p.epoch, .slice a x.p.chains.length c, .int .i64 x.mark, .int .i64 x.size, .int .i64 0]
def LayDoPost (S : Nat → Prop) (w : World) (b mb T : Nat) (r : LayA × LayS) (e : Ending) (w' : World) : Prop := ∃ a c, e = .returned (ansL r.1 a c) ∧ ListsAt (From w.heap.size) w' a r.1.p.chains ∧ LayAt (fun k => S k ∨ w.heap.size ≤ k) w' b mb (T + 16) r.2 ∧ Mod (fun j => j = b ∨ j = mb) w w'
theorem LayAt.mono {S : Nat → Prop} {w : World} {b mb T T' : Nat} {s : LayS} (h : LayAt S w b mb T s) (hT : T ≤ T') : LayAt S w b mb T' s := ⟨h.c0, h.c1, h.c2, h.c3, h.c4, h.c5, h.fr, h.map.mono hT, h.ne, h.sb, h.sm⟩
theorem LayAt.later {S : Nat → Prop} {w w' : World} {b mb T : Nat} {s : LayS} (h : LayAt S w b mb T s) (hB : Below w.heap.size w w') : LayAt (fun k => S k ∨ w.heap.size ≤ k) w' b mb (T + 16) s := ((h.below hB).sub (fun _ _ h => Or.inl h)).mono (by omega)

def ans0 : Array Value := #[.int .i64 0, .int .i64 0, .string ⟨#[]⟩, .int .i64 0, .slice none 0 0, .int .i64 0, .int .i64 0, .int .i64 0]
/-- the boxes of a question and of its answer -/
theorem askBox (w : World) (T1 T2 : TypeId) (x0 x1 x2 x3 x4 x5 x6 x7 x8 : Value) : ∃ W0, W0 = (w.alloc (.cells #[x0, x1, x2, x3, x4, x5, x6, x7, x8] T1)).alloc (.cells #[.int .i64 0, .int .i64 0, .string ⟨#[]⟩, .int .i64 0, .slice none 0 0, .int .i64 0, .int .i64 0, .int .i64 0] T2) ∧ Below w.heap.size w W0 ∧ W0.heap.size = w.heap.size + 2 ∧
    (W0.cell? ⟨w.heap.size, 0, none⟩ = some x0 ∧ W0.cell? ⟨w.heap.size, 1, none⟩ = some x1 ∧ W0.cell? ⟨w.heap.size, 2, none⟩ = some x2 ∧ W0.cell? ⟨w.heap.size, 3, none⟩ = some x3 ∧ W0.cell? ⟨w.heap.size, 4, none⟩ = some x4 ∧ W0.cell? ⟨w.heap.size, 5, none⟩ = some x5 ∧ W0.cell? ⟨w.heap.size, 6, none⟩ = some x6 ∧ W0.cell? ⟨w.heap.size, 7, none⟩ = some x7 ∧ W0.cell? ⟨w.heap.size, 8, none⟩ = some x8) ∧ W0.heap[w.heap.size + 1]? = some (.cells ans0 T2 (0, 0)) :=
  ⟨_, rfl, by exact belC (Below.refl _ _), by simp, ⟨by go_simp, by go_simp, by go_simp, by go_simp, by go_simp, by go_simp, by go_simp, by go_simp, by go_simp⟩, by have := alloc_new (w.alloc (.cells #[x0, x1, x2, x3, x4, x5, x6, x7, x8] T1)) (.cells ans0 T2); rwa [World.size_alloc] at this⟩
theorem ans_cells {w : World} {b : Nat} {T : TypeId} (h : w.heap[b]? = some (.cells ans0 T (0, 0))) : (∀ o, w.cell? ⟨b, o, none⟩ = ans0[o]?) ∧ (∀ o, w.frozen? ⟨b, o, none⟩ = false) :=
  ⟨fun o => by simp [World.cell?, h], fun o => by simp [World.frozen?, h]⟩
section
variable (k u e page z n : Int) (d : ByteArray) (q : Proj) (ca : Option Addr) (cc : Nat)
set_option maxRecDepth 100000 in
set_option maxHeartbeats 1000000 in
theorem layDo_9 (S : Nat → Prop) (w : World) (b mb T : Nat) (s : LayS) (hs : s.ok) (h : LayAt S w b mb T s) :
    Calls Tryz.prog 95 #[.pointer (some ⟨b, 0, none⟩), .agg #[.int .i64 9, .int .i64 u, .int .i64 e, .int .i64 page, .int .i64 z, .int .i64 n, .string d, .int .i64 q.epoch, .slice ca q.chains.length cc]] w (LayDoPost S w b mb T (layDo s 9 q page z n)) := by
  have hr : layDo s 9 q page z n = (⟨0, s.n, s.p, s.mark, s.size⟩, s) := rfl
  rw [hr]
  clear hr
  obtain ⟨W0, hW0, hB0, hz0, ⟨a0, a1, a2, a3, a4, a5, a6, a7, a8⟩, gb⟩ := askBox w 34 49 (.int .i64 9) (.int .i64 u) (.int .i64 e) (.int .i64 page) (.int .i64 z) (.int .i64 n) (.string d) (.int .i64 q.epoch) (.slice ca q.chains.length cc)
  have HW0 := Lib.hid hW0
  clear hW0
  have hL0 := (h.sub (S' := fun k => S k ∧ k < w.heap.size) (fun k hk hs => ⟨hs, hk⟩)).below hB0
  have c3 := hL0.c3
  have c4 := hL0.c4
  have c5 := hL0.c5
  have fb := hL0.fr
  have hbw := h.lt
  have hmw := h.map.lt
  have hbz : b < W0.heap.size := by omega
  have HL0 := Lib.hid hL0
  have HL := Lib.hid h
  have hbm := h.ne
  have hnw := layNow_any _ W0.drew b mb T s hs (hL0.mod ((Mod.refl none' _).drew) (fun _ _ _ => id))
  clear h hL0 hs fb
  go_enter Tryz.func95, Tryz.ntmps95
  go_wp2_with fail
  rw [← HW0.out]
  obtain ⟨pb, hpb⟩ : ∃ pb, pb = w.heap.size := ⟨_, rfl⟩
  rw [← hpb] at a0 a1 a2 a3 a4 a5 a6 a7 a8 gb ⊢
  have hpz : pb + 1 < W0.heap.size := by omega
  have hpw : w.heap.size ≤ pb := by omega
  have hpb1 : b < pb := by omega
  have hpb2 : mb < pb := by omega
  have Hpb := Lib.hid hpb
  clear hpb
  have d3 : W0.drew.cell? ⟨b, 3, none⟩ = some (.int .i64 s.mark) := c3
  have d4 : W0.drew.cell? ⟨b, 4, none⟩ = some (.int .i64 s.size) := c4
  have d5 : W0.drew.cell? ⟨b, 5, none⟩ = some (.int .i64 s.n) := c5
  go_region_held3 (fun w' => w'.cell? ⟨b, 3, none⟩ = some (.int .i64 s.mark) ∧ w'.cell? ⟨b, 4, none⟩ = some (.int .i64 s.size) ∧ w'.cell? ⟨b, 5, none⟩ = some (.int .i64 s.n))
    (first
      | with_reducible exact ⟨d3, d4, d5⟩
      | with_reducible exact ⟨k3, k4, k5⟩
      | with_reducible exact ⟨Mod.at (F := (· = pb + 1)) (by exact modC (Mod.refl _ _)) k3 (by omega), Mod.at (F := (· = pb + 1)) (by exact modC (Mod.refl _ _)) k4 (by omega), Mod.at (F := (· = pb + 1)) (by exact modC (Mod.refl _ _)) k5 (by omega)⟩)
    (first
      | (go_at_call 29; (with_reducible refine hnw.mono ?_); rintro e w1 ⟨va, vc, rfl, hls, hB1'⟩
         have hB1 : Below W0.heap.size W0 w1 := below_drew hB1'
         clear hB1'
         have g0' : w1.cell? ⟨pb + 1, 0, none⟩ = ans0[0]? := (ans_cells ((hB1.block (pb + 1) hpz).trans gb)).1 0
         have g1' : w1.cell? ⟨pb + 1, 1, none⟩ = ans0[1]? := (ans_cells ((hB1.block (pb + 1) hpz).trans gb)).1 1
         have g2' : w1.cell? ⟨pb + 1, 2, none⟩ = ans0[2]? := (ans_cells ((hB1.block (pb + 1) hpz).trans gb)).1 2
         have g3' : w1.cell? ⟨pb + 1, 3, none⟩ = ans0[3]? := (ans_cells ((hB1.block (pb + 1) hpz).trans gb)).1 3
         have g4' : w1.cell? ⟨pb + 1, 4, none⟩ = ans0[4]? := (ans_cells ((hB1.block (pb + 1) hpz).trans gb)).1 4
         have g5' : w1.cell? ⟨pb + 1, 5, none⟩ = ans0[5]? := (ans_cells ((hB1.block (pb + 1) hpz).trans gb)).1 5
         have g6' : w1.cell? ⟨pb + 1, 6, none⟩ = ans0[6]? := (ans_cells ((hB1.block (pb + 1) hpz).trans gb)).1 6
         have g7' : w1.cell? ⟨pb + 1, 7, none⟩ = ans0[7]? := (ans_cells ((hB1.block (pb + 1) hpz).trans gb)).1 7
         have f0' : w1.frozen? ⟨pb + 1, 0, none⟩ = false := (ans_cells ((hB1.block (pb + 1) hpz).trans gb)).2 0
         have f1' : w1.frozen? ⟨pb + 1, 1, none⟩ = false := (ans_cells ((hB1.block (pb + 1) hpz).trans gb)).2 1
         have f2' : w1.frozen? ⟨pb + 1, 2, none⟩ = false := (ans_cells ((hB1.block (pb + 1) hpz).trans gb)).2 2
         have f3' : w1.frozen? ⟨pb + 1, 3, none⟩ = false := (ans_cells ((hB1.block (pb + 1) hpz).trans gb)).2 3
         have f4' : w1.frozen? ⟨pb + 1, 4, none⟩ = false := (ans_cells ((hB1.block (pb + 1) hpz).trans gb)).2 4
         have f5' : w1.frozen? ⟨pb + 1, 5, none⟩ = false := (ans_cells ((hB1.block (pb + 1) hpz).trans gb)).2 5
         have f6' : w1.frozen? ⟨pb + 1, 6, none⟩ = false := (ans_cells ((hB1.block (pb + 1) hpz).trans gb)).2 6
         have f7' : w1.frozen? ⟨pb + 1, 7, none⟩ = false := (ans_cells ((hB1.block (pb + 1) hpz).trans gb)).2 7
         simp only [ans0, List.getElem?_toArray, List.getElem?_cons_zero, List.getElem?_cons_succ] at g0' g1' g2' g3' g4' g5' g6' g7'
         have hpz2 : pb + 1 < w1.heap.size := by have := hB1.size; omega
         have hbz2 : b < w1.heap.size := by have := hB1.size; omega
         have k3 := below_at hB1 c3 hbz
         have k4 := below_at hB1 c4 hbz
         have k5 := below_at hB1 c5 hbz
         clear a0 a1 a2 a3 a4 a5 a6 a7 a8 gb))
  have hBw1 := hB0.trans (hB1.mono (by omega))
  have HLS := Lib.hid hls
  clear hls
  go_wp2_with fail
  refine bodyPost_ret (v := ansL ⟨0, s.n, s.p, s.mark, s.size⟩ va vc) (by simp only [results, Tryz.results95, ansL]; go_simp) rfl ?_
  have hfin : ∀ W, Below W0.heap.size W0 W → Below w.heap.size w W := fun W h => hB0.trans (h.mono (by omega))
  refine ⟨va, vc, rfl, (HLS.out.mod (F := (· = pb + 1)) (by exact modC (Mod.refl _ _)) ?_).sub ?_, HL.out.later (by exact belC hBw1), Mod.of_below (by exact belC hBw1)⟩
  · intro k hk _ e; have : W0.heap.size ≤ k := hk; omega
  · intro k _ hk; have : W0.heap.size ≤ k := hk; show w.heap.size ≤ k; omega

set_option maxRecDepth 100000 in
set_option maxHeartbeats 1000000 in
theorem layDo_10n (S S' : Nat → Prop) (w : World) (b mb T : Nat) (s : LayS) (hs : s.ok) (h : LayAt S w b mb T s) (hq : ListsAt S' w ca q.chains) (hm : mayB s q = false) :
    Calls Tryz.prog 95 #[.pointer (some ⟨b, 0, none⟩), .agg #[.int .i64 10, .int .i64 u, .int .i64 e, .int .i64 page, .int .i64 z, .int .i64 n, .string d, .int .i64 q.epoch, .slice ca q.chains.length cc]] w (LayDoPost S w b mb T (layDo s 10 q page z n)) := by
  have hr : layDo s 10 q page z n = (⟨48, 0, s.p, 0, 0⟩, s) := by unfold layDo; rw [if_neg (by decide), if_pos rfl, hm]; rfl
  rw [hr]
  clear hr
  obtain ⟨W0, hW0, hB0, hz0, ⟨a0, a1, a2, a3, a4, a5, a6, a7, a8⟩, gb⟩ := askBox w 34 49 (.int .i64 10) (.int .i64 u) (.int .i64 e) (.int .i64 page) (.int .i64 z) (.int .i64 n) (.string d) (.int .i64 q.epoch) (.slice ca q.chains.length cc)
  have HW0 := Lib.hid hW0
  clear hW0
  have hL0 := (h.sub (S' := fun k => S k ∧ k < w.heap.size) (fun k hk hs => ⟨hs, hk⟩)).below hB0
  have c3 := hL0.c3
  have c4 := hL0.c4
  have c5 := hL0.c5
  have fb := hL0.fr
  have hbw := h.lt
  have hmw := h.map.lt
  have hbz : b < W0.heap.size := by omega
  have HL0 := Lib.hid hL0
  have HL := Lib.hid h
  have hbm := h.ne
  have hmy := layMay_any _ S' W0 b mb T s q ca cc hs hL0 (hq.mod (Mod.of_below (F := none') hB0) (fun _ _ _ => id))
  rw [hm] at hmy
  have Hs := Lib.hid hs
  clear h hL0 hs fb hm hq
  go_enter Tryz.func95, Tryz.ntmps95
  go_wp2_with fail
  rw [← HW0.out]
  obtain ⟨pb, hpb⟩ : ∃ pb, pb = w.heap.size := ⟨_, rfl⟩
  rw [← hpb] at a0 a1 a2 a3 a4 a5 a6 a7 a8 gb ⊢
  have hpz : pb + 1 < W0.heap.size := by omega
  have hpw : w.heap.size ≤ pb := by omega
  have hpb1 : b < pb := by omega
  have hpb2 : mb < pb := by omega
  have Hpb := Lib.hid hpb
  clear hpb
  refine hmy.mono ?_
  clear hmy
  rintro r w1 ⟨rfl, hB1⟩
  go_wp2_with fail
  have hnw := layNow_any _ w1 b mb T s Hs.out (HL0.out.below hB1)
  refine hnw.mono ?_
  clear hnw
  rintro r w2 ⟨va, vc, rfl, hls, hB2⟩
  have hB02 := hB1.trans (hB2.mono hB1.size)
  have g0' : w2.cell? ⟨pb + 1, 0, none⟩ = ans0[0]? := (ans_cells ((hB02.block (pb + 1) hpz).trans gb)).1 0
  have g1' : w2.cell? ⟨pb + 1, 1, none⟩ = ans0[1]? := (ans_cells ((hB02.block (pb + 1) hpz).trans gb)).1 1
  have g2' : w2.cell? ⟨pb + 1, 2, none⟩ = ans0[2]? := (ans_cells ((hB02.block (pb + 1) hpz).trans gb)).1 2
  have g3' : w2.cell? ⟨pb + 1, 3, none⟩ = ans0[3]? := (ans_cells ((hB02.block (pb + 1) hpz).trans gb)).1 3
  have g4' : w2.cell? ⟨pb + 1, 4, none⟩ = ans0[4]? := (ans_cells ((hB02.block (pb + 1) hpz).trans gb)).1 4
  have g5' : w2.cell? ⟨pb + 1, 5, none⟩ = ans0[5]? := (ans_cells ((hB02.block (pb + 1) hpz).trans gb)).1 5
  have g6' : w2.cell? ⟨pb + 1, 6, none⟩ = ans0[6]? := (ans_cells ((hB02.block (pb + 1) hpz).trans gb)).1 6
  have g7' : w2.cell? ⟨pb + 1, 7, none⟩ = ans0[7]? := (ans_cells ((hB02.block (pb + 1) hpz).trans gb)).1 7
  have f0' : w2.frozen? ⟨pb + 1, 0, none⟩ = false := (ans_cells ((hB02.block (pb + 1) hpz).trans gb)).2 0
  have f1' : w2.frozen? ⟨pb + 1, 1, none⟩ = false := (ans_cells ((hB02.block (pb + 1) hpz).trans gb)).2 1
  have f2' : w2.frozen? ⟨pb + 1, 2, none⟩ = false := (ans_cells ((hB02.block (pb + 1) hpz).trans gb)).2 2
  have f3' : w2.frozen? ⟨pb + 1, 3, none⟩ = false := (ans_cells ((hB02.block (pb + 1) hpz).trans gb)).2 3
  have f4' : w2.frozen? ⟨pb + 1, 4, none⟩ = false := (ans_cells ((hB02.block (pb + 1) hpz).trans gb)).2 4
  have f5' : w2.frozen? ⟨pb + 1, 5, none⟩ = false := (ans_cells ((hB02.block (pb + 1) hpz).trans gb)).2 5
  have f6' : w2.frozen? ⟨pb + 1, 6, none⟩ = false := (ans_cells ((hB02.block (pb + 1) hpz).trans gb)).2 6
  have f7' : w2.frozen? ⟨pb + 1, 7, none⟩ = false := (ans_cells ((hB02.block (pb + 1) hpz).trans gb)).2 7
  simp only [ans0, List.getElem?_toArray, List.getElem?_cons_zero, List.getElem?_cons_succ] at g0' g1' g2' g3' g4' g5' g6' g7'
  have hpz2 : pb + 1 < w2.heap.size := by have := hB02.size; omega
  have hbz2 : b < w2.heap.size := by have := hB02.size; omega
  have hBw1 := hB0.trans (hB02.mono (by omega))
  have HLS : Hid (ListsAt (From W0.heap.size) w2 va s.p.chains) := Lib.hid (hls.sub (fun k _ hk => by have : w1.heap.size ≤ k := hk; have := hB1.size; show W0.heap.size ≤ k; omega))
  clear hls hB1 hB2 hB02 gb a0 a1 a2 a3 a4 a5 a6 a7 a8
  go_wp2_with fail
  refine bodyPost_ret (v := ansL ⟨48, 0, s.p, 0, 0⟩ va vc) (by simp only [results, Tryz.results95, ansL]; go_simp) rfl ?_
  have hfin : ∀ W, Below W0.heap.size W0 W → Below w.heap.size w W := fun W h => hB0.trans (h.mono (by omega))
  refine ⟨va, vc, rfl, (HLS.out.mod (F := (· = pb + 1)) (by exact modC (Mod.refl _ _)) ?_).sub ?_, HL.out.later (by exact belC hBw1), Mod.of_below (by exact belC hBw1)⟩
  · intro k hk _ e; have : W0.heap.size ≤ k := hk; omega
  · intro k _ hk; have : W0.heap.size ≤ k := hk; show w.heap.size ≤ k; omega

set_option maxRecDepth 100000 in
set_option maxHeartbeats 1000000 in
theorem layDo_10y (S S' : Nat → Prop) (w : World) (b mb T : Nat) (s : LayS) (hs : s.ok) (hT : T ≤ 1000000000) (h : LayAt S w b mb T s) (hq : ListsAt S' w ca q.chains) (hd : ∀ k, S' k → k < w.heap.size → k ≠ b ∧ k ≠ mb) (hm : mayB s q = true) :
    Calls Tryz.prog 95 #[.pointer (some ⟨b, 0, none⟩), .agg #[.int .i64 10, .int .i64 u, .int .i64 e, .int .i64 page, .int .i64 z, .int .i64 n, .string d, .int .i64 q.epoch, .slice ca q.chains.length cc]] w (LayDoPost S w b mb T (layDo s 10 q page z n)) := by
  have hr : layDo s 10 q page z n = (⟨0, 0, q, 0, 0⟩, s.count q) := by unfold layDo; rw [if_neg (by decide), if_pos rfl, hm]; rfl
  rw [hr]
  clear hr
  obtain ⟨W0, hW0, hB0, hz0, ⟨a0, a1, a2, a3, a4, a5, a6, a7, a8⟩, gb⟩ := askBox w 34 49 (.int .i64 10) (.int .i64 u) (.int .i64 e) (.int .i64 page) (.int .i64 z) (.int .i64 n) (.string d) (.int .i64 q.epoch) (.slice ca q.chains.length cc)
  have HW0 := Lib.hid hW0
  clear hW0
  have hL0 := (h.sub (S' := fun k => S k ∧ k < w.heap.size) (fun k hk hs => ⟨hs, hk⟩)).below hB0
  have c3 := hL0.c3
  have c4 := hL0.c4
  have c5 := hL0.c5
  have fb := hL0.fr
  have hbw := h.lt
  have hmw := h.map.lt
  have hbz : b < W0.heap.size := by omega
  have HL0 := Lib.hid hL0
  have HL := Lib.hid h
  have hbm := h.ne
  have hmy := layMay_any _ S' W0 b mb T s q ca cc hs hL0 (hq.mod (Mod.of_below (F := none') hB0) (fun _ _ _ => id))
  rw [hm] at hmy
  have Hs2 := Lib.hid (hs.count (may_good hm).2)
  have Hgq := Lib.hid (may_good hm).2
  have HQ : Hid (ListsAt (fun k => S' k ∧ k < w.heap.size) w ca q.chains) := Lib.hid (hq.sub (fun k hk h => ⟨h, hk⟩))
  have HD := Lib.hid hd
  clear h hL0 hs fb hm hq hd
  go_enter Tryz.func95, Tryz.ntmps95
  go_wp2_with fail
  rw [← HW0.out]
  obtain ⟨pb, hpb⟩ : ∃ pb, pb = w.heap.size := ⟨_, rfl⟩
  rw [← hpb] at a0 a1 a2 a3 a4 a5 a6 a7 a8 gb ⊢
  have hpz : pb + 1 < W0.heap.size := by omega
  have hpw : w.heap.size ≤ pb := by omega
  have hpb1 : b < pb := by omega
  have hpb2 : mb < pb := by omega
  have Hpb := Lib.hid hpb
  clear hpb
  refine hmy.mono ?_
  clear hmy
  rintro r w1 ⟨rfl, hB1⟩
  have hz1 := hB1.size
  have hBw01 := hB0.trans (hB1.mono (by omega))
  have b7 := below_at hB1 a7 (by omega)
  have b8 := below_at hB1 a8 (by omega)
  have hct := layCount_any _ _ w1 b mb T s q ca cc Hgq.out hT (HL0.out.below hB1) (HQ.out.mod (Mod.of_below (F := none') hBw01) (fun _ _ _ => id)) (fun k hk _ => HD.out k hk.1 hk.2)
  go_wp2_with fail
  refine hct.mono ?_
  clear hct b7 b8
  rintro r w2 ⟨rfl, hL2, hM2⟩
  have hnw := layNow_any _ w2 b mb (T + 16) (s.count q) Hs2.out hL2
  go_wp2_with fail
  refine hnw.mono ?_
  clear hnw
  rintro r w3 ⟨va, vc, rfl, hls, hB3⟩
  have hM02 : Mod (fun j => j = b ∨ j = mb) W0 w3 := ((Mod.of_below (F := fun j => j = b ∨ j = mb) hB1).trans hM2).trans (Mod.of_below hB3)
  have g0' : w3.cell? ⟨pb + 1, 0, none⟩ = ans0[0]? := (ans_cells ((hM02.block (pb + 1) hpz (by omega)).trans gb)).1 0
  have g1' : w3.cell? ⟨pb + 1, 1, none⟩ = ans0[1]? := (ans_cells ((hM02.block (pb + 1) hpz (by omega)).trans gb)).1 1
  have g2' : w3.cell? ⟨pb + 1, 2, none⟩ = ans0[2]? := (ans_cells ((hM02.block (pb + 1) hpz (by omega)).trans gb)).1 2
  have g3' : w3.cell? ⟨pb + 1, 3, none⟩ = ans0[3]? := (ans_cells ((hM02.block (pb + 1) hpz (by omega)).trans gb)).1 3
  have g4' : w3.cell? ⟨pb + 1, 4, none⟩ = ans0[4]? := (ans_cells ((hM02.block (pb + 1) hpz (by omega)).trans gb)).1 4
  have g5' : w3.cell? ⟨pb + 1, 5, none⟩ = ans0[5]? := (ans_cells ((hM02.block (pb + 1) hpz (by omega)).trans gb)).1 5
  have g6' : w3.cell? ⟨pb + 1, 6, none⟩ = ans0[6]? := (ans_cells ((hM02.block (pb + 1) hpz (by omega)).trans gb)).1 6
  have g7' : w3.cell? ⟨pb + 1, 7, none⟩ = ans0[7]? := (ans_cells ((hM02.block (pb + 1) hpz (by omega)).trans gb)).1 7
  have f0' : w3.frozen? ⟨pb + 1, 0, none⟩ = false := (ans_cells ((hM02.block (pb + 1) hpz (by omega)).trans gb)).2 0
  have f1' : w3.frozen? ⟨pb + 1, 1, none⟩ = false := (ans_cells ((hM02.block (pb + 1) hpz (by omega)).trans gb)).2 1
  have f2' : w3.frozen? ⟨pb + 1, 2, none⟩ = false := (ans_cells ((hM02.block (pb + 1) hpz (by omega)).trans gb)).2 2
  have f3' : w3.frozen? ⟨pb + 1, 3, none⟩ = false := (ans_cells ((hM02.block (pb + 1) hpz (by omega)).trans gb)).2 3
  have f4' : w3.frozen? ⟨pb + 1, 4, none⟩ = false := (ans_cells ((hM02.block (pb + 1) hpz (by omega)).trans gb)).2 4
  have f5' : w3.frozen? ⟨pb + 1, 5, none⟩ = false := (ans_cells ((hM02.block (pb + 1) hpz (by omega)).trans gb)).2 5
  have f6' : w3.frozen? ⟨pb + 1, 6, none⟩ = false := (ans_cells ((hM02.block (pb + 1) hpz (by omega)).trans gb)).2 6
  have f7' : w3.frozen? ⟨pb + 1, 7, none⟩ = false := (ans_cells ((hM02.block (pb + 1) hpz (by omega)).trans gb)).2 7
  simp only [ans0, List.getElem?_toArray, List.getElem?_cons_zero, List.getElem?_cons_succ] at g0' g1' g2' g3' g4' g5' g6' g7'
  have hpz2 : pb + 1 < w3.heap.size := by have := hM02.size; omega
  have hbz2 : b < w3.heap.size := by have := hM02.size; omega
  have hMw : Mod (fun j => j = b ∨ j = mb) w w3 := (Mod.of_below (F := fun j => j = b ∨ j = mb) hB0).trans hM02
  have hz2 := hM2.size
  have hls' : ListsAt (From W0.heap.size) w3 va (s.count q).p.chains := hls.sub (fun k _ hk => by have : w2.heap.size ≤ k := hk; show W0.heap.size ≤ k; omega)
  have HLS := Lib.hid hls'
  have hL3 := hL2.below hB3
  have HL3 := Lib.hid hL3
  clear hls hls' hB1 hB3 hM2 hM02 gb hL2 hL3 a0 a1 a2 a3 a4 a5 a6 a7 a8
  go_wp2_with fail
  refine bodyPost_ret (v := ansL ⟨0, 0, q, 0, 0⟩ va vc) (by simp only [results, Tryz.results95, ansL]; go_simp; exact ⟨rfl, rfl⟩) rfl ?_
  have hMf : ∀ W, Mod (· = pb + 1) w3 W → ListsAt (From w.heap.size) W va q.chains ∧ LayAt (fun k => S k ∨ w.heap.size ≤ k) W b mb (T + 16) (s.count q) ∧ Mod (fun j => j = b ∨ j = mb) w W := by
    intro W hF
    refine ⟨(HLS.out.mod hF ?_).sub ?_, ?_, hMw.trans' hF ?_⟩
    · intro k hk _ e; have : W0.heap.size ≤ k := hk; omega
    · intro k _ hk; have : W0.heap.size ≤ k := hk; show w.heap.size ≤ k; omega
    · refine ((HL3.out.sub (S' := fun k => (S k ∨ w.heap.size ≤ k) ∧ k ≠ pb + 1) ?_).mod hF ?_).sub (fun k _ hk => hk.1)
      · rintro k - (hk | hk)
        · exact ⟨Or.inl hk.1, by omega⟩
        · exact ⟨Or.inr (by omega), by omega⟩
      · intro k hk _ e; exact hk.2 e
    · intro k hk e; omega
  exact ⟨va, vc, rfl, hMf _ (by exact modC (Mod.refl _ _))⟩

set_option maxRecDepth 100000 in
set_option maxHeartbeats 1000000 in
theorem layDo_other (S : Nat → Prop) (w : World) (b mb T : Nat) (s : LayS) (h : LayAt S w b mb T s) (hk : k ≠ 9 ∧ k ≠ 10 ∧ k ≠ 11) :
    Calls Tryz.prog 95 #[.pointer (some ⟨b, 0, none⟩), .agg #[.int .i64 k, .int .i64 u, .int .i64 e, .int .i64 page, .int .i64 z, .int .i64 n, .string d, .int .i64 q.epoch, .slice ca q.chains.length cc]] w (LayDoPost S w b mb T (layDo s k q page z n)) := by
  obtain ⟨k1, k2, k3⟩ := hk
  have hr : layDo s k q page z n = (⟨1, 0, p0, 0, 0⟩, s) := by unfold layDo; rw [if_neg k1, if_neg k2, if_neg k3]
  rw [hr]
  clear hr
  have e1 : (k == 9) = false := by simp [k1]
  have e2 : (k == 10) = false := by simp [k2]
  have e3 : (k == 11) = false := by simp [k3]
  clear k1 k2 k3
  obtain ⟨W0, hW0, hB0, hz0, ⟨a0, a1, a2, a3, a4, a5, a6, a7, a8⟩, gb⟩ := askBox w 34 49 (.int .i64 k) (.int .i64 u) (.int .i64 e) (.int .i64 page) (.int .i64 z) (.int .i64 n) (.string d) (.int .i64 q.epoch) (.slice ca q.chains.length cc)
  have HW0 := Lib.hid hW0
  clear hW0
  have hL0 := (h.sub (S' := fun k => S k ∧ k < w.heap.size) (fun k hk hs => ⟨hs, hk⟩)).below hB0
  have c3 := hL0.c3
  have c4 := hL0.c4
  have c5 := hL0.c5
  have fb := hL0.fr
  have hbw := h.lt
  have hmw := h.map.lt
  have hbz : b < W0.heap.size := by omega
  have HL0 := Lib.hid hL0
  have HL := Lib.hid h
  have hbm := h.ne
  clear h hL0 fb c3 c4 c5
  go_enter Tryz.func95, Tryz.ntmps95
  go_wp2_with fail
  refine bodyPost_ret (v := ansL ⟨1, 0, p0, 0, 0⟩ none 0) (by simp only [results, Tryz.results95, ansL]; go_simp; try exact ⟨rfl, rfl⟩) rfl ?_
  exact ⟨none, 0, rfl, ListsAt.nil _ _ _, HL.out.later (by exact belC (Below.refl _ _)), Mod.of_below (by exact belC (Below.refl _ _))⟩

set_option maxRecDepth 100000 in
set_option maxHeartbeats 1000000 in
theorem layDo_11b (S : Nat → Prop) (w : World) (b mb T : Nat) (s : LayS) (h : LayAt S w b mb T s) (hm : markBad page z n) :
    Calls Tryz.prog 95 #[.pointer (some ⟨b, 0, none⟩), .agg #[.int .i64 11, .int .i64 u, .int .i64 e, .int .i64 page, .int .i64 z, .int .i64 n, .string d, .int .i64 q.epoch, .slice ca q.chains.length cc]] w (LayDoPost S w b mb T (layDo s 11 q page z n)) := by
  have hr : layDo s 11 q page z n = (⟨1, 0, p0, 0, 0⟩, s) := by unfold layDo; rw [if_neg (by decide), if_neg (by decide), if_pos rfl, if_pos hm]
  rw [hr]
  clear hr
  have hm' : page < 0 ∨ (0 ≤ page ∧ 16384 ≤ page) ∨ (0 ≤ page ∧ page < 16384 ∧ z < 1) ∨ (0 ≤ page ∧ page < 16384 ∧ 1 ≤ z ∧ 65536 < z) ∨ (0 ≤ page ∧ page < 16384 ∧ 1 ≤ z ∧ z ≤ 65536 ∧ n < 0) ∨ (0 ≤ page ∧ page < 16384 ∧ 1 ≤ z ∧ z ≤ 65536 ∧ 0 ≤ n ∧ 16384 < n) := by unfold markBad at hm; omega
  obtain ⟨W0, hW0, hB0, hz0, ⟨a0, a1, a2, a3, a4, a5, a6, a7, a8⟩, gb⟩ := askBox w 34 49 (.int .i64 11) (.int .i64 u) (.int .i64 e) (.int .i64 page) (.int .i64 z) (.int .i64 n) (.string d) (.int .i64 q.epoch) (.slice ca q.chains.length cc)
  have HW0 := Lib.hid hW0
  clear hW0
  have hL0 := (h.sub (S' := fun k => S k ∧ k < w.heap.size) (fun k hk hs => ⟨hs, hk⟩)).below hB0
  have c3 := hL0.c3
  have c4 := hL0.c4
  have c5 := hL0.c5
  have fb := hL0.fr
  have hbw := h.lt
  have hmw := h.map.lt
  have hbz : b < W0.heap.size := by omega
  have HL0 := Lib.hid hL0
  have HL := Lib.hid h
  have hbm := h.ne
  clear h hL0 fb hm c3 c4 c5
  rcases hm' with m1 | ⟨m1, m2⟩ | ⟨m1, m2, m3⟩ | ⟨m1, m2, m3, m4⟩ | ⟨m1, m2, m3, m4, m5⟩ | ⟨m1, m2, m3, m4, m5, m6⟩
  all_goals
    go_enter Tryz.func95, Tryz.ntmps95
    go_wp2_with fail
    refine bodyPost_ret (v := ansL ⟨1, 0, p0, 0, 0⟩ none 0) (by simp only [results, Tryz.results95, ansL]; go_simp; try exact ⟨rfl, rfl⟩) rfl ?_
    exact ⟨none, 0, rfl, ListsAt.nil _ _ _, HL.out.later (by exact belC (Below.refl _ _)), Mod.of_below (by exact belC (Below.refl _ _))⟩

theorem LayAt.setMark {S : Nat → Prop} {w : World} {b mb T : Nat} {s : LayS} (h : LayAt S w b mb T s) (x y t : Int) :
    LayAt S (((w.setCell ⟨b, 3, none⟩ (.int .i64 x)).setCell ⟨b, 4, none⟩ (.int .i64 y)).setCell ⟨b, 5, none⟩ (.int .i64 t)) b mb T { s with mark := x, size := y, n := t } := by
  have hl := h.lt
  obtain ⟨a0, d0, x1, hl1⟩ := h.c1
  have c0 := h.c0
  have c2 := h.c2
  have c3 := h.c3
  have c4 := h.c4
  have c5 := h.c5
  refine ⟨by go_simp, ⟨a0, d0, by go_simp, hl1.mod (F := (· = b)) (by exact modC (Mod.refl _ _)) (fun k hk _ e => hk.2.1 e)⟩, by go_simp, by go_simp, by go_simp, by go_simp, fun o ho => ?_, h.map.mod (F := (· = b)) (by exact modC (Mod.refl _ _)) (fun e => h.ne e.symm), h.ne, h.sb, h.sm⟩
  rw [World.frozen?_setCell, World.frozen?_setCell, World.frozen?_setCell]; exact h.fr o ho

set_option maxRecDepth 100000 in
set_option maxHeartbeats 1000000 in
theorem layDo_11n (S : Nat → Prop) (w : World) (b mb T : Nat) (s : LayS) (h : LayAt S w b mb T s) (hm : ¬ markBad page z n) (hn : ¬ s.n < n) :
    Calls Tryz.prog 95 #[.pointer (some ⟨b, 0, none⟩), .agg #[.int .i64 11, .int .i64 u, .int .i64 e, .int .i64 page, .int .i64 z, .int .i64 n, .string d, .int .i64 q.epoch, .slice ca q.chains.length cc]] w (LayDoPost S w b mb T (layDo s 11 q page z n)) := by
  have hr : layDo s 11 q page z n = (⟨0, s.n, p0, s.mark, s.size⟩, s) := by unfold layDo; rw [if_neg (by decide), if_neg (by decide), if_pos rfl, if_neg hm, if_neg hn]
  rw [hr]
  clear hr
  obtain ⟨m1, m2, m3, m4, m5, m6⟩ : 0 ≤ page ∧ page < 16384 ∧ 1 ≤ z ∧ z ≤ 65536 ∧ 0 ≤ n ∧ n ≤ 16384 := by unfold markBad at hm; omega
  have hn' : n ≤ s.n := by omega
  obtain ⟨W0, hW0, hB0, hz0, ⟨a0, a1, a2, a3, a4, a5, a6, a7, a8⟩, gb⟩ := askBox w 34 49 (.int .i64 11) (.int .i64 u) (.int .i64 e) (.int .i64 page) (.int .i64 z) (.int .i64 n) (.string d) (.int .i64 q.epoch) (.slice ca q.chains.length cc)
  have HW0 := Lib.hid hW0
  clear hW0
  have hL0 := (h.sub (S' := fun k => S k ∧ k < w.heap.size) (fun k hk hs => ⟨hs, hk⟩)).below hB0
  have c3 := hL0.c3
  have c4 := hL0.c4
  have c5 := hL0.c5
  have fb := hL0.fr
  have hbw := h.lt
  have hmw := h.map.lt
  have hbz : b < W0.heap.size := by omega
  have HL0 := Lib.hid hL0
  have HL := Lib.hid h
  have hbm := h.ne
  clear h hL0 fb hm hn
  go_enter Tryz.func95, Tryz.ntmps95
  go_wp2_with fail
  rw [← HW0.out]
  obtain ⟨pb, hpb⟩ : ∃ pb, pb = w.heap.size := ⟨_, rfl⟩
  rw [← hpb] at a0 a1 a2 a3 a4 a5 a6 a7 a8 gb ⊢
  have hpz : pb + 1 < W0.heap.size := by omega
  have hpw : w.heap.size ≤ pb := by omega
  have hpb1 : b < pb := by omega
  have hpb2 : mb < pb := by omega
  have Hpb := Lib.hid hpb
  clear hpb
  have g0' : W0.cell? ⟨pb + 1, 0, none⟩ = ans0[0]? := (ans_cells gb).1 0
  have g1' : W0.cell? ⟨pb + 1, 1, none⟩ = ans0[1]? := (ans_cells gb).1 1
  have g2' : W0.cell? ⟨pb + 1, 2, none⟩ = ans0[2]? := (ans_cells gb).1 2
  have g3' : W0.cell? ⟨pb + 1, 3, none⟩ = ans0[3]? := (ans_cells gb).1 3
  have g4' : W0.cell? ⟨pb + 1, 4, none⟩ = ans0[4]? := (ans_cells gb).1 4
  have g5' : W0.cell? ⟨pb + 1, 5, none⟩ = ans0[5]? := (ans_cells gb).1 5
  have g6' : W0.cell? ⟨pb + 1, 6, none⟩ = ans0[6]? := (ans_cells gb).1 6
  have g7' : W0.cell? ⟨pb + 1, 7, none⟩ = ans0[7]? := (ans_cells gb).1 7
  have f0' : W0.frozen? ⟨pb + 1, 0, none⟩ = false := (ans_cells gb).2 0
  have f1' : W0.frozen? ⟨pb + 1, 1, none⟩ = false := (ans_cells gb).2 1
  have f2' : W0.frozen? ⟨pb + 1, 2, none⟩ = false := (ans_cells gb).2 2
  have f3' : W0.frozen? ⟨pb + 1, 3, none⟩ = false := (ans_cells gb).2 3
  have f4' : W0.frozen? ⟨pb + 1, 4, none⟩ = false := (ans_cells gb).2 4
  have f5' : W0.frozen? ⟨pb + 1, 5, none⟩ = false := (ans_cells gb).2 5
  have f6' : W0.frozen? ⟨pb + 1, 6, none⟩ = false := (ans_cells gb).2 6
  have f7' : W0.frozen? ⟨pb + 1, 7, none⟩ = false := (ans_cells gb).2 7
  simp only [ans0, List.getElem?_toArray, List.getElem?_cons_zero, List.getElem?_cons_succ] at g0' g1' g2' g3' g4' g5' g6' g7'
  go_quiet (fail)
  go_wp2_with fail
  refine region_tail 13 (by kernel_rfl) (by kernel_rfl) (fun T hT K hK => ?_)
  simp only [List.take_succ_cons, List.take_zero]
  repeat still_step
  refine wpStill_nil (hK _ ?_)
  clear hK
  simp only [List.drop_succ_cons, List.drop_zero] at hT
  subst hT
  go_wp2_with fail
  have hfin : Below w.heap.size w W0 := hB0
  refine bodyPost_ret (v := ansL ⟨0, s.n, p0, s.mark, s.size⟩ none 0) (by simp only [results, Tryz.results95, ansL]; go_simp; try exact ⟨rfl, rfl⟩) rfl ?_
  exact ⟨none, 0, rfl, ListsAt.nil _ _ _, HL.out.later (by exact belC hB0), Mod.of_below (by exact belC hB0)⟩

set_option maxRecDepth 100000 in
set_option maxHeartbeats 1000000 in
theorem layDo_11y (S : Nat → Prop) (w : World) (b mb T : Nat) (s : LayS) (h : LayAt S w b mb T s) (hm : ¬ markBad page z n) (hn : s.n < n) :
    Calls Tryz.prog 95 #[.pointer (some ⟨b, 0, none⟩), .agg #[.int .i64 11, .int .i64 u, .int .i64 e, .int .i64 page, .int .i64 z, .int .i64 n, .string d, .int .i64 q.epoch, .slice ca q.chains.length cc]] w (LayDoPost S w b mb T (layDo s 11 q page z n)) := by
  have hr : layDo s 11 q page z n = (⟨0, n, p0, page, z⟩, { s with mark := page, size := z, n := n }) := by unfold layDo; rw [if_neg (by decide), if_neg (by decide), if_pos rfl, if_neg hm, if_pos hn]
  rw [hr]
  clear hr
  obtain ⟨m1, m2, m3, m4, m5, m6⟩ : 0 ≤ page ∧ page < 16384 ∧ 1 ≤ z ∧ z ≤ 65536 ∧ 0 ≤ n ∧ n ≤ 16384 := by unfold markBad at hm; omega
  obtain ⟨W0, hW0, hB0, hz0, ⟨a0, a1, a2, a3, a4, a5, a6, a7, a8⟩, gb⟩ := askBox w 34 49 (.int .i64 11) (.int .i64 u) (.int .i64 e) (.int .i64 page) (.int .i64 z) (.int .i64 n) (.string d) (.int .i64 q.epoch) (.slice ca q.chains.length cc)
  have HW0 := Lib.hid hW0
  clear hW0
  have hL0 := (h.sub (S' := fun k => S k ∧ k < w.heap.size) (fun k hk hs => ⟨hs, hk⟩)).below hB0
  have c3 := hL0.c3
  have c4 := hL0.c4
  have c5 := hL0.c5
  have fb := hL0.fr
  have hbw := h.lt
  have hmw := h.map.lt
  have hbz : b < W0.heap.size := by omega
  have HL0 := Lib.hid hL0
  have HL := Lib.hid h
  have hbm := h.ne
  have fb3 := fb 3 (by omega)
  have fb4 := fb 4 (by omega)
  have fb5 := fb 5 (by omega)
  clear h hL0 fb hm
  go_enter Tryz.func95, Tryz.ntmps95
  go_wp2_with fail
  rw [← HW0.out]
  obtain ⟨pb, hpb⟩ : ∃ pb, pb = w.heap.size := ⟨_, rfl⟩
  rw [← hpb] at a0 a1 a2 a3 a4 a5 a6 a7 a8 gb ⊢
  have hpz : pb + 1 < W0.heap.size := by omega
  have hpw : w.heap.size ≤ pb := by omega
  have hpb1 : b < pb := by omega
  have hpb2 : mb < pb := by omega
  have Hpb := Lib.hid hpb
  clear hpb
  have g0' : W0.cell? ⟨pb + 1, 0, none⟩ = ans0[0]? := (ans_cells gb).1 0
  have g1' : W0.cell? ⟨pb + 1, 1, none⟩ = ans0[1]? := (ans_cells gb).1 1
  have g2' : W0.cell? ⟨pb + 1, 2, none⟩ = ans0[2]? := (ans_cells gb).1 2
  have g3' : W0.cell? ⟨pb + 1, 3, none⟩ = ans0[3]? := (ans_cells gb).1 3
  have g4' : W0.cell? ⟨pb + 1, 4, none⟩ = ans0[4]? := (ans_cells gb).1 4
  have g5' : W0.cell? ⟨pb + 1, 5, none⟩ = ans0[5]? := (ans_cells gb).1 5
  have g6' : W0.cell? ⟨pb + 1, 6, none⟩ = ans0[6]? := (ans_cells gb).1 6
  have g7' : W0.cell? ⟨pb + 1, 7, none⟩ = ans0[7]? := (ans_cells gb).1 7
  have f0' : W0.frozen? ⟨pb + 1, 0, none⟩ = false := (ans_cells gb).2 0
  have f1' : W0.frozen? ⟨pb + 1, 1, none⟩ = false := (ans_cells gb).2 1
  have f2' : W0.frozen? ⟨pb + 1, 2, none⟩ = false := (ans_cells gb).2 2
  have f3' : W0.frozen? ⟨pb + 1, 3, none⟩ = false := (ans_cells gb).2 3
  have f4' : W0.frozen? ⟨pb + 1, 4, none⟩ = false := (ans_cells gb).2 4
  have f5' : W0.frozen? ⟨pb + 1, 5, none⟩ = false := (ans_cells gb).2 5
  have f6' : W0.frozen? ⟨pb + 1, 6, none⟩ = false := (ans_cells gb).2 6
  have f7' : W0.frozen? ⟨pb + 1, 7, none⟩ = false := (ans_cells gb).2 7
  simp only [ans0, List.getElem?_toArray, List.getElem?_cons_zero, List.getElem?_cons_succ] at g0' g1' g2' g3' g4' g5' g6' g7'
  go_quiet (fail)
  go_wp2_with fail
  go_region
  go_wp2_with fail
  refine region_tail 13 (by kernel_rfl) (by kernel_rfl) (fun T hT K hK => ?_)
  simp only [List.take_succ_cons, List.take_zero]
  repeat still_step
  refine wpStill_nil (hK _ ?_)
  clear hK
  simp only [List.drop_succ_cons, List.drop_zero] at hT
  subst hT
  go_wp2_with fail
  refine bodyPost_ret (v := ansL ⟨0, n, p0, page, z⟩ none 0) (by simp only [results, Tryz.results95, ansL]; go_simp; try exact ⟨rfl, rfl⟩) rfl ?_
  have hMf : ∀ m W, Mod (· = pb + 1) ((((W0.drewN m).setCell ⟨b, 3, none⟩ (.int .i64 page)).setCell ⟨b, 4, none⟩ (.int .i64 z)).setCell ⟨b, 5, none⟩ (.int .i64 n)) W → LayAt (fun k => S k ∨ w.heap.size ≤ k) W b mb (T + 16) { s with mark := page, size := z, n := n } ∧ Mod (fun j => j = b ∨ j = mb) w W := by
    intro m W hF
    have h1 := (HL0.out.mod (F := none') ((Mod.refl none' W0).drewN m) (fun _ _ _ => id)).setMark page z n
    have h2 : Mod (fun j => j = b ∨ j = mb) w ((((W0.drewN m).setCell ⟨b, 3, none⟩ (.int .i64 page)).setCell ⟨b, 4, none⟩ (.int .i64 z)).setCell ⟨b, 5, none⟩ (.int .i64 n)) := by
      have h0 := Mod.of_below (F := fun j => j = b ∨ j = mb) hB0
      exact modC h0
    refine ⟨((h1.mod hF ?_).sub (fun k _ hk => Or.inl hk.1)).mono (by omega), h2.trans' hF (fun k hk e => by omega)⟩
    intro k hk _ e
    have := hk.2
    omega
  exact ⟨none, 0, rfl, ListsAt.nil _ _ _, hMf _ _ (by exact modC (Mod.refl _ _))⟩

/-- a question: its answer, and how it stands -/
theorem layDo_any (S S' : Nat → Prop) (w : World) (b mb T : Nat) (s : LayS) (hs : s.ok) (hT : T ≤ 1000000000) (h : LayAt S w b mb T s) (hq : ListsAt S' w ca q.chains) (hd : ∀ k, S' k → k < w.heap.size → k ≠ b ∧ k ≠ mb) :
    Calls Tryz.prog 95 #[.pointer (some ⟨b, 0, none⟩), .agg #[.int .i64 k, .int .i64 u, .int .i64 e, .int .i64 page, .int .i64 z, .int .i64 n, .string d, .int .i64 q.epoch, .slice ca q.chains.length cc]] w (LayDoPost S w b mb T (layDo s k q page z n)) := by
  by_cases h9 : k = 9
  · subst h9; exact layDo_9 u e page z n d q ca cc S w b mb T s hs h
  · by_cases h10 : k = 10
    · subst h10
      cases hm : mayB s q
      · exact layDo_10n u e page z n d q ca cc S S' w b mb T s hs h hq hm
      · exact layDo_10y u e page z n d q ca cc S S' w b mb T s hs hT h hq hd hm
    · by_cases h11 : k = 11
      · subst h11
        by_cases hm : markBad page z n
        · exact layDo_11b u e page z n d q ca cc S w b mb T s h hm
        · by_cases hn : s.n < n
          · exact layDo_11y u e page z n d q ca cc S w b mb T s h hm hn
          · exact layDo_11n u e page z n d q ca cc S w b mb T s h hm hn
      · exact layDo_other k u e page z n d q ca cc S w b mb T s h ⟨h9, h10, h11⟩
end
end Go.Proofs.YtghdhhbpbmhooaaGreat
