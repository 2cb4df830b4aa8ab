/- the document's layout: Do, a change that counts -/
import Derived.Test.YtnojjohkpkmliaaGreatRLay4
import Derived.Test.YtnojjohkpkmliaaGreatPkKeep
namespace Go.Proofs.YtnojjohkpkmliaaGreat
open Go.RowKit Esch

theorem stores2 (w : World) (b : Nat) (x y : Value) {u v : Value} (h0 : w.cell? ⟨b, 0, none⟩ = some u) (h1 : w.cell? ⟨b, 1, none⟩ = some v) : ∃ W, W = (w.setCell ⟨b, 0, none⟩ x).setCell ⟨b, 1, none⟩ y ∧ Mod (· = b) w W ∧ W.heap.size = w.heap.size ∧
    W.cell? ⟨b, 0, none⟩ = some x ∧ W.cell? ⟨b, 1, none⟩ = some y ∧ (∀ o, W.frozen? ⟨b, o, none⟩ = w.frozen? ⟨b, o, none⟩) :=
  ⟨_, rfl, ((Mod.refl (· = b) w).setCellAt (fun _ => rfl) _).setCellAt (fun _ => rfl) _, by simp, by go_simp, by go_simp, fun o => by go_simp⟩
theorem RLayAt.setProj {S : Nat → Prop} {w w1 : World} {b : Nat} {s : LayS} {q : Proj} {a : Option Addr} {c B : Nat} (h : RLayAt S w b s) (hB : Below w.heap.size w w1) (hq : ListsAt (From B) w1 a q.chains) (hBw : w.heap.size ≤ B) :
    RLayAt (fun k => S k ∨ B ≤ k) ((w1.setCell ⟨b, 0, none⟩ (.int .i64 q.epoch)).setCell ⟨b, 1, none⟩ (.slice a q.chains.length c)) b { s with p := q } := by
  have h1 := h.below hB
  have hl := h.lt
  obtain ⟨a0, d0, x1, -⟩ := h1.c1
  obtain ⟨a1, d1, x2, hl2, hcap⟩ := h1.c2
  have f0 := h1.fr 0 (by omega)
  have f1 := h1.fr 1 (by omega)
  have c0 := h1.c0
  have c3 := h1.c3
  have c4 := h1.c4
  have c5 := h1.c5
  refine ⟨by go_simp, ⟨a, c, by go_simp, ?_⟩, ⟨a1, d1, by go_simp, ?_, hcap⟩, by go_simp, by go_simp, by go_simp, fun o ho => ?_, Or.inl h.sb⟩
  · refine (hq.mod (F := (· = b)) (by (repeat' (first | (with_reducible exact (Mod.refl _ _)) | (with_reducible apply Mod.drew) | (with_reducible apply Mod.drewN) | (with_reducible apply Mod.alloc) | (with_reducible apply Mod.setCellAt) | (intro _; first | rfl | exact Or.inl rfl | exact Or.inr rfl) | (intro h; exfalso; omega)))) ?_).sub ?_
    · intro k hk _ e; have : B ≤ k := hk; omega
    · intro k _ hk; have : B ≤ k := hk; exact ⟨Or.inr (by omega), by omega⟩
  · exact (hl2.mod (F := (· = b)) (by (repeat' (first | (with_reducible exact (Mod.refl _ _)) | (with_reducible apply Mod.drew) | (with_reducible apply Mod.drewN) | (with_reducible apply Mod.alloc) | (with_reducible apply Mod.setCellAt) | (intro _; first | rfl | exact Or.inl rfl | exact Or.inr rfl) | (intro h; exfalso; omega)))) (fun k hk _ e => hk.2 e)).sub (fun k _ hk => ⟨Or.inl hk.1, hk.2⟩)
  · have := h1.fr o ho; rw [World.frozen?_setCell, World.frozen?_setCell]; exact this
theorem RLayAt.setUsed {S : Nat → Prop} {w w1 : World} {b n : Nat} {s : LayS} {us : List Int} {a : Option Addr} {c B : Nat} (h : RLayAt S w b s) (hB : Below w.heap.size w w1) (hq : IntsAt (From B) w1 a us) (hc : CapOk us c) (hBw : w.heap.size ≤ B) (hn : n = us.length) :
    RLayAt (fun k => S k ∨ B ≤ k) (w1.setCell ⟨b, 2, none⟩ (.slice a n c)) b { s with used := us } := by
  subst hn
  have h1 := h.below hB
  have hl := h.lt
  obtain ⟨a0, d0, x1, hl1⟩ := h1.c1
  obtain ⟨a1, d1, x2, -, -⟩ := h1.c2
  have c0 := h1.c0
  have c3 := h1.c3
  have c4 := h1.c4
  have c5 := h1.c5
  refine ⟨by go_simp, ⟨a0, d0, by go_simp, ?_⟩, ⟨a, c, by go_simp, ?_, hc⟩, by go_simp, by go_simp, by go_simp, fun o ho => ?_, Or.inl h.sb⟩
  · exact (hl1.mod (F := (· = b)) (by (repeat' (first | (with_reducible exact (Mod.refl _ _)) | (with_reducible apply Mod.drew) | (with_reducible apply Mod.drewN) | (with_reducible apply Mod.alloc) | (with_reducible apply Mod.setCellAt) | (intro _; first | rfl | exact Or.inl rfl | exact Or.inr rfl) | (intro h; exfalso; omega)))) (fun k hk _ e => hk.2 e)).sub (fun k _ hk => ⟨Or.inl hk.1, hk.2⟩)
  · refine (hq.mod (F := (· = b)) (by (repeat' (first | (with_reducible exact (Mod.refl _ _)) | (with_reducible apply Mod.drew) | (with_reducible apply Mod.drewN) | (with_reducible apply Mod.alloc) | (with_reducible apply Mod.setCellAt) | (intro _; first | rfl | exact Or.inl rfl | exact Or.inr rfl) | (intro h; exfalso; omega)))) ?_).sub ?_
    · intro k hk _ e; have : B ≤ k := hk; omega
    · intro k _ hk; have : B ≤ k := hk; exact ⟨Or.inr (by omega), by omega⟩
  · have := h1.fr o ho; rw [World.frozen?_setCell]; exact this
theorem rcount_done {S : Nat → Prop} {w3 w6 : World} {b : Nat} {s : LayS} {q : Proj} {na xa : Option Addr} {nc xc : Nat} (h : RLayAt S w3 b { s with p := q }) (d1 : w3.cell? ⟨b, 1, none⟩ = some (.slice na q.chains.length nc)) (hB6 : Below w3.heap.size w3 w6)
    (hx : IntsAt (From w3.heap.size) w6 xa (s.used ++ unitsOf q.chains.flatten)) (hc : CapOk (s.used ++ unitsOf q.chains.flatten) xc) :
    ∃ w7, w7 = w6.setCell ⟨b, 2, none⟩ (.slice xa (s.used.length + (unitsOf q.chains.flatten).length) xc) ∧ RLayAt (fun k => S k ∨ w3.heap.size ≤ k) w7 b (s.count q) ∧ Mod (· = b) w3 w7 ∧
      w7.cell? ⟨b, 0, none⟩ = some (.int .i64 q.epoch) ∧ w7.cell? ⟨b, 1, none⟩ = some (.slice na q.chains.length nc) := by
  have h7 := h.setUsed hB6 hx hc (Nat.le_refl _) List.length_append.symm
  exact ⟨_, rfl, h7, (Mod.of_below hB6).trans ((Mod.refl (· = b) w6).setCellAt (fun _ => rfl) _), h7.c0, (show (w6.setCell ⟨b, 2, none⟩ (.slice xa (s.used.length + (unitsOf q.chains.flatten).length) xc)).cell? ⟨b, 1, none⟩ = w6.cell? ⟨b, 1, none⟩ from by go_simp).trans (below_at hB6 d1 h.lt)⟩
section
variable (k u e page z n : Int) (d : ByteArray) (q : Proj) (ca : Option Addr) (cc : Nat)
set_option maxRecDepth 100000 in
set_option maxHeartbeats 2000000 in
theorem rDo_10y (S S' : Nat → Prop) (w : World) (b : Nat) (s : LayS) (hs : s.ok) (hu : s.used.length ≤ 4000) (h : RLayAt S w b s) (hq : ListsAt S' w ca q.chains) (hd : ∀ k, S' k → k < w.heap.size → k ≠ b) (hm : mayB s q = true) :
    Calls Tryz.prog 44 #[.pointer (some ⟨b, 0, none⟩), .agg #[.int .i64 10, .int .i64 u, .int .i64 e, .int .i64 page, .int .i64 z, .int .i64 n, .string d, .int .i64 q.epoch, .slice ca q.chains.length cc]] w (RDoPost S w b (layDo s 10 q page z n)) := by
  have hr : layDo s 10 q page z n = (⟨0, 0, q, 0, 0⟩, s.count q) := by unfold layDo; rw [if_neg (by decide), if_pos rfl, hm]; rfl
  rw [hr]
  clear hr
  obtain ⟨W0, hW0, hB0, hz0, ⟨a0, a1, a2, a3, a4, a5, a6, a7, a8⟩, gb⟩ := askBox w 42 39 (.int .i64 10) (.int .i64 u) (.int .i64 e) (.int .i64 page) (.int .i64 z) (.int .i64 n) (.string d) (.int .i64 q.epoch) (.slice ca q.chains.length cc)
  have HW0 := Lib.hid hW0
  clear hW0
  have hL0 := (h.sub (S' := fun k => S k ∧ k < w.heap.size) (fun k hk hs => ⟨hs, hk⟩)).below hB0
  have c3 := hL0.c3
  have c4 := hL0.c4
  have c5 := hL0.c5
  have fb := hL0.fr
  have hbw := h.lt
  have hbz : b < W0.heap.size := by omega
  have HL0 := Lib.hid hL0
  have HL := Lib.hid h
  obtain ⟨W1, hW1, hB01, hz1, gx⟩ := boxAns W0 39
  have HW1 := Lib.hid hW1
  have hmy := rlayMay_any _ S' W1 b s q ca cc hs (hL0.below hB01) (hq.mod (Mod.of_below (F := none') (hB0.trans (hB01.mono (by omega)))) (fun _ _ _ => id))
  rw [hm] at hmy
  have Hgq := Lib.hid (may_good hm).2
  have HQ := Lib.hid ((hq.sub (T := fun k => S' k ∧ k < w.heap.size) (fun k hk h => ⟨h, hk⟩)).mod (Mod.of_below (F := none') hB0) (fun _ _ _ => id))
  have HD := Lib.hid hd
  obtain ⟨va, vc, b2, hv, hvc⟩ := hL0.c2
  have Hv := Lib.hid hv
  have fb0 := fb 0 (by omega)
  have fb1 := fb 1 (by omega)
  have fb2 := fb 2 (by omega)
  clear h hL0 fb hW1 hs hq hm hv hd
  go_enter Tryz.func44, Tryz.ntmps44
  go_wp2_with fail
  rw [← HW0.out]
  obtain ⟨pb, hpb⟩ : ∃ pb, pb = w.heap.size := ⟨_, rfl⟩
  rw [← hpb] at a0 a1 a2 a3 a4 a5 a6 a7 a8 gb ⊢
  have hpz : pb + 1 < W0.heap.size := by omega
  have hpw : w.heap.size ≤ pb := by omega
  have hpb1 : b < pb := by omega
  have Hpb := Lib.hid hpb
  clear hpb
  rw [← HW1.out]
  rw [show W0.heap.size = pb + 1 + 1 by omega] at gx
  refine hmy.mono ?_
  clear hmy
  rintro r w1 ⟨rfl, hB1⟩
  have hz2 := hB1.size
  have hpx : pb + 1 + 1 < W1.heap.size := by omega
  have hB01' := hB01.trans (hB1.mono (by omega))
  have hM01 : Mod (F := none') W0 w1 := Mod.of_below hB01'
  replace b2 := hM01.at b2 id
  have a7' := below_at hB01' a7 (by omega)
  have a8' := below_at hB01' a8 (by omega)
  have hcp := copyK_any _ w1 q.epoch ca cc q.chains (good_small Hgq.out) (HQ.out.mod hM01 (fun _ _ _ => id))
  go_wp2_with fail
  refine hcp.mono ?_
  clear hcp
  rintro r w2 ⟨na, nc, rfl, hn2, hB2⟩
  have hz3 := hB2.size
  have hB02 := hB01'.trans (hB2.mono (by omega))
  have b0' := below_at hB02 HL0.out.c0 hbz
  obtain ⟨pa, pc, b1, -⟩ := HL0.out.c1
  have b1' := below_at hB02 b1 hbz
  replace b2 := below_at hB2 b2 (by omega)
  replace fb0 := (hB02.frozen (p := ⟨b, 0, none⟩) hbz).trans fb0
  replace fb1 := (hB02.frozen (p := ⟨b, 1, none⟩) hbz).trans fb1
  replace fb2 := (hB02.frozen (p := ⟨b, 2, none⟩) hbz).trans fb2
  replace a7' := below_at hB2 a7' (by omega)
  replace a8' := below_at hB2 a8' (by omega)
  obtain ⟨w3, hw3, hM3, hzz3, d0, d1, df⟩ := stores2 w2 b (.int .i64 q.epoch) (.slice na q.chains.length nc) b0' b1'
  have HW3 := Lib.hid hw3
  have hM13 : Mod (· = b) w1 w3 := Mod.trans (Mod.of_below hB2) hM3
  have gx1 := (hB1.block (pb + 1 + 1) hpx).trans gx
  have hM03 : Mod (· = b) W0 w3 := Mod.trans (Mod.of_below hB02) hM3
  replace b2 : w3.cell? ⟨b, 2, none⟩ = some (.slice va s.used.length vc) := by rw [hw3]; go_simp
  replace fb2 := (df 2).trans fb2
  replace a7' := hM3.at a7' (by omega)
  replace a8' := hM3.at a8' (by omega)
  have HQ3 := Lib.hid (HQ.out.mod hM03 (fun k hk _ e => HD.out k hk.1 hk.2 e))
  have HV3 := Lib.hid (Hv.out.mod hM03 (fun k hk _ e => hk.2 e))
  have hn3 := hn2.mod hM3 (fun k hk _ e => by have : w1.heap.size ≤ k := hk; omega)
  have Hn3 := Lib.hid hn3
  have HNB : Hid (∀ k, From w1.heap.size k → k < w3.heap.size → ¬ k = b) := Lib.hid (fun k hk _ e => by have : w1.heap.size ≤ k := hk; omega)
  have hbw3 : b < w3.heap.size := by omega
  have hpw3 : pb < w3.heap.size := by omega
  have a7d : w3.drew.cell? ⟨pb, 7, none⟩ = _ := a7'
  have a8d : w3.drew.cell? ⟨pb, 8, none⟩ = _ := a8'
  have b2d : w3.drew.cell? ⟨b, 2, none⟩ = _ := b2
  have hul : (unitsOf q.chains.flatten).length ≤ 16 := units_len Hgq.out.2.2.2.2.2.1
  have HZ3 := Lib.hid hzz3
  have HL3 : Hid (RLayAt (fun k => (S k ∧ k < w.heap.size) ∨ w1.heap.size ≤ k) w3 b { s with p := q }) := Lib.hid (by rw [hw3]; exact HL0.out.setProj hB02 hn2 (by omega))
  clear hw3 hn2 hn3 hM3 hzz3
  go_wp2_with fail
  rw [← HW3.out]
  go_region_law
    (first
      | (refine step_appendI (by rfl) (.tmp 42) (.tmp 46) (by rfl) _ w3.heap.size _ [] s.used _ s.used.length _ (by rfl) (by rfl) rfl (OwnI.made w3.drew (Nat.le_refl _)) (HV3.out.mod (F := none') (((Mod.refl none' _).drew).alloc _) (fun _ _ _ => id)) (by simp only [List.length_nil]; omega) (by simp only [World.size_alloc, drew_heap]; omega) ?_
         intro v1 w4 hO1 hb1 hg1
         have hB4 : Below w3.heap.size w3 w4 := Below.trans (by (repeat (first | with_reducible exact (Below.refl _ w3) | with_reducible refine Below.drew ?_ | with_reducible refine Esch.below_drewN ?_ _ | with_reducible refine Below.setCell ?_ (by first | omega | (simp; done) | (simp; omega)) _ | with_reducible refine Below.alloc ?_ (by first | omega | (simp; done) | (simp; omega)) _))) hb1
         have a74 := below_at hB4 a7' hpw3
         have a84 := below_at hB4 a8' hpw3
         have hun := runits_any _ w4 q.epoch ca cc q.chains (good_small Hgq.out) (HQ3.out.mod (F := none') (Mod.of_below hB4) (fun _ _ _ => id))
         clear hb1 hg1)
      | (refine step_appendI (by rfl) (.tmp 47) (.tmp 50) (by rfl) _ w3.heap.size v1 ([] ++ s.used) (unitsOf q.chains.flatten) _ _ _ (by rfl) (by rfl) rfl hO5 hu5 (by simp only [List.nil_append]; omega) hz5 ?_
         intro v2 w6 hO6 hb6 hg6
         have hB6 : Below w3.heap.size w3 w6 := hB5w.trans hb6
         have b26 := below_at hB6 b2 hbw3
         have fb26 := (hB6.frozen (p := ⟨b, 2, none⟩) hbw3).trans fb2
         have hO6' : OwnI w6 w3.heap.size v2 (s.used ++ unitsOf q.chains.flatten) := hO6
         obtain ⟨xa, xc, rfl, hx6, hc6, hcm6, -, -⟩ := hO6'.ints
         obtain ⟨w7, hw7, hL7, hM37, e0, e1⟩ := rcount_done HL3.out d1 hB6 hx6 ⟨hc6, hcm6⟩
         have HW7 := Lib.hid hw7
         have HL7 := Lib.hid hL7
         have hcp2 := copyK_any _ w7 q.epoch na nc q.chains (good_small Hgq.out) (Hn3.out.mod hM37 HNB.out)
         clear hg6 hO6 hw7 hL7 hx6 hb6)
      | (go_simp; go_at_call 69; (with_reducible refine hun.mono ?_); rintro e w5 ⟨ua, uc, rfl, hu5, hB5, -⟩
         have hB5w : Below w3.heap.size w3 w5 := hB4.trans (hB5.mono hB4.size)
         have hz5 : w3.heap.size ≤ w5.heap.size := hB5w.size
         have hO5 : OwnI w5 w3.heap.size v1 ([] ++ s.used) := grown_mod (F := none') (Mod.of_below hB5) (fun _ _ => id) (fun j hj => (hO1.lt hj).2) hO1))
  all_goals
    rw [← HW7.out]
    go_wp2_with fail
    (with_reducible refine hcp2.mono ?_)
    clear hcp2
    rintro r w8 ⟨ya, yc, rfl, hy8, hB8⟩
    have hM18 : Mod (· = b) w1 w8 := (hM13.trans hM37).trans (Mod.of_below hB8)
    have hM08 : Mod (· = b) W0 w8 := (hM03.trans hM37).trans (Mod.of_below hB8)
    have gx8 := (hM18.block (pb + 1 + 1) (by omega) (by omega)).trans gx1
    have gb8 := (hM08.block (pb + 1) (by omega) (by omega)).trans gb
    have x0' : w8.cell? ⟨pb + 1 + 1, 0, none⟩ = ans0[0]? := (ans_cells gx8).1 0
    have x1' : w8.cell? ⟨pb + 1 + 1, 1, none⟩ = ans0[1]? := (ans_cells gx8).1 1
    have x2' : w8.cell? ⟨pb + 1 + 1, 2, none⟩ = ans0[2]? := (ans_cells gx8).1 2
    have x3' : w8.cell? ⟨pb + 1 + 1, 3, none⟩ = ans0[3]? := (ans_cells gx8).1 3
    have x4' : w8.cell? ⟨pb + 1 + 1, 4, none⟩ = ans0[4]? := (ans_cells gx8).1 4
    have x5' : w8.cell? ⟨pb + 1 + 1, 5, none⟩ = ans0[5]? := (ans_cells gx8).1 5
    have x6' : w8.cell? ⟨pb + 1 + 1, 6, none⟩ = ans0[6]? := (ans_cells gx8).1 6
    have x7' : w8.cell? ⟨pb + 1 + 1, 7, none⟩ = ans0[7]? := (ans_cells gx8).1 7
    have fx0 : w8.frozen? ⟨pb + 1 + 1, 0, none⟩ = false := (ans_cells gx8).2 0
    have fx1 : w8.frozen? ⟨pb + 1 + 1, 1, none⟩ = false := (ans_cells gx8).2 1
    have fx2 : w8.frozen? ⟨pb + 1 + 1, 2, none⟩ = false := (ans_cells gx8).2 2
    have fx3 : w8.frozen? ⟨pb + 1 + 1, 3, none⟩ = false := (ans_cells gx8).2 3
    have fx4 : w8.frozen? ⟨pb + 1 + 1, 4, none⟩ = false := (ans_cells gx8).2 4
    have fx5 : w8.frozen? ⟨pb + 1 + 1, 5, none⟩ = false := (ans_cells gx8).2 5
    have fx6 : w8.frozen? ⟨pb + 1 + 1, 6, none⟩ = false := (ans_cells gx8).2 6
    have fx7 : w8.frozen? ⟨pb + 1 + 1, 7, none⟩ = false := (ans_cells gx8).2 7
    have g0' : w8.cell? ⟨pb + 1, 0, none⟩ = ans0[0]? := (ans_cells gb8).1 0
    have g1' : w8.cell? ⟨pb + 1, 1, none⟩ = ans0[1]? := (ans_cells gb8).1 1
    have g2' : w8.cell? ⟨pb + 1, 2, none⟩ = ans0[2]? := (ans_cells gb8).1 2
    have g3' : w8.cell? ⟨pb + 1, 3, none⟩ = ans0[3]? := (ans_cells gb8).1 3
    have g4' : w8.cell? ⟨pb + 1, 4, none⟩ = ans0[4]? := (ans_cells gb8).1 4
    have g5' : w8.cell? ⟨pb + 1, 5, none⟩ = ans0[5]? := (ans_cells gb8).1 5
    have g6' : w8.cell? ⟨pb + 1, 6, none⟩ = ans0[6]? := (ans_cells gb8).1 6
    have g7' : w8.cell? ⟨pb + 1, 7, none⟩ = ans0[7]? := (ans_cells gb8).1 7
    have f0' : w8.frozen? ⟨pb + 1, 0, none⟩ = false := (ans_cells gb8).2 0
    have f1' : w8.frozen? ⟨pb + 1, 1, none⟩ = false := (ans_cells gb8).2 1
    have f2' : w8.frozen? ⟨pb + 1, 2, none⟩ = false := (ans_cells gb8).2 2
    have f3' : w8.frozen? ⟨pb + 1, 3, none⟩ = false := (ans_cells gb8).2 3
    have f4' : w8.frozen? ⟨pb + 1, 4, none⟩ = false := (ans_cells gb8).2 4
    have f5' : w8.frozen? ⟨pb + 1, 5, none⟩ = false := (ans_cells gb8).2 5
    have f6' : w8.frozen? ⟨pb + 1, 6, none⟩ = false := (ans_cells gb8).2 6
    have f7' : w8.frozen? ⟨pb + 1, 7, none⟩ = false := (ans_cells gb8).2 7
    simp only [ans0, List.getElem?_toArray, List.getElem?_cons_zero, List.getElem?_cons_succ] at x0' g0' x1' g1' x2' g2' x3' g3' x4' g4' x5' g5' x6' g6' x7' g7'
    have hMw8 : Mod (· = b) w w8 := Mod.trans (Mod.of_below hB0) hM08
    have hzz8 := hM18.size
    have hL8 := HL7.out.below hB8
    have HL8 := Lib.hid hL8
    have HY8 : Hid (ListsAt (From w1.heap.size) w8 ya q.chains) := Lib.hid (hy8.sub (fun k _ hk => by have hk : w7.heap.size ≤ k := hk; have := (hM13.trans hM37).size; show w1.heap.size ≤ k; omega))
    have hz3w : w1.heap.size ≤ w3.heap.size := hM13.size
    clear hL8 hy8 hM18 hM08 gx8 gb8 hM37 hM13 hM03 hB8 hB2 hB1 hB01 hB02 hB01' hM01 HL7 HL3 HW7 HW3 Hn3 HNB HQ3 HV3 e0 e1 gx1 gx gb
    go_wp2_with fail
    refine bodyPost_ret (v := ansL ⟨0, 0, q, 0, 0⟩ ya yc) (by simp only [results, Tryz.results44, ansL]; go_simp; try exact ⟨rfl, rfl⟩) rfl ?_
    have hMf : ∀ W, Mod (fun k => k = pb + 1 ∨ k = pb + 1 + 1) w8 W → ListsAt (From w.heap.size) W ya q.chains ∧ RLayAt (fun k => S k ∨ w.heap.size ≤ k) W b (s.count q) ∧ Mod (· = b) w W := by
      intro W hF
      refine ⟨(HY8.out.mod hF ?_).sub ?_, (HL8.out.mod hF ?_).sub ?_, hMw8.trans' hF (fun k hk e => by omega)⟩
      · intro k hk _ e; have : w1.heap.size ≤ k := hk; omega
      · intro k _ hk; have : w1.heap.size ≤ k := hk; show w.heap.size ≤ k; omega
      · rintro k ((hk | hk) | hk) - e
        · have := hk.2; omega
        · omega
        · omega
      · rintro k - ((hk | hk) | hk)
        · exact Or.inl hk.1
        · exact Or.inr (by omega)
        · exact Or.inr (by omega)
    exact ⟨ya, yc, rfl, hMf _ (by (repeat' (first | (with_reducible exact (Mod.refl _ _)) | (with_reducible apply Mod.drew) | (with_reducible apply Mod.drewN) | (with_reducible apply Mod.alloc) | (with_reducible apply Mod.setCellAt) | (intro _; first | rfl | exact Or.inl rfl | exact Or.inr rfl) | (intro h; exfalso; omega))))⟩
end
end Go.Proofs.YtnojjohkpkmliaaGreat
