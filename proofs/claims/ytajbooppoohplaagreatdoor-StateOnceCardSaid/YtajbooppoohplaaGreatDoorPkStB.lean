import Derived.Test.YtajbooppoohplaaGreatDoorMac
import Derived.Test.YtajbooppoohplaaGreatDoorPkStA
/- package state: open -/
set_option maxRecDepth 100000
set_option maxHeartbeats 8000000
namespace Go.Proofs.YtajbooppoohplaaGreatDoor
open Go.RowKit Esch Go.Shelf

set_option linter.unusedSimpArgs false
theorem open_st (w : World) (b : Nat) (S : Nat → Prop) (s : StS) (h : SttAt w b S s) (hok : s.t.t.ok) (hl : s.h.m.length ≤ 100000) (addr : Int) (o : OpS) :
    Calls Tryz.prog 76 #[.pointer (some ⟨b, 0, none⟩), .int .i64 addr, opCells o] w (DoesPost w b S (s.opn o addr)) := by
 obtain ⟨xc, xs, xk, p, q, xz, xh, xo, xt, xi, xn, mp, ml, mc⟩ := o
 simp only [StS.tr, StS.tab, opCells, OpS.cells]
 obtain ⟨sb, lt, tb, hb, ob, mb, S1, S2, hi, s1, s2, so, sm⟩ := h
 have hbl : b < w.heap.size := cell_lt hi.c0
 obtain ⟨W1, hW1⟩ : ∃ W1, W1 = (w.alloc (.cells #[.int .i64 xc, .int .i64 xs, .int .i64 xk, .string (bs p), .string (bs q), .int .i64 xz, .int .i64 xh, .int .i64 xo, .string xt, .int .i64 xi, .int .i64 xn, .slice mp ml mc] 31)).alloc (.cells #[.int .i64 0, .int .i64 0] 36) := ⟨_, rfl⟩
 have hB1 : Below w.heap.size w W1 := by rw [hW1]; exact belC (Below.refl _ _)
 have hz1 : W1.heap.size = w.heap.size + 2 := by rw [hW1]; simp
 have HC : Hid (StCur w W1 b tb hb ob mb S S1 S2 s) := Lib.hid ⟨hi.mod (F := none') (Mod.of_below hB1) id id id (fun _ _ => id) (fun _ _ => id), Mod.of_below hB1, fun k hk => Or.inl (s1 k hk), s2, sb, so, sm, lt⟩
 have r0 : W1.cell? ⟨w.heap.size + 1, 0, none⟩ = some (.int .i64 0) := by rw [hW1]; go_simp
 have r1 : W1.cell? ⟨w.heap.size + 1, 1, none⟩ = some (.int .i64 0) := by rw [hW1]; go_simp
 have f0 : W1.frozen? ⟨w.heap.size + 1, 0, none⟩ = false := by rw [hW1]; go_simp
 have f1 : W1.frozen? ⟨w.heap.size + 1, 1, none⟩ = false := by rw [hW1]; go_simp
 have a0 : W1.cell? ⟨w.heap.size, 0, none⟩ = some (.int .i64 xc) := by rw [hW1]; go_simp
 have a3 : W1.cell? ⟨w.heap.size, 3, none⟩ = some (.string (bs p)) := by rw [hW1]; go_simp
 have a6 : W1.cell? ⟨w.heap.size, 6, none⟩ = some (.int .i64 xh) := by rw [hW1]; go_simp
 have a7 : W1.cell? ⟨w.heap.size, 7, none⟩ = some (.int .i64 xo) := by rw [hW1]; go_simp
 have a8 : W1.cell? ⟨w.heap.size, 8, none⟩ = some (.string xt) := by rw [hW1]; go_simp
 have a9 : W1.cell? ⟨w.heap.size, 9, none⟩ = some (.int .i64 xi) := by rw [hW1]; go_simp
 have HW1 := Lib.hid hW1
 have hol := cell_lt a0
 have hrl := cell_lt r0
 have NS1 : Hid (∀ k, w.heap.size ≤ k → k < w.heap.size + 2 → ¬ S1 k) := Lib.hid (fun k h1 h2 h => by have := lt k (s1 k h); omega)
 have NS2 : Hid (∀ k, w.heap.size ≤ k → ¬ S2 k) := Lib.hid (fun k h1 h => by have := lt k (s2 k h); omega)
 have NS0 := Lib.hid s1
 clear hi hW1 hB1 lt s1 s2 sb so sm
 have d0 := HC.out.hi.c0
 have hfind := trFind_any W1.drew tb S1 s.t (HC.out.hi.tr.mod (F := none') ((Mod.refl none' _).drew) (fun _ _ => id)) p
 have hre := resolve_err s.t p
 unfold FindPost at hfind
 obtain ⟨fin, hfin⟩ : ∃ fin, fin = s.opn ⟨xc, xs, xk, p, q, xz, xh, xo, xt, xi, xn, mp, ml, mc⟩ addr := ⟨_, rfl⟩
 rw [← hfin]
 unfold StS.opn at hfin
 simp only at hfin
 obtain ⟨r, hr⟩ : ∃ r, r = s.t.resolve p := ⟨_, rfl⟩
 rw [← hr] at hfind hre hfin
 have hbl1 := cell_lt d0
 have HL := Lib.hid hl
 clear hr hl
 cases r with
 | err e0 =>
   have he0 : (e0 != 0) = true := by simpa using hre e0 rfl
   simp only [Res.val, Res.code] at hfind hfin
   subst hfin
   clear hre
   go_enter Tryz.func76, Tryz.ntmps76
   go_wp2_with fail
   rw [← HW1.out]
   refine wp_region_held_drew (S := fun W' => W'.cell? ⟨b, 0, none⟩ = some (.pointer (some ⟨tb, 0, none⟩)) ∧ W'.cell? ⟨w.heap.size, 3, none⟩ = some (.string (bs p))) (by kernel_rfl) ⟨d0, a3⟩ (fun hHeld => ?_)
   refine takeL 0 ?_
   refine takeL 1 ?_
   refine takeL 2 ?_
   refine takeL 3 ?_
   refine takeL 4 ?_
   refine takeL 5 ?_
   refine wpAnyH_ready (rs := [6]) (by kernel_rfl) (by simp) ?_
   refine AllReadyH.cons (o := _) rfl (fun K hK => ?_) AllReadyH.nil
   go_simp
   refine hfind.mono ?_
   clear hfind
   rintro e W2 ⟨rfl, hB2'⟩
   have hB2 : Below W1.heap.size W1 W2 := ⟨hB2'.os, hB2'.tape, hB2'.output, hB2'.size, hB2'.block⟩
   have d0 := below_at hB2 d0 hbl1
   have a0 := below_at hB2 a0 hol
   have a3 := below_at hB2 a3 hol
   have r0 := below_at hB2 r0 hrl
   have r1 := below_at hB2 r1 hrl
   have f0 := (hB2.frozen (p := ⟨w.heap.size + 1, 0, none⟩) hrl).trans f0
   have f1 := (hB2.frozen (p := ⟨w.heap.size + 1, 1, none⟩) hrl).trans f1
   have HC2 := Lib.hid (HC.out.below hB2)
   have hbl1 := cell_lt d0
   have hol := cell_lt a0
   have hrl := cell_lt r0
   have hz2 := hB2.size
   clear hB2 hB2'
   try go_wp2_with fail
   refine hK.out _ _ ⟨d0, a3⟩ (fun hHeld => ?_)
   clear hK K
   try simp only [Act.put, List.setIfInBounds_toArray, List.set_cons_zero, List.set_cons_succ]
   refine takeL 7 ?_
   refine takeL 8 ?_
   refine takeL 9 ?_
   refine takeL 10 ?_
   refine takeL 11 ?_
   refine wpAnyH_done (by kernel_rfl) ?_ _
   clear hHeld
   go_wp2_with fail
   refine (code_any _ _).mono ?_
   rintro e WZ ⟨rfl, hBz⟩
   have r0 := below_at hBz r0 hrl
   have r1 := below_at hBz r1 hrl
   have f0 := (hBz.frozen (p := ⟨w.heap.size + 1, 0, none⟩) hrl).trans f0
   have f1 := (hBz.frozen (p := ⟨w.heap.size + 1, 1, none⟩) hrl).trans f1
   have hrl := cell_lt r0
   have HCZ := Lib.hid (HC2.out.below hBz)
   clear hBz
   go_wp2_with fail
   refine bodyPost_ret (v := .agg #[.int .i64 (e0), .int .i64 0]) (by simp [results, Tryz.results76, go_sem, *]) rfl ?_
   exact ⟨rfl, (HCZ.out.other (F := (· = w.heap.size + 1)) (((Mod.refl (· = w.heap.size + 1) _).setCellAt (fun _ => rfl) _).setCellAt (fun _ => rfl) _) (fun k hk => by have e : k = w.heap.size + 1 := hk; omega) (fun k hk e => NS1.out k (by omega) (by omega) hk)).done⟩
 | ok i =>
   simp only [Res.val, Res.code] at hfind hfin
   have HFIN := Lib.hid hfin
   clear hre hfin
   go_enter Tryz.func76, Tryz.ntmps76
   go_wp2_with fail
   rw [← HW1.out]
   refine wp_region_held_drew (S := fun W' => W'.cell? ⟨b, 0, none⟩ = some (.pointer (some ⟨tb, 0, none⟩)) ∧ W'.cell? ⟨w.heap.size, 3, none⟩ = some (.string (bs p))) (by kernel_rfl) ⟨d0, a3⟩ (fun hHeld => ?_)
   refine takeL 0 ?_
   refine takeL 1 ?_
   refine takeL 2 ?_
   refine takeL 3 ?_
   refine takeL 4 ?_
   refine takeL 5 ?_
   refine wpAnyH_ready (rs := [6]) (by kernel_rfl) (by simp) ?_
   refine AllReadyH.cons (o := _) rfl (fun K hK => ?_) AllReadyH.nil
   go_simp
   refine hfind.mono ?_
   clear hfind
   rintro e W2 ⟨rfl, hB2'⟩
   have hB2 : Below W1.heap.size W1 W2 := ⟨hB2'.os, hB2'.tape, hB2'.output, hB2'.size, hB2'.block⟩
   have d0 := below_at hB2 d0 hbl1
   have a0 := below_at hB2 a0 hol
   have a3 := below_at hB2 a3 hol
   have r0 := below_at hB2 r0 hrl
   have r1 := below_at hB2 r1 hrl
   have f0 := (hB2.frozen (p := ⟨w.heap.size + 1, 0, none⟩) hrl).trans f0
   have f1 := (hB2.frozen (p := ⟨w.heap.size + 1, 1, none⟩) hrl).trans f1
   have HC2 := Lib.hid (HC.out.below hB2)
   have hbl1 := cell_lt d0
   have hol := cell_lt a0
   have hrl := cell_lt r0
   have hz2 := hB2.size
   clear hB2 hB2'
   try go_wp2_with fail
   refine hK.out _ _ ⟨d0, a3⟩ (fun hHeld => ?_)
   clear hK K
   try simp only [Act.put, List.setIfInBounds_toArray, List.set_cons_zero, List.set_cons_succ]
   refine takeL 7 ?_
   refine takeL 8 ?_
   refine takeL 9 ?_
   refine takeL 10 ?_
   refine takeL 11 ?_
   refine wpAnyH_done (by kernel_rfl) ?_ _
   clear hHeld
   obtain ⟨ib, Sa, hta, hsa, hin, hup⟩ := tree_tab (HC2.out.hi.tr)
   have hst := inoStat_any W2 ib Sa s.t.t hta i
   obtain ⟨⟨x0, x1, x2, x3, x4, xp⟩, hx⟩ : ∃ x, x = s.t.t.at i := ⟨_, rfl⟩
   rw [← hx] at hst
   have hfin := HFIN.out
   rw [← hx] at hfin
   have HFIN := Lib.hid hfin
   simp only [statV] at hst HFIN
   clear hx hta hsa hup hfin
   go_wp2_with fail
   refine hin.mono ?_
   clear hin
   rintro e W3 ⟨rfl, hw3⟩
   obtain rfl := hw3.symm
   go_wp2_with fail
   refine hst.mono ?_
   clear hst
   rintro e W4 ⟨rfl, hB4⟩
   have d0 := below_at hB4 d0 hbl1
   have a0 := below_at hB4 a0 hol
   have r0 := below_at hB4 r0 hrl
   have r1 := below_at hB4 r1 hrl
   have f0 := (hB4.frozen (p := ⟨w.heap.size + 1, 0, none⟩) hrl).trans f0
   have f1 := (hB4.frozen (p := ⟨w.heap.size + 1, 1, none⟩) hrl).trans f1
   have HC4 := Lib.hid (HC2.out.below hB4)
   have hbl1 := cell_lt d0
   have hol := cell_lt a0
   have hrl := cell_lt r0
   have hz4 := hB4.size
   clear hB4 a3
   by_cases hk : x1 = 1
   · have hfin := HFIN.out
     rw [if_pos hk] at hfin
     subst hk
     subst hfin
     go_wp2_with fail
     obtain ⟨W5, hW5⟩ : ∃ W5, W5 = W4.alloc (.cells #[.int .i64 x0, .int .i64 1, .int .i64 x2, .int .i64 x4] 110) := ⟨_, rfl⟩
     have hB5 : Below W4.heap.size W4 W5 := by rw [hW5]; exact belC (Below.refl _ _)
     rw [← hW5]
     have r0 := below_at hB5 r0 hrl
     have r1 := below_at hB5 r1 hrl
     have f0 := (hB5.frozen (p := ⟨w.heap.size + 1, 0, none⟩) hrl).trans f0
     have f1 := (hB5.frozen (p := ⟨w.heap.size + 1, 1, none⟩) hrl).trans f1
     have hrl := cell_lt r0
     have HC5 := Lib.hid (HC4.out.below hB5)
     clear hW5 hB5
     refine (code_any _ _).mono ?_
     rintro e WZ ⟨rfl, hBz⟩
     have r0 := below_at hBz r0 hrl
     have r1 := below_at hBz r1 hrl
     have f0 := (hBz.frozen (p := ⟨w.heap.size + 1, 0, none⟩) hrl).trans f0
     have f1 := (hBz.frozen (p := ⟨w.heap.size + 1, 1, none⟩) hrl).trans f1
     have hrl := cell_lt r0
     have HCZ := Lib.hid (HC5.out.below hBz)
     clear hBz
     go_wp2_with fail
     refine bodyPost_ret (v := .agg #[.int .i64 (63), .int .i64 0]) (by simp [results, Tryz.results76, go_sem, *]) rfl ?_
     exact ⟨rfl, (HCZ.out.other (F := (· = w.heap.size + 1)) (((Mod.refl (· = w.heap.size + 1) _).setCellAt (fun _ => rfl) _).setCellAt (fun _ => rfl) _) (fun k hk => by have e : k = w.heap.size + 1 := hk; omega) (fun k hk e => NS1.out k (by omega) (by omega) hk)).done⟩
   · have hfin := HFIN.out
     rw [if_neg hk] at hfin
     have hk' : (x1 == 1) = false := by simpa using hk
     clear hk
     obtain ⟨W5, hW5⟩ : ∃ W5, W5 = W4.alloc (.cells #[.int .i64 x0, .int .i64 x1, .int .i64 x2, .int .i64 x4] 110) := ⟨_, rfl⟩
     have hB5 : Below W4.heap.size W4 W5 := by rw [hW5]; exact belC (Below.refl _ _)
     have e0 := below_at hB5 d0 hbl1
     have b0 := below_at hB5 a0 hol
     have q0 := below_at hB5 r0 hrl
     have q1 := below_at hB5 r1 hrl
     have g0 := (hB5.frozen (p := ⟨w.heap.size + 1, 0, none⟩) hrl).trans f0
     have g1 := (hB5.frozen (p := ⟨w.heap.size + 1, 1, none⟩) hrl).trans f1
     have HC5 := Lib.hid (HC4.out.below hB5)
     have hz5 := hB5.size
     have HW5 := Lib.hid hW5
     have d1 : W5.cell? ⟨b, 1, none⟩ = some (.pointer (some ⟨hb, 0, none⟩)) := HC5.out.hi.c1
     have hop := hdlOpen_any W5.drew hb S2 s.h (HC5.out.hi.hd.mod (F := none') ((Mod.refl none' _).drew) (fun _ _ => id)) HL.out xc addr i
     have herr := hopn_err s.h xc addr i
     have hol1 : s.h.m.length ≤ 100000 := HL.out
     obtain ⟨r, hr⟩ : ∃ r, r = s.h.opn xc addr i := ⟨_, rfl⟩
     rw [← hr] at hop herr hfin
     obtain ⟨rv, rh⟩ := r
     have nb2 := HC5.out.hi.b2
     have HERR := Lib.hid herr
     simp only at hop HERR hfin
     have HFIN := Lib.hid hfin
     clear hfin
     clear hW5 hB5 hr herr d0 a0 r0 r1 f0 f1 hol1 HC2 HC4
     go_wp2_with fail
     rw [← HW5.out]
     have hbl5 := cell_lt e0
     have hol5 := cell_lt b0
     have hrl := cell_lt q0
     refine wp_region_held_drew (S := fun W' => W'.cell? ⟨b, 1, none⟩ = some (.pointer (some ⟨hb, 0, none⟩)) ∧ W'.cell? ⟨w.heap.size, 0, none⟩ = some (.int .i64 xc)) (by kernel_rfl) ⟨d1, b0⟩ (fun hHeld => ?_)
     refine takeL 0 ?_
     refine takeL 1 ?_
     refine takeL 2 ?_
     refine takeL 3 ?_
     refine takeL 4 ?_
     refine takeL 5 ?_
     refine takeL 6 ?_
     refine takeL 7 ?_
     refine wpAnyH_ready (rs := [8]) (by kernel_rfl) (by simp) ?_
     refine AllReadyH.cons (o := _) rfl (fun K hK => ?_) AllReadyH.nil
     go_simp
     refine hop.mono ?_
     clear hop
     rintro e W6 ⟨rfl, hH6, hM6⟩
     have d1 := hM6.at d1 nb2
     have b0 := hM6.at b0 (NS2.out _ (Nat.le_refl _))
     have r0 := hM6.at q0 (NS2.out (w.heap.size + 1) (by omega))
     have r1 := hM6.at q1 (NS2.out (w.heap.size + 1) (by omega))
     have f0 := (hM6.frozen (p := ⟨w.heap.size + 1, 0, none⟩) hrl (NS2.out (w.heap.size + 1) (by omega))).trans g0
     have f1 := (hM6.frozen (p := ⟨w.heap.size + 1, 1, none⟩) hrl (NS2.out (w.heap.size + 1) (by omega))).trans g1
     have HC6 : Hid (StCur w W6 b tb hb ob mb S S1 S2 { s with h := rh }) := Lib.hid (StCur.hdl (W := W5.drew) (s := s) (HC5.out.other (F := none') ((Mod.refl none' _).drew) (fun _ h => h.elim) (fun _ _ => id)) hH6 hM6)
     have hz6 : W5.heap.size ≤ W6.heap.size := hM6.size
     have hbl5 := cell_lt d1
     have hol5 := cell_lt b0
     have hrl := cell_lt r0
     clear hH6 hM6 HC5 e0 q0 q1 g0 g1
     try go_wp2_with fail
     refine hK.out _ _ ⟨d1, b0⟩ (fun hHeld => ?_)
     clear hK K
     try simp only [Act.put, List.setIfInBounds_toArray, List.set_cons_zero, List.set_cons_succ]
     refine takeL 9 ?_
     refine wpAnyH_done (by kernel_rfl) ?_ _
     clear hHeld
     by_cases hv : rv ≠ 0
     · have hfin := HFIN.out
       rw [if_pos hv] at hfin
       subst hfin
       have hv' : (rv != 0) = true := by simpa using hv
       obtain rfl : rh = s.h := HERR.out hv
       clear hv HERR
       go_wp2_with fail
       refine (code_any _ _).mono ?_
       rintro e WZ ⟨rfl, hBz⟩
       have r0 := below_at hBz r0 hrl
       have r1 := below_at hBz r1 hrl
       have f0 := (hBz.frozen (p := ⟨w.heap.size + 1, 0, none⟩) hrl).trans f0
       have f1 := (hBz.frozen (p := ⟨w.heap.size + 1, 1, none⟩) hrl).trans f1
       have hrl := cell_lt r0
       have HCZ := Lib.hid (HC6.out.below hBz)
       clear hBz
       go_wp2_with fail
       refine bodyPost_ret (v := .agg #[.int .i64 (rv), .int .i64 0]) (by simp [results, Tryz.results76, go_sem, *]) rfl ?_
       exact ⟨rfl, (HCZ.out.other (F := (· = w.heap.size + 1)) (((Mod.refl (· = w.heap.size + 1) _).setCellAt (fun _ => rfl) _).setCellAt (fun _ => rfl) _) (fun k hk => by have e : k = w.heap.size + 1 := hk; omega) (fun k hk e => NS1.out k (by omega) (by omega) hk)).done⟩
     · have hfin := HFIN.out
       rw [if_neg hv] at hfin
       obtain rfl : rv = 0 := Classical.not_not.1 hv
       clear hv HERR
       obtain ⟨ib, Sa, hta, hsa, hin, hup⟩ := tree_tab (HC6.out.hi.tr)
       have hino := (inoOpen_any W6 ib Sa s.t.t hta i 1 (Or.inl rfl) (hok.x i)).mono (fun e w' hp => TabPost.g hp hta.lt)
       have hter := topn_err s.t.t i 1
       obtain ⟨q, hq⟩ : ∃ q, q = s.t.t.opn i 1 := ⟨_, rfl⟩
       rw [← hq] at hino hter hfin
       obtain ⟨qv, qt⟩ := q
       simp only at hino hter hfin
       have HFIN := Lib.hid hfin
       clear hfin
       have HTER := Lib.hid hter
       have HUP := Lib.hid hup
       have NSA : Hid (∀ k, w.heap.size ≤ k → k < w.heap.size + 2 → ¬ Sa k) := Lib.hid (fun k h1 h2 h => NS1.out k h1 h2 (hsa k h))
       have d0 : W6.cell? ⟨b, 0, none⟩ = some (.pointer (some ⟨tb, 0, none⟩)) := HC6.out.hi.c0
       clear hta hsa hup hq hter
       go_wp2_with fail
       refine hin.mono ?_
       clear hin
       rintro e W7' ⟨rfl, hw7⟩
       obtain rfl := hw7.symm
       go_wp2_with fail
       refine hino.mono ?_
       clear hino
       rintro e W7 ⟨rfl, hT7, hM7⟩
       obtain ⟨hT8, hM8⟩ := HUP.out W7 qt hT7 hM7
       have b0 := hM7.at b0 (NSA.out _ (Nat.le_refl _) (by omega))
       have r0 := hM7.at r0 (NSA.out (w.heap.size + 1) (by omega) (by omega))
       have r1 := hM7.at r1 (NSA.out (w.heap.size + 1) (by omega) (by omega))
       have f0 := (hM7.frozen (p := ⟨w.heap.size + 1, 0, none⟩) hrl (NSA.out (w.heap.size + 1) (by omega) (by omega))).trans f0
       have f1 := (hM7.frozen (p := ⟨w.heap.size + 1, 1, none⟩) hrl (NSA.out (w.heap.size + 1) (by omega) (by omega))).trans f1
       have hrl := cell_lt r0
       have HC7 : Hid (StCur w W7 b tb hb ob mb S (growI S1 W6 W7) S2 { s with h := rh, t := ⟨qt, s.t.n⟩ }) := Lib.hid (StCur.tree (s := { s with h := rh }) HC6.out hT8 hM8)
       have NS4 : Hid (∀ k, growI S1 W6 W7 k → ¬ k = w.heap.size + 1) := Lib.hid (fun k hk e => by
         rcases hk with hk | hk
         · exact NS1.out k (by omega) (by omega) hk
         · omega)
       have d1 : W7.cell? ⟨b, 1, none⟩ = some (.pointer (some ⟨hb, 0, none⟩)) := HC7.out.hi.c1
       have nb2' := HC7.out.hi.b2
       have hz7 := hM7.size
       have hol7 := cell_lt b0
       have hbl7 := cell_lt d1
       clear hT7 hM7 hT8 hM8 HC6 d0
       by_cases hv : qv ≠ 0
       · have hfin := HFIN.out
         rw [if_pos hv] at hfin
         have hv' : (qv != 0) = true := by simpa using hv
         obtain rfl : qt = s.t.t := HTER.out hv
         have hcl := hdlClose_any W7.drew hb S2 rh (HC7.out.hi.hd.mod (F := none') ((Mod.refl none' _).drew) (fun _ _ => id)) xc addr
         obtain ⟨u, hu⟩ : ∃ u, u = rh.close xc addr := ⟨_, rfl⟩
         rw [← hu] at hcl hfin
         subst hfin
         clear hv HTER hu
         go_wp2_with fail
         refine wp_region_held_drew (S := fun W' => W'.cell? ⟨b, 1, none⟩ = some (.pointer (some ⟨hb, 0, none⟩)) ∧ W'.cell? ⟨w.heap.size, 0, none⟩ = some (.int .i64 xc)) (by kernel_rfl) ⟨d1, b0⟩ (fun hHeld => ?_)
         refine takeL 0 ?_
         refine takeL 1 ?_
         refine takeL 2 ?_
         refine takeL 3 ?_
         refine takeL 4 ?_
         refine takeL 5 ?_
         refine takeL 6 ?_
         refine wpAnyH_ready (rs := [7]) (by kernel_rfl) (by simp) ?_
         refine AllReadyH.cons (o := _) rfl (fun K hK => ?_) AllReadyH.nil
         go_simp
         refine hcl.mono ?_
         clear hcl
         rintro e W8 ⟨rfl, hH8, hM8⟩
         have d1 := hM8.at d1 nb2'
         have b0 := hM8.at b0 (NS2.out _ (Nat.le_refl _))
         have r0 := hM8.at r0 (NS2.out (w.heap.size + 1) (by omega))
         have r1 := hM8.at r1 (NS2.out (w.heap.size + 1) (by omega))
         have f0 := (hM8.frozen (p := ⟨w.heap.size + 1, 0, none⟩) hrl (NS2.out (w.heap.size + 1) (by omega))).trans f0
         have f1 := (hM8.frozen (p := ⟨w.heap.size + 1, 1, none⟩) hrl (NS2.out (w.heap.size + 1) (by omega))).trans f1
         have hrl := cell_lt r0
         have HC8 : Hid (StCur w W8 b tb hb ob mb S (growI S1 W6 W7) S2 { s with h := u.2, t := ⟨s.t.t, s.t.n⟩ }) := Lib.hid (StCur.hdl (W := W7.drew) (s := { s with h := rh, t := ⟨s.t.t, s.t.n⟩ }) (HC7.out.other (F := none') ((Mod.refl none' _).drew) (fun _ h => h.elim) (fun _ _ => id)) hH8 hM8)
         clear hH8 hM8 HC7
         try go_wp2_with fail
         refine hK.out _ _ ⟨d1, b0⟩ (fun hHeld => ?_)
         clear hK K
         try simp only [Act.put, List.setIfInBounds_toArray, List.set_cons_zero, List.set_cons_succ]
         refine wpAnyH_done (by kernel_rfl) ?_ _
         clear hHeld
         go_wp2_with fail
         refine (code_any _ _).mono ?_
         rintro e WZ ⟨rfl, hBz⟩
         have r0 := below_at hBz r0 hrl
         have r1 := below_at hBz r1 hrl
         have f0 := (hBz.frozen (p := ⟨w.heap.size + 1, 0, none⟩) hrl).trans f0
         have f1 := (hBz.frozen (p := ⟨w.heap.size + 1, 1, none⟩) hrl).trans f1
         have hrl := cell_lt r0
         have HCZ := Lib.hid (HC8.out.below hBz)
         clear hBz
         go_wp2_with fail
         refine bodyPost_ret (v := .agg #[.int .i64 (qv), .int .i64 0]) (by simp [results, Tryz.results76, go_sem, *]) rfl ?_
         exact ⟨rfl, (HCZ.out.other (F := (· = w.heap.size + 1)) (((Mod.refl (· = w.heap.size + 1) _).setCellAt (fun _ => rfl) _).setCellAt (fun _ => rfl) _) (fun k hk => by have e : k = w.heap.size + 1 := hk; omega) NS4.out).done⟩
       · have hfin := HFIN.out
         rw [if_neg hv] at hfin
         subst hfin
         obtain rfl : qv = 0 := Classical.not_not.1 hv
         clear hv HTER
         go_wp2_with fail
         refine bodyPost_ret (v := .agg #[.int .i64 0, .int .i64 addr]) (by simp [results, Tryz.results76, go_sem, *]) rfl ?_
         exact ⟨rfl, (HC7.out.other (F := (· = w.heap.size + 1)) (((Mod.refl (· = w.heap.size + 1) _).setCellAt (fun _ => rfl) _).setCellAt (fun _ => rfl) _) (fun k hk => by have e : k = w.heap.size + 1 := hk; omega) NS4.out).done⟩
end Go.Proofs.YtajbooppoohplaaGreatDoor
/- package state: expire -/
namespace Go.Proofs.YtajbooppoohplaaGreatDoor
open Go.RowKit Esch Go.Shelf

set_option linter.unusedSimpArgs false
def ExpR (w W2 : World) (b tb hb ob mb : Nat) (S S1 S2 : Nat → Prop) (s : StS) (L : List Hd) (a : Option Addr) (g : Nat) (v : Value) (wr : World) : Prop :=
  ∃ (i : Nat) (S1' : Nat → Prop), g = L.length - i ∧ i ≤ L.length ∧ v = .int .i64 i ∧ StCur w wr b tb hb ob mb S S1' S2 { s with t := ⟨opensDown s.t.t (L.take i), s.t.n⟩ } ∧ (∀ k, S1' k → S1 k ∨ W2.heap.size ≤ k) ∧ W2.heap.size ≤ wr.heap.size ∧
    (∀ k, k < 2 → wr.cell? ⟨w.heap.size + 1, k, none⟩ = some (.int .i64 0) ∧ wr.frozen? ⟨w.heap.size + 1, k, none⟩ = false) ∧ HdsAt (fun k => w.heap.size + 2 ≤ k ∧ k < W2.heap.size) wr a L
theorem opens_step (t : TabS) (L : List Hd) (i : Nat) (h : i < L.length) : opensDown t (L.take (i + 1)) = ((opensDown t (L.take i)).opn (L.getD i default).2 (-1)).2 := by
 unfold opensDown
 rw [take_one L default h, List.foldl_append]
 rfl
theorem expire_any (w : World) (b : Nat) (S : Nat → Prop) (s : StS) (h : SttAt w b S s) (hok : s.t.t.ok) (hl : s.h.m.length ≤ 100000) (hk : ∀ e ∈ s.h.m, clientB e.1.1 = true) (addr : Int) (o : OpS) :
    Calls Tryz.prog 80 #[.pointer (some ⟨b, 0, none⟩), .int .i64 addr, opCells o] w (DoesPost w b S (s.exp o.tick)) := by
 obtain ⟨xc, xs, xk, p, q, xz, xh, xo, xt, xi, xn, mp, ml, mc⟩ := o
 simp only [StS.tr, StS.tab, opCells, OpS.cells]
 obtain ⟨sb, lt, tb, hb, ob, mb, S1, S2, hi, s1, s2, so, sm⟩ := h
 have hbl : b < w.heap.size := cell_lt hi.c0
 obtain ⟨W1, hW1⟩ : ∃ W1, W1 = (w.alloc (.cells #[.int .i64 xc, .int .i64 xs, .int .i64 xk, .string (bs p), .string (bs q), .int .i64 xz, .int .i64 xh, .int .i64 xo, .string xt, .int .i64 xi, .int .i64 xn, .slice mp ml mc] 31)).alloc (.cells #[.int .i64 0, .int .i64 0] 36) := ⟨_, rfl⟩
 have hB1 : Below w.heap.size w W1 := by rw [hW1]; exact belC (Below.refl _ _)
 have hz1 : W1.heap.size = w.heap.size + 2 := by rw [hW1]; simp
 have HC : Hid (StCur w W1 b tb hb ob mb S S1 S2 s) := Lib.hid ⟨hi.mod (F := none') (Mod.of_below hB1) id id id (fun _ _ => id) (fun _ _ => id), Mod.of_below hB1, fun k hk => Or.inl (s1 k hk), s2, sb, so, sm, lt⟩
 have r0 : W1.cell? ⟨w.heap.size + 1, 0, none⟩ = some (.int .i64 0) := by rw [hW1]; go_simp
 have r1 : W1.cell? ⟨w.heap.size + 1, 1, none⟩ = some (.int .i64 0) := by rw [hW1]; go_simp
 have f0 : W1.frozen? ⟨w.heap.size + 1, 0, none⟩ = false := by rw [hW1]; go_simp
 have f1 : W1.frozen? ⟨w.heap.size + 1, 1, none⟩ = false := by rw [hW1]; go_simp
 have a0 : W1.cell? ⟨w.heap.size, 0, none⟩ = some (.int .i64 xc) := by rw [hW1]; go_simp
 have a3 : W1.cell? ⟨w.heap.size, 3, none⟩ = some (.string (bs p)) := by rw [hW1]; go_simp
 have a6 : W1.cell? ⟨w.heap.size, 6, none⟩ = some (.int .i64 xh) := by rw [hW1]; go_simp
 have a7 : W1.cell? ⟨w.heap.size, 7, none⟩ = some (.int .i64 xo) := by rw [hW1]; go_simp
 have a8 : W1.cell? ⟨w.heap.size, 8, none⟩ = some (.string xt) := by rw [hW1]; go_simp
 have a9 : W1.cell? ⟨w.heap.size, 9, none⟩ = some (.int .i64 xi) := by rw [hW1]; go_simp
 have HW1 := Lib.hid hW1
 have hol := cell_lt a0
 have hrl := cell_lt r0
 have NS1 : Hid (∀ k, w.heap.size ≤ k → k < w.heap.size + 2 → ¬ S1 k) := Lib.hid (fun k h1 h2 h => by have := lt k (s1 k h); omega)
 have NS2 : Hid (∀ k, w.heap.size ≤ k → ¬ S2 k) := Lib.hid (fun k h1 h => by have := lt k (s2 k h); omega)
 have NS0 := Lib.hid s1
 clear hi hW1 hB1 lt s1 s2 sb so sm
 have d1 := HC.out.hi.c1
 have hcall := hdlExpire_any W1.drew hb S2 s.h (HC.out.hi.hd.mod (F := none') ((Mod.refl none' _).drew) (fun _ _ => id)) hl hk xi
 have hnd : (s.h.m.map (·.1)).Nodup := by
  obtain ⟨-, -, -, mb', -, -, ⟨es, ck, hm⟩, -⟩ := HC.out.hi.hd
  exact hm.apart
 have HSO := Lib.hid (hsort_ok hnd)
 obtain ⟨L, hL⟩ : ∃ L, L = (hsort s.h.m).filter (s.h.old xi) := ⟨_, rfl⟩
 have HLE := Lib.hid hL
 have hLl : L.length ≤ 100000 := by
  rw [hL]
  exact Nat.le_trans (List.length_filter_le _ _) (by rw [(hsort_ok hnd).1.length_eq]; exact hl)
 obtain ⟨fin, hfin⟩ : ∃ fin, fin = s.exp xi := ⟨_, rfl⟩
 rw [← hfin]
 have HFIN : Hid (fin = ((0, 0), { s with h := { s.h with m := delp (s.h.old xi) s.h.m (hsort s.h.m) }, t := ⟨opensDown s.t.t L, s.t.n⟩ })) := Lib.hid (by rw [hfin, hL]; rfl)
 have hbl1 := cell_lt d1
 have nb2 := HC.out.hi.b2
 have HOK := Lib.hid hok
 clear hnd hL hfin hl hk hok
 go_enter Tryz.func80, Tryz.ntmps80
 go_wp2_with fail
 rw [← HW1.out]
 refine wp_region_held_drew (S := fun W' => W'.cell? ⟨b, 1, none⟩ = some (.pointer (some ⟨hb, 0, none⟩)) ∧ W'.cell? ⟨w.heap.size, 9, none⟩ = some (.int .i64 xi)) (by kernel_rfl) ⟨d1, a9⟩ (fun hHeld => ?_)
 refine takeL 0 ?_
 refine takeL 1 ?_
 refine takeL 2 ?_
 refine takeL 3 ?_
 refine takeL 4 ?_
 refine takeL 5 ?_
 refine takeL 8 ?_
 refine wpAnyH_ready (rs := [6]) (by kernel_rfl) (by simp) ?_
 refine AllReadyH.cons (o := _) rfl (fun K hK => ?_) AllReadyH.nil
 go_simp
 refine hcall.mono ?_
 clear hcall
 rintro e W2 ⟨ra, rc, l, rfl, hso, hrow, hH2, hM2⟩
 obtain rfl : l = hsort s.h.m := HSorted.unique hso HSO.out (List.Perm.refl _)
 rw [← HLE.out] at hrow ⊢
 have d1 := hM2.at d1 nb2
 have a9 := hM2.at a9 (NS2.out _ (Nat.le_refl _))
 have r0 := hM2.at r0 (NS2.out (w.heap.size + 1) (by omega))
 have r1 := hM2.at r1 (NS2.out (w.heap.size + 1) (by omega))
 have f0 := (hM2.frozen (p := ⟨w.heap.size + 1, 0, none⟩) hrl (NS2.out (w.heap.size + 1) (by omega))).trans f0
 have f1 := (hM2.frozen (p := ⟨w.heap.size + 1, 1, none⟩) hrl (NS2.out (w.heap.size + 1) (by omega))).trans f1
 have hrl := cell_lt r0
 have HC2 : Hid (StCur w W2 b tb hb ob mb S S1 S2 { s with h := { s.h with m := delp (s.h.old xi) s.h.m (hsort s.h.m) } }) := Lib.hid (StCur.hdl (W := W1.drew) (s := s) (HC.out.other (F := none') ((Mod.refl none' _).drew) (fun _ h => h.elim) (fun _ _ => id)) hH2 hM2)
 have hz2 : W1.heap.size ≤ W2.heap.size := hM2.size
 have HROW : Hid (HdsAt (fun k => w.heap.size + 2 ≤ k ∧ k < W2.heap.size) W2 ra L) := Lib.hid (fun h0 => by
   obtain ⟨rb, ro, e1, e2, e3, e4⟩ := hrow h0
   have e2 : W1.heap.size ≤ rb := e2
   exact ⟨rb, ro, e1, ⟨by omega, e3⟩, e3, e4⟩)
 obtain ⟨n, hn⟩ : ∃ n, n = L.length := ⟨_, rfl⟩
 rw [← hn] at hLl ⊢
 have HN := Lib.hid hn
 clear hH2 hM2 HC hrow hso hn
 try go_wp2_with fail
 refine hK.out _ _ ⟨d1, a9⟩ (fun hHeld => ?_)
 clear hK K
 try simp only [Act.put, List.setIfInBounds_toArray, List.set_cons_zero, List.set_cons_succ]
 refine takeL 7 ?_
 refine wpAnyH_done (by kernel_rfl) ?_ _
 clear hHeld
 go_wp2_with fail
 go_loopg [17] n (fun g v wr => ExpR w W2 b tb hb ob mb S S1 S2 { s with h := { s.h with m := delp (s.h.old xi) s.h.m (hsort s.h.m) } } L ra g v wr)
 case atStart => exact ⟨0, S1, by rw [← HN.out]; rfl, Nat.zero_le _, rfl, HC2.out, fun _ => Or.inl, Nat.le_refl _, fun k hk => (by
   have : k = 0 ∨ k = 1 := by omega
   rcases this with rfl | rfl
   · exact ⟨r0, f0⟩
   · exact ⟨r1, f1⟩), HROW.out⟩
 case round =>
  clear HROW r0 r1 f0 f1 hrl a0 a3 a6 a7 a8 a9 d1
  obtain ⟨i, S1', hg, hi, rfl, hC, hS1, hzr, hrr, hrow⟩ := hrel
  rw [← HN.out] at hg hi
  subst hg
  have HCi := Lib.hid hC
  have HS1 := Lib.hid hS1
  have HRR := Lib.hid hrr
  have HROW := Lib.hid hrow
  clear hC hS1 hrr hrow
  by_cases hlt : i < n
  · have hix : i < L.length := by have := HN.out; omega
    obtain ⟨rb, ro, rfl, hrs, hrl, hrc⟩ := HROW.out (by omega)
    obtain ⟨hr0, hr1, hr2⟩ := hrc i hix
    have HST := Lib.hid (opens_step s.t.t L i hix)
    obtain ⟨⟨⟨e0, e1⟩, e2⟩, he⟩ : ∃ e, e = L.getD i default := ⟨_, rfl⟩
    rw [← he] at hr0 hr1 hr2 HST
    simp only at hr0 hr1 hr2 HST
    have hil2 : (0 : Int) ≤ i ∧ (i : Int) < n := by omega
    have hms : n - (i + 1) < n - i := by omega
    have hi1 : i + 1 ≤ n := hlt
    have hwr1 := Lib.hid (show wrap64 ((i : Int) + 1) = ((i + 1 : Nat) : Int) by unfold wrap64; omega)
    obtain ⟨V, hV⟩ : ∃ V, V = wr.alloc (.cells #[.int .i64 e0, .int .i64 e1, .int .i64 e2] 95) := ⟨_, rfl⟩
    have hBV : Below wr.heap.size wr V := by rw [hV]; exact belC (Below.refl _ _)
    have v2 : V.cell? ⟨wr.heap.size, 2, none⟩ = some (.int .i64 e2) := by rw [hV]; go_simp
    have HCV := Lib.hid (StCur.other (F := none') (HCi.out.below hBV) ((Mod.refl none' _).drew) (fun _ h => h.elim) (fun _ _ => id))
    obtain ⟨ib, Sa, hta, hsa, hin, hup⟩ := tree_tab (HCV.out.hi.tr)
    have hop := (inoOpen_any V.drew ib Sa _ hta e2 (-1) (Or.inr rfl) ((opensDown_ok (L.take i) HOK.out).x e2)).mono (fun e w' hp => TabPost.g hp hta.lt)
    have hq := HST.out
    obtain ⟨q, hqq⟩ : ∃ q, q = (opensDown s.t.t (L.take i)).opn e2 (-1) := ⟨_, rfl⟩
    simp only at hop
    rw [← hqq] at hop hq
    have HQ := Lib.hid hq
    have HUP := Lib.hid hup
    have HSA := Lib.hid hsa
    have hzV : V.heap.size = wr.heap.size + 1 := by rw [hV]; simp
    have d0 : V.cell? ⟨b, 0, none⟩ = some (.pointer (some ⟨tb, 0, none⟩)) := HCV.out.hi.c0
    have hbV := cell_lt d0
    have NBA : Hid (¬ Sa b) := Lib.hid (fun h => HCV.out.hi.b1 (hsa _ h))
    have NVA : Hid (¬ Sa wr.heap.size) := Lib.hid (fun h => by
      rcases HS1.out _ (hsa _ h) with h1 | h1
      · exact NS2.out wr.heap.size (by omega) ((HCV.out.hi.ap _ (hsa _ h) |> fun _ => by
          have := HCi.out.hi.tr.lt _ (hsa _ h)
          omega))
      · have := HCi.out.hi.tr.lt _ (hsa _ h)
        omega)
    have HV := Lib.hid hV
    have hvl := cell_lt v2
    clear hV he hta hsa hup hq hqq hrc
    go_wp2_with fail
    rw [← HV.out]
    refine wp_region_held_drew (S := fun W' => W'.cell? ⟨b, 0, none⟩ = some (.pointer (some ⟨tb, 0, none⟩)) ∧ W'.cell? ⟨wr.heap.size, 2, none⟩ = some (.int .i64 e2)) (by kernel_rfl) ⟨d0, v2⟩ (fun hHeld => ?_)
    refine takeL 0 ?_
    refine takeL 1 ?_
    refine takeL 2 ?_
    refine takeL 3 ?_
    refine takeL 5 ?_
    refine takeL 6 ?_
    refine wpAnyH_ready (rs := [4]) (by kernel_rfl) (by simp) ?_
    refine AllReadyH.cons (o := _) rfl (fun K hK => ?_) AllReadyH.nil
    go_simp
    refine hin.mono ?_
    clear hin
    rintro e W3 ⟨rfl, hw3⟩
    obtain rfl := hw3.symm
    try go_wp2_with fail
    refine hK.out _ _ ⟨d0, v2⟩ (fun hHeld => ?_)
    clear hK K
    try simp only [Act.put, List.setIfInBounds_toArray, List.set_cons_zero, List.set_cons_succ]
    refine wpAnyH_ready (rs := [7]) (by kernel_rfl) (by simp) ?_
    refine AllReadyH.cons (o := _) rfl (fun K hK => ?_) AllReadyH.nil
    go_simp
    refine hop.mono ?_
    clear hop
    rintro e W4 ⟨rfl, hT4, hM4⟩
    obtain ⟨hT5, hM5⟩ := HUP.out W4 q.2 hT4 hM4
    have d0 := hM4.at d0 NBA.out
    have v2 := hM4.at v2 NVA.out
    have HC4 : Hid (StCur w W4 b tb hb ob mb S (growI S1' V.drew W4) S2 { s with h := { s.h with m := delp (s.h.old xi) s.h.m (hsort s.h.m) }, t := ⟨opensDown s.t.t (L.take (i + 1)), s.t.n⟩ }) := Lib.hid (by
      rw [HQ.out]
      exact StCur.tree (s := { s with h := { s.h with m := delp (s.h.old xi) s.h.m (hsort s.h.m) }, t := ⟨opensDown s.t.t (L.take i), s.t.n⟩ }) HCV.out hT5 hM5)
    have hzV4 : V.heap.size ≤ W4.heap.size := hM4.size
    have HMW : Hid (Mod (fun k => Sa k) wr W4) := Lib.hid ((Mod.of_below (F := fun k => Sa k) hBV).trans (show Mod (fun k => Sa k) V W4 from ⟨hM4.os, hM4.tape, hM4.output, hM4.size, hM4.block⟩))
    have NSX : Hid (∀ k, k < W2.heap.size → w.heap.size ≤ k → k < w.heap.size + 2 ∨ w.heap.size + 2 ≤ k → ¬ Sa k) := Lib.hid (fun k h1 h2 _ h => by
      rcases HS1.out k (HSA.out k h) with h3 | h3
      · have := HC2.out.hi.tr.lt k h3
        have := HC2.out.lt k (NS0.out k h3)
        omega
      · omega)
    clear hT4 hM4 hT5 hM5 HCV HCi
    try go_wp2_with fail
    refine hK.out _ _ ⟨d0, v2⟩ (fun hHeld => ?_)
    clear hK K
    try simp only [Act.put, List.setIfInBounds_toArray, List.set_cons_zero, List.set_cons_succ]
    refine wpAnyH_done (by kernel_rfl) ?_ _
    clear hHeld
    go_wp2_with fail
    go_roundg (n - (i + 1))
    case measure => exact hms
    case rel =>
     refine ⟨i + 1, _, by rw [← HN.out], by rw [← HN.out]; exact hi1, by first | rfl | rw [hwr1.out], HC4.out, fun k hk => ?_, by omega, fun k hk => ?_, ?_⟩
     · rcases hk with hk | hk
       · exact HS1.out k hk
       · exact Or.inr (by have h3 : V.heap.size ≤ k := hk.1; omega)
     · have h1 := HRR.out k hk
       have hn := NSX.out (w.heap.size + 1) (by omega) (by omega) (Or.inl (by omega))
       exact ⟨HMW.out.at h1.1 hn, (HMW.out.frozen (p := ⟨w.heap.size + 1, k, none⟩) (cell_lt h1.1) hn).trans h1.2⟩
     · exact HROW.out.mod HMW.out (fun k hk _ => NSX.out k hk.2 (by omega) (Or.inr hk.1))
  · obtain rfl : i = n := by omega
    have h0 := HRR.out 0 (by decide)
    have h1 := HRR.out 1 (by decide)
    have r0 := h0.1
    have r1 := h1.1
    have f0 := h0.2
    have f1 := h1.2
    have hrl := cell_lt r0
    have hCn := HCi.out
    have hge : ¬ (i : Int) < i := by omega
    rw [HN.out, List.take_length] at hCn
    have HCn := Lib.hid hCn
    have hfin := HFIN.out
    subst hfin
    have NS4 : Hid (∀ k, S1' k → ¬ k = w.heap.size + 1) := Lib.hid (fun k hk e => by
      rcases HS1.out k hk with h3 | h3
      · exact NS1.out k (by omega) (by omega) h3
      · omega)
    clear h0 h1 hCn hlt HCi
    go_wp2_with fail
    refine (code_any _ _).mono ?_
    rintro e WZ ⟨rfl, hBz⟩
    have r0 := below_at hBz r0 hrl
    have r1 := below_at hBz r1 hrl
    have f0 := (hBz.frozen (p := ⟨w.heap.size + 1, 0, none⟩) hrl).trans f0
    have f1 := (hBz.frozen (p := ⟨w.heap.size + 1, 1, none⟩) hrl).trans f1
    have hrl := cell_lt r0
    have HCZ := Lib.hid (HCn.out.below hBz)
    clear hBz
    go_wp2_with fail
    refine bodyPost_ret (v := .agg #[.int .i64 (0), .int .i64 0]) (by simp [results, Tryz.results80, go_sem, *]) rfl ?_
    exact ⟨rfl, (HCZ.out.other (F := (· = w.heap.size + 1)) (((Mod.refl (· = w.heap.size + 1) _).setCellAt (fun _ => rfl) _).setCellAt (fun _ => rfl) _) (fun k hk => by have e : k = w.heap.size + 1 := hk; omega) NS4.out).done⟩
end Go.Proofs.YtajbooppoohplaaGreatDoor
/- package state: the table of doings -/
namespace Go.Proofs.YtajbooppoohplaaGreatDoor
open Go.RowKit Esch Go.Shelf

def doingsL : List (Int × Nat) := [(1, 75), (2, 75), (3, 75), (4, 75), (5, 75), (6, 75), (7, 75), (8, 76), (9, 77), (10, 78), (11, 79), (12, 80), (13, 81), (14, 82)]
theorem doings_any (w : World) : Calls Tryz.prog 31 #[] w fun e w' => ∃ mb, e = .returned (.map (some mb)) ∧ MpAt w' mb iV opF doingsL ∧ Below w.heap.size w w' := by
 have hmm := @run_makeMap Tryz.prog
 have m0 : MpAt (w.alloc (.map #[] 0)) w.heap.size iV opF ([] : List (Int × Nat)) := ⟨#[], 0, alloc_new _ _, rfl, List.nodup_nil, List.Pairwise.nil, fun e h => by simp at h⟩
 obtain ⟨W1, u1, m1, o1, z1⟩ := MapAt.upz m0 keyInt Tryz.underlying79 1 (75 : Nat)
 obtain ⟨W2, u2, m2, o2, z2⟩ := MapAt.upz m1 keyInt Tryz.underlying79 2 (75 : Nat)
 obtain ⟨W3, u3, m3, o3, z3⟩ := MapAt.upz m2 keyInt Tryz.underlying79 3 (75 : Nat)
 obtain ⟨W4, u4, m4, o4, z4⟩ := MapAt.upz m3 keyInt Tryz.underlying79 4 (75 : Nat)
 obtain ⟨W5, u5, m5, o5, z5⟩ := MapAt.upz m4 keyInt Tryz.underlying79 5 (75 : Nat)
 obtain ⟨W6, u6, m6, o6, z6⟩ := MapAt.upz m5 keyInt Tryz.underlying79 6 (75 : Nat)
 obtain ⟨W7, u7, m7, o7, z7⟩ := MapAt.upz m6 keyInt Tryz.underlying79 7 (75 : Nat)
 obtain ⟨W8, u8, m8, o8, z8⟩ := MapAt.upz m7 keyInt Tryz.underlying79 8 (76 : Nat)
 obtain ⟨W9, u9, m9, o9, z9⟩ := MapAt.upz m8 keyInt Tryz.underlying79 9 (77 : Nat)
 obtain ⟨W10, u10, m10, o10, z10⟩ := MapAt.upz m9 keyInt Tryz.underlying79 10 (78 : Nat)
 obtain ⟨W11, u11, m11, o11, z11⟩ := MapAt.upz m10 keyInt Tryz.underlying79 11 (79 : Nat)
 obtain ⟨W12, u12, m12, o12, z12⟩ := MapAt.upz m11 keyInt Tryz.underlying79 12 (80 : Nat)
 obtain ⟨W13, u13, m13, o13, z13⟩ := MapAt.upz m12 keyInt Tryz.underlying79 13 (81 : Nat)
 obtain ⟨W14, u14, m14, o14, z14⟩ := MapAt.upz m13 keyInt Tryz.underlying79 14 (82 : Nat)
 simp only [iV] at u1 u2 u3 u4 u5 u6 u7 u8 u9 u10 u11 u12 u13 u14
 have hM : Mod (· = w.heap.size) (w.alloc (.map #[] 0)) W14 := o1.trans (o2.trans (o3.trans (o4.trans (o5.trans (o6.trans (o7.trans (o8.trans (o9.trans (o10.trans (o11.trans (o12.trans (o13.trans (o14)))))))))))))
 have hB : Below w.heap.size w W14 := ((Below.refl _ w).alloc (Nat.le_refl _) _).trans (hM.below_at (by simp) (fun k hk e => by omega))
 have HB := Lib.hid hB
 have HMp := Lib.hid m14
 clear m0 m1 o1 z1 m2 o2 z2 m3 o3 z3 m4 o4 z4 m5 o5 z5 m6 o6 z6 m7 o7 z7 m8 o8 z8 m9 o9 z9 m10 o10 z10 m11 o11 z11 m12 o12 z12 m13 o13 z13 m14 o14 z14 hM hB
 go_enter Tryz.func31, Tryz.ntmps31
 go_wp2_with fail
 go_ret
 exact ⟨_, rfl, HMp.out, HB.out⟩
theorem doings_look {w : World} {mb : Nat} (h : MpAt w mb iV opF doingsL) (k : Int) (g : Nat) (hk : get doingsL k = some g) : (Instr.lookup 79 (.map (some mb)) (.int .i64 k) false).run Tryz.prog w = .ok (opF g) w := by
 obtain ⟨es, c, hm⟩ := h
 have := hm.look keyInt Tryz.underlying79 (z := .nilFunc) (fun w => by kernel_rfl) k false
 rw [hk] at this
 simpa [iV] using this
end Go.Proofs.YtajbooppoohplaaGreatDoor
/- package state: Apply -/
namespace Go.Proofs.YtajbooppoohplaaGreatDoor
open Go.RowKit Esch Go.Shelf

set_option linter.unusedSimpArgs false
def APost (w : World) (b : Nat) (S : Nat → Prop) (r : ASt) (e : Ending) (w' : World) : Prop := e = .returned (.tuple #[.agg #[.int .i64 r.1.1.1, .int .i64 r.1.1.2], .bool r.1.2.1, .int .i64 r.1.2.2]) ∧ SttAt w' b (growI S w w') r.2 ∧ Mod S w w'
theorem StCur.nxt {w W : World} {b tb hb ob mb : Nat} {S S1 S2 : Nat → Prop} {s : StS} (h : StCur w W b tb hb ob mb S S1 S2 s) (n : Int) : StCur w (W.setCell ⟨b, 3, none⟩ (.int .i64 n)) b tb hb ob mb S S1 S2 { s with next := n } :=
  ⟨h.hi.nxt n, h.mod.setCellAt (b := b) (fun _ => h.sb) _, fun k hk => (h.s1 k hk).imp id fun h => ⟨h.1, by simpa using h.2⟩, h.s2, h.sb, h.so, h.sm, h.lt⟩
theorem dec_box {w w' : World} {r : Option (OpS × List Mv)} {e : Ending} (h : DecPost w r e w') : Below w.heap.size w w' ∧ ∃ (x : OpS) (er : Int), e = .returned (.tuple #[.agg x.cells.toArray, .int .i64 er]) ∧ (r = none → er = 11) := by
 obtain ⟨hB, h⟩ := h
 refine ⟨hB, ?_⟩
 cases r with
 | none => exact ⟨_, _, h, fun _ => rfl⟩
 | some r =>
   obtain ⟨mp, mc, h1, -⟩ := h
   exact ⟨_, _, h1, fun h => by cases h⟩
theorem apply_arg (w : World) (b : Nat) (S : Nat → Prop) (s : StS) (h : SttAt w b S s) (addr kind : Int) (text : ByteArray) (hc : addr ≠ s.next ∨ 16384 ≤ addr ∨ (kind ≠ 1 ∧ kind ≠ 2)) :
    Calls Tryz.prog 10 #[.pointer (some ⟨b, 0, none⟩), .int .i64 addr, .int .i64 kind, .string text] w (APost w b S (((0, 0), false, 1), s)) := by
 obtain ⟨sb, lt, tb, hb, ob, mb, S1, S2, hi, s1, s2, so, sm⟩ := h
 have hbl : b < w.heap.size := cell_lt hi.c0
 have e0 := hi.c0
 have e2 := hi.c2
 have e3 := hi.c3
 have g3 := hi.fz 3
 obtain ⟨W1, hW1⟩ : ∃ W1, W1 = w.alloc (.cells #[.int .i64 0, .int .i64 0] 36) := ⟨_, rfl⟩
 have hB1 : Below w.heap.size w W1 := by rw [hW1]; exact belC (Below.refl _ _)
 have hz1 : W1.heap.size = w.heap.size + 1 := by rw [hW1]; simp
 have HC : Hid (StCur w W1 b tb hb ob mb S S1 S2 s) := Lib.hid ⟨hi.mod (F := none') (Mod.of_below hB1) id id id (fun _ _ => id) (fun _ _ => id), Mod.of_below hB1, fun k hk => Or.inl (s1 k hk), s2, sb, so, sm, lt⟩
 have r0 : W1.cell? ⟨w.heap.size, 0, none⟩ = some (.int .i64 0) := by rw [hW1]; go_simp
 have r1 : W1.cell? ⟨w.heap.size, 1, none⟩ = some (.int .i64 0) := by rw [hW1]; go_simp
 have f0 : W1.frozen? ⟨w.heap.size, 0, none⟩ = false := by rw [hW1]; go_simp
 have f1 : W1.frozen? ⟨w.heap.size, 1, none⟩ = false := by rw [hW1]; go_simp
 have HW1 := Lib.hid hW1
 have hrl := cell_lt r0
 have NS1 : Hid (∀ k, w.heap.size ≤ k → k < w.heap.size + 1 → ¬ S1 k) := Lib.hid (fun k h1 h2 h => by have := lt k (s1 k h); omega)
 have NS2 : Hid (∀ k, w.heap.size ≤ k → ¬ S2 k) := Lib.hid (fun k h1 h => by have := lt k (s2 k h); omega)
 clear hi hW1 hB1 lt s1 s2 sb so sm
 obtain ⟨nx, hnx⟩ : ∃ nx, nx = s.next := ⟨_, rfl⟩
 rw [← hnx] at e3 hc
 clear hnx
 by_cases h1 : addr ≠ nx
 · have h1' : (addr != nx) = true := by simpa using h1
   clear h1 hc
   exact mK117
 · have h1' : (addr != nx) = false := by simpa using h1
   by_cases h2 : 16384 ≤ addr
   · clear h1 hc
     exact mK117
   · have h2' : decide (16384 ≤ addr) = false := decide_eq_false h2
     have h3 : kind ≠ 1 ∧ kind ≠ 2 := (hc.resolve_left h1).resolve_left h2
     have h3' : (kind != 1) = true := by simpa using h3.1
     have h4' : (kind != 2) = true := by simpa using h3.2
     clear h1 h2 h3 hc
     exact mK117
theorem apply_junk (w : World) (b : Nat) (S : Nat → Prop) (s : StS) (h : SttAt w b S s) (hok : s.ok) (addr : Int) (text : ByteArray) (hts : text.size ≤ 9223372036854775807) (hf : FieldsAt w) (hS0 : ¬ S 0) (ha : addr = s.next) (ha2 : addr < 16384) :
    Calls Tryz.prog 10 #[.pointer (some ⟨b, 0, none⟩), .int .i64 addr, .int .i64 2, .string text] w (APost w b S (((0, 0), false, 0), { s with next := s.next + 1 })) := by
 obtain ⟨sb, lt, tb, hb, ob, mb, S1, S2, hi, s1, s2, so, sm⟩ := h
 have hbl : b < w.heap.size := cell_lt hi.c0
 have e0 := hi.c0
 have e2 := hi.c2
 have e3 := hi.c3
 have g3 := hi.fz 3
 obtain ⟨W1, hW1⟩ : ∃ W1, W1 = w.alloc (.cells #[.int .i64 0, .int .i64 0] 36) := ⟨_, rfl⟩
 have hB1 : Below w.heap.size w W1 := by rw [hW1]; exact belC (Below.refl _ _)
 have hz1 : W1.heap.size = w.heap.size + 1 := by rw [hW1]; simp
 have HC : Hid (StCur w W1 b tb hb ob mb S S1 S2 s) := Lib.hid ⟨hi.mod (F := none') (Mod.of_below hB1) id id id (fun _ _ => id) (fun _ _ => id), Mod.of_below hB1, fun k hk => Or.inl (s1 k hk), s2, sb, so, sm, lt⟩
 have r0 : W1.cell? ⟨w.heap.size, 0, none⟩ = some (.int .i64 0) := by rw [hW1]; go_simp
 have r1 : W1.cell? ⟨w.heap.size, 1, none⟩ = some (.int .i64 0) := by rw [hW1]; go_simp
 have f0 : W1.frozen? ⟨w.heap.size, 0, none⟩ = false := by rw [hW1]; go_simp
 have f1 : W1.frozen? ⟨w.heap.size, 1, none⟩ = false := by rw [hW1]; go_simp
 have HW1 := Lib.hid hW1
 have hrl := cell_lt r0
 have NS1 : Hid (∀ k, w.heap.size ≤ k → k < w.heap.size + 1 → ¬ S1 k) := Lib.hid (fun k h1 h2 h => by have := lt k (s1 k h); omega)
 have NS2 : Hid (∀ k, w.heap.size ≤ k → ¬ S2 k) := Lib.hid (fun k h1 h => by have := lt k (s2 k h); omega)
 clear hi hW1 hB1 lt s1 s2 sb so sm
 obtain ⟨nx, hnx⟩ : ∃ nx, nx = s.next := ⟨_, rfl⟩
 have hn0 : 0 ≤ nx ∧ nx ≤ 16384 := by rw [hnx]; exact ⟨hok.n0, hok.n1⟩
 rw [← hnx] at e3 ha
 have ha' : (addr != nx) = false := by simpa using ha
 have hb' : decide (16384 ≤ addr) = false := decide_eq_false (by omega)
 have hwn : wrap64 (nx + 1) = nx + 1 := by unfold wrap64; omega
 obtain ⟨W2, hW2⟩ : ∃ W2, W2 = W1.setCell ⟨b, 3, none⟩ (.int .i64 (nx + 1)) := ⟨_, rfl⟩
 have nb : ¬ w.heap.size = b := by omega
 have HC2 : Hid (StCur w W2 b tb hb ob mb S S1 S2 { s with next := s.next + 1 }) := Lib.hid (by rw [hW2, hnx]; exact HC.out.nxt _)
 have r0 : W2.cell? ⟨w.heap.size, 0, none⟩ = some (.int .i64 0) := by rw [hW2]; go_simp
 have r1 : W2.cell? ⟨w.heap.size, 1, none⟩ = some (.int .i64 0) := by rw [hW2]; go_simp
 have f0 : W2.frozen? ⟨w.heap.size, 0, none⟩ = false := by rw [hW2]; go_simp
 have f1 : W2.frozen? ⟨w.heap.size, 1, none⟩ = false := by rw [hW2]; go_simp
 have hrl := cell_lt r0
 have hz2 : W2.heap.size = w.heap.size + 1 := by rw [hW2]; simp [hz1]
 have h02 : FieldsAt W2 := fun k hk => by
  exact mK120
 have hdec := decode_any W2 text hts h02 (by omega)
 have HF2 := Lib.hid h02
 have HW2 : Hid (W2 = (w.setCell ⟨b, 3, none⟩ (.int .i64 (nx + 1))).alloc (.cells #[.int .i64 0, .int .i64 0] 36)) := Lib.hid (by rw [hW2, HW1.out]; go_simp)
 clear hW2 hnx h02 ha
 go_enter Tryz.func10, Tryz.ntmps10
 go_wp2_with fail
 rw [← HW2.out]
 refine hdec.mono ?_
 clear hdec
 rintro e W3 hd
 obtain ⟨hB3, x, er, rfl, her⟩ := dec_box hd
 obtain ⟨oc, os, ok, op, od, oz, oh, oo, ot, oi, on, om, ol, oq⟩ := x
 simp only [OpS.cells]
 have r0 := below_at hB3 r0 hrl
 have r1 := below_at hB3 r1 hrl
 have f0 := (hB3.frozen (p := ⟨w.heap.size, 0, none⟩) hrl).trans f0
 have f1 := (hB3.frozen (p := ⟨w.heap.size, 1, none⟩) hrl).trans f1
 have HC3 := Lib.hid (HC2.out.below hB3)
 have hz3 := hB3.size
 obtain ⟨W4, hW4⟩ : ∃ W4, W4 = W3.alloc (.cells #[.int .i64 oc, .int .i64 os, .int .i64 ok, .string (bs op), .string (bs od), .int .i64 oz, .int .i64 oh, .int .i64 oo, .string ot, .int .i64 oi, .int .i64 on, .slice om ol oq] 31) := ⟨_, rfl⟩
 have hB4 : Below W3.heap.size W3 W4 := by rw [hW4]; exact belC (Below.refl _ _)
 have hrl3 := cell_lt r0
 have r0 := below_at hB4 r0 hrl3
 have r1 := below_at hB4 r1 hrl3
 have f0 := (hB4.frozen (p := ⟨w.heap.size, 0, none⟩) hrl3).trans f0
 have f1 := (hB4.frozen (p := ⟨w.heap.size, 1, none⟩) hrl3).trans f1
 have HC4 := Lib.hid (HC3.out.below hB4)
 have HW4 := Lib.hid hW4
 have hrl := cell_lt r0
 clear hW4 hB4 hB3 HC3 HC2 hrl3
 go_wp2_with fail
 rw [← HW4.out]
 refine wp_region_held_drew (S := fun _ => True) (by kernel_rfl) trivial (fun hHeld => ?_)
 refine takeL 0 ?_
 refine takeL 1 ?_
 refine takeL 2 ?_
 refine takeU 3 ?_
 refine takeU 4 ?_
 exact mK119
theorem apply_none (w : World) (b : Nat) (S : Nat → Prop) (s : StS) (h : SttAt w b S s) (hok : s.ok) (addr : Int) (text : ByteArray) (hts : text.size ≤ 9223372036854775807) (hf : FieldsAt w) (hS0 : ¬ S 0) (ha : addr = s.next) (ha2 : addr < 16384) (hdn : decOp text = none) :
    Calls Tryz.prog 10 #[.pointer (some ⟨b, 0, none⟩), .int .i64 addr, .int .i64 1, .string text] w (APost w b S (((0, 0), false, 0), { s with next := s.next + 1 })) := by
 obtain ⟨sb, lt, tb, hb, ob, mb, S1, S2, hi, s1, s2, so, sm⟩ := h
 have hbl : b < w.heap.size := cell_lt hi.c0
 have e0 := hi.c0
 have e2 := hi.c2
 have e3 := hi.c3
 have g3 := hi.fz 3
 obtain ⟨W1, hW1⟩ : ∃ W1, W1 = w.alloc (.cells #[.int .i64 0, .int .i64 0] 36) := ⟨_, rfl⟩
 have hB1 : Below w.heap.size w W1 := by rw [hW1]; exact belC (Below.refl _ _)
 have hz1 : W1.heap.size = w.heap.size + 1 := by rw [hW1]; simp
 have HC : Hid (StCur w W1 b tb hb ob mb S S1 S2 s) := Lib.hid ⟨hi.mod (F := none') (Mod.of_below hB1) id id id (fun _ _ => id) (fun _ _ => id), Mod.of_below hB1, fun k hk => Or.inl (s1 k hk), s2, sb, so, sm, lt⟩
 have r0 : W1.cell? ⟨w.heap.size, 0, none⟩ = some (.int .i64 0) := by rw [hW1]; go_simp
 have r1 : W1.cell? ⟨w.heap.size, 1, none⟩ = some (.int .i64 0) := by rw [hW1]; go_simp
 have f0 : W1.frozen? ⟨w.heap.size, 0, none⟩ = false := by rw [hW1]; go_simp
 have f1 : W1.frozen? ⟨w.heap.size, 1, none⟩ = false := by rw [hW1]; go_simp
 have HW1 := Lib.hid hW1
 have hrl := cell_lt r0
 have NS1 : Hid (∀ k, w.heap.size ≤ k → k < w.heap.size + 1 → ¬ S1 k) := Lib.hid (fun k h1 h2 h => by have := lt k (s1 k h); omega)
 have NS2 : Hid (∀ k, w.heap.size ≤ k → ¬ S2 k) := Lib.hid (fun k h1 h => by have := lt k (s2 k h); omega)
 clear hi hW1 hB1 lt s1 s2 sb so sm
 obtain ⟨nx, hnx⟩ : ∃ nx, nx = s.next := ⟨_, rfl⟩
 have hn0 : 0 ≤ nx ∧ nx ≤ 16384 := by rw [hnx]; exact ⟨hok.n0, hok.n1⟩
 rw [← hnx] at e3 ha
 have ha' : (addr != nx) = false := by simpa using ha
 have hb' : decide (16384 ≤ addr) = false := decide_eq_false (by omega)
 have hwn : wrap64 (nx + 1) = nx + 1 := by unfold wrap64; omega
 obtain ⟨W2, hW2⟩ : ∃ W2, W2 = W1.setCell ⟨b, 3, none⟩ (.int .i64 (nx + 1)) := ⟨_, rfl⟩
 have nb : ¬ w.heap.size = b := by omega
 have HC2 : Hid (StCur w W2 b tb hb ob mb S S1 S2 { s with next := s.next + 1 }) := Lib.hid (by rw [hW2, hnx]; exact HC.out.nxt _)
 have r0 : W2.cell? ⟨w.heap.size, 0, none⟩ = some (.int .i64 0) := by rw [hW2]; go_simp
 have r1 : W2.cell? ⟨w.heap.size, 1, none⟩ = some (.int .i64 0) := by rw [hW2]; go_simp
 have f0 : W2.frozen? ⟨w.heap.size, 0, none⟩ = false := by rw [hW2]; go_simp
 have f1 : W2.frozen? ⟨w.heap.size, 1, none⟩ = false := by rw [hW2]; go_simp
 have hrl := cell_lt r0
 have hz2 : W2.heap.size = w.heap.size + 1 := by rw [hW2]; simp [hz1]
 have h02 : FieldsAt W2 := fun k hk => by
  exact mK120
 have hdec := decode_any W2 text hts h02 (by omega)
 have HF2 := Lib.hid h02
 have HW2 : Hid (W2 = (w.setCell ⟨b, 3, none⟩ (.int .i64 (nx + 1))).alloc (.cells #[.int .i64 0, .int .i64 0] 36)) := Lib.hid (by rw [hW2, HW1.out]; go_simp)
 clear hW2 hnx h02 ha
 rw [hdn] at hdec
 go_enter Tryz.func10, Tryz.ntmps10
 go_wp2_with fail
 rw [← HW2.out]
 refine hdec.mono ?_
 clear hdec
 rintro e W3 hd
 obtain ⟨hB3, x, er, rfl, her⟩ := dec_box hd
 obtain ⟨oc, os, ok, op, od, oz, oh, oo, ot, oi, on, om, ol, oq⟩ := x
 simp only [OpS.cells]
 have r0 := below_at hB3 r0 hrl
 have r1 := below_at hB3 r1 hrl
 have f0 := (hB3.frozen (p := ⟨w.heap.size, 0, none⟩) hrl).trans f0
 have f1 := (hB3.frozen (p := ⟨w.heap.size, 1, none⟩) hrl).trans f1
 have HC3 := Lib.hid (HC2.out.below hB3)
 have hz3 := hB3.size
 obtain ⟨W4, hW4⟩ : ∃ W4, W4 = W3.alloc (.cells #[.int .i64 oc, .int .i64 os, .int .i64 ok, .string (bs op), .string (bs od), .int .i64 oz, .int .i64 oh, .int .i64 oo, .string ot, .int .i64 oi, .int .i64 on, .slice om ol oq] 31) := ⟨_, rfl⟩
 have hB4 : Below W3.heap.size W3 W4 := by rw [hW4]; exact belC (Below.refl _ _)
 have hrl3 := cell_lt r0
 have r0 := below_at hB4 r0 hrl3
 have r1 := below_at hB4 r1 hrl3
 have f0 := (hB4.frozen (p := ⟨w.heap.size, 0, none⟩) hrl3).trans f0
 have f1 := (hB4.frozen (p := ⟨w.heap.size, 1, none⟩) hrl3).trans f1
 have HC4 := Lib.hid (HC3.out.below hB4)
 have HW4 := Lib.hid hW4
 have hrl := cell_lt r0
 clear hW4 hB4 hB3 HC3 HC2 hrl3
 go_wp2_with fail
 rw [← HW4.out]
 obtain rfl := her (by trivial)
 refine wp_region_held_drew (S := fun _ => True) (by kernel_rfl) trivial (fun hHeld => ?_)
 refine takeL 0 ?_
 refine takeL 1 ?_
 refine takeL 2 ?_
 refine takeL 3 ?_
 refine takeL 4 ?_
 exact mK119
theorem apply_seen (w : World) (b : Nat) (S : Nat → Prop) (s : StS) (h : SttAt w b S s) (hok : s.ok) (addr : Int) (text : ByteArray) (hts : text.size ≤ 9223372036854775807) (hf : FieldsAt w) (hS0 : ¬ S 0) (ha : addr = s.next) (ha2 : addr < 16384) (o : OpS) (mv : List Mv) (hdn : decOp text = some (o, mv)) (hse : oseen s.o o.client o.seq = true) :
    Calls Tryz.prog 10 #[.pointer (some ⟨b, 0, none⟩), .int .i64 addr, .int .i64 1, .string text] w (APost w b S (((0, 0), false, 0), { s with next := s.next + 1 })) := by
 obtain ⟨sb, lt, tb, hb, ob, mb, S1, S2, hi, s1, s2, so, sm⟩ := h
 have hbl : b < w.heap.size := cell_lt hi.c0
 have e0 := hi.c0
 have e2 := hi.c2
 have e3 := hi.c3
 have g3 := hi.fz 3
 obtain ⟨W1, hW1⟩ : ∃ W1, W1 = w.alloc (.cells #[.int .i64 0, .int .i64 0] 36) := ⟨_, rfl⟩
 have hB1 : Below w.heap.size w W1 := by rw [hW1]; exact belC (Below.refl _ _)
 have hz1 : W1.heap.size = w.heap.size + 1 := by rw [hW1]; simp
 have HC : Hid (StCur w W1 b tb hb ob mb S S1 S2 s) := Lib.hid ⟨hi.mod (F := none') (Mod.of_below hB1) id id id (fun _ _ => id) (fun _ _ => id), Mod.of_below hB1, fun k hk => Or.inl (s1 k hk), s2, sb, so, sm, lt⟩
 have r0 : W1.cell? ⟨w.heap.size, 0, none⟩ = some (.int .i64 0) := by rw [hW1]; go_simp
 have r1 : W1.cell? ⟨w.heap.size, 1, none⟩ = some (.int .i64 0) := by rw [hW1]; go_simp
 have f0 : W1.frozen? ⟨w.heap.size, 0, none⟩ = false := by rw [hW1]; go_simp
 have f1 : W1.frozen? ⟨w.heap.size, 1, none⟩ = false := by rw [hW1]; go_simp
 have HW1 := Lib.hid hW1
 have hrl := cell_lt r0
 have NS1 : Hid (∀ k, w.heap.size ≤ k → k < w.heap.size + 1 → ¬ S1 k) := Lib.hid (fun k h1 h2 h => by have := lt k (s1 k h); omega)
 have NS2 : Hid (∀ k, w.heap.size ≤ k → ¬ S2 k) := Lib.hid (fun k h1 h => by have := lt k (s2 k h); omega)
 clear hi hW1 hB1 lt s1 s2 sb so sm
 obtain ⟨nx, hnx⟩ : ∃ nx, nx = s.next := ⟨_, rfl⟩
 have hn0 : 0 ≤ nx ∧ nx ≤ 16384 := by rw [hnx]; exact ⟨hok.n0, hok.n1⟩
 rw [← hnx] at e3 ha
 have ha' : (addr != nx) = false := by simpa using ha
 have hb' : decide (16384 ≤ addr) = false := decide_eq_false (by omega)
 have hwn : wrap64 (nx + 1) = nx + 1 := by unfold wrap64; omega
 obtain ⟨W2, hW2⟩ : ∃ W2, W2 = W1.setCell ⟨b, 3, none⟩ (.int .i64 (nx + 1)) := ⟨_, rfl⟩
 have nb : ¬ w.heap.size = b := by omega
 have HC2 : Hid (StCur w W2 b tb hb ob mb S S1 S2 { s with next := s.next + 1 }) := Lib.hid (by rw [hW2, hnx]; exact HC.out.nxt _)
 have r0 : W2.cell? ⟨w.heap.size, 0, none⟩ = some (.int .i64 0) := by rw [hW2]; go_simp
 have r1 : W2.cell? ⟨w.heap.size, 1, none⟩ = some (.int .i64 0) := by rw [hW2]; go_simp
 have f0 : W2.frozen? ⟨w.heap.size, 0, none⟩ = false := by rw [hW2]; go_simp
 have f1 : W2.frozen? ⟨w.heap.size, 1, none⟩ = false := by rw [hW2]; go_simp
 have hrl := cell_lt r0
 have hz2 : W2.heap.size = w.heap.size + 1 := by rw [hW2]; simp [hz1]
 have h02 : FieldsAt W2 := fun k hk => by
  exact mK120
 have hdec := decode_any W2 text hts h02 (by omega)
 have HF2 := Lib.hid h02
 have HW2 : Hid (W2 = (w.setCell ⟨b, 3, none⟩ (.int .i64 (nx + 1))).alloc (.cells #[.int .i64 0, .int .i64 0] 36)) := Lib.hid (by rw [hW2, HW1.out]; go_simp)
 clear hW2 hnx h02 ha
 rw [hdn] at hdec
 go_enter Tryz.func10, Tryz.ntmps10
 go_wp2_with fail
 rw [← HW2.out]
 refine hdec.mono ?_
 clear hdec
 rintro e W3 hd
 obtain ⟨hB3, mp, mc, rfl, hin3⟩ := hd
 obtain ⟨oc, os, ok, op, od, oz, oh, oo, ot, oi, on, om, ol, oq⟩ := o
 obtain ⟨ml, hml⟩ : ∃ ml, ml = mv.length := ⟨_, rfl⟩
 simp only [OpS.cells, OpS.withM] at hin3 ⊢
 rw [← hml] at hin3 ⊢
 have HML := Lib.hid hml
 have r0 := below_at hB3 r0 hrl
 have r1 := below_at hB3 r1 hrl
 have f0 := (hB3.frozen (p := ⟨w.heap.size, 0, none⟩) hrl).trans f0
 have f1 := (hB3.frozen (p := ⟨w.heap.size, 1, none⟩) hrl).trans f1
 have HC3 := Lib.hid (HC2.out.below hB3)
 have hz3 := hB3.size
 obtain ⟨W4, hW4⟩ : ∃ W4, W4 = W3.alloc (.cells #[.int .i64 oc, .int .i64 os, .int .i64 ok, .string (bs op), .string (bs od), .int .i64 oz, .int .i64 oh, .int .i64 oo, .string ot, .int .i64 oi, .int .i64 on, .slice mp ml mc] 31) := ⟨_, rfl⟩
 have hB4 : Below W3.heap.size W3 W4 := by rw [hW4]; exact belC (Below.refl _ _)
 have hrl3 := cell_lt r0
 have r0 := below_at hB4 r0 hrl3
 have r1 := below_at hB4 r1 hrl3
 have f0 := (hB4.frozen (p := ⟨w.heap.size, 0, none⟩) hrl3).trans f0
 have f1 := (hB4.frozen (p := ⟨w.heap.size, 1, none⟩) hrl3).trans f1
 have HC4 := Lib.hid (HC3.out.below hB4)
 have HIN4 := Lib.hid (hin3.below' hB4)
 have hz4 : W4.heap.size = W3.heap.size + 1 := by rw [hW4]; simp
 have c0 : W4.cell? ⟨W3.heap.size, 0, none⟩ = some (.int .i64 oc) := by rw [hW4]; go_simp
 have c1 : W4.cell? ⟨W3.heap.size, 1, none⟩ = some (.int .i64 os) := by rw [hW4]; go_simp
 have c2 : W4.cell? ⟨W3.heap.size, 2, none⟩ = some (.int .i64 ok) := by rw [hW4]; go_simp
 have c3 : W4.cell? ⟨W3.heap.size, 3, none⟩ = some (.string (bs op)) := by rw [hW4]; go_simp
 have c4 : W4.cell? ⟨W3.heap.size, 4, none⟩ = some (.string (bs od)) := by rw [hW4]; go_simp
 have c5 : W4.cell? ⟨W3.heap.size, 5, none⟩ = some (.int .i64 oz) := by rw [hW4]; go_simp
 have c6 : W4.cell? ⟨W3.heap.size, 6, none⟩ = some (.int .i64 oh) := by rw [hW4]; go_simp
 have c7 : W4.cell? ⟨W3.heap.size, 7, none⟩ = some (.int .i64 oo) := by rw [hW4]; go_simp
 have c8 : W4.cell? ⟨W3.heap.size, 8, none⟩ = some (.string ot) := by rw [hW4]; go_simp
 have c9 : W4.cell? ⟨W3.heap.size, 9, none⟩ = some (.int .i64 oi) := by rw [hW4]; go_simp
 have c10 : W4.cell? ⟨W3.heap.size, 10, none⟩ = some (.int .i64 on) := by rw [hW4]; go_simp
 have c11 : W4.cell? ⟨W3.heap.size, 11, none⟩ = some (.slice mp ml mc) := by rw [hW4]; go_simp
 have d2 : W4.cell? ⟨b, 2, none⟩ = some (.pointer (some ⟨ob, 0, none⟩)) := HC4.out.hi.c2
 have HW4 := Lib.hid hW4
 have hrl := cell_lt r0
 have hbl4 := cell_lt d2
 have hol4 := cell_lt c0
 clear hW4 hB4 hB3 HC3 HC2 hrl3 hin3 hml
 go_wp2_with fail
 rw [← HW4.out]
 refine wp_region_held_drew (S := fun W' => W'.cell? ⟨b, 2, none⟩ = some (.pointer (some ⟨ob, 0, none⟩)) ∧ W'.cell? ⟨W3.heap.size, 0, none⟩ = some (.int .i64 oc) ∧ W'.cell? ⟨W3.heap.size, 1, none⟩ = some (.int .i64 os)) (by kernel_rfl) ⟨d2, c0, c1⟩ (fun hHeld => ?_)
 refine takeL 0 ?_
 refine takeL 1 ?_
 refine takeL 2 ?_
 refine takeL 3 ?_
 refine takeL 4 ?_
 refine takeL 5 ?_
 refine takeL 6 ?_
 refine takeL 7 ?_
 refine takeL 8 ?_
 refine takeL 9 ?_
 refine takeL 10 ?_
 refine takeL 11 ?_
 refine takeL 12 ?_
 refine takeL 13 ?_
 refine takeL 14 ?_
 refine wpAnyH_ready (rs := [15]) (by kernel_rfl) (by simp) ?_
 refine AllReadyH.cons (o := _) rfl (fun K hK => ?_) AllReadyH.nil
 go_simp
 refine (onceSeen_any oc os _ ob mb s.o (HC4.out.hi.on.mod (F := none') ((Mod.refl none' _).drew) id id)).mono ?_
 rintro e W5 ⟨rfl, hw5⟩
 obtain rfl := hw5
 try go_wp2_with fail
 refine hK.out _ _ ⟨d2, c0, c1⟩ (fun hHeld => ?_)
 clear hK K
 try simp only [Act.put, List.setIfInBounds_toArray, List.set_cons_zero, List.set_cons_succ]
 exact mK118
end Go.Proofs.YtajbooppoohplaaGreatDoor
