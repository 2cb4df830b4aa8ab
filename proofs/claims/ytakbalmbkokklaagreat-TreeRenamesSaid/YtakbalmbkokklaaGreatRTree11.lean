/- the document's tree: Rename -/
import Derived.Test.YtakbalmbkokklaaGreatPkMv
namespace Go.Proofs.YtakbalmbkokklaaGreat
open Go.RowKit Esch Go.Shelf

set_option maxRecDepth 100000 in
set_option maxHeartbeats 8000000 in
theorem rtRename_any (w : World) (q : Nat) (R : Nat → Prop) (s : TrS) (h : RTreeAt w q R s) (hg : GK s) (p p2 : Nm) (hp : p.length ≤ 100000) (hp2 : p2.length ≤ 100000) :
    Calls Tryz.prog 69 #[.pointer (some ⟨q, 0, none⟩), .string (bs p), .string (bs p2)] w (RTPost w q R ((s.rename p p2).run s).2 (.int .i64 ((s.rename p p2).run s).1)) := by
  have hpl := fun W hW => rtPlace_any W q R s hW hg p hp 70
  have hpl2 := fun W hW => rtPlace_any W q R s hW hg p2 hp2 61
  have HLS : Hid (∃ nb, w.cell? ⟨q, 1, none⟩ = some (.pointer (some ⟨nb, 0, none⟩)) ∧ ∀ W, Below w.heap.size w W → ∀ d, Calls Tryz.prog 101 #[.pointer (some ⟨nb, 0, none⟩), .int .i64 d] W (RLsPost W (s.n.count d))) := Lib.hid (by
    obtain ⟨rq, lt, ib, nb, T1, T2, L, c0, c1, ht, hn, hs, s1, s2, d, b1, b2⟩ := h
    exact ⟨nb, c1, rtLs hn hs hg⟩)
  have hlt := Lib.hid h.lt
  have H := Lib.hid h
  obtain ⟨rr, hrr⟩ : ∃ rr, rr = s.rename p p2 := ⟨_, rfl⟩
  rw [← hrr]
  unfold TrS.rename at hrr
  cases hr : s.place p 70 with
  | err e0 =>
    have he0 : (e0 != 0) = true := by simpa using rplace_err (by decide) hr
    rw [hr] at hpl hrr
    have hrr : rr = .err e0 := hrr
    subst hrr
    clear hr
    go_enter Tryz.func69, Tryz.ntmps69
    go_wp2_with fail
    refine (hpl _ H.out).mono ?_
    clear hpl
    rintro e w1 ⟨rfl, hB⟩
    have HB := Lib.hid hB
    have hz := hB.size
    rw [show (Res.err e0 : Res SpotS).code = e0 from rfl, show (Res.err e0 : Res SpotS).val spotZ = spotZ from rfl]
    unfold spotZ spV
    go_wp2_with fail
    go_ret
    exact RTPost.keep H.out (by exact belC HB.out) _
  | ok x =>
    have hx := place_ok hr
    obtain ⟨xd, xn, xi⟩ := x
    rw [hr] at hpl hrr
    have HRR := Lib.hid (show rr = (stopB 60 (decide (xi = 0))).bind fun _ => (s.place p2 61).bind fun y => if xi = y.ino then .ok s else
  (stopB 65 (decide (s.kind xi = 1) && insideOf (namesOf p2) (namesOf p))).bind fun _ =>
  (if y.ino = 0 then stopB 67 (decide (64 ≤ s.n.count y.dir) && decide (y.dir ≠ xd))
   else if s.kind xi = 1 then (stopB 62 (decide (s.kind y.ino ≠ 1))).bind fun _ => stopB 64 (decide (0 < s.n.count y.ino))
   else stopB 63 (decide (s.kind y.ino = 1))).bind fun _ => .ok (s.renS ⟨xd, xn, xi⟩ y) from hrr)
    clear hr hrr
    go_enter Tryz.func69, Tryz.ntmps69
    go_wp2_with fail
    refine (hpl _ H.out).mono ?_
    clear hpl
    rintro e w1 ⟨rfl, hB⟩
    have HB := Lib.hid hB
    have hz := hB.size
    rw [show (Res.ok (SpotS.mk xd xn xi)).code = 0 from rfl, show (Res.ok (SpotS.mk xd xn xi)).val spotZ = ⟨xd, xn, xi⟩ from rfl]
    obtain ⟨W2, hWX⟩ : ∃ W2, W2 = w1.alloc (.cells #[.int .i64 xd, .string (bs xn), .int .i64 xi] 140) := ⟨_, rfl⟩
    have hBX : Below w.heap.size w W2 := by rw [hWX]; exact belC hB
    have x0 : W2.cell? ⟨w1.heap.size, 0, none⟩ = some (.int .i64 xd) := by rw [hWX]; go_simp
    have x1 : W2.cell? ⟨w1.heap.size, 1, none⟩ = some (.string (bs xn)) := by rw [hWX]; go_simp
    have x2 : W2.cell? ⟨w1.heap.size, 2, none⟩ = some (.int .i64 xi) := by rw [hWX]; go_simp
    obtain ⟨xb, hpb⟩ : ∃ xb, xb = w1.heap.size := ⟨_, rfl⟩
    rw [← hpb] at x0 x1 x2
    have HXB := Lib.hid hpb
    have HXW := Lib.hid hWX
    have HXX := Lib.hid hBX
    clear hpb hWX hBX
    clear hB
    unfold spV
    by_cases h0 : xi = 0
    · have hr2 : rr = .err 60 := by rw [HRR.out, decide_eq_true h0]; rfl
      subst h0 hr2
      clear HRR
      go_wp2_with fail
      rw [← HXW.out, ← HXB.out]
      go_wp2_with fail
      go_ret
      exact RTPost.keep H.out (by exact belC HXX.out) _
    · have h0' : (xi == 0) = false := by simpa using h0
      have HRA := Lib.hid (show rr = (s.place p2 61).bind fun y => if xi = y.ino then .ok s else
  (stopB 65 (decide (s.kind xi = 1) && insideOf (namesOf p2) (namesOf p))).bind fun _ =>
  (if y.ino = 0 then stopB 67 (decide (64 ≤ s.n.count y.dir) && decide (y.dir ≠ xd))
   else if s.kind xi = 1 then (stopB 62 (decide (s.kind y.ino ≠ 1))).bind fun _ => stopB 64 (decide (0 < s.n.count y.ino))
   else stopB 63 (decide (s.kind y.ino = 1))).bind fun _ => .ok (s.renS ⟨xd, xn, xi⟩ y) from by rw [HRR.out, decide_eq_false h0]; rfl)
      clear HRR
      cases hr : s.place p2 61 with
      | err e0 =>
        have he0 : (e0 != 0) = true := by simpa using rplace_err (by decide) hr
        rw [hr] at hpl2
        have hr2 : rr = .err e0 := by rw [HRA.out, hr]; rfl
        subst hr2
        clear hr HRA h0
        go_wp2_with fail
        rw [← HXW.out, ← HXB.out]
        go_wp2_with fail
        refine (hpl2 _ (H.out.below' HXX.out)).mono ?_
        clear hpl2
        rintro e w3 ⟨rfl, hB3⟩
        have HB3 := Lib.hid (HXX.out.trans (hB3.mono HXX.out.size))
        have hz3 := HB3.out.size
        clear hB3
        rw [show (Res.err e0 : Res SpotS).code = e0 from rfl, show (Res.err e0 : Res SpotS).val spotZ = spotZ from rfl]
        unfold spotZ spV
        go_wp2_with fail
        go_ret
        exact RTPost.keep H.out (by exact belC HB3.out) _
      | ok y =>
        have hy := place_ok hr
        obtain ⟨yd, yn, yi⟩ := y
        rw [hr] at hpl2
        have HRB := Lib.hid (show rr = if xi = yi then .ok s else
  (stopB 65 (decide (s.kind xi = 1) && insideOf (namesOf p2) (namesOf p))).bind fun _ =>
  (if yi = 0 then stopB 67 (decide (64 ≤ s.n.count yd) && decide (yd ≠ xd))
   else if s.kind xi = 1 then (stopB 62 (decide (s.kind yi ≠ 1))).bind fun _ => stopB 64 (decide (0 < s.n.count yi))
   else stopB 63 (decide (s.kind yi = 1))).bind fun _ => .ok (s.renS ⟨xd, xn, xi⟩ ⟨yd, yn, yi⟩) from by rw [HRA.out, hr]; rfl)
        clear hr HRA
        go_wp2_with fail
        rw [← HXW.out, ← HXB.out]
        go_wp2_with fail
        refine (hpl2 _ (H.out.below' HXX.out)).mono ?_
        clear hpl2
        rintro e w3 ⟨rfl, hB3⟩
        have z0 := below_at hB3 x0 (cell_lt x0)
        have z1 := below_at hB3 x1 (cell_lt x1)
        have z2 := below_at hB3 x2 (cell_lt x2)
        have hzx := hB3.size
        have HB3 := Lib.hid (HXX.out.trans (hB3.mono HXX.out.size))
        have hz3 := HB3.out.size
        clear hB3 x0 x1 x2
        rw [show (Res.ok (SpotS.mk yd yn yi)).code = 0 from rfl, show (Res.ok (SpotS.mk yd yn yi)).val spotZ = ⟨yd, yn, yi⟩ from rfl]
        obtain ⟨W4, hWX⟩ : ∃ W4, W4 = w3.alloc (.cells #[.int .i64 yd, .string (bs yn), .int .i64 yi] 140) := ⟨_, rfl⟩
        have hBX : Below w.heap.size w W4 := by rw [hWX]; exact belC HB3.out
        have y0 : W4.cell? ⟨w3.heap.size, 0, none⟩ = some (.int .i64 yd) := by rw [hWX]; go_simp
        have y1 : W4.cell? ⟨w3.heap.size, 1, none⟩ = some (.string (bs yn)) := by rw [hWX]; go_simp
        have y2 : W4.cell? ⟨w3.heap.size, 2, none⟩ = some (.int .i64 yi) := by rw [hWX]; go_simp
        obtain ⟨yb, hpb⟩ : ∃ yb, yb = w3.heap.size := ⟨_, rfl⟩
        rw [← hpb] at y0 y1 y2
        have HYB := Lib.hid hpb
        have HYW := Lib.hid hWX
        have HYX := Lib.hid hBX
        clear hpb hWX hBX
        have hBy : Below w3.heap.size w3 W4 := by rw [HYW.out]; exact belC (Below.refl _ _)
        have x0 := below_at hBy z0 (cell_lt z0)
        have x1 := below_at hBy z1 (cell_lt z1)
        have x2 := below_at hBy z2 (cell_lt z2)
        have hxl3 := cell_lt z2
        clear hBy z0 z1
        unfold spV
        by_cases he : xi = yi
        · have hr2 : rr = .ok s := by rw [HRB.out, if_pos he]
          have he' : (xi == yi) = true := by simpa using he
          subst hr2
          clear HRB he
          go_wp2_with fail
          rw [← HYW.out, ← HYB.out]
          go_wp2_with fail
          go_ret
          exact RTPost.keep H.out (by exact belC HYX.out) _
        · have he' : (xi == yi) = false := by simpa using he
          have HRC := Lib.hid (show rr = (stopB 65 (decide (s.kind xi = 1) && insideOf (namesOf p2) (namesOf p))).bind fun _ =>
  (if yi = 0 then stopB 67 (decide (64 ≤ s.n.count yd) && decide (yd ≠ xd))
   else if s.kind xi = 1 then (stopB 62 (decide (s.kind yi ≠ 1))).bind fun _ => stopB 64 (decide (0 < s.n.count yi))
   else stopB 63 (decide (s.kind yi = 1))).bind fun _ => .ok (s.renS ⟨xd, xn, xi⟩ ⟨yd, yn, yi⟩) from by rw [HRB.out, if_neg he])
          clear HRB
          have hkx := fun W hW => rtKind_any W q R s hW hg xi
          have hin := fun W => rInside_any W p2 p hp2 hp
          have HXW := Lib.hid (show w.heap.size ≤ xb by rw [HXB.out]; exact hz)
          have HYV := Lib.hid (show w.heap.size ≤ yb by rw [HYB.out]; exact HB3.out.size)
          have HFX := Lib.hid (show s.n.find xd xn = some xi from find_some hx.ino.symm h0)
          have HNE := Lib.hid he
          have HNM := Lib.hid (show nameL yn = true ∧ 1 ≤ yd ∧ yd ≤ 2147483647 ∧ 1 ≤ xi ∧ xi ≤ 2147483647 from by
            have h1 := hg.good.ino xi (hg.good.good.ent _ ((mem_iff_get hg.good.ok.n.nd (xd, xn) xi).2 HFX.out)).1
            have h2 := hg.good.next
            exact ⟨hy.name, (hg.good.dlt hy.dir).1, (hg.good.dlt hy.dir).2, by omega, by omega⟩)
          have HYI := Lib.hid hy.ino
          by_cases hk : s.kind xi = 1
          · rw [decide_eq_true hk] at HRC
            have hk' : (s.kind xi == 1) = true := by simpa using hk
            generalize hins : insideOf (namesOf p2) (namesOf p) = ins at *
            cases ins with
            | true =>
              have hr2 : rr = .err 65 := HRC.out
              subst hr2
              rw [hk] at hkx
              clear HRC hins hk hk'
              go_wp2_with fail
              rw [← HYW.out, ← HYB.out]
              clear z2 hxl3
              go_wp2_with fail
              refine (hkx _ (H.out.below' HYX.out)).mono ?_
              clear hkx
              rintro e w5 ⟨rfl, rfl⟩
              go_wp2_with fail
              refine (hin _).mono ?_
              clear hin
              rintro e w6 ⟨rfl, hB6⟩
              have HB6 := Lib.hid (HYX.out.trans (hB6.mono HYX.out.size))
              clear hB6
              go_wp2_with fail
              go_ret
              exact RTPost.keep H.out (by exact belC HB6.out) _
            | false =>
              have HRD := Lib.hid (show rr = (if yi = 0 then stopB 67 (decide (64 ≤ s.n.count yd) && decide (yd ≠ xd)) else (stopB 62 (decide (s.kind yi ≠ 1))).bind fun _ => stopB 64 (decide (0 < s.n.count yi))).bind fun _ => .ok (s.renS ⟨xd, xn, xi⟩ ⟨yd, yn, yi⟩) from by
                have e := HRC.out
                rw [if_pos hk] at e
                exact e)
              have hky := fun W hW => rtKind_any W q R s hW hg yi
              rw [hk] at hkx
              clear HRC hins hk hk'
              by_cases hy0 : yi = 0
              · subst hy0
                have HRE := Lib.hid (show rr = (stopB 67 (decide (64 ≤ s.n.count yd) && decide (yd ≠ xd))).bind fun _ => .ok (s.renS ⟨xd, xn, xi⟩ ⟨yd, yn, 0⟩) from HRD.out)
                clear HRD hky
                have HFY := Lib.hid (show s.n.find yd yn = none from hg.good.zero HYI.out.symm)
                have HXR := Lib.hid (show ¬ R xb from fun hk => by have := hlt.out _ hk; have := HXW.out; omega)
                have HYR := Lib.hid (show ¬ R yb from fun hk => by have := hlt.out _ hk; have := HYV.out; omega)
                go_wp2_with fail
                rw [← HYW.out, ← HYB.out]
                clear z2 hxl3
                go_wp2_with fail
                refine (hkx _ (H.out.below' HYX.out)).mono ?_
                clear hkx
                rintro e w5 ⟨rfl, rfl⟩
                go_wp2_with fail
                refine (hin _).mono ?_
                clear hin
                rintro e w6 ⟨rfl, hB6⟩
                have HB6 := Lib.hid (HYX.out.trans (hB6.mono HYX.out.size))
                have x06 := below_at hB6 x0 (cell_lt x0)
                have x16 := below_at hB6 x1 (cell_lt x1)
                have x26 := below_at hB6 x2 (cell_lt x2)
                have y06 := below_at hB6 y0 (cell_lt y0)
                have y16 := below_at hB6 y1 (cell_lt y1)
                have y26 := below_at hB6 y2 (cell_lt y2)
                clear hB6 x0 x1 x2 y0 y1 y2
                obtain ⟨nb, hnb, hls⟩ := HLS.out
                have hls := hls w6.drew HB6.out.drew yd
                have hql := cell_lt hnb
                have hKg : w6.drew.cell? ⟨q, 1, none⟩ = some (.pointer (some ⟨nb, 0, none⟩)) ∧ w6.drew.cell? ⟨yb, 0, none⟩ = some (.int .i64 yd) ∧ w6.drew.cell? ⟨xb, 0, none⟩ = some (.int .i64 xd) := ⟨below_at HB6.out hnb hql, y06, x06⟩
                have HQL := Lib.hid (cell_lt hKg.1)
                have HYL := Lib.hid (cell_lt hKg.2.1)
                have HXL := Lib.hid (cell_lt hKg.2.2)
                have HXX1 := Lib.hid (show w6.drew.cell? ⟨xb, 1, none⟩ = some (.string (bs xn)) from x16)
                have HXX2 := Lib.hid (show w6.drew.cell? ⟨xb, 2, none⟩ = some (.int .i64 xi) from x26)
                have HYY1 := Lib.hid (show w6.drew.cell? ⟨yb, 1, none⟩ = some (.string (bs yn)) from y16)
                clear hnb hql
                by_cases hc : 64 ≤ s.n.count yd
                · have HC := Lib.hid hc
                  by_cases hyx : yd = xd
                  · have hr2 : rr = .ok (s.renS ⟨xd, xn, xi⟩ ⟨yd, yn, 0⟩) := by rw [HRE.out, decide_eq_true hc, decide_eq_false (by simpa using hyx)]; rfl
                    rw [renS_no rfl] at hr2
                    have hyx' : (xd != yd) = false := by simpa using hyx.symm
                    have HCN := Lib.hid (show s.n.count yd < 64 ∨ yd = xd from Or.inr hyx)
                    subst hr2
                    clear HRE hc hyx
                    go_wp2_with fail
                    go_region_held3 (fun W' => W'.cell? ⟨q, 1, none⟩ = some (.pointer (some ⟨nb, 0, none⟩)) ∧ W'.cell? ⟨yb, 0, none⟩ = some (.int .i64 yd) ∧ W'.cell? ⟨xb, 0, none⟩ = some (.int .i64 xd))
                      (first
                        | with_reducible exact hKg
                        | with_reducible exact hKh)
                      (first
                        | (go_at_call 101; (with_reducible refine hls.mono ?_); rintro e w7 ⟨a1, n1, k1, rfl, hn, hB7⟩
                           have hKh : w7.cell? ⟨q, 1, none⟩ = some (.pointer (some ⟨nb, 0, none⟩)) ∧ w7.cell? ⟨yb, 0, none⟩ = some (.int .i64 yd) ∧ w7.cell? ⟨xb, 0, none⟩ = some (.int .i64 xd) := ⟨below_at hB7 hKg.1 HQL.out, below_at hB7 hKg.2.1 HYL.out, below_at hB7 hKg.2.2 HXL.out⟩
                           have hn0 : decide ((64 : Int) ≤ (n1 : Int)) = true := decide_eq_true (by rw [hn]; exact HC.out)
                           have x1C := below_at hB7 HXX1.out HXL.out
                           have x2C := below_at hB7 HXX2.out HXL.out
                           have y1C := below_at hB7 HYY1.out HYL.out
                           have HBC := Lib.hid (HB6.out.drew.trans (hB7.mono HB6.out.drew.size))
                           clear hB7 hn))
                    have x0C := hKh.2.2
                    have y0C := hKh.2.1
                    clear hKg hKh
                    have HTC := Lib.hid (H.out.below' HBC.out)
                    have HMV := Lib.hid (fun L (hs : Srt s.n.m L) => mv_plain hg.good.ok.n hs HFX.out HFY.out HNM.out.1 ⟨HNM.out.2.1, HNM.out.2.2.1⟩ ⟨HNM.out.2.2.2.1, HNM.out.2.2.2.2⟩ HCN.out)
                    have HLN := Lib.hid hg.nlen
                    have FIN9 := Lib.hid (fun W' (h9 : RTreeAt W' q (growS R w7 W') ⟨s.t, ((s.n.drop xd xn).2.add yd yn xi).2⟩ ∧ Mod R w7 W') => (show RTPost w7 q R ⟨s.t, ((s.n.drop xd xn).2.add yd yn xi).2⟩ (.int .i64 0) (.returned (.int .i64 0)) W' from ⟨rfl, h9⟩).after hlt.out HBC.out)
                    obtain ⟨ib, nb, T1, T2, L, h2, hs⟩ := RT2.of HTC.out
                    have hLl : L.length ≤ 1000 := by rw [hs.perm.length_eq]; exact HLN.out
                    obtain ⟨⟨pre, post, hL, hpre, hg2, hn64, hlen, hins⟩⟩ := HMV.out L hs
                    subst hL
                    have hBd : Below w7.heap.size w7 w7.drew := by exact belC (Below.refl _ _)
                    have h2d := h2.below hBd
                    have hd := rNDrop_ok w7.drew nb T2 pre post xd xi xn h2d.hn (by omega) hpre
                    have HXS := Lib.hid (show ¬ T2 xb from fun hk => HXR.out (h2.s2 _ hk))
                    have HYS := Lib.hid (show ¬ T2 yb from fun hk => HYR.out (h2.s2 _ hk))
                    have HQS := Lib.hid (show ¬ T2 q from h2.b2)
                    have HLQ := Lib.hid (show q < w7.drew.heap.size from cell_lt h2d.c1)
                    have HLX := Lib.hid (show xb < w7.drew.heap.size from cell_lt x0C)
                    have HLY := Lib.hid (show yb < w7.drew.heap.size from cell_lt y0C)
                    have hKa : w7.drew.cell? ⟨q, 1, none⟩ = some (.pointer (some ⟨nb, 0, none⟩)) ∧ w7.drew.cell? ⟨xb, 0, none⟩ = some (.int .i64 xd) ∧ w7.drew.cell? ⟨xb, 1, none⟩ = some (.string (bs xn)) := ⟨h2d.c1, x0C, x1C⟩
                    have HXC := Lib.hid (show w7.drew.cell? ⟨xb, 2, none⟩ = some (.int .i64 xi) from x2C)
                    have HYC := Lib.hid (show w7.drew.cell? ⟨yb, 0, none⟩ = some (.int .i64 yd) from y0C)
                    have HYD := Lib.hid (show w7.drew.cell? ⟨yb, 1, none⟩ = some (.string (bs yn)) from y1C)
                    have H2D := Lib.hid h2d
                    have HBD := Lib.hid hBd
                    have HINS := Lib.hid hins
                    have HGT := Lib.hid hg2
                    have HNS := Lib.hid hn64
                    have HLE := Lib.hid (show (pre ++ post).length ≤ 100000 by omega)
                    clear h2 hs hLl hpre hg2 hn64 hlen hins hBd h2d x0C x1C x2C y0C y1C
                    go_wp2_with fail
                    go_region_held3 (fun W' => W'.cell? ⟨q, 1, none⟩ = some (.pointer (some ⟨nb, 0, none⟩)) ∧ W'.cell? ⟨xb, 0, none⟩ = some (.int .i64 xd) ∧ W'.cell? ⟨xb, 1, none⟩ = some (.string (bs xn)))
                      (first
                        | with_reducible exact hKa
                        | with_reducible exact hKb)
                      (first
                        | (go_at_call 108; (with_reducible refine hd.mono ?_); rintro e w8 ⟨rfl, hn8, hM8⟩
                           have hKb : w8.cell? ⟨q, 1, none⟩ = some (.pointer (some ⟨nb, 0, none⟩)) ∧ w8.cell? ⟨xb, 0, none⟩ = some (.int .i64 xd) ∧ w8.cell? ⟨xb, 1, none⟩ = some (.string (bs xn)) := ⟨hM8.at hKa.1 HQS.out, hM8.at hKa.2.1 HXS.out, hM8.at hKa.2.2 HXS.out⟩
                           have x28 := hM8.at HXC.out HXS.out
                           have y08 := hM8.at HYC.out HYS.out
                           have y18 := hM8.at HYD.out HYS.out
                           have HR8 := Lib.hid (H2D.out.nam hn8 hM8)
                           clear hn8 hM8))
                    have hBd8 : Below w8.heap.size w8 w8.drew := by exact belC (Below.refl _ _)
                    have h28 := HR8.out.1.below hBd8
                    have had := rNAdd_ok w8.drew nb _ (pre ++ post) h28.hn HLE.out yd xi yn HNM.out.1 HNM.out.2.1 HNM.out.2.2.1 HNM.out.2.2.2.1 HNM.out.2.2.2.2 HGT.out HNS.out
                    have hKc : w8.drew.cell? ⟨q, 1, none⟩ = some (.pointer (some ⟨nb, 0, none⟩)) ∧ w8.drew.cell? ⟨yb, 0, none⟩ = some (.int .i64 yd) ∧ w8.drew.cell? ⟨yb, 1, none⟩ = some (.string (bs yn)) ∧ w8.drew.cell? ⟨xb, 2, none⟩ = some (.int .i64 xi) := ⟨h28.c1, y08, y18, x28⟩
                    have HQN := Lib.hid (show ¬ growS T2 w7.drew w8 q from fun hk => hk.elim HQS.out (fun h => by have := HLQ.out; omega))
                    have HXN := Lib.hid (show ¬ growS T2 w7.drew w8 xb from fun hk => hk.elim HXS.out (fun h => by have := HLX.out; omega))
                    have HYN := Lib.hid (show ¬ growS T2 w7.drew w8 yb from fun hk => hk.elim HYS.out (fun h => by have := HLY.out; omega))
                    have H28 := Lib.hid h28
                    have HB8 := Lib.hid hBd8
                    clear hKa hKb x28 y08 y18 h28 hBd8 hd
                    go_wp2_with fail
                    go_region_held3 (fun W' => W'.cell? ⟨q, 1, none⟩ = some (.pointer (some ⟨nb, 0, none⟩)) ∧ W'.cell? ⟨yb, 0, none⟩ = some (.int .i64 yd) ∧ W'.cell? ⟨yb, 1, none⟩ = some (.string (bs yn)) ∧ W'.cell? ⟨xb, 2, none⟩ = some (.int .i64 xi))
                      (first
                        | with_reducible exact hKc
                        | with_reducible exact hKe)
                      (first
                        | (go_at_call 106; (with_reducible refine had.mono ?_); rintro e w9 ⟨kk, hk9, rfl, hn9, hM9⟩
                           have hKe : w9.cell? ⟨q, 1, none⟩ = some (.pointer (some ⟨nb, 0, none⟩)) ∧ w9.cell? ⟨yb, 0, none⟩ = some (.int .i64 yd) ∧ w9.cell? ⟨yb, 1, none⟩ = some (.string (bs yn)) ∧ w9.cell? ⟨xb, 2, none⟩ = some (.int .i64 xi) := ⟨hM9.at hKc.1 HQN.out, hM9.at hKc.2.1 HYN.out, hM9.at hKc.2.2.1 HYN.out, hM9.at hKc.2.2.2 HXN.out⟩
                           have hR9 := H28.out.nam hn9 hM9
                           have hP9 : RTPost w8.drew q _ ⟨s.t, ((s.n.drop xd xn).2.add yd yn xi).2⟩ (.int .i64 0) (.returned (.int .i64 0)) w9 := ⟨rfl, hR9.1.to (HINS.out kk hk9), hR9.2⟩
                           have hP8 := hP9.after HR8.out.1.lt HB8.out
                           have hPd := rtp_step H2D.out.lt HR8.out.2 hP8
                           have hPe : RTPost w7.drew q _ ⟨s.t, ((s.n.drop xd xn).2.add yd yn xi).2⟩ (.int .i64 0) (.returned (.int .i64 0)) w9 := ⟨rfl, hPd⟩
                           have hPf := hPe.after HTC.out.lt HBD.out
                           have HFIN := Lib.hid (FIN9.out _ hPf)
                           clear hk9 hn9 hM9 hR9 hP9 hP8 hPd hPe hPf))
                    go_wp2_with fail
                    go_ret
                    exact ⟨rfl, HFIN.out⟩
                  · have hr2 : rr = .err 67 := by rw [HRE.out, decide_eq_true hc, decide_eq_true (by simpa using hyx)]; rfl
                    have hyx' : (xd != yd) = true := by simpa using (fun e => hyx (Eq.symm e))
                    subst hr2
                    clear HRE hc hyx
                    go_wp2_with fail
                    go_region_held3 (fun W' => W'.cell? ⟨q, 1, none⟩ = some (.pointer (some ⟨nb, 0, none⟩)) ∧ W'.cell? ⟨yb, 0, none⟩ = some (.int .i64 yd) ∧ W'.cell? ⟨xb, 0, none⟩ = some (.int .i64 xd))
                      (first
                        | with_reducible exact hKg
                        | with_reducible exact hKh)
                      (first
                        | (go_at_call 101; (with_reducible refine hls.mono ?_); rintro e w7 ⟨a1, n1, k1, rfl, hn, hB7⟩
                           have hKh : w7.cell? ⟨q, 1, none⟩ = some (.pointer (some ⟨nb, 0, none⟩)) ∧ w7.cell? ⟨yb, 0, none⟩ = some (.int .i64 yd) ∧ w7.cell? ⟨xb, 0, none⟩ = some (.int .i64 xd) := ⟨below_at hB7 hKg.1 HQL.out, below_at hB7 hKg.2.1 HYL.out, below_at hB7 hKg.2.2 HXL.out⟩
                           have hn0 : decide ((64 : Int) ≤ (n1 : Int)) = true := decide_eq_true (by rw [hn]; exact HC.out)
                           have HBC := Lib.hid (HB6.out.drew.trans (hB7.mono HB6.out.drew.size))
                           clear hB7 hn))
                    go_wp2_with fail
                    go_ret
                    exact RTPost.keep H.out (by exact belC HBC.out) _
                · have HC := Lib.hid (show s.n.count yd < 64 by omega)
                  have hr2 : rr = .ok (s.renS ⟨xd, xn, xi⟩ ⟨yd, yn, 0⟩) := by rw [HRE.out, decide_eq_false hc]; rfl
                  rw [renS_no rfl] at hr2
                  have HCN := Lib.hid (show s.n.count yd < 64 ∨ yd = xd from Or.inl HC.out)
                  subst hr2
                  clear HRE hc
                  go_wp2_with fail
                  refine wp_region_held_drew (S := fun W' => W'.cell? ⟨q, 1, none⟩ = some (.pointer (some ⟨nb, 0, none⟩)) ∧ W'.cell? ⟨yb, 0, none⟩ = some (.int .i64 yd) ∧ W'.cell? ⟨xb, 0, none⟩ = some (.int .i64 xd)) (by kernel_rfl) hKg (fun hHeld => ?_)
                  refine takeL 0 ?_
                  refine takeL 1 ?_
                  refine takeL 2 ?_
                  refine takeL 3 ?_
                  refine takeL 4 ?_
                  refine takeL 5 ?_
                  refine wpAnyH_ready (rs := [6]) (by kernel_rfl) (by simp) ?_
                  refine AllReadyH.cons (o := _) rfl (fun K hK => ?_) AllReadyH.nil
                  go_simp
                  go_at_call 101
                  with_reducible refine hls.mono ?_
                  rintro e w7 ⟨a1, n1, k1, rfl, hn, hB7⟩
                  have hKh : w7.cell? ⟨q, 1, none⟩ = some (.pointer (some ⟨nb, 0, none⟩)) ∧ w7.cell? ⟨yb, 0, none⟩ = some (.int .i64 yd) ∧ w7.cell? ⟨xb, 0, none⟩ = some (.int .i64 xd) := ⟨below_at hB7 hKg.1 HQL.out, below_at hB7 hKg.2.1 HYL.out, below_at hB7 hKg.2.2 HXL.out⟩
                  have hn0 : decide ((64 : Int) ≤ (n1 : Int)) = false := decide_eq_false (by rw [hn]; have := HC.out; omega)
                  have x1C := below_at hB7 HXX1.out HXL.out
                  have x2C := below_at hB7 HXX2.out HXL.out
                  have y1C := below_at hB7 HYY1.out HYL.out
                  have HBC := Lib.hid (HB6.out.drew.trans (hB7.mono HB6.out.drew.size))
                  clear hB7 hn
                  have HK := Lib.hid hK
                  try go_wp2_with fail
                  refine hK _ _ hKh (fun hHeld => ?_)
                  clear hK
                  try simp only [Act.put, List.setIfInBounds_toArray, List.set_cons_zero, List.set_cons_succ]
                  refine takeL 7 ?_
                  refine takeL 8 ?_
                  refine takeL 9 ?_
                  refine takeU 10 ?_
                  refine takeU 11 ?_
                  refine takeU 12 ?_
                  refine takeU 13 ?_
                  refine takeU 14 ?_
                  refine takeL 15 ?_
                  refine wpAnyH_done (by kernel_rfl) ?_ _
                  clear hHeld
                  have x0C := hKh.2.2
                  have y0C := hKh.2.1
                  clear hKg hKh
                  have HTC := Lib.hid (H.out.below' HBC.out)
                  have HMV := Lib.hid (fun L (hs : Srt s.n.m L) => mv_plain hg.good.ok.n hs HFX.out HFY.out HNM.out.1 ⟨HNM.out.2.1, HNM.out.2.2.1⟩ ⟨HNM.out.2.2.2.1, HNM.out.2.2.2.2⟩ HCN.out)
                  have HLN := Lib.hid hg.nlen
                  have FIN9 := Lib.hid (fun W' (h9 : RTreeAt W' q (growS R w7 W') ⟨s.t, ((s.n.drop xd xn).2.add yd yn xi).2⟩ ∧ Mod R w7 W') => (show RTPost w7 q R ⟨s.t, ((s.n.drop xd xn).2.add yd yn xi).2⟩ (.int .i64 0) (.returned (.int .i64 0)) W' from ⟨rfl, h9⟩).after hlt.out HBC.out)
                  obtain ⟨ib, nb, T1, T2, L, h2, hs⟩ := RT2.of HTC.out
                  have hLl : L.length ≤ 1000 := by rw [hs.perm.length_eq]; exact HLN.out
                  obtain ⟨⟨pre, post, hL, hpre, hg2, hn64, hlen, hins⟩⟩ := HMV.out L hs
                  subst hL
                  have hBd : Below w7.heap.size w7 w7.drew := by exact belC (Below.refl _ _)
                  have h2d := h2.below hBd
                  have hd := rNDrop_ok w7.drew nb T2 pre post xd xi xn h2d.hn (by omega) hpre
                  have HXS := Lib.hid (show ¬ T2 xb from fun hk => HXR.out (h2.s2 _ hk))
                  have HYS := Lib.hid (show ¬ T2 yb from fun hk => HYR.out (h2.s2 _ hk))
                  have HQS := Lib.hid (show ¬ T2 q from h2.b2)
                  have HLQ := Lib.hid (show q < w7.drew.heap.size from cell_lt h2d.c1)
                  have HLX := Lib.hid (show xb < w7.drew.heap.size from cell_lt x0C)
                  have HLY := Lib.hid (show yb < w7.drew.heap.size from cell_lt y0C)
                  have hKa : w7.drew.cell? ⟨q, 1, none⟩ = some (.pointer (some ⟨nb, 0, none⟩)) ∧ w7.drew.cell? ⟨xb, 0, none⟩ = some (.int .i64 xd) ∧ w7.drew.cell? ⟨xb, 1, none⟩ = some (.string (bs xn)) := ⟨h2d.c1, x0C, x1C⟩
                  have HXC := Lib.hid (show w7.drew.cell? ⟨xb, 2, none⟩ = some (.int .i64 xi) from x2C)
                  have HYC := Lib.hid (show w7.drew.cell? ⟨yb, 0, none⟩ = some (.int .i64 yd) from y0C)
                  have HYD := Lib.hid (show w7.drew.cell? ⟨yb, 1, none⟩ = some (.string (bs yn)) from y1C)
                  have H2D := Lib.hid h2d
                  have HBD := Lib.hid hBd
                  have HINS := Lib.hid hins
                  have HGT := Lib.hid hg2
                  have HNS := Lib.hid hn64
                  have HLE := Lib.hid (show (pre ++ post).length ≤ 100000 by omega)
                  clear h2 hs hLl hpre hg2 hn64 hlen hins hBd h2d x0C x1C x2C y0C y1C
                  go_wp2_with fail
                  go_region_held3 (fun W' => W'.cell? ⟨q, 1, none⟩ = some (.pointer (some ⟨nb, 0, none⟩)) ∧ W'.cell? ⟨xb, 0, none⟩ = some (.int .i64 xd) ∧ W'.cell? ⟨xb, 1, none⟩ = some (.string (bs xn)))
                    (first
                      | with_reducible exact hKa
                      | with_reducible exact hKb)
                    (first
                      | (go_at_call 108; (with_reducible refine hd.mono ?_); rintro e w8 ⟨rfl, hn8, hM8⟩
                         have hKb : w8.cell? ⟨q, 1, none⟩ = some (.pointer (some ⟨nb, 0, none⟩)) ∧ w8.cell? ⟨xb, 0, none⟩ = some (.int .i64 xd) ∧ w8.cell? ⟨xb, 1, none⟩ = some (.string (bs xn)) := ⟨hM8.at hKa.1 HQS.out, hM8.at hKa.2.1 HXS.out, hM8.at hKa.2.2 HXS.out⟩
                         have x28 := hM8.at HXC.out HXS.out
                         have y08 := hM8.at HYC.out HYS.out
                         have y18 := hM8.at HYD.out HYS.out
                         have HR8 := Lib.hid (H2D.out.nam hn8 hM8)
                         clear hn8 hM8))
                  have hBd8 : Below w8.heap.size w8 w8.drew := by exact belC (Below.refl _ _)
                  have h28 := HR8.out.1.below hBd8
                  have had := rNAdd_ok w8.drew nb _ (pre ++ post) h28.hn HLE.out yd xi yn HNM.out.1 HNM.out.2.1 HNM.out.2.2.1 HNM.out.2.2.2.1 HNM.out.2.2.2.2 HGT.out HNS.out
                  have hKc : w8.drew.cell? ⟨q, 1, none⟩ = some (.pointer (some ⟨nb, 0, none⟩)) ∧ w8.drew.cell? ⟨yb, 0, none⟩ = some (.int .i64 yd) ∧ w8.drew.cell? ⟨yb, 1, none⟩ = some (.string (bs yn)) ∧ w8.drew.cell? ⟨xb, 2, none⟩ = some (.int .i64 xi) := ⟨h28.c1, y08, y18, x28⟩
                  have HQN := Lib.hid (show ¬ growS T2 w7.drew w8 q from fun hk => hk.elim HQS.out (fun h => by have := HLQ.out; omega))
                  have HXN := Lib.hid (show ¬ growS T2 w7.drew w8 xb from fun hk => hk.elim HXS.out (fun h => by have := HLX.out; omega))
                  have HYN := Lib.hid (show ¬ growS T2 w7.drew w8 yb from fun hk => hk.elim HYS.out (fun h => by have := HLY.out; omega))
                  have H28 := Lib.hid h28
                  have HB8 := Lib.hid hBd8
                  clear hKa hKb x28 y08 y18 h28 hBd8 hd
                  go_wp2_with fail
                  go_region_held3 (fun W' => W'.cell? ⟨q, 1, none⟩ = some (.pointer (some ⟨nb, 0, none⟩)) ∧ W'.cell? ⟨yb, 0, none⟩ = some (.int .i64 yd) ∧ W'.cell? ⟨yb, 1, none⟩ = some (.string (bs yn)) ∧ W'.cell? ⟨xb, 2, none⟩ = some (.int .i64 xi))
                    (first
                      | with_reducible exact hKc
                      | with_reducible exact hKe)
                    (first
                      | (go_at_call 106; (with_reducible refine had.mono ?_); rintro e w9 ⟨kk, hk9, rfl, hn9, hM9⟩
                         have hKe : w9.cell? ⟨q, 1, none⟩ = some (.pointer (some ⟨nb, 0, none⟩)) ∧ w9.cell? ⟨yb, 0, none⟩ = some (.int .i64 yd) ∧ w9.cell? ⟨yb, 1, none⟩ = some (.string (bs yn)) ∧ w9.cell? ⟨xb, 2, none⟩ = some (.int .i64 xi) := ⟨hM9.at hKc.1 HQN.out, hM9.at hKc.2.1 HYN.out, hM9.at hKc.2.2.1 HYN.out, hM9.at hKc.2.2.2 HXN.out⟩
                         have hR9 := H28.out.nam hn9 hM9
                         have hP9 : RTPost w8.drew q _ ⟨s.t, ((s.n.drop xd xn).2.add yd yn xi).2⟩ (.int .i64 0) (.returned (.int .i64 0)) w9 := ⟨rfl, hR9.1.to (HINS.out kk hk9), hR9.2⟩
                         have hP8 := hP9.after HR8.out.1.lt HB8.out
                         have hPd := rtp_step H2D.out.lt HR8.out.2 hP8
                         have hPe : RTPost w7.drew q _ ⟨s.t, ((s.n.drop xd xn).2.add yd yn xi).2⟩ (.int .i64 0) (.returned (.int .i64 0)) w9 := ⟨rfl, hPd⟩
                         have hPf := hPe.after HTC.out.lt HBD.out
                         have HFIN := Lib.hid (FIN9.out _ hPf)
                         clear hk9 hn9 hM9 hR9 hP9 hP8 hPd hPe hPf))
                  go_wp2_with fail
                  go_ret
                  exact ⟨rfl, HFIN.out⟩
              · have hy0' : (yi != 0) = true := by simpa using hy0
                have HRE := Lib.hid (show rr = ((stopB 62 (decide (s.kind yi ≠ 1))).bind fun _ => stopB 64 (decide (0 < s.n.count yi))).bind fun _ => .ok (s.renS ⟨xd, xn, xi⟩ ⟨yd, yn, yi⟩) from by rw [HRD.out, if_neg hy0])
                clear HRD
                by_cases hk1 : s.kind yi ≠ 1
                · have hr2 : rr = .err 62 := by rw [HRE.out, decide_eq_true hk1]; rfl
                  have hk1' : (s.kind yi != 1) = true := by simpa using hk1
                  subst hr2
                  generalize s.kind yi = kv at *
                  clear HRE hk1 hy0
                  go_wp2_with fail
                  rw [← HYW.out, ← HYB.out]
                  clear z2 hxl3
                  go_wp2_with fail
                  refine (hkx _ (H.out.below' HYX.out)).mono ?_
                  clear hkx
                  rintro e w5 ⟨rfl, rfl⟩
                  go_wp2_with fail
                  refine (hin _).mono ?_
                  clear hin
                  rintro e w6 ⟨rfl, hB6⟩
                  have HB6 := Lib.hid (HYX.out.trans (hB6.mono HYX.out.size))
                  have y26 := below_at hB6 y2 (cell_lt y2)
                  have hyl6 := cell_lt y26
                  clear hB6
                  go_wp2_with fail
                  refine (hky _ (H.out.below' HB6.out)).mono ?_
                  clear hky
                  rintro e w7 ⟨rfl, rfl⟩
                  go_wp2_with fail
                  go_ret
                  exact RTPost.keep H.out (by exact belC HB6.out) _
                · have hk1 : s.kind yi = 1 := by simpa using hk1
                  have HRF := Lib.hid (show rr = (stopB 64 (decide (0 < s.n.count yi))).bind fun _ => .ok (s.renS ⟨xd, xn, xi⟩ ⟨yd, yn, yi⟩) from by rw [HRE.out, decide_eq_false (by simpa using hk1)]; rfl)
                  rw [hk1] at hky
                  clear HRE hk1
                  have HFY := Lib.hid (show s.n.find yd yn = some yi from find_some HYI.out.symm hy0)
                  have HY0 := Lib.hid hy0
                  obtain ⟨nb, hnb, hls⟩ := HLS.out
                  have hql := cell_lt hnb
                  clear hy0
                  by_cases hc : 0 < s.n.count yi
                  · have hr2 : rr = .err 64 := by rw [HRF.out, decide_eq_true hc]; rfl
                    have HC := Lib.hid hc
                    subst hr2
                    clear HRF hc
                    go_wp2_with fail
                    rw [← HYW.out, ← HYB.out]
                    clear z2 hxl3
                    go_wp2_with fail
                    refine (hkx _ (H.out.below' HYX.out)).mono ?_
                    clear hkx
                    rintro e w5 ⟨rfl, rfl⟩
                    go_wp2_with fail
                    refine (hin _).mono ?_
                    clear hin
                    rintro e w6 ⟨rfl, hB6⟩
                    have HB6 := Lib.hid (HYX.out.trans (hB6.mono HYX.out.size))
                    have x06 := below_at hB6 x0 (cell_lt x0)
                    have x16 := below_at hB6 x1 (cell_lt x1)
                    have x26 := below_at hB6 x2 (cell_lt x2)
                    have y06 := below_at hB6 y0 (cell_lt y0)
                    have y16 := below_at hB6 y1 (cell_lt y1)
                    have y26 := below_at hB6 y2 (cell_lt y2)
                    clear hB6 x0 x1 x2 y0 y1 y2
                    go_wp2_with fail
                    refine (hky _ (H.out.below' HB6.out)).mono ?_
                    clear hky
                    rintro e wz ⟨rfl, rfl⟩
                    have hls := hls wz.drew HB6.out.drew yi
                    have hKg : wz.drew.cell? ⟨q, 1, none⟩ = some (.pointer (some ⟨nb, 0, none⟩)) ∧ wz.drew.cell? ⟨yb, 2, none⟩ = some (.int .i64 yi) := ⟨below_at HB6.out hnb hql, y26⟩
                    have HQL := Lib.hid (cell_lt hKg.1)
                    have HYL := Lib.hid (cell_lt hKg.2)
                    have HXL := Lib.hid (cell_lt x06)
                    clear hnb hql
                    go_wp2_with fail
                    go_region_held3 (fun W' => W'.cell? ⟨q, 1, none⟩ = some (.pointer (some ⟨nb, 0, none⟩)) ∧ W'.cell? ⟨yb, 2, none⟩ = some (.int .i64 yi))
                      (first
                        | with_reducible exact hKg
                        | with_reducible exact hKh)
                      (first
                        | (go_at_call 101; (with_reducible refine hls.mono ?_); rintro e w7 ⟨a1, n1, k1, rfl, hn, hB7⟩
                           have hKh : w7.cell? ⟨q, 1, none⟩ = some (.pointer (some ⟨nb, 0, none⟩)) ∧ w7.cell? ⟨yb, 2, none⟩ = some (.int .i64 yi) := ⟨below_at hB7 hKg.1 HQL.out, below_at hB7 hKg.2 HYL.out⟩
                           have hcn := HC.out
                           have hn0 : 0 < n1 := by omega
                           clear hcn
                           have x07 := below_at hB7 (show wz.drew.cell? ⟨xb, 0, none⟩ = some (.int .i64 xd) from x06) HXL.out
                           have x17 := below_at hB7 (show wz.drew.cell? ⟨xb, 1, none⟩ = some (.string (bs xn)) from x16) HXL.out
                           have x27 := below_at hB7 (show wz.drew.cell? ⟨xb, 2, none⟩ = some (.int .i64 xi) from x26) HXL.out
                           have y07 := below_at hB7 (show wz.drew.cell? ⟨yb, 0, none⟩ = some (.int .i64 yd) from y06) HYL.out
                           have y17 := below_at hB7 (show wz.drew.cell? ⟨yb, 1, none⟩ = some (.string (bs yn)) from y16) HYL.out
                           have HB7 := Lib.hid (HB6.out.drew.trans (hB7.mono HB6.out.drew.size))
                           clear hB7 hn))
                    go_wp2_with fail
                    go_ret
                    exact RTPost.keep H.out (by exact belC HB7.out) _
                  · have hr2 : rr = .ok (s.renS ⟨xd, xn, xi⟩ ⟨yd, yn, yi⟩) := by rw [HRF.out, decide_eq_false hc]; rfl
                    rw [renS_yes HY0.out] at hr2
                    have HC := Lib.hid hc
                    subst hr2
                    clear HRF hc
                    go_wp2_with fail
                    rw [← HYW.out, ← HYB.out]
                    clear z2 hxl3
                    go_wp2_with fail
                    refine (hkx _ (H.out.below' HYX.out)).mono ?_
                    clear hkx
                    rintro e w5 ⟨rfl, rfl⟩
                    go_wp2_with fail
                    refine (hin _).mono ?_
                    clear hin
                    rintro e w6 ⟨rfl, hB6⟩
                    have HB6 := Lib.hid (HYX.out.trans (hB6.mono HYX.out.size))
                    have x06 := below_at hB6 x0 (cell_lt x0)
                    have x16 := below_at hB6 x1 (cell_lt x1)
                    have x26 := below_at hB6 x2 (cell_lt x2)
                    have y06 := below_at hB6 y0 (cell_lt y0)
                    have y16 := below_at hB6 y1 (cell_lt y1)
                    have y26 := below_at hB6 y2 (cell_lt y2)
                    clear hB6 x0 x1 x2 y0 y1 y2
                    go_wp2_with fail
                    refine (hky _ (H.out.below' HB6.out)).mono ?_
                    clear hky
                    rintro e wz ⟨rfl, rfl⟩
                    have hls := hls wz.drew HB6.out.drew yi
                    have hKg : wz.drew.cell? ⟨q, 1, none⟩ = some (.pointer (some ⟨nb, 0, none⟩)) ∧ wz.drew.cell? ⟨yb, 2, none⟩ = some (.int .i64 yi) := ⟨below_at HB6.out hnb hql, y26⟩
                    have HQL := Lib.hid (cell_lt hKg.1)
                    have HYL := Lib.hid (cell_lt hKg.2)
                    have HXL := Lib.hid (cell_lt x06)
                    clear hnb hql
                    go_wp2_with fail
                    go_region_held3 (fun W' => W'.cell? ⟨q, 1, none⟩ = some (.pointer (some ⟨nb, 0, none⟩)) ∧ W'.cell? ⟨yb, 2, none⟩ = some (.int .i64 yi))
                      (first
                        | with_reducible exact hKg
                        | with_reducible exact hKh)
                      (first
                        | (go_at_call 101; (with_reducible refine hls.mono ?_); rintro e w7 ⟨a1, n1, k1, rfl, hn, hB7⟩
                           have hKh : w7.cell? ⟨q, 1, none⟩ = some (.pointer (some ⟨nb, 0, none⟩)) ∧ w7.cell? ⟨yb, 2, none⟩ = some (.int .i64 yi) := ⟨below_at hB7 hKg.1 HQL.out, below_at hB7 hKg.2 HYL.out⟩
                           have hcn := HC.out
                           obtain rfl : n1 = 0 := by omega
                           clear hcn
                           have x07 := below_at hB7 (show wz.drew.cell? ⟨xb, 0, none⟩ = some (.int .i64 xd) from x06) HXL.out
                           have x17 := below_at hB7 (show wz.drew.cell? ⟨xb, 1, none⟩ = some (.string (bs xn)) from x16) HXL.out
                           have x27 := below_at hB7 (show wz.drew.cell? ⟨xb, 2, none⟩ = some (.int .i64 xi) from x26) HXL.out
                           have y07 := below_at hB7 (show wz.drew.cell? ⟨yb, 0, none⟩ = some (.int .i64 yd) from y06) HYL.out
                           have y17 := below_at hB7 (show wz.drew.cell? ⟨yb, 1, none⟩ = some (.string (bs yn)) from y16) HYL.out
                           have HB7 := Lib.hid (HB6.out.drew.trans (hB7.mono HB6.out.drew.size))
                           clear hB7 hn))
                    -- at world w7 the box y is read and its name goes
                    have hgy := fun W hW => rtGone_any W q R s hW hg ⟨yd, yn, yi⟩ HFY.out
                    unfold spV at hgy
                    have HGL := Lib.hid (fun k (hk : R k) => Nat.lt_of_lt_of_le (hlt.out k hk) HB7.out.size)
                    have HMD := Lib.hid (mv_drop hg.good (x := ⟨xd, xn, xi⟩) (y := ⟨yd, yn, yi⟩) HFX.out HFY.out HNE.out)
                    go_wp2_with fail
                    refine (hgy _ (H.out.below' HB7.out)).mono ?_
                    clear hgy
                    rintro e wc ⟨rfl, hTc, hMc⟩
                    have hxg : xb < w7.heap.size := cell_lt x07
                    have hyg : yb < w7.heap.size := cell_lt y07
                    have HXG := Lib.hid (show ¬ R xb from fun hk => by have := hlt.out _ hk; have := HXW.out; omega)
                    have HYG := Lib.hid (show ¬ R yb from fun hk => by have := hlt.out _ hk; have := HYV.out; omega)
                    have x0C := hMc.at x07 HXG.out
                    have x1C := hMc.at x17 HXG.out
                    have x2C := hMc.at x27 HXG.out
                    have y0C := hMc.at y07 HYG.out
                    have y1C := hMc.at y17 HYG.out
                    have HXR := Lib.hid (show ¬ growS R w7 wc xb from fun hk => hk.elim HXG.out (fun h => by omega))
                    have HYR := Lib.hid (show ¬ growS R w7 wc yb from fun hk => hk.elim HYG.out (fun h => by omega))
                    have HTC := Lib.hid hTc
                    have HMV := Lib.hid (fun L (hs : Srt (s.drop ⟨yd, yn, yi⟩).n.m L) => mv_plain HMD.out.1 hs HMD.out.2.1 HMD.out.2.2.1 HNM.out.1 ⟨HNM.out.2.1, HNM.out.2.2.1⟩ ⟨HNM.out.2.2.2.1, HNM.out.2.2.2.2⟩ (Or.inl HMD.out.2.2.2.1))
                    have HLN := Lib.hid (show (s.drop ⟨yd, yn, yi⟩).n.m.length ≤ 1000 from Nat.le_trans HMD.out.2.2.2.2 hg.nlen)
                    have HMC := Lib.hid hMc
                    have FIN9 := Lib.hid (fun W' (h9 : RTreeAt W' q (growS (growS R w7 wc) wc W') ⟨(s.drop ⟨yd, yn, yi⟩).t, (((s.drop ⟨yd, yn, yi⟩).n.drop xd xn).2.add yd yn xi).2⟩ ∧ Mod (growS R w7 wc) wc W') => (show RTPost w7 q R ⟨(s.drop ⟨yd, yn, yi⟩).t, (((s.drop ⟨yd, yn, yi⟩).n.drop xd xn).2.add yd yn xi).2⟩ (.int .i64 0) (.returned (.int .i64 0)) W' from ⟨rfl, rtp_step HGL.out HMC.out h9⟩).after hlt.out HB7.out)
                    clear hTc hMc hxg hyg x07 x17 x27 y07 y17
                    obtain ⟨ib, nb, T1, T2, L, h2, hs⟩ := RT2.of HTC.out
                    have hLl : L.length ≤ 1000 := by rw [hs.perm.length_eq]; exact HLN.out
                    obtain ⟨⟨pre, post, hL, hpre, hg2, hn64, hlen, hins⟩⟩ := HMV.out L hs
                    subst hL
                    have hBd : Below wc.heap.size wc wc.drew := by exact belC (Below.refl _ _)
                    have h2d := h2.below hBd
                    have hd := rNDrop_ok wc.drew nb T2 pre post xd xi xn h2d.hn (by omega) hpre
                    have HXS := Lib.hid (show ¬ T2 xb from fun hk => HXR.out (h2.s2 _ hk))
                    have HYS := Lib.hid (show ¬ T2 yb from fun hk => HYR.out (h2.s2 _ hk))
                    have HQS := Lib.hid (show ¬ T2 q from h2.b2)
                    have HLQ := Lib.hid (show q < wc.drew.heap.size from cell_lt h2d.c1)
                    have HLX := Lib.hid (show xb < wc.drew.heap.size from cell_lt x0C)
                    have HLY := Lib.hid (show yb < wc.drew.heap.size from cell_lt y0C)
                    have hKa : wc.drew.cell? ⟨q, 1, none⟩ = some (.pointer (some ⟨nb, 0, none⟩)) ∧ wc.drew.cell? ⟨xb, 0, none⟩ = some (.int .i64 xd) ∧ wc.drew.cell? ⟨xb, 1, none⟩ = some (.string (bs xn)) := ⟨h2d.c1, x0C, x1C⟩
                    have HXC := Lib.hid (show wc.drew.cell? ⟨xb, 2, none⟩ = some (.int .i64 xi) from x2C)
                    have HYC := Lib.hid (show wc.drew.cell? ⟨yb, 0, none⟩ = some (.int .i64 yd) from y0C)
                    have HYD := Lib.hid (show wc.drew.cell? ⟨yb, 1, none⟩ = some (.string (bs yn)) from y1C)
                    have H2D := Lib.hid h2d
                    have HBD := Lib.hid hBd
                    have HINS := Lib.hid hins
                    have HGT := Lib.hid hg2
                    have HNS := Lib.hid hn64
                    have HLE := Lib.hid (show (pre ++ post).length ≤ 100000 by omega)
                    clear h2 hs hLl hpre hg2 hn64 hlen hins hBd h2d x0C x1C x2C y0C y1C
                    go_wp2_with fail
                    go_region_held3 (fun W' => W'.cell? ⟨q, 1, none⟩ = some (.pointer (some ⟨nb, 0, none⟩)) ∧ W'.cell? ⟨xb, 0, none⟩ = some (.int .i64 xd) ∧ W'.cell? ⟨xb, 1, none⟩ = some (.string (bs xn)))
                      (first
                        | with_reducible exact hKa
                        | with_reducible exact hKb)
                      (first
                        | (go_at_call 108; (with_reducible refine hd.mono ?_); rintro e w8 ⟨rfl, hn8, hM8⟩
                           have hKb : w8.cell? ⟨q, 1, none⟩ = some (.pointer (some ⟨nb, 0, none⟩)) ∧ w8.cell? ⟨xb, 0, none⟩ = some (.int .i64 xd) ∧ w8.cell? ⟨xb, 1, none⟩ = some (.string (bs xn)) := ⟨hM8.at hKa.1 HQS.out, hM8.at hKa.2.1 HXS.out, hM8.at hKa.2.2 HXS.out⟩
                           have x28 := hM8.at HXC.out HXS.out
                           have y08 := hM8.at HYC.out HYS.out
                           have y18 := hM8.at HYD.out HYS.out
                           have HR8 := Lib.hid (H2D.out.nam hn8 hM8)
                           clear hn8 hM8))
                    have hBd8 : Below w8.heap.size w8 w8.drew := by exact belC (Below.refl _ _)
                    have h28 := HR8.out.1.below hBd8
                    have had := rNAdd_ok w8.drew nb _ (pre ++ post) h28.hn HLE.out yd xi yn HNM.out.1 HNM.out.2.1 HNM.out.2.2.1 HNM.out.2.2.2.1 HNM.out.2.2.2.2 HGT.out HNS.out
                    have hKc : w8.drew.cell? ⟨q, 1, none⟩ = some (.pointer (some ⟨nb, 0, none⟩)) ∧ w8.drew.cell? ⟨yb, 0, none⟩ = some (.int .i64 yd) ∧ w8.drew.cell? ⟨yb, 1, none⟩ = some (.string (bs yn)) ∧ w8.drew.cell? ⟨xb, 2, none⟩ = some (.int .i64 xi) := ⟨h28.c1, y08, y18, x28⟩
                    have HQN := Lib.hid (show ¬ growS T2 wc.drew w8 q from fun hk => hk.elim HQS.out (fun h => by have := HLQ.out; omega))
                    have HXN := Lib.hid (show ¬ growS T2 wc.drew w8 xb from fun hk => hk.elim HXS.out (fun h => by have := HLX.out; omega))
                    have HYN := Lib.hid (show ¬ growS T2 wc.drew w8 yb from fun hk => hk.elim HYS.out (fun h => by have := HLY.out; omega))
                    have H28 := Lib.hid h28
                    have HB8 := Lib.hid hBd8
                    clear hKa hKb x28 y08 y18 h28 hBd8 hd
                    go_wp2_with fail
                    go_region_held3 (fun W' => W'.cell? ⟨q, 1, none⟩ = some (.pointer (some ⟨nb, 0, none⟩)) ∧ W'.cell? ⟨yb, 0, none⟩ = some (.int .i64 yd) ∧ W'.cell? ⟨yb, 1, none⟩ = some (.string (bs yn)) ∧ W'.cell? ⟨xb, 2, none⟩ = some (.int .i64 xi))
                      (first
                        | with_reducible exact hKc
                        | with_reducible exact hKe)
                      (first
                        | (go_at_call 106; (with_reducible refine had.mono ?_); rintro e w9 ⟨kk, hk9, rfl, hn9, hM9⟩
                           have hKe : w9.cell? ⟨q, 1, none⟩ = some (.pointer (some ⟨nb, 0, none⟩)) ∧ w9.cell? ⟨yb, 0, none⟩ = some (.int .i64 yd) ∧ w9.cell? ⟨yb, 1, none⟩ = some (.string (bs yn)) ∧ w9.cell? ⟨xb, 2, none⟩ = some (.int .i64 xi) := ⟨hM9.at hKc.1 HQN.out, hM9.at hKc.2.1 HYN.out, hM9.at hKc.2.2.1 HYN.out, hM9.at hKc.2.2.2 HXN.out⟩
                           have hR9 := H28.out.nam hn9 hM9
                           have hP9 : RTPost w8.drew q _ ⟨(s.drop ⟨yd, yn, yi⟩).t, (((s.drop ⟨yd, yn, yi⟩).n.drop xd xn).2.add yd yn xi).2⟩ (.int .i64 0) (.returned (.int .i64 0)) w9 := ⟨rfl, hR9.1.to (HINS.out kk hk9), hR9.2⟩
                           have hP8 := hP9.after HR8.out.1.lt HB8.out
                           have hPd := rtp_step H2D.out.lt HR8.out.2 hP8
                           have hPe : RTPost wc.drew q _ ⟨(s.drop ⟨yd, yn, yi⟩).t, (((s.drop ⟨yd, yn, yi⟩).n.drop xd xn).2.add yd yn xi).2⟩ (.int .i64 0) (.returned (.int .i64 0)) w9 := ⟨rfl, hPd⟩
                           have hPf := hPe.after HTC.out.lt HBD.out
                           have HFIN := Lib.hid (FIN9.out _ hPf)
                           clear hk9 hn9 hM9 hR9 hP9 hP8 hPd hPe hPf))
                    go_wp2_with fail
                    go_ret
                    exact ⟨rfl, HFIN.out⟩
          · have hk' : (s.kind xi == 1) = false := by simpa using hk
            have HRD := Lib.hid (show rr = (if yi = 0 then stopB 67 (decide (64 ≤ s.n.count yd) && decide (yd ≠ xd)) else stopB 63 (decide (s.kind yi = 1))).bind fun _ => .ok (s.renS ⟨xd, xn, xi⟩ ⟨yd, yn, yi⟩) from by
              rw [HRC.out, decide_eq_false hk, if_neg hk]; rfl)
            have hky := fun W hW => rtKind_any W q R s hW hg yi
            generalize s.kind xi = kv at *
            clear HRC hk hin
            by_cases hy0 : yi = 0
            · subst hy0
              have HRE := Lib.hid (show rr = (stopB 67 (decide (64 ≤ s.n.count yd) && decide (yd ≠ xd))).bind fun _ => .ok (s.renS ⟨xd, xn, xi⟩ ⟨yd, yn, 0⟩) from HRD.out)
              clear HRD hky
              have HFY := Lib.hid (show s.n.find yd yn = none from hg.good.zero HYI.out.symm)
              have HXR := Lib.hid (show ¬ R xb from fun hk => by have := hlt.out _ hk; have := HXW.out; omega)
              have HYR := Lib.hid (show ¬ R yb from fun hk => by have := hlt.out _ hk; have := HYV.out; omega)
              go_wp2_with fail
              rw [← HYW.out, ← HYB.out]
              clear z2 hxl3
              go_wp2_with fail
              refine (hkx _ (H.out.below' HYX.out)).mono ?_
              clear hkx
              rintro e w5 ⟨rfl, rfl⟩
              obtain ⟨nb, hnb, hls⟩ := HLS.out
              have hls := hls w5.drew HYX.out.drew yd
              have hql := cell_lt hnb
              have hKg : w5.drew.cell? ⟨q, 1, none⟩ = some (.pointer (some ⟨nb, 0, none⟩)) ∧ w5.drew.cell? ⟨yb, 0, none⟩ = some (.int .i64 yd) ∧ w5.drew.cell? ⟨xb, 0, none⟩ = some (.int .i64 xd) := ⟨below_at HYX.out hnb hql, y0, x0⟩
              have HQL := Lib.hid (cell_lt hKg.1)
              have HYL := Lib.hid (cell_lt hKg.2.1)
              have HXL := Lib.hid (cell_lt hKg.2.2)
              have HXX1 := Lib.hid (show w5.drew.cell? ⟨xb, 1, none⟩ = some (.string (bs xn)) from x1)
              have HXX2 := Lib.hid (show w5.drew.cell? ⟨xb, 2, none⟩ = some (.int .i64 xi) from x2)
              have HYY1 := Lib.hid (show w5.drew.cell? ⟨yb, 1, none⟩ = some (.string (bs yn)) from y1)
              clear hnb hql
              by_cases hc : 64 ≤ s.n.count yd
              · have HC := Lib.hid hc
                by_cases hyx : yd = xd
                · have hr2 : rr = .ok (s.renS ⟨xd, xn, xi⟩ ⟨yd, yn, 0⟩) := by rw [HRE.out, decide_eq_true hc, decide_eq_false (by simpa using hyx)]; rfl
                  rw [renS_no rfl] at hr2
                  have hyx' : (xd != yd) = false := by simpa using hyx.symm
                  have HCN := Lib.hid (show s.n.count yd < 64 ∨ yd = xd from Or.inr hyx)
                  subst hr2
                  clear HRE hc hyx
                  go_wp2_with fail
                  go_region_held3 (fun W' => W'.cell? ⟨q, 1, none⟩ = some (.pointer (some ⟨nb, 0, none⟩)) ∧ W'.cell? ⟨yb, 0, none⟩ = some (.int .i64 yd) ∧ W'.cell? ⟨xb, 0, none⟩ = some (.int .i64 xd))
                    (first
                      | with_reducible exact hKg
                      | with_reducible exact hKh)
                    (first
                      | (go_at_call 101; (with_reducible refine hls.mono ?_); rintro e w7 ⟨a1, n1, k1, rfl, hn, hB7⟩
                         have hKh : w7.cell? ⟨q, 1, none⟩ = some (.pointer (some ⟨nb, 0, none⟩)) ∧ w7.cell? ⟨yb, 0, none⟩ = some (.int .i64 yd) ∧ w7.cell? ⟨xb, 0, none⟩ = some (.int .i64 xd) := ⟨below_at hB7 hKg.1 HQL.out, below_at hB7 hKg.2.1 HYL.out, below_at hB7 hKg.2.2 HXL.out⟩
                         have hn0 : decide ((64 : Int) ≤ (n1 : Int)) = true := decide_eq_true (by rw [hn]; exact HC.out)
                         have x1C := below_at hB7 HXX1.out HXL.out
                         have x2C := below_at hB7 HXX2.out HXL.out
                         have y1C := below_at hB7 HYY1.out HYL.out
                         have HBC := Lib.hid (HYX.out.drew.trans (hB7.mono HYX.out.drew.size))
                         clear hB7 hn))
                  have x0C := hKh.2.2
                  have y0C := hKh.2.1
                  clear hKg hKh
                  have HTC := Lib.hid (H.out.below' HBC.out)
                  have HMV := Lib.hid (fun L (hs : Srt s.n.m L) => mv_plain hg.good.ok.n hs HFX.out HFY.out HNM.out.1 ⟨HNM.out.2.1, HNM.out.2.2.1⟩ ⟨HNM.out.2.2.2.1, HNM.out.2.2.2.2⟩ HCN.out)
                  have HLN := Lib.hid hg.nlen
                  have FIN9 := Lib.hid (fun W' (h9 : RTreeAt W' q (growS R w7 W') ⟨s.t, ((s.n.drop xd xn).2.add yd yn xi).2⟩ ∧ Mod R w7 W') => (show RTPost w7 q R ⟨s.t, ((s.n.drop xd xn).2.add yd yn xi).2⟩ (.int .i64 0) (.returned (.int .i64 0)) W' from ⟨rfl, h9⟩).after hlt.out HBC.out)
                  obtain ⟨ib, nb, T1, T2, L, h2, hs⟩ := RT2.of HTC.out
                  have hLl : L.length ≤ 1000 := by rw [hs.perm.length_eq]; exact HLN.out
                  obtain ⟨⟨pre, post, hL, hpre, hg2, hn64, hlen, hins⟩⟩ := HMV.out L hs
                  subst hL
                  have hBd : Below w7.heap.size w7 w7.drew := by exact belC (Below.refl _ _)
                  have h2d := h2.below hBd
                  have hd := rNDrop_ok w7.drew nb T2 pre post xd xi xn h2d.hn (by omega) hpre
                  have HXS := Lib.hid (show ¬ T2 xb from fun hk => HXR.out (h2.s2 _ hk))
                  have HYS := Lib.hid (show ¬ T2 yb from fun hk => HYR.out (h2.s2 _ hk))
                  have HQS := Lib.hid (show ¬ T2 q from h2.b2)
                  have HLQ := Lib.hid (show q < w7.drew.heap.size from cell_lt h2d.c1)
                  have HLX := Lib.hid (show xb < w7.drew.heap.size from cell_lt x0C)
                  have HLY := Lib.hid (show yb < w7.drew.heap.size from cell_lt y0C)
                  have hKa : w7.drew.cell? ⟨q, 1, none⟩ = some (.pointer (some ⟨nb, 0, none⟩)) ∧ w7.drew.cell? ⟨xb, 0, none⟩ = some (.int .i64 xd) ∧ w7.drew.cell? ⟨xb, 1, none⟩ = some (.string (bs xn)) := ⟨h2d.c1, x0C, x1C⟩
                  have HXC := Lib.hid (show w7.drew.cell? ⟨xb, 2, none⟩ = some (.int .i64 xi) from x2C)
                  have HYC := Lib.hid (show w7.drew.cell? ⟨yb, 0, none⟩ = some (.int .i64 yd) from y0C)
                  have HYD := Lib.hid (show w7.drew.cell? ⟨yb, 1, none⟩ = some (.string (bs yn)) from y1C)
                  have H2D := Lib.hid h2d
                  have HBD := Lib.hid hBd
                  have HINS := Lib.hid hins
                  have HGT := Lib.hid hg2
                  have HNS := Lib.hid hn64
                  have HLE := Lib.hid (show (pre ++ post).length ≤ 100000 by omega)
                  clear h2 hs hLl hpre hg2 hn64 hlen hins hBd h2d x0C x1C x2C y0C y1C
                  go_wp2_with fail
                  go_region_held3 (fun W' => W'.cell? ⟨q, 1, none⟩ = some (.pointer (some ⟨nb, 0, none⟩)) ∧ W'.cell? ⟨xb, 0, none⟩ = some (.int .i64 xd) ∧ W'.cell? ⟨xb, 1, none⟩ = some (.string (bs xn)))
                    (first
                      | with_reducible exact hKa
                      | with_reducible exact hKb)
                    (first
                      | (go_at_call 108; (with_reducible refine hd.mono ?_); rintro e w8 ⟨rfl, hn8, hM8⟩
                         have hKb : w8.cell? ⟨q, 1, none⟩ = some (.pointer (some ⟨nb, 0, none⟩)) ∧ w8.cell? ⟨xb, 0, none⟩ = some (.int .i64 xd) ∧ w8.cell? ⟨xb, 1, none⟩ = some (.string (bs xn)) := ⟨hM8.at hKa.1 HQS.out, hM8.at hKa.2.1 HXS.out, hM8.at hKa.2.2 HXS.out⟩
                         have x28 := hM8.at HXC.out HXS.out
                         have y08 := hM8.at HYC.out HYS.out
                         have y18 := hM8.at HYD.out HYS.out
                         have HR8 := Lib.hid (H2D.out.nam hn8 hM8)
                         clear hn8 hM8))
                  have hBd8 : Below w8.heap.size w8 w8.drew := by exact belC (Below.refl _ _)
                  have h28 := HR8.out.1.below hBd8
                  have had := rNAdd_ok w8.drew nb _ (pre ++ post) h28.hn HLE.out yd xi yn HNM.out.1 HNM.out.2.1 HNM.out.2.2.1 HNM.out.2.2.2.1 HNM.out.2.2.2.2 HGT.out HNS.out
                  have hKc : w8.drew.cell? ⟨q, 1, none⟩ = some (.pointer (some ⟨nb, 0, none⟩)) ∧ w8.drew.cell? ⟨yb, 0, none⟩ = some (.int .i64 yd) ∧ w8.drew.cell? ⟨yb, 1, none⟩ = some (.string (bs yn)) ∧ w8.drew.cell? ⟨xb, 2, none⟩ = some (.int .i64 xi) := ⟨h28.c1, y08, y18, x28⟩
                  have HQN := Lib.hid (show ¬ growS T2 w7.drew w8 q from fun hk => hk.elim HQS.out (fun h => by have := HLQ.out; omega))
                  have HXN := Lib.hid (show ¬ growS T2 w7.drew w8 xb from fun hk => hk.elim HXS.out (fun h => by have := HLX.out; omega))
                  have HYN := Lib.hid (show ¬ growS T2 w7.drew w8 yb from fun hk => hk.elim HYS.out (fun h => by have := HLY.out; omega))
                  have H28 := Lib.hid h28
                  have HB8 := Lib.hid hBd8
                  clear hKa hKb x28 y08 y18 h28 hBd8 hd
                  go_wp2_with fail
                  go_region_held3 (fun W' => W'.cell? ⟨q, 1, none⟩ = some (.pointer (some ⟨nb, 0, none⟩)) ∧ W'.cell? ⟨yb, 0, none⟩ = some (.int .i64 yd) ∧ W'.cell? ⟨yb, 1, none⟩ = some (.string (bs yn)) ∧ W'.cell? ⟨xb, 2, none⟩ = some (.int .i64 xi))
                    (first
                      | with_reducible exact hKc
                      | with_reducible exact hKe)
                    (first
                      | (go_at_call 106; (with_reducible refine had.mono ?_); rintro e w9 ⟨kk, hk9, rfl, hn9, hM9⟩
                         have hKe : w9.cell? ⟨q, 1, none⟩ = some (.pointer (some ⟨nb, 0, none⟩)) ∧ w9.cell? ⟨yb, 0, none⟩ = some (.int .i64 yd) ∧ w9.cell? ⟨yb, 1, none⟩ = some (.string (bs yn)) ∧ w9.cell? ⟨xb, 2, none⟩ = some (.int .i64 xi) := ⟨hM9.at hKc.1 HQN.out, hM9.at hKc.2.1 HYN.out, hM9.at hKc.2.2.1 HYN.out, hM9.at hKc.2.2.2 HXN.out⟩
                         have hR9 := H28.out.nam hn9 hM9
                         have hP9 : RTPost w8.drew q _ ⟨s.t, ((s.n.drop xd xn).2.add yd yn xi).2⟩ (.int .i64 0) (.returned (.int .i64 0)) w9 := ⟨rfl, hR9.1.to (HINS.out kk hk9), hR9.2⟩
                         have hP8 := hP9.after HR8.out.1.lt HB8.out
                         have hPd := rtp_step H2D.out.lt HR8.out.2 hP8
                         have hPe : RTPost w7.drew q _ ⟨s.t, ((s.n.drop xd xn).2.add yd yn xi).2⟩ (.int .i64 0) (.returned (.int .i64 0)) w9 := ⟨rfl, hPd⟩
                         have hPf := hPe.after HTC.out.lt HBD.out
                         have HFIN := Lib.hid (FIN9.out _ hPf)
                         clear hk9 hn9 hM9 hR9 hP9 hP8 hPd hPe hPf))
                  go_wp2_with fail
                  go_ret
                  exact ⟨rfl, HFIN.out⟩
                · have hr2 : rr = .err 67 := by rw [HRE.out, decide_eq_true hc, decide_eq_true (by simpa using hyx)]; rfl
                  have hyx' : (xd != yd) = true := by simpa using (fun e => hyx (Eq.symm e))
                  subst hr2
                  clear HRE hc hyx
                  go_wp2_with fail
                  go_region_held3 (fun W' => W'.cell? ⟨q, 1, none⟩ = some (.pointer (some ⟨nb, 0, none⟩)) ∧ W'.cell? ⟨yb, 0, none⟩ = some (.int .i64 yd) ∧ W'.cell? ⟨xb, 0, none⟩ = some (.int .i64 xd))
                    (first
                      | with_reducible exact hKg
                      | with_reducible exact hKh)
                    (first
                      | (go_at_call 101; (with_reducible refine hls.mono ?_); rintro e w7 ⟨a1, n1, k1, rfl, hn, hB7⟩
                         have hKh : w7.cell? ⟨q, 1, none⟩ = some (.pointer (some ⟨nb, 0, none⟩)) ∧ w7.cell? ⟨yb, 0, none⟩ = some (.int .i64 yd) ∧ w7.cell? ⟨xb, 0, none⟩ = some (.int .i64 xd) := ⟨below_at hB7 hKg.1 HQL.out, below_at hB7 hKg.2.1 HYL.out, below_at hB7 hKg.2.2 HXL.out⟩
                         have hn0 : decide ((64 : Int) ≤ (n1 : Int)) = true := decide_eq_true (by rw [hn]; exact HC.out)
                         have HBC := Lib.hid (HYX.out.drew.trans (hB7.mono HYX.out.drew.size))
                         clear hB7 hn))
                  go_wp2_with fail
                  go_ret
                  exact RTPost.keep H.out (by exact belC HBC.out) _
              · have HC := Lib.hid (show s.n.count yd < 64 by omega)
                have hr2 : rr = .ok (s.renS ⟨xd, xn, xi⟩ ⟨yd, yn, 0⟩) := by rw [HRE.out, decide_eq_false hc]; rfl
                rw [renS_no rfl] at hr2
                have HCN := Lib.hid (show s.n.count yd < 64 ∨ yd = xd from Or.inl HC.out)
                subst hr2
                clear HRE hc
                go_wp2_with fail
                refine wp_region_held_drew (S := fun W' => W'.cell? ⟨q, 1, none⟩ = some (.pointer (some ⟨nb, 0, none⟩)) ∧ W'.cell? ⟨yb, 0, none⟩ = some (.int .i64 yd) ∧ W'.cell? ⟨xb, 0, none⟩ = some (.int .i64 xd)) (by kernel_rfl) hKg (fun hHeld => ?_)
                refine takeL 0 ?_
                refine takeL 1 ?_
                refine takeL 2 ?_
                refine takeL 3 ?_
                refine takeL 4 ?_
                refine takeL 5 ?_
                refine wpAnyH_ready (rs := [6]) (by kernel_rfl) (by simp) ?_
                refine AllReadyH.cons (o := _) rfl (fun K hK => ?_) AllReadyH.nil
                go_simp
                go_at_call 101
                with_reducible refine hls.mono ?_
                rintro e w7 ⟨a1, n1, k1, rfl, hn, hB7⟩
                have hKh : w7.cell? ⟨q, 1, none⟩ = some (.pointer (some ⟨nb, 0, none⟩)) ∧ w7.cell? ⟨yb, 0, none⟩ = some (.int .i64 yd) ∧ w7.cell? ⟨xb, 0, none⟩ = some (.int .i64 xd) := ⟨below_at hB7 hKg.1 HQL.out, below_at hB7 hKg.2.1 HYL.out, below_at hB7 hKg.2.2 HXL.out⟩
                have hn0 : decide ((64 : Int) ≤ (n1 : Int)) = false := decide_eq_false (by rw [hn]; have := HC.out; omega)
                have x1C := below_at hB7 HXX1.out HXL.out
                have x2C := below_at hB7 HXX2.out HXL.out
                have y1C := below_at hB7 HYY1.out HYL.out
                have HBC := Lib.hid (HYX.out.drew.trans (hB7.mono HYX.out.drew.size))
                clear hB7 hn
                have HK := Lib.hid hK
                try go_wp2_with fail
                refine hK _ _ hKh (fun hHeld => ?_)
                clear hK
                try simp only [Act.put, List.setIfInBounds_toArray, List.set_cons_zero, List.set_cons_succ]
                refine takeL 7 ?_
                refine takeL 8 ?_
                refine takeL 9 ?_
                refine takeU 10 ?_
                refine takeU 11 ?_
                refine takeU 12 ?_
                refine takeU 13 ?_
                refine takeU 14 ?_
                refine takeL 15 ?_
                refine wpAnyH_done (by kernel_rfl) ?_ _
                clear hHeld
                have x0C := hKh.2.2
                have y0C := hKh.2.1
                clear hKg hKh
                have HTC := Lib.hid (H.out.below' HBC.out)
                have HMV := Lib.hid (fun L (hs : Srt s.n.m L) => mv_plain hg.good.ok.n hs HFX.out HFY.out HNM.out.1 ⟨HNM.out.2.1, HNM.out.2.2.1⟩ ⟨HNM.out.2.2.2.1, HNM.out.2.2.2.2⟩ HCN.out)
                have HLN := Lib.hid hg.nlen
                have FIN9 := Lib.hid (fun W' (h9 : RTreeAt W' q (growS R w7 W') ⟨s.t, ((s.n.drop xd xn).2.add yd yn xi).2⟩ ∧ Mod R w7 W') => (show RTPost w7 q R ⟨s.t, ((s.n.drop xd xn).2.add yd yn xi).2⟩ (.int .i64 0) (.returned (.int .i64 0)) W' from ⟨rfl, h9⟩).after hlt.out HBC.out)
                obtain ⟨ib, nb, T1, T2, L, h2, hs⟩ := RT2.of HTC.out
                have hLl : L.length ≤ 1000 := by rw [hs.perm.length_eq]; exact HLN.out
                obtain ⟨⟨pre, post, hL, hpre, hg2, hn64, hlen, hins⟩⟩ := HMV.out L hs
                subst hL
                have hBd : Below w7.heap.size w7 w7.drew := by exact belC (Below.refl _ _)
                have h2d := h2.below hBd
                have hd := rNDrop_ok w7.drew nb T2 pre post xd xi xn h2d.hn (by omega) hpre
                have HXS := Lib.hid (show ¬ T2 xb from fun hk => HXR.out (h2.s2 _ hk))
                have HYS := Lib.hid (show ¬ T2 yb from fun hk => HYR.out (h2.s2 _ hk))
                have HQS := Lib.hid (show ¬ T2 q from h2.b2)
                have HLQ := Lib.hid (show q < w7.drew.heap.size from cell_lt h2d.c1)
                have HLX := Lib.hid (show xb < w7.drew.heap.size from cell_lt x0C)
                have HLY := Lib.hid (show yb < w7.drew.heap.size from cell_lt y0C)
                have hKa : w7.drew.cell? ⟨q, 1, none⟩ = some (.pointer (some ⟨nb, 0, none⟩)) ∧ w7.drew.cell? ⟨xb, 0, none⟩ = some (.int .i64 xd) ∧ w7.drew.cell? ⟨xb, 1, none⟩ = some (.string (bs xn)) := ⟨h2d.c1, x0C, x1C⟩
                have HXC := Lib.hid (show w7.drew.cell? ⟨xb, 2, none⟩ = some (.int .i64 xi) from x2C)
                have HYC := Lib.hid (show w7.drew.cell? ⟨yb, 0, none⟩ = some (.int .i64 yd) from y0C)
                have HYD := Lib.hid (show w7.drew.cell? ⟨yb, 1, none⟩ = some (.string (bs yn)) from y1C)
                have H2D := Lib.hid h2d
                have HBD := Lib.hid hBd
                have HINS := Lib.hid hins
                have HGT := Lib.hid hg2
                have HNS := Lib.hid hn64
                have HLE := Lib.hid (show (pre ++ post).length ≤ 100000 by omega)
                clear h2 hs hLl hpre hg2 hn64 hlen hins hBd h2d x0C x1C x2C y0C y1C
                go_wp2_with fail
                go_region_held3 (fun W' => W'.cell? ⟨q, 1, none⟩ = some (.pointer (some ⟨nb, 0, none⟩)) ∧ W'.cell? ⟨xb, 0, none⟩ = some (.int .i64 xd) ∧ W'.cell? ⟨xb, 1, none⟩ = some (.string (bs xn)))
                  (first
                    | with_reducible exact hKa
                    | with_reducible exact hKb)
                  (first
                    | (go_at_call 108; (with_reducible refine hd.mono ?_); rintro e w8 ⟨rfl, hn8, hM8⟩
                       have hKb : w8.cell? ⟨q, 1, none⟩ = some (.pointer (some ⟨nb, 0, none⟩)) ∧ w8.cell? ⟨xb, 0, none⟩ = some (.int .i64 xd) ∧ w8.cell? ⟨xb, 1, none⟩ = some (.string (bs xn)) := ⟨hM8.at hKa.1 HQS.out, hM8.at hKa.2.1 HXS.out, hM8.at hKa.2.2 HXS.out⟩
                       have x28 := hM8.at HXC.out HXS.out
                       have y08 := hM8.at HYC.out HYS.out
                       have y18 := hM8.at HYD.out HYS.out
                       have HR8 := Lib.hid (H2D.out.nam hn8 hM8)
                       clear hn8 hM8))
                have hBd8 : Below w8.heap.size w8 w8.drew := by exact belC (Below.refl _ _)
                have h28 := HR8.out.1.below hBd8
                have had := rNAdd_ok w8.drew nb _ (pre ++ post) h28.hn HLE.out yd xi yn HNM.out.1 HNM.out.2.1 HNM.out.2.2.1 HNM.out.2.2.2.1 HNM.out.2.2.2.2 HGT.out HNS.out
                have hKc : w8.drew.cell? ⟨q, 1, none⟩ = some (.pointer (some ⟨nb, 0, none⟩)) ∧ w8.drew.cell? ⟨yb, 0, none⟩ = some (.int .i64 yd) ∧ w8.drew.cell? ⟨yb, 1, none⟩ = some (.string (bs yn)) ∧ w8.drew.cell? ⟨xb, 2, none⟩ = some (.int .i64 xi) := ⟨h28.c1, y08, y18, x28⟩
                have HQN := Lib.hid (show ¬ growS T2 w7.drew w8 q from fun hk => hk.elim HQS.out (fun h => by have := HLQ.out; omega))
                have HXN := Lib.hid (show ¬ growS T2 w7.drew w8 xb from fun hk => hk.elim HXS.out (fun h => by have := HLX.out; omega))
                have HYN := Lib.hid (show ¬ growS T2 w7.drew w8 yb from fun hk => hk.elim HYS.out (fun h => by have := HLY.out; omega))
                have H28 := Lib.hid h28
                have HB8 := Lib.hid hBd8
                clear hKa hKb x28 y08 y18 h28 hBd8 hd
                go_wp2_with fail
                go_region_held3 (fun W' => W'.cell? ⟨q, 1, none⟩ = some (.pointer (some ⟨nb, 0, none⟩)) ∧ W'.cell? ⟨yb, 0, none⟩ = some (.int .i64 yd) ∧ W'.cell? ⟨yb, 1, none⟩ = some (.string (bs yn)) ∧ W'.cell? ⟨xb, 2, none⟩ = some (.int .i64 xi))
                  (first
                    | with_reducible exact hKc
                    | with_reducible exact hKe)
                  (first
                    | (go_at_call 106; (with_reducible refine had.mono ?_); rintro e w9 ⟨kk, hk9, rfl, hn9, hM9⟩
                       have hKe : w9.cell? ⟨q, 1, none⟩ = some (.pointer (some ⟨nb, 0, none⟩)) ∧ w9.cell? ⟨yb, 0, none⟩ = some (.int .i64 yd) ∧ w9.cell? ⟨yb, 1, none⟩ = some (.string (bs yn)) ∧ w9.cell? ⟨xb, 2, none⟩ = some (.int .i64 xi) := ⟨hM9.at hKc.1 HQN.out, hM9.at hKc.2.1 HYN.out, hM9.at hKc.2.2.1 HYN.out, hM9.at hKc.2.2.2 HXN.out⟩
                       have hR9 := H28.out.nam hn9 hM9
                       have hP9 : RTPost w8.drew q _ ⟨s.t, ((s.n.drop xd xn).2.add yd yn xi).2⟩ (.int .i64 0) (.returned (.int .i64 0)) w9 := ⟨rfl, hR9.1.to (HINS.out kk hk9), hR9.2⟩
                       have hP8 := hP9.after HR8.out.1.lt HB8.out
                       have hPd := rtp_step H2D.out.lt HR8.out.2 hP8
                       have hPe : RTPost w7.drew q _ ⟨s.t, ((s.n.drop xd xn).2.add yd yn xi).2⟩ (.int .i64 0) (.returned (.int .i64 0)) w9 := ⟨rfl, hPd⟩
                       have hPf := hPe.after HTC.out.lt HBD.out
                       have HFIN := Lib.hid (FIN9.out _ hPf)
                       clear hk9 hn9 hM9 hR9 hP9 hP8 hPd hPe hPf))
                go_wp2_with fail
                go_ret
                exact ⟨rfl, HFIN.out⟩
            · have hy0' : (yi != 0) = true := by simpa using hy0
              have HRE := Lib.hid (show rr = (stopB 63 (decide (s.kind yi = 1))).bind fun _ => .ok (s.renS ⟨xd, xn, xi⟩ ⟨yd, yn, yi⟩) from by rw [HRD.out, if_neg hy0])
              clear HRD
              by_cases hk1 : s.kind yi = 1
              · have hr2 : rr = .err 63 := by rw [HRE.out, decide_eq_true hk1]; rfl
                subst hr2
                rw [hk1] at hky
                clear HRE hk1 hy0
                go_wp2_with fail
                rw [← HYW.out, ← HYB.out]
                clear z2 hxl3
                go_wp2_with fail
                refine (hkx _ (H.out.below' HYX.out)).mono ?_
                clear hkx
                rintro e w5 ⟨rfl, rfl⟩
                go_wp2_with fail
                go_region
                go_wp2_with fail
                refine (hky _ (H.out.below' HYX.out.drew)).mono ?_
                clear hky
                rintro e w6 ⟨rfl, rfl⟩
                go_wp2_with fail
                go_ret
                exact RTPost.keep H.out (by exact belC HYX.out) _
              · have hk1' : (s.kind yi == 1) = false := by simpa using hk1
                have hr2 : rr = .ok (s.renS ⟨xd, xn, xi⟩ ⟨yd, yn, yi⟩) := by rw [HRE.out, decide_eq_false hk1]; rfl
                rw [renS_yes hy0] at hr2
                have HFY := Lib.hid (show s.n.find yd yn = some yi from find_some HYI.out.symm hy0)
                subst hr2
                generalize s.kind yi = ky at *
                clear HRE hk1 hy0
                go_wp2_with fail
                rw [← HYW.out, ← HYB.out]
                clear z2 hxl3
                go_wp2_with fail
                refine (hkx _ (H.out.below' HYX.out)).mono ?_
                clear hkx
                rintro e w5 ⟨rfl, rfl⟩
                go_wp2_with fail
                go_region
                go_wp2_with fail
                refine (hky _ (H.out.below' HYX.out.drew)).mono ?_
                clear hky
                rintro e w6 ⟨rfl, rfl⟩
                have x0D : w5.drew.cell? ⟨xb, 0, none⟩ = some (.int .i64 xd) := x0
                have x1D : w5.drew.cell? ⟨xb, 1, none⟩ = some (.string (bs xn)) := x1
                have x2D : w5.drew.cell? ⟨xb, 2, none⟩ = some (.int .i64 xi) := x2
                have y0D : w5.drew.cell? ⟨yb, 0, none⟩ = some (.int .i64 yd) := y0
                have y1D : w5.drew.cell? ⟨yb, 1, none⟩ = some (.string (bs yn)) := y1
                have HBD := Lib.hid (HYX.out.drew)
                -- at world w5.drew the box y is read and its name goes
                have hgy := fun W hW => rtGone_any W q R s hW hg ⟨yd, yn, yi⟩ HFY.out
                unfold spV at hgy
                have HGL := Lib.hid (fun k (hk : R k) => Nat.lt_of_lt_of_le (hlt.out k hk) HBD.out.size)
                have HMD := Lib.hid (mv_drop hg.good (x := ⟨xd, xn, xi⟩) (y := ⟨yd, yn, yi⟩) HFX.out HFY.out HNE.out)
                go_wp2_with fail
                refine (hgy _ (H.out.below' HBD.out)).mono ?_
                clear hgy
                rintro e wc ⟨rfl, hTc, hMc⟩
                have hxg : xb < w5.drew.heap.size := cell_lt x0D
                have hyg : yb < w5.drew.heap.size := cell_lt y0D
                have HXG := Lib.hid (show ¬ R xb from fun hk => by have := hlt.out _ hk; have := HXW.out; omega)
                have HYG := Lib.hid (show ¬ R yb from fun hk => by have := hlt.out _ hk; have := HYV.out; omega)
                have x0C := hMc.at x0D HXG.out
                have x1C := hMc.at x1D HXG.out
                have x2C := hMc.at x2D HXG.out
                have y0C := hMc.at y0D HYG.out
                have y1C := hMc.at y1D HYG.out
                have HXR := Lib.hid (show ¬ growS R w5.drew wc xb from fun hk => hk.elim HXG.out (fun h => by omega))
                have HYR := Lib.hid (show ¬ growS R w5.drew wc yb from fun hk => hk.elim HYG.out (fun h => by omega))
                have HTC := Lib.hid hTc
                have HMV := Lib.hid (fun L (hs : Srt (s.drop ⟨yd, yn, yi⟩).n.m L) => mv_plain HMD.out.1 hs HMD.out.2.1 HMD.out.2.2.1 HNM.out.1 ⟨HNM.out.2.1, HNM.out.2.2.1⟩ ⟨HNM.out.2.2.2.1, HNM.out.2.2.2.2⟩ (Or.inl HMD.out.2.2.2.1))
                have HLN := Lib.hid (show (s.drop ⟨yd, yn, yi⟩).n.m.length ≤ 1000 from Nat.le_trans HMD.out.2.2.2.2 hg.nlen)
                have HMC := Lib.hid hMc
                have FIN9 := Lib.hid (fun W' (h9 : RTreeAt W' q (growS (growS R w5.drew wc) wc W') ⟨(s.drop ⟨yd, yn, yi⟩).t, (((s.drop ⟨yd, yn, yi⟩).n.drop xd xn).2.add yd yn xi).2⟩ ∧ Mod (growS R w5.drew wc) wc W') => (show RTPost w5.drew q R ⟨(s.drop ⟨yd, yn, yi⟩).t, (((s.drop ⟨yd, yn, yi⟩).n.drop xd xn).2.add yd yn xi).2⟩ (.int .i64 0) (.returned (.int .i64 0)) W' from ⟨rfl, rtp_step HGL.out HMC.out h9⟩).after hlt.out HBD.out)
                clear hTc hMc hxg hyg x0D x1D x2D y0D y1D
                obtain ⟨ib, nb, T1, T2, L, h2, hs⟩ := RT2.of HTC.out
                have hLl : L.length ≤ 1000 := by rw [hs.perm.length_eq]; exact HLN.out
                obtain ⟨⟨pre, post, hL, hpre, hg2, hn64, hlen, hins⟩⟩ := HMV.out L hs
                subst hL
                have hBd : Below wc.heap.size wc wc.drew := by exact belC (Below.refl _ _)
                have h2d := h2.below hBd
                have hd := rNDrop_ok wc.drew nb T2 pre post xd xi xn h2d.hn (by omega) hpre
                have HXS := Lib.hid (show ¬ T2 xb from fun hk => HXR.out (h2.s2 _ hk))
                have HYS := Lib.hid (show ¬ T2 yb from fun hk => HYR.out (h2.s2 _ hk))
                have HQS := Lib.hid (show ¬ T2 q from h2.b2)
                have HLQ := Lib.hid (show q < wc.drew.heap.size from cell_lt h2d.c1)
                have HLX := Lib.hid (show xb < wc.drew.heap.size from cell_lt x0C)
                have HLY := Lib.hid (show yb < wc.drew.heap.size from cell_lt y0C)
                have hKa : wc.drew.cell? ⟨q, 1, none⟩ = some (.pointer (some ⟨nb, 0, none⟩)) ∧ wc.drew.cell? ⟨xb, 0, none⟩ = some (.int .i64 xd) ∧ wc.drew.cell? ⟨xb, 1, none⟩ = some (.string (bs xn)) := ⟨h2d.c1, x0C, x1C⟩
                have HXC := Lib.hid (show wc.drew.cell? ⟨xb, 2, none⟩ = some (.int .i64 xi) from x2C)
                have HYC := Lib.hid (show wc.drew.cell? ⟨yb, 0, none⟩ = some (.int .i64 yd) from y0C)
                have HYD := Lib.hid (show wc.drew.cell? ⟨yb, 1, none⟩ = some (.string (bs yn)) from y1C)
                have H2D := Lib.hid h2d
                have HBD := Lib.hid hBd
                have HINS := Lib.hid hins
                have HGT := Lib.hid hg2
                have HNS := Lib.hid hn64
                have HLE := Lib.hid (show (pre ++ post).length ≤ 100000 by omega)
                clear h2 hs hLl hpre hg2 hn64 hlen hins hBd h2d x0C x1C x2C y0C y1C
                go_wp2_with fail
                go_region_held3 (fun W' => W'.cell? ⟨q, 1, none⟩ = some (.pointer (some ⟨nb, 0, none⟩)) ∧ W'.cell? ⟨xb, 0, none⟩ = some (.int .i64 xd) ∧ W'.cell? ⟨xb, 1, none⟩ = some (.string (bs xn)))
                  (first
                    | with_reducible exact hKa
                    | with_reducible exact hKb)
                  (first
                    | (go_at_call 108; (with_reducible refine hd.mono ?_); rintro e w8 ⟨rfl, hn8, hM8⟩
                       have hKb : w8.cell? ⟨q, 1, none⟩ = some (.pointer (some ⟨nb, 0, none⟩)) ∧ w8.cell? ⟨xb, 0, none⟩ = some (.int .i64 xd) ∧ w8.cell? ⟨xb, 1, none⟩ = some (.string (bs xn)) := ⟨hM8.at hKa.1 HQS.out, hM8.at hKa.2.1 HXS.out, hM8.at hKa.2.2 HXS.out⟩
                       have x28 := hM8.at HXC.out HXS.out
                       have y08 := hM8.at HYC.out HYS.out
                       have y18 := hM8.at HYD.out HYS.out
                       have HR8 := Lib.hid (H2D.out.nam hn8 hM8)
                       clear hn8 hM8))
                have hBd8 : Below w8.heap.size w8 w8.drew := by exact belC (Below.refl _ _)
                have h28 := HR8.out.1.below hBd8
                have had := rNAdd_ok w8.drew nb _ (pre ++ post) h28.hn HLE.out yd xi yn HNM.out.1 HNM.out.2.1 HNM.out.2.2.1 HNM.out.2.2.2.1 HNM.out.2.2.2.2 HGT.out HNS.out
                have hKc : w8.drew.cell? ⟨q, 1, none⟩ = some (.pointer (some ⟨nb, 0, none⟩)) ∧ w8.drew.cell? ⟨yb, 0, none⟩ = some (.int .i64 yd) ∧ w8.drew.cell? ⟨yb, 1, none⟩ = some (.string (bs yn)) ∧ w8.drew.cell? ⟨xb, 2, none⟩ = some (.int .i64 xi) := ⟨h28.c1, y08, y18, x28⟩
                have HQN := Lib.hid (show ¬ growS T2 wc.drew w8 q from fun hk => hk.elim HQS.out (fun h => by have := HLQ.out; omega))
                have HXN := Lib.hid (show ¬ growS T2 wc.drew w8 xb from fun hk => hk.elim HXS.out (fun h => by have := HLX.out; omega))
                have HYN := Lib.hid (show ¬ growS T2 wc.drew w8 yb from fun hk => hk.elim HYS.out (fun h => by have := HLY.out; omega))
                have H28 := Lib.hid h28
                have HB8 := Lib.hid hBd8
                clear hKa hKb x28 y08 y18 h28 hBd8 hd
                go_wp2_with fail
                go_region_held3 (fun W' => W'.cell? ⟨q, 1, none⟩ = some (.pointer (some ⟨nb, 0, none⟩)) ∧ W'.cell? ⟨yb, 0, none⟩ = some (.int .i64 yd) ∧ W'.cell? ⟨yb, 1, none⟩ = some (.string (bs yn)) ∧ W'.cell? ⟨xb, 2, none⟩ = some (.int .i64 xi))
                  (first
                    | with_reducible exact hKc
                    | with_reducible exact hKe)
                  (first
                    | (go_at_call 106; (with_reducible refine had.mono ?_); rintro e w9 ⟨kk, hk9, rfl, hn9, hM9⟩
                       have hKe : w9.cell? ⟨q, 1, none⟩ = some (.pointer (some ⟨nb, 0, none⟩)) ∧ w9.cell? ⟨yb, 0, none⟩ = some (.int .i64 yd) ∧ w9.cell? ⟨yb, 1, none⟩ = some (.string (bs yn)) ∧ w9.cell? ⟨xb, 2, none⟩ = some (.int .i64 xi) := ⟨hM9.at hKc.1 HQN.out, hM9.at hKc.2.1 HYN.out, hM9.at hKc.2.2.1 HYN.out, hM9.at hKc.2.2.2 HXN.out⟩
                       have hR9 := H28.out.nam hn9 hM9
                       have hP9 : RTPost w8.drew q _ ⟨(s.drop ⟨yd, yn, yi⟩).t, (((s.drop ⟨yd, yn, yi⟩).n.drop xd xn).2.add yd yn xi).2⟩ (.int .i64 0) (.returned (.int .i64 0)) w9 := ⟨rfl, hR9.1.to (HINS.out kk hk9), hR9.2⟩
                       have hP8 := hP9.after HR8.out.1.lt HB8.out
                       have hPd := rtp_step H2D.out.lt HR8.out.2 hP8
                       have hPe : RTPost wc.drew q _ ⟨(s.drop ⟨yd, yn, yi⟩).t, (((s.drop ⟨yd, yn, yi⟩).n.drop xd xn).2.add yd yn xi).2⟩ (.int .i64 0) (.returned (.int .i64 0)) w9 := ⟨rfl, hPd⟩
                       have hPf := hPe.after HTC.out.lt HBD.out
                       have HFIN := Lib.hid (FIN9.out _ hPf)
                       clear hk9 hn9 hM9 hR9 hP9 hP8 hPd hPe hPf))
                go_wp2_with fail
                go_ret
                exact ⟨rfl, HFIN.out⟩
end Go.Proofs.YtakbalmbkokklaaGreat
