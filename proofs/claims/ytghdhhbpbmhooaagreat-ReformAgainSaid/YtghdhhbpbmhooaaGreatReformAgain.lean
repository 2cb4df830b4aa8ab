/-
  The law ReformAgain: a change that is begun anew, behind one that was given up on its way, or by another one of the same epoch that came first, ends, or tells that it may not come next.
  Conditions: none.
-/
import Derived.Test.YtghdhhbpbmhooaaGreatAgOk
import Derived.Test.YtghdhhbpbmhooaaGreatCopyK
import Derived.Test.YtghdhhbpbmhooaaGreatKeepAns
import Derived.Test.YtghdhhbpbmhooaaGreatRefNext
import Derived.Test.YtghdhhbpbmhooaaGreatRow
namespace Go.Proofs.YtghdhhbpbmhooaaGreat
open Go.RowKit Esch Go.ChangeShapes Go.WideShapes Go.ChangeAt

theorem ra_boxes (w : World) (x0 x1 y0 y1 : Value) : ∃ W, W = (w.alloc (.cells #[x0, x1] 24)).alloc (.cells #[y0, y1] 24) ∧ Below w.heap.size w W ∧ W.heap.size = w.heap.size + 2 ∧
    W.cell? ⟨w.heap.size, 0, none⟩ = some x0 ∧ W.cell? ⟨w.heap.size, 1, none⟩ = some x1 ∧ W.cell? ⟨w.heap.size + 1, 0, none⟩ = some y0 ∧ W.cell? ⟨w.heap.size + 1, 1, none⟩ = some y1 :=
  ⟨_, rfl, by exact belC (Below.refl _ _), by simp, by go_simp, by go_simp, by go_simp, by go_simp⟩
def RaRel (w0 : World) (hb rb tb : Nat) (q : Proj) (N g : Nat) (s11 : Value) (wr : World) : Prop :=
  ∃ (i : Nat) (V' S' : Nat → Prop), g = N - i ∧ i ≤ N ∧ s11 = .int .i64 i ∧ Ch1 w0 i hb rb tb V' S' (stA hdO q i) wr ∧ (∀ k, S' k → w0.heap.size ≤ k)
set_option maxRecDepth 100000 in
set_option maxHeartbeats 8000000 in
theorem reformAgain_walk (S S' : Nat → Prop) (be : Int) (hbe0 : 0 ≤ be) (hbe1 : be ≤ 255) (q r : Proj) (qa ra : Option Addr) (qc rc : Nat) (w : World) (hq : ListsAt S w qa q.chains) (hr : ListsAt S' w ra r.chains) :
    Calls Tryz.prog 4 #[.int .u8 be, .agg #[.int .i64 q.epoch, .slice qa q.chains.length qc], .agg #[.int .i64 r.epoch, .slice ra r.chains.length rc]] w fun r w' => r = .returned (.bool true) ∧ Below w.heap.size w w' := by
  obtain ⟨W0, hW0, hB0, hz0, p0, p1, r0, r1⟩ := ra_boxes w (.int .i64 q.epoch) (.slice qa q.chains.length qc) (.int .i64 r.epoch) (.slice ra r.chains.length rc)
  have HQ : Hid (∀ W, Below W0.heap.size W0 W → ListsAt (fun _ => True) W qa q.chains) := Lib.hid fun W hB => ((hq.mod (F := none') (Mod.of_below hB0) (fun _ _ _ => id)).mod (F := none') (Mod.of_below hB) (fun _ _ _ => id)).sub (fun _ _ _ => trivial)
  have HR : Hid (∀ W, Below W0.heap.size W0 W → ListsAt (fun _ => True) W ra r.chains) := Lib.hid fun W hB => ((hr.mod (F := none') (Mod.of_below hB0) (fun _ _ _ => id)).mod (F := none') (Mod.of_below hB) (fun _ _ _ => id)).sub (fun _ _ _ => trivial)
  have HW0 := Lib.hid hW0
  have HBW0 := Lib.hid hB0
  have l0 : w.heap.size < W0.heap.size := by omega
  have l1 : w.heap.size + 1 < W0.heap.size := by omega
  obtain ⟨lq, hlq⟩ : ∃ lq, lq = largeProj q.chains := ⟨_, rfl⟩
  obtain ⟨lr, hlr⟩ : ∃ lr, lr = largeProj r.chains := ⟨_, rfl⟩
  obtain ⟨nq, hnq⟩ : ∃ nq, nq = nextB qOld q := ⟨_, rfl⟩
  obtain ⟨nr, hnr⟩ : ∃ nr, nr = nextB qOld r := ⟨_, rfl⟩
  have Hsq : Hid (lq = false → Small q.chains) := Lib.hid (by rw [hlq]; exact small_ofA)
  have Hsr : Hid (lr = false → Small r.chains) := Lib.hid (by rw [hlr]; exact small_ofA)
  have HLq : Hid (∀ W, Below W0.heap.size W0 W → Calls Tryz.prog 8 #[.agg #[.int .i64 q.epoch, .slice qa q.chains.length qc]] W fun r w' => r = .returned (.bool lq) ∧ Below W.heap.size W w') := Lib.hid fun W hB => by rw [hlq]; exact largeProj_any _ W q.epoch qa qc q.chains (HQ.out W hB)
  have HLr : Hid (∀ W, Below W0.heap.size W0 W → Calls Tryz.prog 8 #[.agg #[.int .i64 r.epoch, .slice ra r.chains.length rc]] W fun r w' => r = .returned (.bool lr) ∧ Below W.heap.size W w') := Lib.hid fun W hB => by rw [hlr]; exact largeProj_any _ W r.epoch ra rc r.chains (HR.out W hB)
  have HNq : Hid (∀ W, Below W0.heap.size W0 W → ∀ T b, ListsAt T W (some ⟨b, 0, none⟩) qOld.chains → Calls Tryz.prog 23 #[.agg #[.int .i64 0, .slice (some ⟨b, 0, none⟩) 2 2], .agg #[.int .i64 q.epoch, .slice qa q.chains.length qc]] W (BoolBelow W nq)) := Lib.hid fun W hB T b hl => by rw [hnq]; exact rnext_any _ W 0 q.epoch _ _ 2 qc qOld.chains q.chains (hl.sub (fun _ _ _ => trivial)) (HQ.out W hB)
  have HNr : Hid (∀ W, Below W0.heap.size W0 W → ∀ T b, ListsAt T W (some ⟨b, 0, none⟩) qOld.chains → Calls Tryz.prog 23 #[.agg #[.int .i64 0, .slice (some ⟨b, 0, none⟩) 2 2], .agg #[.int .i64 r.epoch, .slice ra r.chains.length rc]] W (BoolBelow W nr)) := Lib.hid fun W hB T b hl => by rw [hnr]; exact rnext_any _ W 0 r.epoch _ _ 2 rc qOld.chains r.chains (hl.sub (fun _ _ _ => trivial)) (HR.out W hB)
  have Hnq := Lib.hid hnq
  have Hnr := Lib.hid hnr
  have Hbe0 := Lib.hid hbe0
  have Hbe1 := Lib.hid hbe1
  have d0 : W0.drew.cell? ⟨w.heap.size, 0, none⟩ = some (.int .i64 q.epoch) := p0
  have d1 : W0.drew.cell? ⟨w.heap.size, 1, none⟩ = some (.slice qa q.chains.length qc) := p1
  have d2 : W0.drew.cell? ⟨w.heap.size + 1, 0, none⟩ = some (.int .i64 r.epoch) := r0
  have d3 : W0.drew.cell? ⟨w.heap.size + 1, 1, none⟩ = some (.slice ra r.chains.length rc) := r1
  clear hW0 hq hr hlq hlr hnq hnr hB0 hz0 hbe0 hbe1
  go_enter Tryz.func4, Tryz.ntmps4
  go_wp2_with fail
  rw [← HW0.out]
  refine wp_region_held_drew (S := fun w' => w'.cell? ⟨w.heap.size, 0, none⟩ = some (.int .i64 q.epoch) ∧ w'.cell? ⟨w.heap.size, 1, none⟩ = some (.slice qa q.chains.length qc) ∧ w'.cell? ⟨w.heap.size + 1, 0, none⟩ = some (.int .i64 r.epoch) ∧ w'.cell? ⟨w.heap.size + 1, 1, none⟩ = some (.slice ra r.chains.length rc)) (by kernel_rfl) ⟨d0, d1, d2, d3⟩ (fun hHeld => ?_)
  refine takeL 0 ?_
  refine wpAnyH_ready (rs := [1]) (by kernel_rfl) (by simp) ?_
  refine AllReadyH.cons (o := _) rfl (fun K hK => ?_) AllReadyH.nil
  go_simp
  go_at_call 8
  with_reducible refine (HLq.out _ (below_drew (Below.refl _ _))).mono ?_
  rintro e w2 ⟨rfl, hB2'⟩
  have hBN : Below W0.heap.size W0 w2 := below_drew hB2'
  clear hB2' d0 d1 d2 d3
  have x0 := below_at hBN p0 l0
  have x1 := below_at hBN p1 l0
  have y0 := below_at hBN r0 l1
  have y1 := below_at hBN r1 l1
  have HB2 := Lib.hid hBN
  clear hBN
  try go_wp2_with fail
  refine hK.out _ _ ⟨x0, x1, y0, y1⟩ (fun hHeld => ?_)
  clear hK K
  try simp only [Act.put, List.setIfInBounds_toArray, List.set_cons_zero, List.set_cons_succ]
  cases lq
  · have Hsmq : Hid (Small q.chains) := Lib.hid (Hsq.out rfl)
    clear Hsq
    refine takeL 2 ?_
    refine takeL 3 ?_
    refine wpAnyH_ready (rs := [4]) (by kernel_rfl) (by simp) ?_
    refine AllReadyH.cons (o := _) rfl (fun K hK => ?_) AllReadyH.nil
    go_simp
    go_at_call 8
    with_reducible refine (HLr.out _ HB2.out).mono ?_
    rintro e w3 ⟨rfl, hB3⟩
    have hBN : Below W0.heap.size W0 w3 := HB2.out.trans (hB3.mono HB2.out.size)
    clear x0 x1 y0 y1 hB3
    have x0 := below_at hBN p0 l0
    have x1 := below_at hBN p1 l0
    have y0 := below_at hBN r0 l1
    have y1 := below_at hBN r1 l1
    have HB3 := Lib.hid hBN
    clear hBN HB2
    try go_wp2_with fail
    refine hK.out _ _ ⟨x0, x1, y0, y1⟩ (fun hHeld => ?_)
    clear hK K
    try simp only [Act.put, List.setIfInBounds_toArray, List.set_cons_zero, List.set_cons_succ]
    refine takeL 5 ?_
    refine takeL 6 ?_
    cases lr
    · have Hsmr : Hid (Small r.chains) := Lib.hid (Hsr.out rfl)
      clear Hsr
      refine takeL 8 ?_
      refine wpAnyH_ready (rs := [7]) (by kernel_rfl) (by simp) ?_
      refine AllReadyH.cons (o := _) rfl (fun K hK => ?_) AllReadyH.nil
      go_simp
      go_at_call 24
      with_reducible refine (old18_any _).mono ?_
      rintro e w4 ⟨bo, rfl, hlo, hB4⟩
      have hBN : Below W0.heap.size W0 w4 := HB3.out.trans (hB4.mono HB3.out.size)
      clear x0 x1 y0 y1 hB4
      have x0 := below_at hBN p0 l0
      have x1 := below_at hBN p1 l0
      have y0 := below_at hBN r0 l1
      have y1 := below_at hBN r1 l1
      have HB4 := Lib.hid hBN
      have HLO := Lib.hid hlo
      clear hBN HB3 hlo
      try go_wp2_with fail
      refine hK.out _ _ ⟨x0, x1, y0, y1⟩ (fun hHeld => ?_)
      clear hK K
      try simp only [Act.put, List.setIfInBounds_toArray, List.set_cons_zero, List.set_cons_succ]
      refine wpAnyH_ready (rs := [9]) (by kernel_rfl) (by simp) ?_
      refine AllReadyH.cons (o := _) rfl (fun K hK => ?_) AllReadyH.nil
      go_simp
      go_at_call 23
      with_reducible refine (HNq.out _ HB4.out _ _ HLO.out).mono ?_
      rintro e w5 ⟨rfl, hB5⟩
      have hBN : Below W0.heap.size W0 w5 := HB4.out.trans (hB5.mono HB4.out.size)
      clear x0 x1 y0 y1 hB5
      have x0 := below_at hBN p0 l0
      have x1 := below_at hBN p1 l0
      have y0 := below_at hBN r0 l1
      have y1 := below_at hBN r1 l1
      have HB5 := Lib.hid hBN
      clear hBN HB4 HLO
      try go_wp2_with fail
      refine hK.out _ _ ⟨x0, x1, y0, y1⟩ (fun hHeld => ?_)
      clear hK K
      try simp only [Act.put, List.setIfInBounds_toArray, List.set_cons_zero, List.set_cons_succ]
      refine takeL 10 ?_
      refine takeL 11 ?_
      refine takeL 12 ?_
      cases nq
      · skip
        refine takeU 13 ?_
        refine takeU 14 ?_
        refine takeU 15 ?_
        refine takeU 16 ?_
        refine takeL 17 ?_
        refine wpAnyH_done (by kernel_rfl) ?_ _
        go_wp2_with fail
        refine (wakes18_any _).mono ?_
        rintro e wz ⟨rfl, hBz⟩
        go_wp2_with fail
        go_ret
        exact ⟨rfl, HBW0.out.trans ((HB5.out.trans (hBz.mono HB5.out.size)).mono HBW0.out.size)⟩
      · skip
        refine takeL 14 ?_
        refine wpAnyH_ready (rs := [13]) (by kernel_rfl) (by simp) ?_
        refine AllReadyH.cons (o := _) rfl (fun K hK => ?_) AllReadyH.nil
        go_simp
        go_at_call 24
        with_reducible refine (old18_any _).mono ?_
        rintro e w6 ⟨bo2, rfl, hlo, hB6⟩
        have hBN : Below W0.heap.size W0 w6 := HB5.out.trans (hB6.mono HB5.out.size)
        clear x0 x1 y0 y1 hB6
        have x0 := below_at hBN p0 l0
        have x1 := below_at hBN p1 l0
        have y0 := below_at hBN r0 l1
        have y1 := below_at hBN r1 l1
        have HB6 := Lib.hid hBN
        have HLO := Lib.hid hlo
        clear hBN HB5 hlo
        try go_wp2_with fail
        refine hK.out _ _ ⟨x0, x1, y0, y1⟩ (fun hHeld => ?_)
        clear hK K
        try simp only [Act.put, List.setIfInBounds_toArray, List.set_cons_zero, List.set_cons_succ]
        refine wpAnyH_ready (rs := [15]) (by kernel_rfl) (by simp) ?_
        refine AllReadyH.cons (o := _) rfl (fun K hK => ?_) AllReadyH.nil
        go_simp
        go_at_call 23
        with_reducible refine (HNr.out _ HB6.out _ _ HLO.out).mono ?_
        rintro e w7 ⟨rfl, hB7⟩
        have hBN : Below W0.heap.size W0 w7 := HB6.out.trans (hB7.mono HB6.out.size)
        clear x0 x1 y0 y1 hB7
        have x0 := below_at hBN p0 l0
        have x1 := below_at hBN p1 l0
        have y0 := below_at hBN r0 l1
        have y1 := below_at hBN r1 l1
        have HB7 := Lib.hid hBN
        clear hBN HB6 HLO
        try go_wp2_with fail
        refine hK.out _ _ ⟨x0, x1, y0, y1⟩ (fun hHeld => ?_)
        clear hK K
        try simp only [Act.put, List.setIfInBounds_toArray, List.set_cons_zero, List.set_cons_succ]
        refine takeL 16 ?_
        refine takeL 17 ?_
        refine wpAnyH_done (by kernel_rfl) ?_ _
        cases nr
        · skip
          go_wp2_with fail
          refine (wakes18_any _).mono ?_
          rintro e wz ⟨rfl, hBz⟩
          go_wp2_with fail
          go_ret
          exact ⟨rfl, HBW0.out.trans ((HB7.out.trans (hBz.mono HB7.out.size)).mono HBW0.out.size)⟩
        · skip
          clear hHeld x0 x1 y0 y1
          go_wp2_with fail
          refine (old18_any _).mono ?_
          rintro e w8 ⟨b8, rfl, hl8, hB8⟩
          have hB08 := HB7.out.trans (hB8.mono HB7.out.size)
          go_wp2_with fail
          have hmk : Calls Tryz.prog 25 #[.agg #[.int .i64 0, .slice (some ⟨b8, 0, none⟩) 2 2], .int .i64 100] _ _ := made_any _ w8 qOld _ 2 100 (by decide) hl8 (by decide) (by decide)
          refine hmk.mono ?_
          clear hmk hl8
          rintro e w9 ⟨hb, hrb, nb, rfl, hH9, -, hB9⟩
          have hD : Hd1 W0 0 hb _ hdO w9 := Hd1.start hH9 hB08 hB9
          obtain ⟨V, hV⟩ : ∃ V, V = grow none' w8 w9 := ⟨_, rfl⟩
          rw [← hV] at hD
          have HD := Lib.hid hD
          clear hD hV hH9 hB08 hB9 hB8 HB7
          have hBN := HD.out.below
          have x0 := below_at hBN p0 l0
          have x1 := below_at hBN p1 l0
          have y0 := below_at hBN r0 l1
          have y1 := below_at hBN r1 l1
          have hnw := reNew_any _ w9 q qa qc Hsmq.out (HQ.out w9 hBN)
          clear hBN
          go_wp2_with fail
          refine hnw.mono ?_
          clear hnw
          rintro e w10 ⟨xb, tb, rfl, hR10, hB10⟩
          have HC := Lib.hid (show Ch1 W0 0 hb xb tb V (fun k => w9.heap.size ≤ k ∧ k < w10.heap.size) (hdO, re0 q) w10 from ⟨HD.out.below' hB10, hR10.sub (fun k hk h => ⟨h, hk⟩), re0_ok q, fun k hk => hk.2, fun k hk e => by have := HD.out.lt k hk; omega⟩)
          have hz9 := HD.out.below.size
          clear hR10 hB10 x0 x1 y0 y1 HD
          have hbe0 := Hbe0.out
          have hbe1 := Hbe1.out
          obtain ⟨N, hN, hN11⟩ : ∃ N : Nat, be % 12 = N ∧ N ≤ 11 := ⟨(be % 12).toNat, by omega, by omega⟩
          have HNN := Lib.hid hN
          clear hN
          go_wp2_with fail
          go_loopg [11] N (fun g s11 wr => RaRel W0 hb xb tb q N g s11 wr)
          case atStart => exact ⟨0, _, _, by omega, Nat.zero_le _, rfl, HC.out, fun k hk => by omega⟩
          case round =>
            clear HC
            obtain ⟨i, V', S3, rfl, hi, rfl, hA, hS⟩ := hrel
            have HS := Lib.hid hS
            clear hS
            have i0 : (0 : Int) ≤ i := by omega
            by_cases hiN : i < N
            · have i1 : (i : Int) < be % 12 := by have := HNN.out; omega
              by_cases h4 : (stA hdO q i).2.at = 4
              · have hask := reAsk_any hA.re hA.ok
                rw [show (stA hdO q i).2.ask = (qz, false) from if_pos h4] at hask
                have Hst := Lib.hid (show stA hdO q (i + 1) = stA hdO q i by show agTurn _ = _; unfold agTurn; rw [if_pos h4])
                have HA := Lib.hid hA
                clear h4 hA
                go_wp2_with fail
                refine hask.mono ?_
                clear hask
                rintro e W1 ⟨xa, xcc, rfl, hl1, hB1⟩
                simp only [qV, Esch.p0, List.length_nil]
                go_wp2_with fail
                obtain ⟨W2, hW2, hB2, hz2, -⟩ := ask_box W1 (.int .i64 0) (.int .i64 0) (.int .i64 0) (.int .i64 0) (.int .i64 0) (.int .i64 0) (.string ⟨#[]⟩) (.int .i64 0) (.slice xa 0 xcc)
                rw [← hW2]
                have HA2 := Lib.hid ((HA.out.below' hB1).below' hB2)
                clear hW2 hB2 hB1 hl1
                go_roundg (N - (i + 1))
                case measure => omega
                case rel => exact ⟨i + 1, V', S3, rfl, by omega, by go_num, (HA2.out.more (by omega)).cast Hst.out, HS.out⟩
              · have H5 := Lib.hid h4
                clear h4
                have HA := Lib.hid hA
                obtain ⟨⟨⟨qk, qu, qe, qp, qs, qn, qd, ⟨qpe, qls⟩⟩, qb⟩, hr⟩ : ∃ r, r = (stA hdO q i).2.ask := ⟨_, rfl⟩
                have hask := reAsk_any hA.re hA.ok
                have hqb := (stA hdO q i).2.ask_2
                have hqd := (stA hdO q i).2.ask_data
                have hqs := ReS.ask_small (s := (stA hdO q i).2) hA.re.smq
                rw [← hr] at hask hqb hqd hqs
                simp only [decide_eq_false H5.out, Bool.not_false] at hqb hqd hqs
                subst hqb hqd
                have Hqs := Lib.hid hqs
                have Hr := Lib.hid hr
                clear hr hqs hA
                go_wp2_with fail
                refine hask.mono ?_
                clear hask
                rintro e W1 ⟨xa, xcc, rfl, hl1, hB1⟩
                have hA1 := HA.out.below' hB1
                have HB1 := Lib.hid hB1
                simp only [qV]
                clear hB1
                go_wp2_with fail
                obtain ⟨W2, hW2, hB2, hz2, b0, b1, b2, b3, b4, b5, b6, b7, b8⟩ := ask_box W1 (.int .i64 qk) (.int .i64 qu) (.int .i64 qe) (.int .i64 qp) (.int .i64 qs) (.int .i64 qn) (.string ⟨#[]⟩) (.int .i64 qpe) (.slice xa qls.length xcc)
                rw [← hW2]
                have hA2 := hA1.below' hB2
                have hl2 := hl1.mod (F := none') (Mod.of_below hB2) (fun _ _ _ => id)
                have hc := hdP_hand hA2.hd (by omega) ⟨qk, qu, qe, qp, qs, qn, ⟨#[]⟩, ⟨qpe, qls⟩⟩ xa xcc Hqs.out _ hl2 (fun k hk _ e => by have hk : wr.heap.size ≤ k := hk; have := HA.out.hd.lt k e; omega) (by decide : (ByteArray.mk #[]).size ≤ 9223372036854775807) 0
                obtain ⟨⟨⟨⟨ac, an, ad, ⟨ape, als⟩, am, as', ae⟩, ab⟩, hd'⟩, hxr⟩ : ∃ r, r = (stA hdO q i).1.ask ⟨qk, qu, qe, qp, qs, qn, ⟨#[]⟩, ⟨qpe, qls⟩⟩ 0 := ⟨_, rfl⟩
                rw [← hxr] at hc
                simp only [qV] at hc
                have Hxr := Lib.hid hxr
                have HA2 := Lib.hid hA2
                clear hW2 hz2 hB2 hA1 hA2 hl1 hl2 hxr
                go_wp2_with fail
                refine hc.mono ?_
                clear hc b0 b1 b2 b3 b4 b5 b6 b7 b8
                rintro e W3 ⟨ya, ycc, rfl, hl3, hD3, hM3⟩
                have hA3 := HA2.out.hand hD3 hM3
                have hh := reHear_any ⟨ac, an, ad, ⟨ape, als⟩, am, as', ae⟩ ya ycc ab hA3.re hA3.ok _ hl3
                simp only [aV] at hh
                have HA3 := Lib.hid hA3
                clear hl3 hD3 hM3 hA3
                simp only [aV]
                have Hst := Lib.hid (show stA hdO q (i + 1) = (hd', (stA hdO q i).2.hear ⟨ac, an, ad, ⟨ape, als⟩, am, as', ae⟩ ab) by
                  show agTurn _ = _
                  unfold agTurn
                  rw [if_neg H5.out, ← Hr.out, ← Hxr.out])
                go_wp2_with fail
                refine hh.mono ?_
                clear hh
                rintro e W4 ⟨rfl, hR4, hM4⟩
                have HA4 := Lib.hid (HA3.out.chg hR4 (ReS.hear_ok HA3.out.ok _ _) hM4 (fun k hk => HS.out k hk))
                have HS4 := Lib.hid (show ∀ k, (S3 k ∨ (W3.heap.size ≤ k ∧ k < W4.heap.size)) → W0.heap.size ≤ k from fun k hk => by
                  have := HA3.out.hd.below.size
                  rcases hk with hk | hk
                  · exact HS.out k hk
                  · omega)
                clear hR4 hM4
                go_wp2_with fail
                go_roundg (N - (i + 1))
                case measure => omega
                case rel => exact ⟨i + 1, _, _, rfl, by omega, by go_num, (HA4.out.more (by omega)).cast Hst.out, HS4.out⟩
            · obtain rfl : i = N := by omega
              have i1 : be % 12 ≤ (i : Int) := by have := HNN.out; omega
              have hD := hA.hd
              obtain ⟨⟨nb', lb, hn, hla, hno⟩, -⟩ := hD.lay
              have hn := hn wr (Mod.refl _ _)
              have hla := hla wr (Mod.refl _ _)
              have hno := hno wr (Mod.refl _ _)
              unfold CopyPost at hno
              have HDi := Lib.hid hD
              clear hA hD hiN
              rcases again_out Hnq.out.symm Hnr.out.symm i with ⟨g1, g2, g3, g4⟩ | ⟨g1, g2, g3, g4⟩
              · rw [g1] at hno
                go_wp2_with fail
                refine hn.mono ?_
                rintro e _ ⟨rfl, rfl⟩
                go_wp2_with fail
                refine hla.mono ?_
                rintro e _ ⟨rfl, rfl⟩
                go_wp2_with fail
                refine hno.mono ?_
                rintro e W8 ⟨a8, n8, rfl, -, hB8⟩
                have HD8 := Lib.hid (HDi.out.below' hB8)
                clear hn hla hno hB8
                have hBN := HD8.out.below
                have x0 := below_at hBN p0 l0
                have x1 := below_at hBN p1 l0
                have y0 := below_at hBN r0 l1
                have y1 := below_at hBN r1 l1
                have hch : Calls Tryz.prog 30 #[.pointer (some ⟨hb, 0, none⟩), .agg #[.int .i64 r.epoch, .slice ra r.chains.length rc], .slice none 0 0] _ _ := change18_any HD8.out (by omega) _ r ra rc Hsmr.out (HR.out W8 hBN) none [] 0 (fun h => absurd h (by simp)) (by simp) (fun _ _ e => by cases e)
                unfold Ch18Post at hch
                rw [show (stC (stA hdO q i).1 r [] ([].length + 60)).2 = (stC (stA hdO q i).1 r [] 60).2 from rfl, show (stC (stA hdO q i).1 r [] ([].length + 60)).1 = (stC (stA hdO q i).1 r [] 60).1 from rfl, g4, decide_eq_true g3] at hch
                have HG2 := Lib.hid g2
                clear hBN g1 g2 g3 g4
                go_wp2_with fail
                refine hch.mono ?_
                clear hch x0 x1 y0 y1
                rintro e W9 ⟨rfl, hD9, -⟩
                have HD9 := Lib.hid hD9
                have hBN := HD9.out.below
                clear hD9
                have x0 := below_at hBN p0 l0
                have x1 := below_at hBN p1 l0
                have y0 := below_at hBN r0 l1
                have y1 := below_at hBN r1 l1
                have lw9 : w.heap.size < W9.heap.size := by have := hBN.size; omega
                have lw9' : w.heap.size + 1 < W9.heap.size := by have := hBN.size; omega
                clear hBN
                go_wp2_with fail
                obtain ⟨WX, hWX, hBX, hzX, wx0, wx1⟩ := oneBox W9 24 (.int .i64 q.epoch) (.slice qa q.chains.length qc)
                rw [← hWX]
                have HDX := Lib.hid (HD9.out.below' hBX)
                obtain ⟨⟨nb2, lb2, hn, hla, hno⟩, -⟩ := HDX.out.lay
                have hnX := hn WX.drew ((Mod.refl _ _).drew)
                have hlaX := hla WX.drew ((Mod.refl _ _).drew)
                have hnoX := hno WX.drew ((Mod.refl _ _).drew)
                unfold CopyPost at hnoX
                rw [HG2.out] at hnoX
                have d0 : WX.drew.cell? ⟨W9.heap.size, 0, none⟩ = some (.int .i64 q.epoch) := wx0
                have d1 : WX.drew.cell? ⟨W9.heap.size, 1, none⟩ = some (.slice qa q.chains.length qc) := wx1
                have lX : W9.heap.size < WX.heap.size := by omega
                clear hWX hBX hzX wx0 wx1 hn hla hno x0 x1 y0 y1
                refine wp_region_held_drew (S := fun w' => w'.cell? ⟨W9.heap.size, 0, none⟩ = some (.int .i64 q.epoch) ∧ w'.cell? ⟨W9.heap.size, 1, none⟩ = some (.slice qa q.chains.length qc)) (by kernel_rfl) ⟨d0, d1⟩ (fun hHeld => ?_)
                refine takeL 0 ?_
                refine takeL 4 ?_
                refine wpAnyH_ready (rs := [1]) (by kernel_rfl) (by simp) ?_
                refine AllReadyH.cons (o := _) rfl (fun K hK => ?_) AllReadyH.nil
                go_simp
                go_at_call 27
                with_reducible refine hnX.mono ?_
                rintro e _ ⟨rfl, rfl⟩
                try go_wp2_with fail
                refine hK.out _ _ ⟨d0, d1⟩ (fun hHeld => ?_)
                clear hK K
                try simp only [Act.put, List.setIfInBounds_toArray, List.set_cons_zero, List.set_cons_succ]
                refine wpAnyH_ready (rs := [2]) (by kernel_rfl) (by simp) ?_
                refine AllReadyH.cons (o := _) rfl (fun K hK => ?_) AllReadyH.nil
                go_simp
                go_at_call 28
                with_reducible refine hlaX.mono ?_
                rintro e _ ⟨rfl, rfl⟩
                try go_wp2_with fail
                refine hK.out _ _ ⟨d0, d1⟩ (fun hHeld => ?_)
                clear hK K
                try simp only [Act.put, List.setIfInBounds_toArray, List.set_cons_zero, List.set_cons_succ]
                refine wpAnyH_ready (rs := [3]) (by kernel_rfl) (by simp) ?_
                refine AllReadyH.cons (o := _) rfl (fun K hK => ?_) AllReadyH.nil
                go_simp
                go_at_call 29
                with_reducible refine hnoX.mono ?_
                rintro e WY ⟨ay, ny, rfl, hly, hBY'⟩
                have hBY : Below WX.heap.size WX WY := below_drew hBY'
                have e0 := below_at hBY d0 lX
                have e1 := below_at hBY d1 lX
                have HBY := Lib.hid (HDX.out.below.trans (hBY.mono HDX.out.below.size))
                have hpr := projection_any (fun _ => True) WY q.epoch q.epoch ay qa ny qc q.chains q.chains (hly.sub (fun _ _ _ => trivial)) (HQ.out WY HBY.out)
                rw [decide_eq_true ⟨rfl, rfl⟩] at hpr
                have lY : W9.heap.size < WY.heap.size := by have := hBY.size; omega
                clear hBY hBY' hly hnX hlaX hnoX
                try go_wp2_with fail
                refine hK.out _ _ ⟨e0, e1⟩ (fun hHeld => ?_)
                clear hK K
                try simp only [Act.put, List.setIfInBounds_toArray, List.set_cons_zero, List.set_cons_succ]
                refine wpAnyH_ready (rs := [5]) (by kernel_rfl) (by simp) ?_
                refine AllReadyH.cons (o := _) rfl (fun K hK => ?_) AllReadyH.nil
                go_simp
                go_at_call 31
                with_reducible refine hpr.mono ?_
                clear hpr
                rintro e WZ ⟨rfl, hBZ⟩
                have z0 := below_at hBZ e0 lY
                have z1 := below_at hBZ e1 lY
                have HBZ := Lib.hid (HBY.out.trans (hBZ.mono HBY.out.size))
                have lZ : W9.heap.size < WZ.heap.size := by have := hBZ.size; omega
                clear hBZ
                try go_wp2_with fail
                refine hK.out _ _ ⟨z0, z1⟩ (fun hHeld => ?_)
                clear hK K
                try simp only [Act.put, List.setIfInBounds_toArray, List.set_cons_zero, List.set_cons_succ]
                refine takeL 6 ?_
                refine wpAnyH_ready (rs := [7]) (by kernel_rfl) (by simp) ?_
                refine AllReadyH.cons (o := _) rfl (fun K hK => ?_) AllReadyH.nil
                go_simp
                go_at_call 9
                with_reducible refine (wakes18_any WZ).mono ?_
                rintro e WW ⟨rfl, hBW⟩
                have v0 := below_at hBW z0 lZ
                have v1 := below_at hBW z1 lZ
                have HBW := Lib.hid (HBZ.out.trans (hBW.mono HBZ.out.size))
                clear hBW
                try go_wp2_with fail
                refine hK.out _ _ ⟨v0, v1⟩ (fun hHeld => ?_)
                clear hK K
                try simp only [Act.put, List.setIfInBounds_toArray, List.set_cons_zero, List.set_cons_succ]
                refine takeL 8 ?_
                refine takeL 9 ?_
                refine wpAnyH_done (by kernel_rfl) ?_ _
                clear hHeld
                go_wp2_with fail
                go_ret
                exact ⟨rfl, HBW0.out.trans (HBW.out.mono HBW0.out.size)⟩
              · rw [g1] at hno
                go_wp2_with fail
                refine hn.mono ?_
                rintro e _ ⟨rfl, rfl⟩
                go_wp2_with fail
                refine hla.mono ?_
                rintro e _ ⟨rfl, rfl⟩
                go_wp2_with fail
                refine hno.mono ?_
                rintro e W8 ⟨a8, n8, rfl, -, hB8⟩
                have HD8 := Lib.hid (HDi.out.below' hB8)
                clear hn hla hno hB8
                have hBN := HD8.out.below
                have x0 := below_at hBN p0 l0
                have x1 := below_at hBN p1 l0
                have y0 := below_at hBN r0 l1
                have y1 := below_at hBN r1 l1
                have hch : Calls Tryz.prog 30 #[.pointer (some ⟨hb, 0, none⟩), .agg #[.int .i64 r.epoch, .slice ra r.chains.length rc], .slice none 0 0] _ _ := change18_any HD8.out (by omega) _ r ra rc Hsmr.out (HR.out W8 hBN) none [] 0 (fun h => absurd h (by simp)) (by simp) (fun _ _ e => by cases e)
                unfold Ch18Post at hch
                rw [show (stC (stA hdO q i).1 r [] ([].length + 60)).2 = (stC (stA hdO q i).1 r [] 60).2 from rfl, show (stC (stA hdO q i).1 r [] ([].length + 60)).1 = (stC (stA hdO q i).1 r [] 60).1 from rfl, g4, decide_eq_true g3] at hch
                have HG2 := Lib.hid g2
                clear hBN g1 g2 g3 g4
                go_wp2_with fail
                refine hch.mono ?_
                clear hch x0 x1 y0 y1
                rintro e W9 ⟨rfl, hD9, -⟩
                have HD9 := Lib.hid hD9
                have hBN := HD9.out.below
                clear hD9
                have x0 := below_at hBN p0 l0
                have x1 := below_at hBN p1 l0
                have y0 := below_at hBN r0 l1
                have y1 := below_at hBN r1 l1
                have lw9 : w.heap.size < W9.heap.size := by have := hBN.size; omega
                have lw9' : w.heap.size + 1 < W9.heap.size := by have := hBN.size; omega
                clear hBN
                go_wp2_with fail
                obtain ⟨WX, hWX, hBX, hzX, wx0, wx1⟩ := oneBox W9 24 (.int .i64 r.epoch) (.slice ra r.chains.length rc)
                rw [← hWX]
                have HDX := Lib.hid (HD9.out.below' hBX)
                obtain ⟨⟨nb2, lb2, hn, hla, hno⟩, -⟩ := HDX.out.lay
                have hnX := hn WX.drew ((Mod.refl _ _).drew)
                have hlaX := hla WX.drew ((Mod.refl _ _).drew)
                have hnoX := hno WX.drew ((Mod.refl _ _).drew)
                unfold CopyPost at hnoX
                rw [HG2.out] at hnoX
                have d0 : WX.drew.cell? ⟨W9.heap.size, 0, none⟩ = some (.int .i64 r.epoch) := wx0
                have d1 : WX.drew.cell? ⟨W9.heap.size, 1, none⟩ = some (.slice ra r.chains.length rc) := wx1
                have lX : W9.heap.size < WX.heap.size := by omega
                clear hWX hBX hzX wx0 wx1 hn hla hno x0 x1 y0 y1
                refine wp_region_held_drew (S := fun w' => w'.cell? ⟨W9.heap.size, 0, none⟩ = some (.int .i64 r.epoch) ∧ w'.cell? ⟨W9.heap.size, 1, none⟩ = some (.slice ra r.chains.length rc)) (by kernel_rfl) ⟨d0, d1⟩ (fun hHeld => ?_)
                refine takeL 0 ?_
                refine takeL 4 ?_
                refine wpAnyH_ready (rs := [1]) (by kernel_rfl) (by simp) ?_
                refine AllReadyH.cons (o := _) rfl (fun K hK => ?_) AllReadyH.nil
                go_simp
                go_at_call 27
                with_reducible refine hnX.mono ?_
                rintro e _ ⟨rfl, rfl⟩
                try go_wp2_with fail
                refine hK.out _ _ ⟨d0, d1⟩ (fun hHeld => ?_)
                clear hK K
                try simp only [Act.put, List.setIfInBounds_toArray, List.set_cons_zero, List.set_cons_succ]
                refine wpAnyH_ready (rs := [2]) (by kernel_rfl) (by simp) ?_
                refine AllReadyH.cons (o := _) rfl (fun K hK => ?_) AllReadyH.nil
                go_simp
                go_at_call 28
                with_reducible refine hlaX.mono ?_
                rintro e _ ⟨rfl, rfl⟩
                try go_wp2_with fail
                refine hK.out _ _ ⟨d0, d1⟩ (fun hHeld => ?_)
                clear hK K
                try simp only [Act.put, List.setIfInBounds_toArray, List.set_cons_zero, List.set_cons_succ]
                refine wpAnyH_ready (rs := [3]) (by kernel_rfl) (by simp) ?_
                refine AllReadyH.cons (o := _) rfl (fun K hK => ?_) AllReadyH.nil
                go_simp
                go_at_call 29
                with_reducible refine hnoX.mono ?_
                rintro e WY ⟨ay, ny, rfl, hly, hBY'⟩
                have hBY : Below WX.heap.size WX WY := below_drew hBY'
                have e0 := below_at hBY d0 lX
                have e1 := below_at hBY d1 lX
                have HBY := Lib.hid (HDX.out.below.trans (hBY.mono HDX.out.below.size))
                have hpr := projection_any (fun _ => True) WY r.epoch r.epoch ay ra ny rc r.chains r.chains (hly.sub (fun _ _ _ => trivial)) (HR.out WY HBY.out)
                rw [decide_eq_true ⟨rfl, rfl⟩] at hpr
                have lY : W9.heap.size < WY.heap.size := by have := hBY.size; omega
                clear hBY hBY' hly hnX hlaX hnoX
                try go_wp2_with fail
                refine hK.out _ _ ⟨e0, e1⟩ (fun hHeld => ?_)
                clear hK K
                try simp only [Act.put, List.setIfInBounds_toArray, List.set_cons_zero, List.set_cons_succ]
                refine wpAnyH_ready (rs := [5]) (by kernel_rfl) (by simp) ?_
                refine AllReadyH.cons (o := _) rfl (fun K hK => ?_) AllReadyH.nil
                go_simp
                go_at_call 31
                with_reducible refine hpr.mono ?_
                clear hpr
                rintro e WZ ⟨rfl, hBZ⟩
                have z0 := below_at hBZ e0 lY
                have z1 := below_at hBZ e1 lY
                have HBZ := Lib.hid (HBY.out.trans (hBZ.mono HBY.out.size))
                have lZ : W9.heap.size < WZ.heap.size := by have := hBZ.size; omega
                clear hBZ
                try go_wp2_with fail
                refine hK.out _ _ ⟨z0, z1⟩ (fun hHeld => ?_)
                clear hK K
                try simp only [Act.put, List.setIfInBounds_toArray, List.set_cons_zero, List.set_cons_succ]
                refine takeL 6 ?_
                refine wpAnyH_ready (rs := [7]) (by kernel_rfl) (by simp) ?_
                refine AllReadyH.cons (o := _) rfl (fun K hK => ?_) AllReadyH.nil
                go_simp
                go_at_call 9
                with_reducible refine (wakes18_any WZ).mono ?_
                rintro e WW ⟨rfl, hBW⟩
                have v0 := below_at hBW z0 lZ
                have v1 := below_at hBW z1 lZ
                have HBW := Lib.hid (HBZ.out.trans (hBW.mono HBZ.out.size))
                clear hBW
                try go_wp2_with fail
                refine hK.out _ _ ⟨v0, v1⟩ (fun hHeld => ?_)
                clear hK K
                try simp only [Act.put, List.setIfInBounds_toArray, List.set_cons_zero, List.set_cons_succ]
                refine takeL 8 ?_
                refine takeL 9 ?_
                refine wpAnyH_done (by kernel_rfl) ?_ _
                clear hHeld
                go_wp2_with fail
                go_ret
                exact ⟨rfl, HBW0.out.trans (HBW.out.mono HBW0.out.size)⟩
    · skip
      refine takeU 7 ?_
      refine takeU 8 ?_
      refine takeU 9 ?_
      refine takeU 10 ?_
      refine takeL 11 ?_
      refine takeL 12 ?_
      refine takeU 13 ?_
      refine takeU 14 ?_
      refine takeU 15 ?_
      refine takeU 16 ?_
      refine takeL 17 ?_
      refine wpAnyH_done (by kernel_rfl) ?_ _
      go_wp2_with fail
      refine (wakes18_any _).mono ?_
      rintro e wz ⟨rfl, hBz⟩
      go_wp2_with fail
      go_ret
      exact ⟨rfl, HBW0.out.trans ((HB3.out.trans (hBz.mono HB3.out.size)).mono HBW0.out.size)⟩
  · skip
    refine takeL 2 ?_
    refine takeU 3 ?_
    refine takeU 4 ?_
    refine takeL 5 ?_
    refine takeL 6 ?_
    refine takeU 7 ?_
    refine takeU 8 ?_
    refine takeU 9 ?_
    refine takeU 10 ?_
    refine takeL 11 ?_
    refine takeL 12 ?_
    refine takeU 13 ?_
    refine takeU 14 ?_
    refine takeU 15 ?_
    refine takeU 16 ?_
    refine takeL 17 ?_
    refine wpAnyH_done (by kernel_rfl) ?_ _
    go_wp2_with fail
    refine (wakes18_any _).mono ?_
    rintro e wz ⟨rfl, hBz⟩
    go_wp2_with fail
    go_ret
    exact ⟨rfl, HBW0.out.trans ((HB2.out.trans (hBz.mono HB2.out.size)).mono HBW0.out.size)⟩

set_option maxRecDepth 100000 in
set_option maxHeartbeats 2000000 in
theorem reformAgain_lifted (os : Os) (started : os.Started) (H : Type) (enc : TypeId × Value → H) :
    ReturnsInHanded {} Tryz.checked os 4 .any (Rows.reformAgainSpec.pre6 enc Tryz.prog Tryz.f4 Rows.reformAgainRow.domain false) (Rows.reformAgainSpec.post enc Tryz.prog Tryz.f4 false true false false) := by
  refine returnsInHanded_of_change (C := Tryz.checked) Tryz.ownP started (by kernel_rfl) Tryz.func4
    (ChangeSpec.witness6 (enc := enc) (C := Tryz.checked) false ⟨#[], #[.int .u8 0, .agg #[.int .i64 0, .slice none 0 0], .agg #[.int .i64 0, .slice none 0 0]], []⟩ 8 (by kernel_rfl) (by kernel_rfl) (by kernel_rfl) (by kernel_rfl)) ?_
  intro W base args ds gs before hval0 hW hcnd _
  have hval : ∀ (j : Nat) t v, Tryz.f4.params[j]? = some t → args[j]? = some v → Value.okWide Tryz.prog W .any base t v := hval0
  have hW' := hW
  obtain ⟨p, q, hA0, hV, rfl, hfz, hnd⟩ := hW
  have hA : DataW.TrodAll enc Tryz.prog W 0 (fun _ => true) true Tryz.f4.params.toList args.toList ds p := hA0
  rw [Tryz.params4] at hA hval
  obtain ⟨v0, vs0, d0, ds0, p0, q0, hargs, rfl, rfl, h0, r0⟩ := trodAll_cons hA
  obtain ⟨v1, vs1, d1, ds1, p1, q1, rfl, rfl, rfl, h1, r1⟩ := trodAll_cons r0
  obtain ⟨v2, vs2, d2, ds2, p2, q2, rfl, rfl, rfl, h2, r2⟩ := trodAll_cons r1
  obtain ⟨rfl, rfl, rfl⟩ := trodAll_nil r2
  obtain rfl : args = #[v0, v1, v2] := by cases args; simp_all
  obtain ⟨rfl, rfl⟩ := trodVars_none hV
  obtain ⟨cs0, x0, hv0, hr0⟩ := open_arg (n := 9) (T := .int .u8) (by kernel_rfl) (hval 0 5 v0 rfl rfl) h0
  obtain ⟨cs1, x1, hv1, hr1⟩ := open_arg (n := 9) (T := tyProj) (by kernel_rfl) (hval 1 24 v1 rfl rfl) h1
  obtain ⟨cs2, x2, hv2, hr2⟩ := open_arg (n := 9) (T := tyProj) (by kernel_rfl) (hval 2 24 v2 rfl rfl) h2
  obtain ⟨kv, rfl, rfl, hk0, hk1⟩ := rd_int.1 hr0
  simp only [tyProj, Ty.isStruct, Bool.false_eq_true, if_false, if_true] at hv0 hv1 hv2
  obtain ⟨pe, pa, ls, pc, e1, hp⟩ := rd_proj hr1
  obtain ⟨pe', pa', ls', pc', e2, hp'⟩ := rd_proj hr2
  subst e1
  subst e2
  subst hv0
  subst hv1
  subst hv2
  clear hA0 hval0
  refine (reformAgain_walk _ _ kv hk0 (by have : kv ≤ 255 := hk1; omega) ⟨pe, ls⟩ ⟨pe', ls'⟩ pa pa' pc pc' W hp hp').mono fun e W' ⟨he, hb⟩ => ?_
  subst he
  exact ⟨_, rfl, law_post Tryz.laidOutP (by kernel_rfl) rfl Tryz.underlying4 hW' rfl rfl rfl rfl hb⟩

theorem reformAgain_holds : Rows.ReformAgainSaid :=
  OpenClaim.holds_of_wide 4 Tryz.f4 rfl rfl rfl rfl rfl rfl rfl ⟨rfl, rfl, rfl, rfl, rfl⟩ rfl rfl rfl rfl rfl (by kernel_rfl) Tryz.func4 (by kernel_rfl)
    (of_decide_eq_true (by kernel_rfl)) (by unfold Func.isWrapper; first | (rw [if_pos (by decide +kernel)]; kernel_rfl) | (rw [if_neg (by decide +kernel)]; exact ⟨rfl, rfl⟩))
    (fun os started H enc _ => reformAgain_lifted os started H enc)
end Go.Proofs.YtghdhhbpbmhooaaGreat
