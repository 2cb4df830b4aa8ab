/-
  The law ReformHalf: a record whose append is under way when the projection changes is there behind it, once it is over; and whatever is read at its address ahead of that stays.
  Conditions: none.
-/
import Derived.Test.YtghdhhbpbmhooaaGreatHalfRel
import Derived.Test.YtghdhhbpbmhooaaGreatKeepAns
import Derived.Test.YtghdhhbpbmhooaaGreatRefNext
import Derived.Test.YtghdhhbpbmhooaaGreatRow
namespace Go.Proofs.YtghdhhbpbmhooaaGreat
open Go.RowKit Esch Go.ChangeShapes Go.WideShapes Go.ChangeAt

set_option maxRecDepth 100000 in
set_option maxHeartbeats 16000000 in
theorem reformHalf_walk (S : Nat → Prop) (rec : ByteArray) (be be2 : Int) (hbe0 : 0 ≤ be) (hbe1 : be ≤ 255) (q : Proj) (qa : Option Addr) (qc : Nat) (w : World) (hq : ListsAt S w qa q.chains) :
    Calls Tryz.prog 6 #[.string rec, .agg #[.int .u8 be, .int .u8 be2], .agg #[.int .i64 q.epoch, .slice qa q.chains.length qc]] w fun r w' => r = .returned (.bool true) ∧ Below w.heap.size w w' := by
  obtain ⟨W0, hW0, hB0, hz0, r0, r1, p0, p1⟩ := rh_boxes w (.int .u8 be) (.int .u8 be2) (.int .i64 q.epoch) (.slice qa q.chains.length qc)
  have HQ : Hid (∀ W, Below W0.heap.size W0 W → ListsAt (fun _ => True) W qa q.chains) := Lib.hid fun W hB => ((hq.mod (F := none') (Mod.of_below hB0) (fun _ _ _ => id)).mod (F := none') (Mod.of_below hB) (fun _ _ _ => id)).sub (fun _ _ _ => trivial)
  have HW0 := Lib.hid hW0
  have HBW0 := Lib.hid hB0
  have l0 : w.heap.size < W0.heap.size := by omega
  have l1 : w.heap.size + 1 < W0.heap.size := by omega
  obtain ⟨lq, hlq⟩ : ∃ lq, lq = largeProj q.chains := ⟨_, rfl⟩
  obtain ⟨nq, hnq⟩ : ∃ nq, nq = nextB qOld q := ⟨_, rfl⟩
  have Hsq : Hid (lq = false → Small q.chains) := Lib.hid (by rw [hlq]; exact small_ofA)
  have HLq : Hid (∀ W, Below W0.heap.size W0 W → Calls Tryz.prog 8 #[.agg #[.int .i64 q.epoch, .slice qa q.chains.length qc]] W fun r w' => r = .returned (.bool lq) ∧ Below W.heap.size W w') := Lib.hid fun W hB => by rw [hlq]; exact largeProj_any _ W q.epoch qa qc q.chains (HQ.out W hB)
  have HNq : Hid (∀ W, Below W0.heap.size W0 W → ∀ T b, ListsAt T W (some ⟨b, 0, none⟩) qOld.chains → Calls Tryz.prog 23 #[.agg #[.int .i64 0, .slice (some ⟨b, 0, none⟩) 2 2], .agg #[.int .i64 q.epoch, .slice qa q.chains.length qc]] W (BoolBelow W nq)) := Lib.hid fun W hB T b hl => by rw [hnq]; exact rnext_any _ W 0 q.epoch _ _ 2 qc qOld.chains q.chains (hl.sub (fun _ _ _ => trivial)) (HQ.out W hB)
  have Hnq := Lib.hid hnq
  have Hbe0 := Lib.hid hbe0
  have Hbe1 := Lib.hid hbe1
  have d0 : W0.drew.cell? ⟨w.heap.size + 1, 0, none⟩ = some (.int .i64 q.epoch) := p0
  have d1 : W0.drew.cell? ⟨w.heap.size + 1, 1, none⟩ = some (.slice qa q.chains.length qc) := p1
  clear hW0 hq hlq hnq hB0 hz0 hbe0 hbe1
  go_enter Tryz.func6, Tryz.ntmps6
  by_cases h5 : 500 < rec.size
  · have h5' : (500 : Int) < rec.size := by omega
    clear h5
    go_wp2_with fail
    rw [← HW0.out]
    refine wp_region_held_drew (S := fun w' => w'.cell? ⟨w.heap.size + 1, 0, none⟩ = some (.int .i64 q.epoch)) (by kernel_rfl) d0 (fun hHeld => ?_)
    refine takeL 0 ?_
    refine takeL 1 ?_
    refine takeL 2 ?_
    refine takeL 3 ?_
    refine takeU 4 ?_
    refine takeU 5 ?_
    refine takeL 6 ?_
    refine takeL 7 ?_
    refine takeU 8 ?_
    refine takeU 9 ?_
    refine takeU 10 ?_
    refine takeU 11 ?_
    refine takeL 12 ?_
    refine wpAnyH_done (by kernel_rfl) ?_ _
    go_wp2_with fail
    refine (wakes18_any _).mono ?_
    rintro e wz ⟨rfl, hBz⟩
    go_wp2_with fail
    go_ret
    exact ⟨rfl, HBW0.out.trans (((Below.refl W0.heap.size W0).drew.trans (hBz.mono ((Below.refl W0.heap.size W0).drew).size)).mono HBW0.out.size)⟩
  have h5' : ¬ (500 : Int) < rec.size := by omega
  have H5 := Lib.hid (show rec.size ≤ 500 by omega)
  have HD5 := Lib.hid (show decide ((500 : Int) < rec.size) = false from decide_eq_false h5')
  clear h5
  go_wp2_with fail
  rw [← HW0.out]
  refine wp_region_held_drew (S := fun w' => w'.cell? ⟨w.heap.size + 1, 0, none⟩ = some (.int .i64 q.epoch) ∧ w'.cell? ⟨w.heap.size + 1, 1, none⟩ = some (.slice qa q.chains.length qc)) (by kernel_rfl) ⟨d0, d1⟩ (fun hHeld => ?_)
  refine takeL 0 ?_
  refine takeL 1 ?_
  refine takeL 2 ?_
  rw [HD5.out]
  refine takeL 3 ?_
  refine takeL 4 ?_
  refine wpAnyH_ready (rs := [5]) (by kernel_rfl) (by simp) ?_
  refine AllReadyH.cons (o := _) rfl (fun K hK => ?_) AllReadyH.nil
  go_simp
  go_at_call 8
  with_reducible refine (HLq.out _ (below_drew (Below.refl _ _))).mono ?_
  rintro e w2 ⟨rfl, hB2'⟩
  have hBN : Below W0.heap.size W0 w2 := below_drew hB2'
  clear hB2' d0 d1
  have x0 := below_at hBN p0 l1
  have x1 := below_at hBN p1 l1
  have HB2 := Lib.hid hBN
  clear hBN
  try go_wp2_with fail
  refine hK.out _ _ ⟨x0, x1⟩ (fun hHeld => ?_)
  clear hK K
  try simp only [Act.put, List.setIfInBounds_toArray, List.set_cons_zero, List.set_cons_succ]
  refine takeL 6 ?_
  refine takeL 7 ?_
  cases lq
  rotate_left 1
  · skip
    refine takeU 8 ?_
    refine takeU 9 ?_
    refine takeU 10 ?_
    refine takeU 11 ?_
    refine takeL 12 ?_
    refine wpAnyH_done (by kernel_rfl) ?_ _
    go_wp2_with fail
    refine (wakes18_any _).mono ?_
    rintro e wz ⟨rfl, hBz⟩
    go_wp2_with fail
    go_ret
    exact ⟨rfl, HBW0.out.trans ((HB2.out.trans (hBz.mono (HB2.out).size)).mono HBW0.out.size)⟩
  have Hsmq : Hid (Small q.chains) := Lib.hid (Hsq.out rfl)
  clear Hsq
  refine takeL 9 ?_
  refine wpAnyH_ready (rs := [8]) (by kernel_rfl) (by simp) ?_
  refine AllReadyH.cons (o := _) rfl (fun K hK => ?_) AllReadyH.nil
  go_simp
  go_at_call 24
  with_reducible refine (old18_any _).mono ?_
  rintro e w6 ⟨bo2, rfl, hlo, hB6⟩
  have hBN : Below W0.heap.size W0 w6 := HB2.out.trans (hB6.mono HB2.out.size)
  clear x0 x1 hB6
  have x0 := below_at hBN p0 l1
  have x1 := below_at hBN p1 l1
  have HB6 := Lib.hid hBN
  have HLO := Lib.hid hlo
  clear hBN HB2 hlo
  try go_wp2_with fail
  refine hK.out _ _ ⟨x0, x1⟩ (fun hHeld => ?_)
  clear hK K
  try simp only [Act.put, List.setIfInBounds_toArray, List.set_cons_zero, List.set_cons_succ]
  refine wpAnyH_ready (rs := [10]) (by kernel_rfl) (by simp) ?_
  refine AllReadyH.cons (o := _) rfl (fun K hK => ?_) AllReadyH.nil
  go_simp
  go_at_call 23
  with_reducible refine (HNq.out _ HB6.out _ _ HLO.out).mono ?_
  rintro e w7 ⟨rfl, hB7⟩
  have hBN : Below W0.heap.size W0 w7 := HB6.out.trans (hB7.mono HB6.out.size)
  clear x0 x1 hB7
  have x0 := below_at hBN p0 l1
  have x1 := below_at hBN p1 l1
  have HB7 := Lib.hid hBN
  clear hBN HB6 HLO
  try go_wp2_with fail
  refine hK.out _ _ ⟨x0, x1⟩ (fun hHeld => ?_)
  clear hK K
  try simp only [Act.put, List.setIfInBounds_toArray, List.set_cons_zero, List.set_cons_succ]
  refine takeL 11 ?_
  refine takeL 12 ?_
  refine wpAnyH_done (by kernel_rfl) ?_ _
  clear hHeld x0 x1
  cases nq
  · skip
    go_wp2_with fail
    refine (wakes18_any _).mono ?_
    rintro e wz ⟨rfl, hBz⟩
    go_wp2_with fail
    go_ret
    exact ⟨rfl, HBW0.out.trans ((HB7.out.trans (hBz.mono (HB7.out).size)).mono HBW0.out.size)⟩
  go_wp2_with fail
  refine (old18_any _).mono ?_
  rintro e w8 ⟨b8, rfl, hl8, hB8⟩
  have hB08 := HB7.out.trans (hB8.mono HB7.out.size)
  go_wp2_with fail
  have hmk : Calls Tryz.prog 25 #[.agg #[.int .i64 0, .slice (some ⟨b8, 0, none⟩) 2 2], .int .i64 100] _ _ := made_any _ w8 qOld _ 2 100 (by decide) hl8 (by decide) (by decide)
  refine hmk.mono ?_
  clear hmk hl8
  rintro e w9 ⟨hb, hrb, nb, rfl, hH9, -, hB9⟩
  have hD : Hd1 W0 0 hb _ hdO w9 := Hd1.start hH9 hB08 hB9
  obtain ⟨V, hV⟩ : ∃ V, V = grow none' w8 w9 := ⟨_, rfl⟩
  rw [← hV] at hD
  have HD := Lib.hid hD
  clear hD hV hH9 hB08 hB9 hB8 HB7
  obtain ⟨d, hd⟩ : ∃ d : ByteArray, d = ⟨#[120]⟩ ++ rec := ⟨_, rfl⟩
  have hds : d.size ≤ 501 := by
    have := H5.out
    rw [hd, ByteArray.size_append]
    show 1 + rec.size ≤ 501
    omega
  have hadd : ∀ W, (Op.stringOp .add (⟨#[120]⟩ : ByteArray) rec).run Tryz.prog W = .ok (.string d) W := fun W => by
    rw [hd]
    refine run_string_add_sum _ _ _ ?_
    have := H5.out
    show 1 + rec.size ≤ 9223372036854775807
    omega
  have Hds := Lib.hid hds
  have hdd : (d.toList == d.toList) = true := beq_self_eq_true _
  clear hd hds
  go_wp2_with fail
  refine (old18_any _).mono ?_
  rintro e w9b ⟨b9, rfl, hl9, hB9⟩
  have HD9 := Lib.hid (HD.out.below' hB9)
  clear hB9 HD
  have hnw : Calls Tryz.prog 33 #[.agg #[.int .i64 0, .slice (some ⟨b9, 0, none⟩) 2 2], .string d] w9b _ := apNew_any _ w9b qOld d (some ⟨b9, 0, none⟩) 2 ⟨by decide, by decide⟩ hl9
  clear hl9
  go_wp2_with fail
  refine hnw.mono ?_
  clear hnw
  rintro e w10 ⟨ab, rfl, hR10, hB10⟩
  have HA1 := Lib.hid (show Ah1 W0 0 hb ab V (fun k => w9b.heap.size ≤ k ∧ k < w10.heap.size) (hdO, ap0 qOld d) w10 from ⟨HD9.out.below' hB10, hR10.sub (fun k hk h => ⟨h, hk⟩), ap0_ok qOld d, fun k hk => ⟨by have := HD9.out.below.size; omega, hk.2⟩, fun k hk e => by have := HD9.out.lt k hk; omega⟩)
  clear hR10 hB10 HD9
  have Htx0 := Lib.hid (show (ap0 qOld d).txt.size ≤ 9223372036854775807 by rw [show (ap0 qOld d).txt = d from stP_txt hdO qOld d 0]; have := Hds.out; omega)
  have hbe0 := Hbe0.out
  have hbe1 := Hbe1.out
  obtain ⟨N, hN, hN4⟩ : ∃ N : Nat, be % 5 = N ∧ N ≤ 4 := ⟨(be % 5).toNat, by omega, by omega⟩
  have HNN := Lib.hid hN
  clear hN
  go_wp2_with fail
  go_loopg [11] N (fun g s11 wr => HlRel W0 hb ab 0 (hdO, ap0 qOld d) (fun _ _ _ => True) N g s11 wr)
  case atStart => exact ⟨0, _, _, by omega, Nat.zero_le _, rfl, HA1.out, trivial⟩
  case round =>
    clear HA1
    obtain ⟨i, V1, S1, rfl, hi, rfl, hA, hX⟩ := hrel
    have i0 : (0 : Int) ≤ i := by omega
    have n0 := below_at hA.hd.below r0 l0
    by_cases hiN : i < N
    · have i1 : (i : Int) < be % 5 := by have := HNN.out; omega
      obtain ⟨⟨⟨qk, qu, qe, qp, qs, qn, qd, qpr⟩, qb⟩, hq⟩ : ∃ r, r = (ahIt (hdO, ap0 qOld d) i).2.ask := ⟨_, rfl⟩
      have hask := apAsk_any hA.ap hA.ok
      have hq1 := (ahIt (hdO, ap0 qOld d) i).2.ask_p
      have hq2 := ApS.ask_data (s := (ahIt (hdO, ap0 qOld d) i).2) (by rw [ahIt_txt]; exact Htx0.out)
      have hq3 := (ahIt (hdO, ap0 qOld d) i).2.ask_is5
      rw [← hq] at hask hq1 hq2 hq3
      simp only at hq1 hq2 hq3
      subst hq1
      have Hq := Lib.hid hq
      have Hq2 := Lib.hid hq2
      have Hq3 := Lib.hid hq3
      have HA := Lib.hid hA
      have HX := Lib.hid hX
      clear hq hq2 hq3 hA hX
      cases qb
      · go_wp2_with fail
        refine hask.mono ?_
        clear hask
        rintro e W1 ⟨rfl, hB1⟩
        simp only [qV, Esch.p0, List.length_nil]
        go_wp2_with fail
        obtain ⟨W2, hW2, hB2, hz2, -⟩ := ask_box W1 (.int .i64 qk) (.int .i64 qu) (.int .i64 qe) (.int .i64 qp) (.int .i64 qs) (.int .i64 qn) (.string qd) (.int .i64 0) (.slice none 0 0)
        rw [← hW2]
        have HA2 := Lib.hid ((HA.out.below' hB1).below' hB2)
        have HX2 := Lib.hid ((clo_true ab).below (V := V1) (S := S1) ((clo_true ab).below (V := V1) (S := S1) HX.out hB1) hB2)
        have Hst := Lib.hid (show ahIt (hdO, ap0 qOld d) (i + 1) = ahIt (hdO, ap0 qOld d) i by show ahTurn _ = _; unfold ahTurn; rw [if_pos (by have := Hq3.out; simpa using this.symm)])
        clear hW2 hB2 hB1
        go_roundg (N - (i + 1))
        case measure => omega
        case rel => exact ⟨i + 1, _, _, rfl, by omega, by go_num, (HA2.out.more (by omega)).cast Hst.out, HX2.out⟩
      · go_wp2_with fail
        refine hask.mono ?_
        clear hask
        rintro e W1 ⟨rfl, hB1⟩
        have hA1 := HA.out.below' hB1
        have hX1 := (clo_true ab).below (V := V1) (S := S1) HX.out hB1
        simp only [qV, Esch.p0, List.length_nil]
        clear hB1
        go_wp2_with fail
        obtain ⟨W2, hW2, hB2, hz2, b0, b1, b2, b3, b4, b5, b6, b7, b8⟩ := ask_box W1 (.int .i64 qk) (.int .i64 qu) (.int .i64 qe) (.int .i64 qp) (.int .i64 qs) (.int .i64 qn) (.string qd) (.int .i64 0) (.slice none 0 0)
        rw [← hW2]
        have hA2 := hA1.below' hB2
        have HX2 := Lib.hid ((clo_true ab).below (V := V1) (S := S1) hX1 hB2)
        have hc := hd1_hand hA2.hd (by omega) ⟨qk, qu, qe, qp, qs, qn, qd, Esch.p0⟩ rfl Hq2.out 0
        obtain ⟨⟨⟨x, xb⟩, hd'⟩, hxr⟩ : ∃ r, r = (ahIt (hdO, ap0 qOld d) i).1.ask ⟨qk, qu, qe, qp, qs, qn, qd, Esch.p0⟩ 0 := ⟨_, rfl⟩
        rw [← hxr] at hc
        simp only [qV, Esch.p0, List.length_nil] at hc
        have Hxr := Lib.hid hxr
        have HA2 := Lib.hid hA2
        clear hW2 hz2 hB2 hA1 hX1 hA2 hxr
        go_wp2_with fail
        refine hc.mono ?_
        clear hc b0 b1 b2 b3 b4 b5 b6 b7 b8
        rintro e W3 ⟨ya, ycc, rfl, hl3, hD3, hM3⟩
        have hA3 := HA2.out.hand hD3 hM3
        have HX3 := Lib.hid ((clo_true ab).hand (V := V1) (S := S1) HX2.out hM3)
        have hh := apHear_any x ya ycc hA3.ap hA3.ok xb _ hl3 (fun k hk e => by
          have hk : W2.heap.size ≤ k := hk
          have := (HA2.out.sl ab HA2.out.ap.sb).2
          omega)
        obtain ⟨xc, xn, xd, ⟨xpe, xls⟩, xm, xs, xe⟩ := x
        simp only [aV] at hh ⊢
        have HA3 := Lib.hid hA3
        have Hst := Lib.hid (show ahIt (hdO, ap0 qOld d) (i + 1) = (hd', (ahIt (hdO, ap0 qOld d) i).2.hear ⟨xc, xn, xd, ⟨xpe, xls⟩, xm, xs, xe⟩ xb) by
          show ahTurn _ = _
          unfold ahTurn apTurn
          rw [if_neg (by have := Hq3.out; simpa using this.symm), ← Hq.out]
          simp only
          rw [← Hxr.out])
        clear hl3 hD3 hM3 hA3
        go_wp2_with fail
        refine hh.mono ?_
        clear hh
        rintro e W4 ⟨rfl, hR4, hM4⟩
        have HA4 := Lib.hid (HA3.out.chg hR4 (ApS.hear_ok HA3.out.ok _ _) hM4)
        have HX4 := Lib.hid ((clo_true ab).chg (V := grow V1 W2 W3) (S := S1) HX3.out HA3.out.ap.sb hM4)
        clear hR4 hM4
        go_wp2_with fail
        go_roundg (N - (i + 1))
        case measure => omega
        case rel => exact ⟨i + 1, _, _, rfl, by omega, by go_num, (HA4.out.more (by omega)).cast Hst.out, HX4.out⟩
    · obtain rfl : i = N := by omega
      have i1 : be % 5 ≤ (i : Int) := by have := HNN.out; omega
      obtain ⟨M0, hs⟩ := hs_run (d := d) (by have := Hds.out; omega) i hN4
      obtain ⟨n0', s0, h0⟩ : ∃ n s, it apN i (hdO.nd, ap0 qOld d) = (n, s) := ⟨_, _, rfl⟩
      rw [h0] at hs
      have hA' := (hA.cast (s' := ({ hdO with nd := n0' }, s0)) (by rw [ahIt_it, h0])).more (c' := 4) (by omega)
      obtain ⟨hd1, hhd1⟩ : ∃ x : HdS, x = { hdO with nd := n0' } := ⟨_, rfl⟩
      rw [← hhd1] at hA'
      have hnd1 : hd1.nd = n0' := by rw [hhd1]
      have Hs0 := Lib.hid hs
      have HA1 := Lib.hid hA'
      have Hst0 := Lib.hid (show s0.txt.size ≤ 9223372036854775807 by rw [hs.txt]; have := Hds.out; omega)
      clear hA hA' hX hhd1 hiN h0 hi
      have hBN := HA1.out.hd.below
      have x0 := below_at hBN p0 l1
      have x1 := below_at hBN p1 l1
      have hch : Calls Tryz.prog 30 #[.pointer (some ⟨hb, 0, none⟩), .agg #[.int .i64 q.epoch, .slice qa q.chains.length qc], .slice none 0 0] wr _ := change18_any HA1.out.hd (by omega) _ q qa qc Hsmq.out (HQ.out wr hBN) none [] 0 (fun h => absurd h (by simp)) (by simp) (fun _ _ e => by cases e)
      obtain ⟨g1, g2, E, t, g3, g4, g5⟩ := change_kv (hd := hd1) (q := q) (by rw [hnd1]; exact hs.kv) Hnq.out.symm (fun u h => by cases h) []
      unfold Ch18Post at hch
      (try dsimp only at hch)
      rw [g2, decide_eq_true g1] at hch
      obtain ⟨hd2, hhd2⟩ : ∃ x, x = (stC hd1 q [] (([] : List Int).length + 60)).1 := ⟨_, rfl⟩
      rw [← hhd2] at hch g3
      rw [hnd1] at g5
      rw [tail_half hs hN4 g5] at g3
      obtain ⟨T, hT, hT2⟩ : ∃ T : Int, (if i ≤ 1 then (0 : Int) else 1) = T ∧ ((i ≤ 1 ∧ T = 0) ∨ (2 ≤ i ∧ T = 1)) := ⟨_, rfl, by
        by_cases e : i ≤ 1
        · exact Or.inl ⟨e, if_pos e⟩
        · exact Or.inr ⟨by omega, if_neg e⟩⟩
      rw [hT] at g3
      obtain ⟨n3, g6, g7, g8⟩ := see_new (hd := hd2) g3 g4 (by omega)
      have HG6 := Lib.hid g6
      have HG7 := Lib.hid g7
      have HG8 := Lib.hid g8
      have HE := Lib.hid g4
      have HT2 := Lib.hid hT2
      clear g1 g2 g3 g4 g5 g6 g7 g8 hT hT2 hhd2 hs hnd1 hBN
      go_wp2_with fail
      refine hch.mono ?_
      clear hch x0 x1
      rintro e w13 ⟨rfl, hD13, hM13⟩
      have HA2 := Lib.hid ((HA1.out.hand hD13 hM13).more (c' := 100) (by simp only [List.length_nil]; omega))
      clear hD13 hM13 HA1
      have hBN := HA2.out.hd.below
      have x0 := below_at hBN p0 l1
      have x1 := below_at hBN p1 l1
      have lw : w.heap.size + 1 < w13.heap.size := by have := hBN.size; omega
      clear hBN
      go_wp2_with fail
      obtain ⟨w14, hw14, hB14, hk14⟩ := kt_box w13
      rw [← hw14]
      obtain ⟨kb, hkb⟩ : ∃ kb, kb = w13.heap.size := ⟨_, rfl⟩
      have HKB := Lib.hid (show W0.heap.size ≤ kb by rw [hkb]; exact HA2.out.hd.below.size)
      have HA3 := Lib.hid (HA2.out.below' hB14)
      have HX3 := Lib.hid (hk14 _ _ (fun k hk => HA2.out.hd.lt k hk) (fun k hk => (HA2.out.sl k hk).2))
      rw [← hkb] at HX3 ⊢
      clear hw14 hB14 hk14 HA2 lw hkb x0 x1
      have hBN := HA3.out.hd.below
      have x0 := below_at hBN p0 l1
      have x1 := below_at hBN p1 l1
      have hse : Calls Tryz.prog 36 #[.pointer (some ⟨hb, 0, none⟩), .agg #[.int .i64 q.epoch, .slice qa q.chains.length qc], .slice none 0 0] w14 _ := see18_any HA3.out.hd (by omega) _ q qa qc Hsmq.out (HQ.out w14 hBN) none [] 0 (fun h => absurd h (by simp)) (by simp) (fun _ _ e => by cases e)
      unfold Ta18Post at hse
      (try dsimp only at hse)
      rw [show ([] : List Int).length + 20 = 20 from rfl, HG6.out, HG7.out] at hse
      clear hBN
      go_wp2_with fail
      refine hse.mono ?_
      clear hse x0 x1
      rintro e w15 ⟨rfl, hD15, hM15⟩
      obtain ⟨hd3, hhd3⟩ : ∃ x : HdS, x = { hd2 with nd := n3 } := ⟨_, rfl⟩
      have Hn3 := Lib.hid (show hd3.nd = n3 by rw [hhd3])
      rw [← hhd3] at hD15
      have HA4 := Lib.hid ((HA3.out.hand hD15 hM15).more (c' := 200) (by simp only [List.length_nil]; omega))
      have HX4 := Lib.hid (HX3.out.hand hM15)
      clear hD15 hM15 HA3 HX3 hhd3 HG6 HG7
      rcases HT2.out with ⟨hi1, rfl⟩ | ⟨hi1, rfl⟩
      · obtain ⟨n4, s4, g1, g2, g3, g4, g5⟩ := half0 (q := q) Hs0.out hi1 (by have := Hds.out; omega) HG8.out rfl HE.out
        have HIT := Lib.hid (show it apN 30 (hd3.nd, s0) = (n4, s4) by rw [Hn3.out]; exact g1)
        have HF5 := Lib.hid g2
        have HFA := Lib.hid g3
        have HFE := Lib.hid g4
        have HLS := Lib.hid g5
        have HA4 := Lib.hid (HA4.out.more (c' := 300) (by omega))
        clear g1 g2 g3 g4 g5 hi1 HE HG8 Hs0 HT2
        go_wp2_with fail
        go_loopg [21] 0 (fun g s21 wr => s21 = .int .i64 0 ∧ wr = w15)
        case atStart => exact ⟨rfl, rfl⟩
        case round =>
          obtain ⟨rfl, rfl⟩ := hrel
          have HAX := HA4
          have HXX := HX4
          clear HA4 HX4
          go_wp2_with fail
          go_loopg [26] 30 (fun g s26 wr => HlRel W0 hb ab 300 (hd3, s0) (Two kb (.int .i64 0) (.string ⟨#[]⟩)) 30 g s26 wr)
          case atStart => exact ⟨0, _, _, rfl, by omega, rfl, HAX.out, HXX.out⟩
          case round =>
            clear HAX HXX
            obtain ⟨i, V3, S3, rfl, hi, rfl, hA, hX⟩ := hrel
            have i0 : (0 : Int) ≤ i := by omega
            by_cases hiN : i < 30
            · have i1 : (i : Int) < 30 := by omega
              obtain ⟨⟨⟨qk, qu, qe, qp, qs, qn, qd, qpr⟩, qb⟩, hq⟩ : ∃ r, r = (ahIt (hd3, s0) i).2.ask := ⟨_, rfl⟩
              have hask := apAsk_any hA.ap hA.ok
              have hq1 := (ahIt (hd3, s0) i).2.ask_p
              have hq2 := ApS.ask_data (s := (ahIt (hd3, s0) i).2) (by rw [ahIt_txt]; exact Hst0.out)
              have hq3 := (ahIt (hd3, s0) i).2.ask_is5
              rw [← hq] at hask hq1 hq2 hq3
              simp only at hq1 hq2 hq3
              subst hq1
              have Hq := Lib.hid hq
              have Hq2 := Lib.hid hq2
              have Hq3 := Lib.hid hq3
              have HA := Lib.hid hA
              have HX := Lib.hid hX
              clear hq hq2 hq3 hA hX
              cases qb
              · go_wp2_with fail
                refine hask.mono ?_
                clear hask
                rintro e W1 ⟨rfl, hB1⟩
                simp only [qV, Esch.p0, List.length_nil]
                go_wp2_with fail
                obtain ⟨W2, hW2, hB2, hz2, -⟩ := ask_box W1 (.int .i64 qk) (.int .i64 qu) (.int .i64 qe) (.int .i64 qp) (.int .i64 qs) (.int .i64 qn) (.string qd) (.int .i64 0) (.slice none 0 0)
                rw [← hW2]
                have HA2 := Lib.hid ((HA.out.below' hB1).below' hB2)
                have HX2 := Lib.hid ((clo_two ab kb (.int .i64 0) (.string ⟨#[]⟩)).below (V := V3) (S := S3) ((clo_two ab kb (.int .i64 0) (.string ⟨#[]⟩)).below (V := V3) (S := S3) HX.out hB1) hB2)
                have Hst := Lib.hid (show ahIt (hd3, s0) (i + 1) = ahIt (hd3, s0) i by show ahTurn _ = _; unfold ahTurn; rw [if_pos (by have := Hq3.out; simpa using this.symm)])
                clear hW2 hB2 hB1
                go_roundg (30 - (i + 1))
                case measure => omega
                case rel => exact ⟨i + 1, _, _, rfl, by omega, by go_num, (HA2.out.more (by omega)).cast Hst.out, HX2.out⟩
              · go_wp2_with fail
                refine hask.mono ?_
                clear hask
                rintro e W1 ⟨rfl, hB1⟩
                have hA1 := HA.out.below' hB1
                have hX1 := (clo_two ab kb (.int .i64 0) (.string ⟨#[]⟩)).below (V := V3) (S := S3) HX.out hB1
                simp only [qV, Esch.p0, List.length_nil]
                clear hB1
                go_wp2_with fail
                obtain ⟨W2, hW2, hB2, hz2, b0, b1, b2, b3, b4, b5, b6, b7, b8⟩ := ask_box W1 (.int .i64 qk) (.int .i64 qu) (.int .i64 qe) (.int .i64 qp) (.int .i64 qs) (.int .i64 qn) (.string qd) (.int .i64 0) (.slice none 0 0)
                rw [← hW2]
                have hA2 := hA1.below' hB2
                have HX2 := Lib.hid ((clo_two ab kb (.int .i64 0) (.string ⟨#[]⟩)).below (V := V3) (S := S3) hX1 hB2)
                have hc := hd1_hand hA2.hd (by omega) ⟨qk, qu, qe, qp, qs, qn, qd, Esch.p0⟩ rfl Hq2.out 0
                obtain ⟨⟨⟨x, xb⟩, hd'⟩, hxr⟩ : ∃ r, r = (ahIt (hd3, s0) i).1.ask ⟨qk, qu, qe, qp, qs, qn, qd, Esch.p0⟩ 0 := ⟨_, rfl⟩
                rw [← hxr] at hc
                simp only [qV, Esch.p0, List.length_nil] at hc
                have Hxr := Lib.hid hxr
                have HA2 := Lib.hid hA2
                clear hW2 hz2 hB2 hA1 hX1 hA2 hxr
                go_wp2_with fail
                refine hc.mono ?_
                clear hc b0 b1 b2 b3 b4 b5 b6 b7 b8
                rintro e W3 ⟨ya, ycc, rfl, hl3, hD3, hM3⟩
                have hA3 := HA2.out.hand hD3 hM3
                have HX3 := Lib.hid ((clo_two ab kb (.int .i64 0) (.string ⟨#[]⟩)).hand (V := V3) (S := S3) HX2.out hM3)
                have hh := apHear_any x ya ycc hA3.ap hA3.ok xb _ hl3 (fun k hk e => by
                  have hk : W2.heap.size ≤ k := hk
                  have := (HA2.out.sl ab HA2.out.ap.sb).2
                  omega)
                obtain ⟨xc, xn, xd, ⟨xpe, xls⟩, xm, xs, xe⟩ := x
                simp only [aV] at hh ⊢
                have HA3 := Lib.hid hA3
                have Hst := Lib.hid (show ahIt (hd3, s0) (i + 1) = (hd', (ahIt (hd3, s0) i).2.hear ⟨xc, xn, xd, ⟨xpe, xls⟩, xm, xs, xe⟩ xb) by
                  show ahTurn _ = _
                  unfold ahTurn apTurn
                  rw [if_neg (by have := Hq3.out; simpa using this.symm), ← Hq.out]
                  simp only
                  rw [← Hxr.out])
                clear hl3 hD3 hM3 hA3
                go_wp2_with fail
                refine hh.mono ?_
                clear hh
                rintro e W4 ⟨rfl, hR4, hM4⟩
                have HA4 := Lib.hid (HA3.out.chg hR4 (ApS.hear_ok HA3.out.ok _ _) hM4)
                have HX4 := Lib.hid ((clo_two ab kb (.int .i64 0) (.string ⟨#[]⟩)).chg (V := grow V3 W2 W3) (S := S3) HX3.out HA3.out.ap.sb hM4)
                clear hR4 hM4
                go_wp2_with fail
                go_roundg (30 - (i + 1))
                case measure => omega
                case rel => exact ⟨i + 1, _, _, rfl, by omega, by go_num, (HA4.out.more (by omega)).cast Hst.out, HX4.out⟩
            · obtain rfl : i = 30 := by omega
              clear hiN hi
              have hAe := hA.cast (s' := ({ hd3 with nd := n4 }, s4)) (by rw [ahIt_it, show it apN 30 ((hd3 : HdS).nd, s0) = (n4, s4) from HIT.out])
              have hov := apOver_any hAe.ap
              (try dsimp only at hov)
              rw [if_pos HF5.out, HFA.out, HFE.out] at hov
              have HA4 := Lib.hid hAe
              have HX4 := Lib.hid hX
              clear hA hX hAe
              go_wp2_with fail
              refine hov.mono ?_
              clear hov
              rintro e w20 ⟨rfl, hM20⟩
              have HA5 := Lib.hid (HA4.out.below' hM20.below)
              have HX5 := Lib.hid (HX4.out.below' hM20.below)
              clear hM20 HA4 HX4
              go_wp2_with fail
              go_loopg [32] 0 (fun g s32 wr => s32 = .int .i64 0 ∧ wr = w20)
              case atStart => exact ⟨rfl, rfl⟩
              case round =>
                obtain ⟨rfl, rfl⟩ := hrel
                have HLL := Lib.hid (HLS.out { hd3 with nd := n4 } rfl)
                have hBN := (HA5.out).hd.below
                have x0 := below_at hBN p0 l1
                have x1 := below_at hBN p1 l1
                have hrd : Calls Tryz.prog 37 #[.pointer (some ⟨hb, 0, none⟩), .agg #[.int .i64 q.epoch, .slice qa q.chains.length qc], .int .i64 (0), .bool true, .slice none 0 0] wr _ := read16_any (HA5.out).hd (by first | omega | (simp only [List.length_nil]; omega)) _ q (0) true qa qc Hsmq.out (HQ.out wr hBN) none [] 0 (fun h => absurd h (by simp)) (by simp) (fun _ _ e => by cases e)
                unfold Rd16Post at hrd
                (try dsimp only at hrd)
                clear hBN
                rw [show ([] : List Int).length + 30 = 30 from rfl, HLL.out] at hrd
                unfold tupK at hrd
                go_wp2_with fail
                refine hrd.mono ?_
                clear hrd x0 x1
                rintro e w22 ⟨rfl, hD22, -⟩
                have HB22 := Lib.hid hD22.below
                clear hD22
                go_wp2_with fail
                refine (wakes18_any _).mono ?_
                rintro e wz ⟨rfl, hBz⟩
                go_wp2_with fail
                go_ret
                exact ⟨rfl, HBW0.out.trans ((HB22.out.trans (hBz.mono (HB22.out).size)).mono HBW0.out.size)⟩
      · obtain ⟨kd, tx, hha⟩ := half1 Hnq.out.symm Hs0.out hi1 hN4 (by have := Hds.out; omega) HG8.out rfl HE.out
        obtain ⟨n4r, h1, h2, n4, s4, A, g1, g2, g3, g4, g5⟩ := hha hd3 Hn3.out
        obtain ⟨hd4, hhd4⟩ : ∃ x : HdS, x = { hd3 with nd := n4r } := ⟨_, rfl⟩
        rw [← hhd4] at h1
        have HIT := Lib.hid (show it apN 30 (hd4.nd, s0) = (n4, s4) by rw [hhd4]; exact g1)
        have HF5 := Lib.hid g2
        have HFA := Lib.hid g3
        have HFE := Lib.hid g4
        have HLS := Lib.hid g5
        have HR1 := Lib.hid h1
        have HR2 := Lib.hid h2
        clear g1 g2 g3 g4 g5 h1 h2 hi1 HE HG8 Hs0 HT2 hha hhd4
        go_wp2_with fail
        go_loopg [21] 1 (fun g s21 wr => (g = 1 ∧ s21 = .int .i64 0 ∧ wr = w15) ∨ (g = 0 ∧ s21 = .int .i64 1 ∧ ∃ V' S', Ah1 W0 300 hb ab V' S' (hd4, s0) wr ∧ Two kb (.int .i64 kd) (.string tx) V' S' wr))
        case atStart => exact Or.inl ⟨rfl, rfl, rfl⟩
        case round =>
          rcases hrel with ⟨rfl, rfl, rfl⟩ | ⟨rfl, rfl, V5, S5, hA5, hX5⟩
          · skip
            have hBN := (HA4.out).hd.below
            have x0 := below_at hBN p0 l1
            have x1 := below_at hBN p1 l1
            have hrd : Calls Tryz.prog 37 #[.pointer (some ⟨hb, 0, none⟩), .agg #[.int .i64 q.epoch, .slice qa q.chains.length qc], .int .i64 (0), .bool true, .slice none 0 0] wr _ := read16_any (HA4.out).hd (by first | omega | (simp only [List.length_nil]; omega)) _ q (0) true qa qc Hsmq.out (HQ.out wr hBN) none [] 0 (fun h => absurd h (by simp)) (by simp) (fun _ _ e => by cases e)
            unfold Rd16Post at hrd
            (try dsimp only at hrd)
            clear hBN
            rw [show ([] : List Int).length + 30 = 30 from rfl, HR1.out, HR2.out] at hrd
            unfold tupK at hrd
            go_wp2_with fail
            refine hrd.mono ?_
            clear hrd x0 x1
            rintro e w16 ⟨rfl, hD16, hM16⟩
            have HA5 := Lib.hid ((HA4.out.hand hD16 hM16).more (c' := 300) (by simp only [List.length_nil]; omega))
            have hX5 := HX4.out.hand hM16
            have c1 := hX5.c1
            have c2 := hX5.c2
            have f1 := hX5.f1
            have f2 := hX5.f2
            obtain ⟨w17, hw17, hM17, hX17⟩ := kt_set hX5 (.int .i64 kd) (.string tx)
            have HA6 := Lib.hid (HA5.out.mod hM17 (fun k hk e => by
              rcases e with e | e
              · subst e; exact hX5.n1 hk
              · subst e; exact hX5.n2 hk) (fun k hk e => by
              rcases e with e | e
              · subst e; exact hX5.m1 hk
              · subst e; exact hX5.m2 hk) (fun k hk e => by
              have := HKB.out
              omega))
            have HX6 := Lib.hid hX17
            have HW17 := Lib.hid hw17
            clear hD16 hM16 hX5 hM17 hX17 hw17
            go_wp2_with fail
            rw [← HW17.out]
            go_roundg 0
            case measure => omega
            case rel => exact Or.inr ⟨rfl, rfl, _, _, HA6.out, HX6.out⟩
          · have HAX := Lib.hid hA5
            have HXX := Lib.hid hX5
            clear hA5 hX5 HA4 HX4
            go_wp2_with fail
            go_loopg [26] 30 (fun g s26 wr => HlRel W0 hb ab 300 (hd4, s0) (Two kb (.int .i64 kd) (.string tx)) 30 g s26 wr)
            case atStart => exact ⟨0, _, _, rfl, by omega, rfl, HAX.out, HXX.out⟩
            case round =>
              clear HAX HXX
              obtain ⟨i, V3, S3, rfl, hi, rfl, hA, hX⟩ := hrel
              have i0 : (0 : Int) ≤ i := by omega
              by_cases hiN : i < 30
              · have i1 : (i : Int) < 30 := by omega
                obtain ⟨⟨⟨qk, qu, qe, qp, qs, qn, qd, qpr⟩, qb⟩, hq⟩ : ∃ r, r = (ahIt (hd4, s0) i).2.ask := ⟨_, rfl⟩
                have hask := apAsk_any hA.ap hA.ok
                have hq1 := (ahIt (hd4, s0) i).2.ask_p
                have hq2 := ApS.ask_data (s := (ahIt (hd4, s0) i).2) (by rw [ahIt_txt]; exact Hst0.out)
                have hq3 := (ahIt (hd4, s0) i).2.ask_is5
                rw [← hq] at hask hq1 hq2 hq3
                simp only at hq1 hq2 hq3
                subst hq1
                have Hq := Lib.hid hq
                have Hq2 := Lib.hid hq2
                have Hq3 := Lib.hid hq3
                have HA := Lib.hid hA
                have HX := Lib.hid hX
                clear hq hq2 hq3 hA hX
                cases qb
                · go_wp2_with fail
                  refine hask.mono ?_
                  clear hask
                  rintro e W1 ⟨rfl, hB1⟩
                  simp only [qV, Esch.p0, List.length_nil]
                  go_wp2_with fail
                  obtain ⟨W2, hW2, hB2, hz2, -⟩ := ask_box W1 (.int .i64 qk) (.int .i64 qu) (.int .i64 qe) (.int .i64 qp) (.int .i64 qs) (.int .i64 qn) (.string qd) (.int .i64 0) (.slice none 0 0)
                  rw [← hW2]
                  have HA2 := Lib.hid ((HA.out.below' hB1).below' hB2)
                  have HX2 := Lib.hid ((clo_two ab kb (.int .i64 kd) (.string tx)).below (V := V3) (S := S3) ((clo_two ab kb (.int .i64 kd) (.string tx)).below (V := V3) (S := S3) HX.out hB1) hB2)
                  have Hst := Lib.hid (show ahIt (hd4, s0) (i + 1) = ahIt (hd4, s0) i by show ahTurn _ = _; unfold ahTurn; rw [if_pos (by have := Hq3.out; simpa using this.symm)])
                  clear hW2 hB2 hB1
                  go_roundg (30 - (i + 1))
                  case measure => omega
                  case rel => exact ⟨i + 1, _, _, rfl, by omega, by go_num, (HA2.out.more (by omega)).cast Hst.out, HX2.out⟩
                · go_wp2_with fail
                  refine hask.mono ?_
                  clear hask
                  rintro e W1 ⟨rfl, hB1⟩
                  have hA1 := HA.out.below' hB1
                  have hX1 := (clo_two ab kb (.int .i64 kd) (.string tx)).below (V := V3) (S := S3) HX.out hB1
                  simp only [qV, Esch.p0, List.length_nil]
                  clear hB1
                  go_wp2_with fail
                  obtain ⟨W2, hW2, hB2, hz2, b0, b1, b2, b3, b4, b5, b6, b7, b8⟩ := ask_box W1 (.int .i64 qk) (.int .i64 qu) (.int .i64 qe) (.int .i64 qp) (.int .i64 qs) (.int .i64 qn) (.string qd) (.int .i64 0) (.slice none 0 0)
                  rw [← hW2]
                  have hA2 := hA1.below' hB2
                  have HX2 := Lib.hid ((clo_two ab kb (.int .i64 kd) (.string tx)).below (V := V3) (S := S3) hX1 hB2)
                  have hc := hd1_hand hA2.hd (by omega) ⟨qk, qu, qe, qp, qs, qn, qd, Esch.p0⟩ rfl Hq2.out 0
                  obtain ⟨⟨⟨x, xb⟩, hd'⟩, hxr⟩ : ∃ r, r = (ahIt (hd4, s0) i).1.ask ⟨qk, qu, qe, qp, qs, qn, qd, Esch.p0⟩ 0 := ⟨_, rfl⟩
                  rw [← hxr] at hc
                  simp only [qV, Esch.p0, List.length_nil] at hc
                  have Hxr := Lib.hid hxr
                  have HA2 := Lib.hid hA2
                  clear hW2 hz2 hB2 hA1 hX1 hA2 hxr
                  go_wp2_with fail
                  refine hc.mono ?_
                  clear hc b0 b1 b2 b3 b4 b5 b6 b7 b8
                  rintro e W3 ⟨ya, ycc, rfl, hl3, hD3, hM3⟩
                  have hA3 := HA2.out.hand hD3 hM3
                  have HX3 := Lib.hid ((clo_two ab kb (.int .i64 kd) (.string tx)).hand (V := V3) (S := S3) HX2.out hM3)
                  have hh := apHear_any x ya ycc hA3.ap hA3.ok xb _ hl3 (fun k hk e => by
                    have hk : W2.heap.size ≤ k := hk
                    have := (HA2.out.sl ab HA2.out.ap.sb).2
                    omega)
                  obtain ⟨xc, xn, xd, ⟨xpe, xls⟩, xm, xs, xe⟩ := x
                  simp only [aV] at hh ⊢
                  have HA3 := Lib.hid hA3
                  have Hst := Lib.hid (show ahIt (hd4, s0) (i + 1) = (hd', (ahIt (hd4, s0) i).2.hear ⟨xc, xn, xd, ⟨xpe, xls⟩, xm, xs, xe⟩ xb) by
                    show ahTurn _ = _
                    unfold ahTurn apTurn
                    rw [if_neg (by have := Hq3.out; simpa using this.symm), ← Hq.out]
                    simp only
                    rw [← Hxr.out])
                  clear hl3 hD3 hM3 hA3
                  go_wp2_with fail
                  refine hh.mono ?_
                  clear hh
                  rintro e W4 ⟨rfl, hR4, hM4⟩
                  have HA4 := Lib.hid (HA3.out.chg hR4 (ApS.hear_ok HA3.out.ok _ _) hM4)
                  have HX4 := Lib.hid ((clo_two ab kb (.int .i64 kd) (.string tx)).chg (V := grow V3 W2 W3) (S := S3) HX3.out HA3.out.ap.sb hM4)
                  clear hR4 hM4
                  go_wp2_with fail
                  go_roundg (30 - (i + 1))
                  case measure => omega
                  case rel => exact ⟨i + 1, _, _, rfl, by omega, by go_num, (HA4.out.more (by omega)).cast Hst.out, HX4.out⟩
              · obtain rfl : i = 30 := by omega
                clear hiN hi
                have hAe := hA.cast (s' := ({ hd4 with nd := n4 }, s4)) (by rw [ahIt_it, show it apN 30 ((hd4 : HdS).nd, s0) = (n4, s4) from HIT.out])
                have hov := apOver_any hAe.ap
                (try dsimp only at hov)
                rw [if_pos HF5.out, HFA.out, HFE.out] at hov
                have HA4 := Lib.hid hAe
                have HX4 := Lib.hid hX
                clear hA hX hAe
                go_wp2_with fail
                refine hov.mono ?_
                clear hov
                rintro e w20 ⟨rfl, hM20⟩
                have HA5 := Lib.hid (HA4.out.below' hM20.below)
                have HX5 := Lib.hid (HX4.out.below' hM20.below)
                clear hM20 HA4 HX4
                go_wp2_with fail
                obtain ⟨n5, k1, k2, k3⟩ := HLS.out { hd4 with nd := n4 } rfl
                have HK1 := Lib.hid k1
                have HK2 := Lib.hid k2
                have HK3 := Lib.hid k3
                clear k1 k2 k3
                go_loopg [32] 1 (fun g s32 wr => (g = 1 ∧ s32 = .int .i64 0 ∧ wr = w20) ∨ (g = 0 ∧ s32 = .int .i64 1 ∧ ∃ V', Ah1 W0 500 hb ab V' S3 ({ hd4 with nd := n5 }, s4) wr))
                case atStart => exact Or.inl ⟨rfl, rfl, rfl⟩
                case round =>
                  rcases hrel with ⟨rfl, rfl, rfl⟩ | ⟨rfl, rfl, V5, hA5⟩
                  · skip
                    have hBN := (HA5.out).hd.below
                    have x0 := below_at hBN p0 l1
                    have x1 := below_at hBN p1 l1
                    have hrd : Calls Tryz.prog 37 #[.pointer (some ⟨hb, 0, none⟩), .agg #[.int .i64 q.epoch, .slice qa q.chains.length qc], .int .i64 (0), .bool true, .slice none 0 0] wr _ := read16_any (HA5.out).hd (by first | omega | (simp only [List.length_nil]; omega)) _ q (0) true qa qc Hsmq.out (HQ.out wr hBN) none [] 0 (fun h => absurd h (by simp)) (by simp) (fun _ _ e => by cases e)
                    unfold Rd16Post at hrd
                    (try dsimp only at hrd)
                    clear hBN
                    rw [show ([] : List Int).length + 30 = 30 from rfl, HK1.out, HK2.out] at hrd
                    unfold tupK at hrd
                    go_wp2_with fail
                    refine hrd.mono ?_
                    clear hrd x0 x1
                    rintro e w21 ⟨rfl, hD21, hM21⟩
                    have hA21 := (HA5.out.hand hD21 hM21).more (c' := 500) (by simp only [List.length_nil]; omega)
                    have HA21 := Lib.hid hA21
                    have hX21 := HX5.out.hand hM21
                    have c1 := hX21.c1
                    have c2 := hX21.c2
                    have htt : (tx.toList == tx.toList) = true := beq_self_eq_true _
                    clear hA21 hX21 hD21 hM21
                    go_wp2_with fail
                    go_roundg 0
                    case measure => omega
                    case rel => exact Or.inr ⟨rfl, rfl, _, HA21.out⟩
                  · have HA6 := Lib.hid hA5
                    clear hA5 HA5 HX5
                    have HLL := Lib.hid (HK3.out { hd4 with nd := n5 } rfl)
                    have hBN := (HA6.out).hd.below
                    have x0 := below_at hBN p0 l1
                    have x1 := below_at hBN p1 l1
                    have hrd : Calls Tryz.prog 37 #[.pointer (some ⟨hb, 0, none⟩), .agg #[.int .i64 q.epoch, .slice qa q.chains.length qc], .int .i64 (A), .bool true, .slice none 0 0] wr _ := read16_any (HA6.out).hd (by first | omega | (simp only [List.length_nil]; omega)) _ q (A) true qa qc Hsmq.out (HQ.out wr hBN) none [] 0 (fun h => absurd h (by simp)) (by simp) (fun _ _ e => by cases e)
                    unfold Rd16Post at hrd
                    (try dsimp only at hrd)
                    clear hBN
                    rw [show ([] : List Int).length + 30 = 30 from rfl, HLL.out] at hrd
                    unfold tupK at hrd
                    go_wp2_with fail
                    refine hrd.mono ?_
                    clear hrd x0 x1
                    rintro e w22 ⟨rfl, hD22, -⟩
                    have HB22 := Lib.hid hD22.below
                    clear hD22
                    go_wp2_with fail
                    refine (wakes18_any _).mono ?_
                    rintro e wz ⟨rfl, hBz⟩
                    go_wp2_with fail
                    go_ret
                    exact ⟨rfl, HBW0.out.trans ((HB22.out.trans (hBz.mono (HB22.out).size)).mono HBW0.out.size)⟩

set_option maxRecDepth 100000 in
set_option maxHeartbeats 2000000 in
theorem reformHalf_lifted (os : Os) (started : os.Started) (H : Type) (enc : TypeId × Value → H) :
    ReturnsInHanded {} Tryz.checked os 6 .any (Rows.reformHalfSpec.pre6 enc Tryz.prog Tryz.f6 Rows.reformHalfRow.domain false) (Rows.reformHalfSpec.post enc Tryz.prog Tryz.f6 false true false false) := by
  refine returnsInHanded_of_change (C := Tryz.checked) Tryz.ownP started (by kernel_rfl) Tryz.func6
    (ChangeSpec.witness6 (enc := enc) (C := Tryz.checked) false ⟨#[], #[.string ⟨#[]⟩, .agg #[.int .u8 0, .int .u8 0], .agg #[.int .i64 0, .slice none 0 0]], []⟩ 8 (by kernel_rfl) (by kernel_rfl) (by kernel_rfl) (by kernel_rfl)) ?_
  intro W base args ds gs before hval0 hW hcnd _
  have hval : ∀ (j : Nat) t v, Tryz.f6.params[j]? = some t → args[j]? = some v → Value.okWide Tryz.prog W .any base t v := hval0
  have hW' := hW
  obtain ⟨p, q, hA0, hV, rfl, hfz, hnd⟩ := hW
  have hA : DataW.TrodAll enc Tryz.prog W 0 (fun _ => true) true Tryz.f6.params.toList args.toList ds p := hA0
  rw [Tryz.params6] at hA hval
  obtain ⟨v0, vs0, d0, ds0, p0, q0, hargs, rfl, rfl, h0, r0⟩ := trodAll_cons hA
  obtain ⟨v1, vs1, d1, ds1, p1, q1, rfl, rfl, rfl, h1, r1⟩ := trodAll_cons r0
  obtain ⟨v2, vs2, d2, ds2, p2, q2, rfl, rfl, rfl, h2, r2⟩ := trodAll_cons r1
  obtain ⟨rfl, rfl, rfl⟩ := trodAll_nil r2
  obtain rfl : args = #[v0, v1, v2] := by cases args; simp_all
  obtain ⟨rfl, rfl⟩ := trodVars_none hV
  obtain ⟨cs0, x0, hv0, hr0⟩ := open_arg (n := 9) (T := .str) (by kernel_rfl) (hval 0 9 v0 rfl rfl) h0
  obtain ⟨a1, b1, hv1, hr1⟩ := open_arr2 (e := 5) (by kernel_rfl) (by kernel_rfl) (by kernel_rfl) (by kernel_rfl) (hval 1 71 v1 rfl rfl) h1
  obtain ⟨cs2, x2, hv2, hr2⟩ := open_arg (n := 9) (T := tyProj) (by kernel_rfl) (hval 2 24 v2 rfl rfl) h2
  obtain ⟨rec, rfl, -, -⟩ := rd_str.1 hr0
  obtain ⟨pe, pa, ls, pc, e2, hp⟩ := rd_proj hr2
  simp only [tyProj, Ty.isStruct, Bool.false_eq_true, if_false, if_true] at hv0 hv2
  subst e2
  subst hv0
  subst hv1
  subst hv2
  clear hA0 hval0
  refine (reformHalf_walk _ rec a1 b1 hr1.1 hr1.2 ⟨pe, ls⟩ pa pc W hp).mono fun e W' ⟨he, hb⟩ => ?_
  subst he
  exact ⟨_, rfl, law_post Tryz.laidOutP (by kernel_rfl) rfl Tryz.underlying4 hW' rfl rfl rfl rfl hb⟩

theorem reformHalf_holds : Rows.ReformHalfSaid :=
  OpenClaim.holds_of_wide 6 Tryz.f6 rfl rfl rfl rfl rfl rfl rfl ⟨rfl, rfl, rfl, rfl, rfl⟩ rfl rfl rfl rfl rfl (by kernel_rfl) Tryz.func6 (by kernel_rfl)
    (of_decide_eq_true (by kernel_rfl)) (by unfold Func.isWrapper; first | (rw [if_pos (by decide +kernel)]; kernel_rfl) | (rw [if_neg (by decide +kernel)]; exact ⟨rfl, rfl⟩))
    (fun os started H enc _ => reformHalf_lifted os started H enc)
end Go.Proofs.YtghdhhbpbmhooaaGreat
