/-
  The law AppendEnds: an append whose questions are heard from some time on is over, and its record is on all units of its chain.
  Conditions: none.
-/
import Derived.Test.YtohmmjaikhpcfaaGreatEndsM
import Derived.Test.YtohmmjaikhpcfaaGreatRPlace
import Derived.Test.YtohmmjaikhpcfaaGreatRow
import Derived.Test.YtohmmjaikhpcfaaGreatReadApi
import Derived.Test.YtohmmjaikhpcfaaGreatBytes8
namespace Go.Proofs.YtohmmjaikhpcfaaGreat
open Go.RowKit Esch Go.ChangeShapes Go.WideShapes Go.ChangeAt

theorem litE (w : World) : ∃ W, W = (((w.alloc (.cells #[.int .i64 0, .int .i64 1, .int .i64 2] 3)).alloc (.cells #[.int .i64 3] 3)).alloc (.cells #[.slice (some ⟨w.heap.size, 0, none⟩) 3 3, .slice (some ⟨w.heap.size + 1, 0, none⟩) 1 1] 24)).alloc (.cells #[.int .i64 0, .slice (some ⟨w.heap.size + 1 + 1, 0, none⟩) 2 2] 27) ∧
    Below w.heap.size w W ∧ W.heap.size = w.heap.size + 4 ∧ W.cell? ⟨w.heap.size + 1 + 1 + 1, 0, none⟩ = some (.int .i64 0) ∧ W.cell? ⟨w.heap.size + 1 + 1 + 1, 1, none⟩ = some (.slice (some ⟨w.heap.size + 1 + 1, 0, none⟩) 2 2) ∧ ListsAt (From w.heap.size) W (some ⟨w.heap.size + 1 + 1, 0, none⟩) qE.chains := by
  refine ⟨_, rfl, by (repeat (first | with_reducible exact (Below.refl _ _) | with_reducible refine Below.drew ?_ | with_reducible refine Esch.below_drewN ?_ _ | with_reducible refine Below.setCell ?_ (by first | omega | (simp; done) | (simp; omega)) _ | with_reducible refine Below.alloc ?_ (by first | omega | (simp; done) | (simp; omega)) _)), by simp, by go_simp, by go_simp, ⟨by simp, fun _ => ⟨w.heap.size + 1 + 1, 0, rfl, by show w.heap.size ≤ _; omega, by simp, fun i hi => ?_⟩⟩⟩
  simp only [List.length_cons, List.length_nil] at hi
  have : i = 0 ∨ i = 1 := by omega
  rcases this with rfl | rfl
  · refine ⟨some ⟨w.heap.size, 0, none⟩, 3, by go_simp, ⟨by simp, fun _ => ⟨w.heap.size, 0, rfl, Nat.le_refl _, by simp only [World.size_alloc]; omega, fun j hj => ?_⟩⟩, by simp, by omega⟩
    simp only [List.getD_cons_zero, List.length_cons, List.length_nil] at hj
    have : j = 0 ∨ j = 1 ∨ j = 2 := by omega
    rcases this with rfl | rfl | rfl
    · go_simp
    · go_simp
    · go_simp
  · refine ⟨some ⟨w.heap.size + 1, 0, none⟩, 1, by go_simp, ⟨by simp, fun _ => ⟨w.heap.size + 1, 0, rfl, by show w.heap.size ≤ _; omega, by simp only [World.size_alloc]; omega, fun j hj => ?_⟩⟩, by simp, by omega⟩
    simp only [List.getD_cons_succ, List.getD_cons_zero, List.length_cons, List.length_nil] at hj
    obtain rfl : j = 0 := by omega
    go_simp
theorem cell_both {W w : World} {n b o : Nat} {v : Value} (hB : Below n W w) (hc : W.cell? ⟨b, o, none⟩ = some v) (hb : b < n) : w.cell? ⟨b, o, none⟩ = some v ∧ b < w.heap.size := ⟨below_at hB hc hb, cell_lt (below_at hB hc hb)⟩
theorem stE_txt {rec : ByteArray} (fates done : List Int) (h : rec.size ≤ 1000) : ∀ i, (stE rec fates done i).2.txt = rec
  | 0 => by
    show (ap0 qE rec).txt = rec
    unfold ap0
    rw [if_neg (by decide), if_neg (by omega)]
  | i + 1 => by
    show (roundE (stE rec fates done i) _ _).2.txt = _
    have e : ∀ f d, (roundE (stE rec fates done i) f d).2 = (apTurn (stE rec fates done i) f).2 := fun f d => by cases d <;> rfl
    rw [e]
    show ((stE rec fates done i).2.hear _ _).txt = _
    rw [ApS.hear_txt, stE_txt fates done h i]
def EndsRel (rec : ByteArray) (fates done : List Int) (w0 : World) (hb ab g : Nat) (s12 : Value) (wr : World) : Prop := ∃ (i : Nat) (V : Nat → Prop), g = fates.length + 40 - i ∧ i ≤ fates.length + 40 ∧ s12 = .int .i64 i ∧ Ap1 w0 (2 * i) hb ab V (stE rec fates done i).1 (stE rec fates done i).2 wr ∧ ∀ j, j < i → (stE rec fates done j).2.at ≠ 5
def EndsRel2 (w9 : World) (n g : Nat) (s21 : Value) (wr : World) : Prop := ∃ k : Nat, g = n - k ∧ k ≤ n ∧ s21 = .int .i64 k ∧ Mod none' w9 wr
set_option maxRecDepth 100000 in
set_option maxHeartbeats 8000000 in
theorem appendEnds_walk (rec : ByteArray) (hsz : rec.size ≤ 9223372036854775807) (fa : Option Addr) (fates : List Int) (fc : Nat) (da : Option Addr) (done : List Int) (dc : Nat) (w : World) (hfa : BytesAt w fa fates) (hda : BytesAt w da done) (hfl : fates.length ≤ 9223372036854775807) (hdl : done.length ≤ 9223372036854775807) :
    Calls Tryz.prog 10 #[.string rec, .slice fa fates.length fc, .slice da done.length dc] w fun r w' => r = .returned (.bool true) ∧ Below w.heap.size w w' := by
  have HFA := Lib.hid hfa
  have HDN := Lib.hid hda
  clear hfa hda
  by_cases hr1 : 1000 < rec.size
  · have hr1' : (1000 : Int) < rec.size := by omega
    clear hr1
    go_enter Tryz.func10, Tryz.ntmps10
    go_wp2_with fail
    refine (wakes15_any _).mono ?_
    rintro e w7 ⟨rfl, hB7⟩
    go_wp2_with fail
    go_ret
    exact ⟨rfl, hB7⟩
  have hr1' : (rec.size : Int) ≤ 1000 := by omega
  have Hrec := Lib.hid (show rec.size ≤ 1000 by omega)
  clear hr1 hsz
  by_cases hf1 : 60 < fates.length
  · have hf1' : (60 : Int) < fates.length := by omega
    clear hf1
    go_enter Tryz.func10, Tryz.ntmps10
    go_wp2_with fail
    refine (wakes15_any _).mono ?_
    rintro e w7 ⟨rfl, hB7⟩
    go_wp2_with fail
    go_ret
    exact ⟨rfl, hB7⟩
  have hf1' : (fates.length : Int) ≤ 60 := by omega
  have Hf := Lib.hid (show fates.length ≤ 60 by omega)
  clear hf1 hfl
  go_enter Tryz.func10, Tryz.ntmps10
  go_wp2_with fail
  obtain ⟨WE, hWE, hBE, hzE, p0, p1, hlE⟩ := litE w
  rw [← hWE]
  have HBW := Lib.hid hBE
  have HLE := Lib.hid hlE
  have hpl : w.heap.size + 1 + 1 + 1 < WE.heap.size := by omega
  have hmk : Calls Tryz.prog 11 #[.agg #[.int .i64 0, .slice (some ⟨w.heap.size + 1 + 1, 0, none⟩) 2 2], .int .i64 200] _ _ := made_any _ WE qE _ 2 200 (by decide) hlE (by decide) (by decide)
  clear hWE hBE hzE hlE
  go_wp2_with fail
  refine hmk.mono ?_
  clear hmk
  rintro e w2 ⟨hb, rb, nb, rfl, hH2, -, hB2⟩
  have q0 := below_at hB2 p0 hpl
  have q1 := below_at hB2 p1 hpl
  have hnw : Calls Tryz.prog 14 #[.agg #[.int .i64 0, .slice (some ⟨w.heap.size + 1 + 1, 0, none⟩) 2 2], .string rec] _ _ := ap1_new (c := 0) hH2 (by omega) (fun k hk => by rcases hk with hk | hk; exact hk.elim; omega) hB2 _ qE rec _ 2 ⟨by decide, by decide⟩ (HLE.out.mod (F := none') (Mod.of_below hB2) (fun _ _ _ => id))
  clear hH2 hB2
  go_wp2_with fail
  refine hnw.mono ?_
  clear hnw
  rintro e w4 ⟨ab, rfl, hA, -⟩
  have HA := Lib.hid hA
  clear hA q0 q1
  go_wp2_with fail
  go_loopg [12] (fates.length + 40) (fun g s12 wr => EndsRel rec fates done WE hb ab g s12 wr)
  case atStart => exact ⟨0, _, rfl, by omega, rfl, HA.out, fun j hj => absurd hj (by omega)⟩
  case round =>
    clear HA
    obtain ⟨i, V, rfl, hi, rfl, hA, hbef⟩ := hrel
    have Hbef := Lib.hid hbef
    clear hbef
    have i1 : (0 : Int) ≤ i := by omega
    have i2 : (i : Int) ≤ fates.length + 40 := by omega
    by_cases hi3 : i < fates.length + 40
    · have i0 : (i : Int) < fates.length + 40 := by omega
      by_cases h5 : (stE rec fates done i).2.at = 5
      · obtain ⟨qk, qu, qe, qp, qs, qn, qd, hr, hds⟩ := (stE rec fates done i).2.ask_form (by rw [stE_txt fates done Hrec.out]; have := Hrec.out; omega) (show (stE rec fates done i).2.ask.2 = false by rw [ApS.ask_2]; simp [h5])
        have HA := Lib.hid hA
        have H5 := Lib.hid h5
        clear h5
        go_wp2_with fail
        refine (ap1_ask hA).mono ?_
        rw [hr]
        rintro e W1 ⟨rfl, hB1⟩
        have hA1 := HA.out.below' hB1
        clear hA HA hB1
        simp only [qV, Esch.p0, List.length_nil]
        go_wp2_with fail
        obtain ⟨W2, hW2, hB2, hz2, -⟩ := ask_box W1 (.int .i64 qk) (.int .i64 qu) (.int .i64 qe) (.int .i64 qp) (.int .i64 qs) (.int .i64 qn) (.string qd) (.int .i64 0) (.slice none 0 0)
        rw [← hW2]
        have hA := hA1.below' hB2
        clear hW2 hz2 hB2 hA1 hr hds i0 i2
        have hI := (stE_inv (done := done) Hrec.out Hf.out i (hi) Hbef.out).1
        obtain ⟨hov', hx0, hx1, hrd⟩ := hI.fin (H5.out)
        have hov := ap1_over hA
        rw [hov'] at hov
        obtain ⟨x, hx⟩ : ∃ x, x = (stE rec fates done i).2.addr := ⟨_, rfl⟩
        rw [← hx] at hov hx0 hx1 hrd
        have HA := Lib.hid hA
        have Hrd := Lib.hid hrd
        clear hA hI hov' hx hrd
        go_wp2_with fail
        refine hov.mono ?_
        clear hov
        rintro e w6 ⟨rfl, hM6⟩
        have hB6 : Below WE.heap.size WE w6 := HA.out.below.trans (hM6.below_at HA.out.below.size (fun _ _ h => h))
        have q0 := below_at hB6 p0 hpl
        have q1 := below_at hB6 p1 hpl
        have hch := rChain_any _ w6 qE _ 2 x (HLE.out.mod (F := none') (Mod.of_below hB6) (fun _ _ _ => id))
        have HM6 := Lib.hid hM6
        have HB6 := Lib.hid hB6
        clear hM6 hB6
        go_wp2_with fail
        refine hch.mono ?_
        clear hch
        rintro e w7 ⟨ca, cc, rfl, hci, hB7⟩
        have hz7 := hB7.size
        have hpl6 := cell_lt q0
        replace q0 := below_at hB7 q0 hpl6
        replace q1 := below_at hB7 q1 hpl6
        have HB7 := Lib.hid (HB6.out.trans (hB7.mono HB6.out.size))
        have HM7 := Lib.hid (HM6.out.trans (Mod.of_below hB7))
        have hof := rOf_any _ w7 qE _ 2 x (HLE.out.mod (F := none') (Mod.of_below HB7.out) (fun _ _ _ => id))
        obtain ⟨r0, r1, rb, hr⟩ : ∃ r0 r1 rb, ofP qE x = (r0, r1, rb) := ⟨_, _, _, rfl⟩
        unfold ROfPost at hof
        rw [hr] at hof
        simp only [gotV] at hof
        have Hr1 := Lib.hid hr
        have HCI := Lib.hid hci
        clear hB7 hr hci hz7
        go_wp2_with fail
        refine hof.mono ?_
        clear hof
        rintro e w8 ⟨rfl, hB8⟩
        have HB8 := Lib.hid (HB7.out.trans (hB8.mono HB7.out.size))
        have HM8 := Lib.hid (HM7.out.trans (Mod.of_below hB8))
        have HCI8 := Lib.hid (HCI.out.mod (F := none') (Mod.of_below hB8) (fun _ _ _ => id))
        obtain ⟨lc, hlc⟩ : ∃ lc, lc = chainP qE x := ⟨_, rfl⟩
        rw [← hlc] at HCI8 Hrd ⊢
        have hl3 : lc.length ≤ 3 := by rw [hlc]; exact (chain_nat hx0 (by omega)).1
        have hl1 : 1 ≤ lc.length := by rw [hlc]; rcases chainP_qE hx0 (by omega) with e | e <;> (rw [e]; decide)
        have Hlc := Lib.hid hlc
        clear hB8 hlc q0 q1 HCI HB7 HM7 HB6 HM6
        go_wp2_with fail
        obtain ⟨w9, hw9, hB9, hz9, g0, g1, g2⟩ := got_box w8 (.int .i64 r0) (.int .i64 r1) (.bool rb)
        rw [← hw9]
        have HB9 := Lib.hid (HB8.out.trans (hB9.mono HB8.out.size))
        have HM9 := Lib.hid (HM8.out.trans (Mod.of_below hB9))
        have HCI9 := Lib.hid (HCI8.out.mod (F := none') (Mod.of_below hB9) (fun _ _ _ => id))
        obtain ⟨⟨U, S, T, hH, -⟩, -⟩ := HA.out
        obtain ⟨nb', hn, hu⟩ := hH.nodes
        have Hn := Lib.hid hn
        have Hu := Lib.hid hu
        have hgl : w8.heap.size < w9.heap.size := by omega
        clear hw9 hB9 hz9 HM8 HB8 HCI8 hH hn hu g0 g2
        go_loopg [21] lc.length (fun g s21 wr => EndsRel2 w9 lc.length g s21 wr)
        case atStart => exact ⟨0, rfl, Nat.zero_le _, rfl, Mod.refl _ _⟩
        case round =>
          obtain ⟨k, rfl, hk, rfl, hMr⟩ := hrel
          by_cases hkl : k < lc.length
          · obtain ⟨u, hu16, hcu, hread⟩ := Hrd.out k hkl
            rw [show (ofP qE x).2.1 = r1 by rw [Hr1.out]] at hread
            obtain ⟨cb, coff, rfl, -, hcb, hcc⟩ := HCI9.out.2 (by omega)
            have hck := hcc k hkl
            rw [hcu] at hck
            have hMrd : Mod none' w9 wr.drew := hMr.drew
            have k0 : wr.drew.cell? ⟨cb, coff + k, none⟩ = some (.int .i64 u) := hMrd.at hck id
            have k1 : wr.drew.cell? ⟨w8.heap.size, 1, none⟩ = some (.int .i64 r1) := hMrd.at g1 id
            have hMr0 := HM9.out.trans hMrd
            have hcn := Hn.out wr.drew hMr0
            obtain ⟨⟨ub, pb, r1', r2', r3'⟩, gk⟩ := Hu.out u hu16
            have hcu1 := r1' wr.drew hMr0
            have R2 := Lib.hid r2'
            have R3 := Lib.hid r3'
            have HMr := Lib.hid hMr
            have HMr0 := Lib.hid hMr0
            have HMrd := Lib.hid hMrd
            have Hread := Lib.hid hread
            have n0 : (0 : Int) ≤ k := by omega
            have n1 : (k : Int) < lc.length := by omega
            clear hck hcc r1' r2' r3' hMr hMr0 hMrd hread hcu g1
            go_wp2_with fail
            go_region_held3 (fun w' => w'.cell? ⟨cb, coff + k, none⟩ = some (.int .i64 u) ∧ w'.cell? ⟨w8.heap.size, 1, none⟩ = some (.int .i64 r1))
              (first
                | with_reducible exact ⟨k0, k1⟩
                | with_reducible exact ⟨z0, z1⟩
                | with_reducible exact ⟨y0, y1⟩)
              (first
                | (go_at_call 19; (with_reducible refine hcn.mono ?_); rintro e w10 ⟨rfl, rfl⟩)
                | (go_at_call 20; (with_reducible refine hcu1.mono ?_); rintro e w11 ⟨rfl, hM11⟩
                   have z0 := hM11.at k0 id
                   have z1 := hM11.at k1 id
                   have hcp1 := R2.out w11 (HMr0.out.trans hM11)
                   obtain ⟨mb, hP⟩ := R3.out w11 (HMr0.out.trans hM11)
                   have hcr := pread_any w11 pb mb _ gk hP r1
                   rw [Hread.out] at hcr
                   unfold RdPost at hcr
                   simp only at hcr
                   have HM11 := Lib.hid hM11
                   clear hM11 hP)
                | (go_at_call 21; (with_reducible refine hcp1.mono ?_); rintro e w12 ⟨rfl, rfl⟩)
                | (go_at_call 22; (with_reducible refine hcr.mono ?_); rintro e w13 ⟨rfl, hM13⟩
                   have y0 := hM13.at z0 id
                   have y1 := hM13.at z1 id
                   have HM13 := Lib.hid hM13
                   clear hM13))
            have hMe := HMrd.out.trans (HM11.out.trans HM13.out)
            clear k0 k1 z0 z1 y0 y1 hcn hcu1 hcp1 hcr HM11 HM13
            have HMe := Lib.hid hMe
            clear hMe
            go_wp2_with fail
            go_roundg (lc.length - (k + 1))
            case measure => omega
            case rel => exact ⟨k + 1, rfl, by omega, by go_num, HMe.out⟩
          · obtain rfl : k = lc.length := by omega
            have HMr := Lib.hid hMr
            have hBr : Below w.heap.size w wr := HBW.out.trans ((HB9.out.trans (hMr.below_at HB9.out.size (fun _ _ h => h))).mono HBW.out.size)
            have HBr := Lib.hid hBr
            clear hMr hkl hk hBr
            go_wp2_with fail
            refine (wakes15_any _).mono ?_
            rintro e w10 ⟨rfl, hB10⟩
            have HB10 := Lib.hid hB10
            clear hB10
            go_wp2_with fail
            go_ret
            exact ⟨rfl, HBr.out.trans (HB10.out.mono HBr.out.size)⟩
      · obtain ⟨qk, qu, qe, qp, qs, qn, qd, hr, hds⟩ := (stE rec fates done i).2.ask_form (by rw [stE_txt fates done Hrec.out]; have := Hrec.out; omega) (show (stE rec fates done i).2.ask.2 = true by rw [ApS.ask_2]; simp [h5])
        have Hr := Lib.hid hr
        have H5 := Lib.hid h5
        have hlt6 := Hf.out
        clear h5
        by_cases hff : i < fates.length
        · obtain ⟨fb, foff, rfl, hfb, hfc⟩ := HFA.out (by omega)
          obtain ⟨hfv, hf0, hf1⟩ := hfc i hff
          have hfbl : fb < WE.heap.size := Nat.lt_of_lt_of_le hfb HBW.out.size
          have hfvW := below_at HBW.out hfv hfb
          have hff' : decide (i < fates.length) = true := by simpa using hff
          obtain ⟨fv, hfv'⟩ : ∃ fv, fv = fates.getD i 0 := ⟨_, rfl⟩
          have hfq : (if i < fates.length then fates.getD i 0 % 4 else 0) = fv % 4 := by rw [if_pos hff, hfv']
          rw [← hfv'] at hfvW hf0 hf1
          have Hfv := Lib.hid hfv'
          have Hfq := Lib.hid hfq
          have n0 : (i : Int) < fates.length := by omega
          clear hfv hfc hfv' hfq hff
          go_wp2_with fail
          refine (ap1_ask hA).mono ?_
          rw [hr]
          rintro e W1 ⟨rfl, hB1⟩
          have hA1 := hA.below' hB1
          clear hA hB1
          obtain ⟨hfv1, hfl1⟩ := cell_both hA1.below hfvW hfbl
          simp only [qV, Esch.p0, List.length_nil]
          go_wp2_with fail
          obtain ⟨W2, hW2, hB2, hz2, b0, b1, b2, b3, b4, b5, b6, b7, b8⟩ := ask_box W1 (.int .i64 qk) (.int .i64 qu) (.int .i64 qe) (.int .i64 qp) (.int .i64 qs) (.int .i64 qn) (.string qd) (.int .i64 0) (.slice none 0 0)
          rw [← hW2]
          have hA2 := hA1.below' hB2
          clear hW2 hz2 hB2 hA1
          have hc := ap1_hand hA2 (by omega) ⟨qk, qu, qe, qp, qs, qn, qd, Esch.p0⟩ rfl hds (fv % 4)
          obtain ⟨⟨⟨x, xb⟩, hd'⟩, hxr⟩ : ∃ r, r = (stE rec fates done i).1.ask ⟨qk, qu, qe, qp, qs, qn, qd, Esch.p0⟩ (fv % 4) := ⟨_, rfl⟩
          rw [← hxr] at hc
          simp only [qV, Esch.p0, List.length_nil] at hc
          have Hxr := Lib.hid hxr
          have hab := hA2.ablt
          clear hA2 hxr
          go_wp2_with fail
          refine hc.mono ?_
          clear hc b0 b1 b2 b3 b4 b5 b6 b7 b8
          rintro e W3 ⟨xa, xcc, rfl, hl3, hA3, -⟩
          have hh := ap1_hear hA3 x xa xcc xb _ hl3 (fun k hk e => by have hk : W2.heap.size ≤ k := hk; omega)
          obtain ⟨xc, xn, xd, ⟨xpe, xls⟩, xm, xs, xe⟩ := x
          simp only [aV] at hh ⊢
          clear hl3 hA3 hab
          go_wp2_with fail
          refine hh.mono ?_
          clear hh
          rintro e W4 ⟨rfl, hA4, -⟩
          have HA4 := Lib.hid hA4
          clear hA4
          by_cases hdd : i < done.length
          · skip
            obtain ⟨db, doff, rfl, hdb, hdc⟩ := HDN.out (by omega)
            obtain ⟨hdv, hd0, hd1⟩ := hdc i (by omega)
            have hdl : db < WE.heap.size := Nat.lt_of_lt_of_le hdb HBW.out.size
            have hdv4 := below_at HA4.out.below (below_at HBW.out hdv hdb) hdl
            have hdd' : decide (i < done.length) = true := by simpa using hdd
            obtain ⟨dv, hdv'⟩ : ∃ dv, dv = done.getD i 0 := ⟨_, rfl⟩
            have hdn : (if i < done.length then some (done.getD i 0) else none) = some dv := by rw [if_pos hdd, hdv']
            have Hdn := Lib.hid hdn
            rw [← hdv'] at hdv4 hd0 hd1
            have Hdv := Lib.hid hdv'
            have hdo := ap1_do HA4.out (by omega) dv
            have n2 : (i : Int) < done.length := by omega
            clear hdn hdv hdc hdv' hdd
            go_wp2_with fail
            refine hdo.mono ?_
            clear hdo
            rintro e W5 ⟨rfl, hA5, -⟩
            have HA5 := Lib.hid hA5
            clear hA5 hdv4
            go_wp2_with fail
            go_roundg (fates.length + 40 - (i + 1))
            case measure => omega
            case rel =>
              have e : stE rec fates done (i + 1) = ((hd'.doHeld dv).2, (stE rec fates done i).2.hear ⟨xc, xn, xd, ⟨xpe, xls⟩, xm, xs, xe⟩ xb) := by
                show roundE (stE rec fates done i) (if i < fates.length then fates.getD i 0 % 4 else 0) (if i < done.length then some (done.getD i 0) else none) = _
                rw [Hdn.out, Hfq.out]
                show (((apTurn _ _).1.doHeld dv).2, (apTurn _ _).2) = _
                unfold apTurn
                rw [Hr.out, ← Hxr.out]
              exact ⟨i + 1, _, rfl, by omega, by go_num, (HA5.out.cast e).more (by omega), fun j hj => by
                by_cases ej : j = i
                · subst ej; exact H5.out
                · exact Hbef.out j (by omega)⟩
          · skip
            have hdd : done.length ≤ i := by omega
            have hdd' : decide (i < done.length) = false := by simpa using hdd
            have hdn : (if i < done.length then some (done.getD i 0) else none) = (none : Option Int) := if_neg (by omega)
            have Hdn := Lib.hid hdn
            clear hdd hdn
            go_wp2_with fail
            go_roundg (fates.length + 40 - (i + 1))
            case measure => omega
            case rel =>
              have e : stE rec fates done (i + 1) = (hd', (stE rec fates done i).2.hear ⟨xc, xn, xd, ⟨xpe, xls⟩, xm, xs, xe⟩ xb) := by
                show roundE (stE rec fates done i) (if i < fates.length then fates.getD i 0 % 4 else 0) (if i < done.length then some (done.getD i 0) else none) = _
                rw [Hdn.out, Hfq.out]
                show apTurn _ _ = _
                unfold apTurn
                rw [Hr.out, ← Hxr.out]
              exact ⟨i + 1, _, rfl, by omega, by go_num, (HA4.out.cast e).more (by omega), fun j hj => by
                by_cases ej : j = i
                · subst ej; exact H5.out
                · exact Hbef.out j (by omega)⟩
        · have hff2 : fates.length ≤ i := by omega
          have hff' : decide (i < fates.length) = false := by simpa using hff2
          have hfq : (if i < fates.length then fates.getD i 0 % 4 else 0) = 0 := if_neg hff
          have Hfq := Lib.hid hfq
          clear hfq hff hff2
          go_wp2_with fail
          refine (ap1_ask hA).mono ?_
          rw [hr]
          rintro e W1 ⟨rfl, hB1⟩
          have hA1 := hA.below' hB1
          clear hA hB1
          skip
          simp only [qV, Esch.p0, List.length_nil]
          go_wp2_with fail
          obtain ⟨W2, hW2, hB2, hz2, b0, b1, b2, b3, b4, b5, b6, b7, b8⟩ := ask_box W1 (.int .i64 qk) (.int .i64 qu) (.int .i64 qe) (.int .i64 qp) (.int .i64 qs) (.int .i64 qn) (.string qd) (.int .i64 0) (.slice none 0 0)
          rw [← hW2]
          have hA2 := hA1.below' hB2
          clear hW2 hz2 hB2 hA1
          have hc := ap1_hand hA2 (by omega) ⟨qk, qu, qe, qp, qs, qn, qd, Esch.p0⟩ rfl hds 0
          obtain ⟨⟨⟨x, xb⟩, hd'⟩, hxr⟩ : ∃ r, r = (stE rec fates done i).1.ask ⟨qk, qu, qe, qp, qs, qn, qd, Esch.p0⟩ 0 := ⟨_, rfl⟩
          rw [← hxr] at hc
          simp only [qV, Esch.p0, List.length_nil] at hc
          have Hxr := Lib.hid hxr
          have hab := hA2.ablt
          clear hA2 hxr
          go_wp2_with fail
          refine hc.mono ?_
          clear hc b0 b1 b2 b3 b4 b5 b6 b7 b8
          rintro e W3 ⟨xa, xcc, rfl, hl3, hA3, -⟩
          have hh := ap1_hear hA3 x xa xcc xb _ hl3 (fun k hk e => by have hk : W2.heap.size ≤ k := hk; omega)
          obtain ⟨xc, xn, xd, ⟨xpe, xls⟩, xm, xs, xe⟩ := x
          simp only [aV] at hh ⊢
          clear hl3 hA3 hab
          go_wp2_with fail
          refine hh.mono ?_
          clear hh
          rintro e W4 ⟨rfl, hA4, -⟩
          have HA4 := Lib.hid hA4
          clear hA4
          by_cases hdd : i < done.length
          · skip
            obtain ⟨db, doff, rfl, hdb, hdc⟩ := HDN.out (by omega)
            obtain ⟨hdv, hd0, hd1⟩ := hdc i (by omega)
            have hdl : db < WE.heap.size := Nat.lt_of_lt_of_le hdb HBW.out.size
            have hdv4 := below_at HA4.out.below (below_at HBW.out hdv hdb) hdl
            have hdd' : decide (i < done.length) = true := by simpa using hdd
            obtain ⟨dv, hdv'⟩ : ∃ dv, dv = done.getD i 0 := ⟨_, rfl⟩
            have hdn : (if i < done.length then some (done.getD i 0) else none) = some dv := by rw [if_pos hdd, hdv']
            have Hdn := Lib.hid hdn
            rw [← hdv'] at hdv4 hd0 hd1
            have Hdv := Lib.hid hdv'
            have hdo := ap1_do HA4.out (by omega) dv
            have n2 : (i : Int) < done.length := by omega
            clear hdn hdv hdc hdv' hdd
            go_wp2_with fail
            refine hdo.mono ?_
            clear hdo
            rintro e W5 ⟨rfl, hA5, -⟩
            have HA5 := Lib.hid hA5
            clear hA5 hdv4
            go_wp2_with fail
            go_roundg (fates.length + 40 - (i + 1))
            case measure => omega
            case rel =>
              have e : stE rec fates done (i + 1) = ((hd'.doHeld dv).2, (stE rec fates done i).2.hear ⟨xc, xn, xd, ⟨xpe, xls⟩, xm, xs, xe⟩ xb) := by
                show roundE (stE rec fates done i) (if i < fates.length then fates.getD i 0 % 4 else 0) (if i < done.length then some (done.getD i 0) else none) = _
                rw [Hdn.out, Hfq.out]
                show (((apTurn _ _).1.doHeld dv).2, (apTurn _ _).2) = _
                unfold apTurn
                rw [Hr.out, ← Hxr.out]
              exact ⟨i + 1, _, rfl, by omega, by go_num, (HA5.out.cast e).more (by omega), fun j hj => by
                by_cases ej : j = i
                · subst ej; exact H5.out
                · exact Hbef.out j (by omega)⟩
          · skip
            have hdd : done.length ≤ i := by omega
            have hdd' : decide (i < done.length) = false := by simpa using hdd
            have hdn : (if i < done.length then some (done.getD i 0) else none) = (none : Option Int) := if_neg (by omega)
            have Hdn := Lib.hid hdn
            clear hdd hdn
            go_wp2_with fail
            go_roundg (fates.length + 40 - (i + 1))
            case measure => omega
            case rel =>
              have e : stE rec fates done (i + 1) = (hd', (stE rec fates done i).2.hear ⟨xc, xn, xd, ⟨xpe, xls⟩, xm, xs, xe⟩ xb) := by
                show roundE (stE rec fates done i) (if i < fates.length then fates.getD i 0 % 4 else 0) (if i < done.length then some (done.getD i 0) else none) = _
                rw [Hdn.out, Hfq.out]
                show apTurn _ _ = _
                unfold apTurn
                rw [Hr.out, ← Hxr.out]
              exact ⟨i + 1, _, rfl, by omega, by go_num, (HA4.out.cast e).more (by omega), fun j hj => by
                by_cases ej : j = i
                · subst ej; exact H5.out
                · exact Hbef.out j (by omega)⟩
    · have hie : i = fates.length + 40 := by omega
      have h5 : (stE rec fates done i).2.at = 5 := by
        obtain ⟨⟨⟨t, M, -, -, -, hE⟩, -⟩, hm⟩ := stE_inv (done := done) Hrec.out Hf.out i hi Hbef.out
        exact hE.mu.2.2 (by omega)
      have H5 := Lib.hid h5
      have hie' : (fates.length : Int) + 40 ≤ i := by omega
      have Hie := Lib.hid hie
      clear hi3 h5 hie i2
      have hI := (stE_inv (done := done) Hrec.out Hf.out i (hi) Hbef.out).1
      obtain ⟨hov', hx0, hx1, hrd⟩ := hI.fin (H5.out)
      have hov := ap1_over hA
      rw [hov'] at hov
      obtain ⟨x, hx⟩ : ∃ x, x = (stE rec fates done i).2.addr := ⟨_, rfl⟩
      rw [← hx] at hov hx0 hx1 hrd
      have HA := Lib.hid hA
      have Hrd := Lib.hid hrd
      clear hA hI hov' hx hrd
      go_wp2_with fail
      refine hov.mono ?_
      clear hov
      rintro e w6 ⟨rfl, hM6⟩
      have hB6 : Below WE.heap.size WE w6 := HA.out.below.trans (hM6.below_at HA.out.below.size (fun _ _ h => h))
      have q0 := below_at hB6 p0 hpl
      have q1 := below_at hB6 p1 hpl
      have hch := rChain_any _ w6 qE _ 2 x (HLE.out.mod (F := none') (Mod.of_below hB6) (fun _ _ _ => id))
      have HM6 := Lib.hid hM6
      have HB6 := Lib.hid hB6
      clear hM6 hB6
      go_wp2_with fail
      refine hch.mono ?_
      clear hch
      rintro e w7 ⟨ca, cc, rfl, hci, hB7⟩
      have hz7 := hB7.size
      have hpl6 := cell_lt q0
      replace q0 := below_at hB7 q0 hpl6
      replace q1 := below_at hB7 q1 hpl6
      have HB7 := Lib.hid (HB6.out.trans (hB7.mono HB6.out.size))
      have HM7 := Lib.hid (HM6.out.trans (Mod.of_below hB7))
      have hof := rOf_any _ w7 qE _ 2 x (HLE.out.mod (F := none') (Mod.of_below HB7.out) (fun _ _ _ => id))
      obtain ⟨r0, r1, rb, hr⟩ : ∃ r0 r1 rb, ofP qE x = (r0, r1, rb) := ⟨_, _, _, rfl⟩
      unfold ROfPost at hof
      rw [hr] at hof
      simp only [gotV] at hof
      have Hr1 := Lib.hid hr
      have HCI := Lib.hid hci
      clear hB7 hr hci hz7
      go_wp2_with fail
      refine hof.mono ?_
      clear hof
      rintro e w8 ⟨rfl, hB8⟩
      have HB8 := Lib.hid (HB7.out.trans (hB8.mono HB7.out.size))
      have HM8 := Lib.hid (HM7.out.trans (Mod.of_below hB8))
      have HCI8 := Lib.hid (HCI.out.mod (F := none') (Mod.of_below hB8) (fun _ _ _ => id))
      obtain ⟨lc, hlc⟩ : ∃ lc, lc = chainP qE x := ⟨_, rfl⟩
      rw [← hlc] at HCI8 Hrd ⊢
      have hl3 : lc.length ≤ 3 := by rw [hlc]; exact (chain_nat hx0 (by omega)).1
      have hl1 : 1 ≤ lc.length := by rw [hlc]; rcases chainP_qE hx0 (by omega) with e | e <;> (rw [e]; decide)
      have Hlc := Lib.hid hlc
      clear hB8 hlc q0 q1 HCI HB7 HM7 HB6 HM6
      go_wp2_with fail
      obtain ⟨w9, hw9, hB9, hz9, g0, g1, g2⟩ := got_box w8 (.int .i64 r0) (.int .i64 r1) (.bool rb)
      rw [← hw9]
      have HB9 := Lib.hid (HB8.out.trans (hB9.mono HB8.out.size))
      have HM9 := Lib.hid (HM8.out.trans (Mod.of_below hB9))
      have HCI9 := Lib.hid (HCI8.out.mod (F := none') (Mod.of_below hB9) (fun _ _ _ => id))
      obtain ⟨⟨U, S, T, hH, -⟩, -⟩ := HA.out
      obtain ⟨nb', hn, hu⟩ := hH.nodes
      have Hn := Lib.hid hn
      have Hu := Lib.hid hu
      have hgl : w8.heap.size < w9.heap.size := by omega
      clear hw9 hB9 hz9 HM8 HB8 HCI8 hH hn hu g0 g2
      go_loopg [21] lc.length (fun g s21 wr => EndsRel2 w9 lc.length g s21 wr)
      case atStart => exact ⟨0, rfl, Nat.zero_le _, rfl, Mod.refl _ _⟩
      case round =>
        obtain ⟨k, rfl, hk, rfl, hMr⟩ := hrel
        by_cases hkl : k < lc.length
        · obtain ⟨u, hu16, hcu, hread⟩ := Hrd.out k hkl
          rw [show (ofP qE x).2.1 = r1 by rw [Hr1.out]] at hread
          obtain ⟨cb, coff, rfl, -, hcb, hcc⟩ := HCI9.out.2 (by omega)
          have hck := hcc k hkl
          rw [hcu] at hck
          have hMrd : Mod none' w9 wr.drew := hMr.drew
          have k0 : wr.drew.cell? ⟨cb, coff + k, none⟩ = some (.int .i64 u) := hMrd.at hck id
          have k1 : wr.drew.cell? ⟨w8.heap.size, 1, none⟩ = some (.int .i64 r1) := hMrd.at g1 id
          have hMr0 := HM9.out.trans hMrd
          have hcn := Hn.out wr.drew hMr0
          obtain ⟨⟨ub, pb, r1', r2', r3'⟩, gk⟩ := Hu.out u hu16
          have hcu1 := r1' wr.drew hMr0
          have R2 := Lib.hid r2'
          have R3 := Lib.hid r3'
          have HMr := Lib.hid hMr
          have HMr0 := Lib.hid hMr0
          have HMrd := Lib.hid hMrd
          have Hread := Lib.hid hread
          have n0 : (0 : Int) ≤ k := by omega
          have n1 : (k : Int) < lc.length := by omega
          clear hck hcc r1' r2' r3' hMr hMr0 hMrd hread hcu g1
          go_wp2_with fail
          go_region_held3 (fun w' => w'.cell? ⟨cb, coff + k, none⟩ = some (.int .i64 u) ∧ w'.cell? ⟨w8.heap.size, 1, none⟩ = some (.int .i64 r1))
            (first
              | with_reducible exact ⟨k0, k1⟩
              | with_reducible exact ⟨z0, z1⟩
              | with_reducible exact ⟨y0, y1⟩)
            (first
              | (go_at_call 19; (with_reducible refine hcn.mono ?_); rintro e w10 ⟨rfl, rfl⟩)
              | (go_at_call 20; (with_reducible refine hcu1.mono ?_); rintro e w11 ⟨rfl, hM11⟩
                 have z0 := hM11.at k0 id
                 have z1 := hM11.at k1 id
                 have hcp1 := R2.out w11 (HMr0.out.trans hM11)
                 obtain ⟨mb, hP⟩ := R3.out w11 (HMr0.out.trans hM11)
                 have hcr := pread_any w11 pb mb _ gk hP r1
                 rw [Hread.out] at hcr
                 unfold RdPost at hcr
                 simp only at hcr
                 have HM11 := Lib.hid hM11
                 clear hM11 hP)
              | (go_at_call 21; (with_reducible refine hcp1.mono ?_); rintro e w12 ⟨rfl, rfl⟩)
              | (go_at_call 22; (with_reducible refine hcr.mono ?_); rintro e w13 ⟨rfl, hM13⟩
                 have y0 := hM13.at z0 id
                 have y1 := hM13.at z1 id
                 have HM13 := Lib.hid hM13
                 clear hM13))
          have hMe := HMrd.out.trans (HM11.out.trans HM13.out)
          clear k0 k1 z0 z1 y0 y1 hcn hcu1 hcp1 hcr HM11 HM13
          have HMe := Lib.hid hMe
          clear hMe
          go_wp2_with fail
          go_roundg (lc.length - (k + 1))
          case measure => omega
          case rel => exact ⟨k + 1, rfl, by omega, by go_num, HMe.out⟩
        · obtain rfl : k = lc.length := by omega
          have HMr := Lib.hid hMr
          have hBr : Below w.heap.size w wr := HBW.out.trans ((HB9.out.trans (hMr.below_at HB9.out.size (fun _ _ h => h))).mono HBW.out.size)
          have HBr := Lib.hid hBr
          clear hMr hkl hk hBr
          go_wp2_with fail
          refine (wakes15_any _).mono ?_
          rintro e w10 ⟨rfl, hB10⟩
          have HB10 := Lib.hid hB10
          clear hB10
          go_wp2_with fail
          go_ret
          exact ⟨rfl, HBr.out.trans (HB10.out.mono HBr.out.size)⟩
set_option maxRecDepth 100000 in
set_option maxHeartbeats 2000000 in
theorem appendEnds_lifted (os : Os) (started : os.Started) (H : Type) (enc : TypeId × Value → H) :
    ReturnsInHanded {} Tryz.checked os 10 .any (Rows.appendEndsSpec.pre6 enc Tryz.prog Tryz.f10 Rows.appendEndsRow.domain false) (Rows.appendEndsSpec.post enc Tryz.prog Tryz.f10 false true false false) := by
  refine returnsInHanded_of_change (C := Tryz.checked) Tryz.ownP started (by kernel_rfl) Tryz.func10
    (ChangeSpec.witness6 (enc := enc) (C := Tryz.checked) false ⟨#[], #[.string ⟨#[]⟩, .slice none 0 0, .slice none 0 0], []⟩ 8 (by kernel_rfl) (by kernel_rfl) (by kernel_rfl) (by kernel_rfl)) ?_
  intro W base args ds gs before hval0 hW hcnd _
  have hval : ∀ (j : Nat) t v, Tryz.f10.params[j]? = some t → args[j]? = some v → Value.okWide Tryz.prog W .any base t v := hval0
  have hW' := hW
  obtain ⟨p, q, hA0, hV, rfl, hfz, hnd⟩ := hW
  have hA : DataW.TrodAll enc Tryz.prog W 0 (fun _ => true) true Tryz.f10.params.toList args.toList ds p := hA0
  rw [Tryz.params10] at hA hval
  obtain ⟨v0, vs0, d0, ds0, p0, q0, hargs, rfl, rfl, h0, r0⟩ := trodAll_cons hA
  obtain ⟨v1, vs1, d1, ds1, p1, q1, rfl, rfl, rfl, h1, r1⟩ := trodAll_cons r0
  obtain ⟨v2, vs2, d2, ds2, p2, q2, rfl, rfl, rfl, h2, r2⟩ := trodAll_cons r1
  obtain ⟨rfl, rfl, rfl⟩ := trodAll_nil r2
  obtain rfl : args = #[v0, v1, v2] := by cases args; simp_all
  obtain ⟨rfl, rfl⟩ := trodVars_none hV
  obtain ⟨cs0, x0, hv0, hr0⟩ := open_arg (n := 9) (T := .str) (by kernel_rfl) (hval 0 9 v0 rfl rfl) h0
  obtain ⟨cs1, x1, hv1, hr1⟩ := open_arg (n := 9) (T := .slice (.int .u8)) (by kernel_rfl) (hval 1 23 v1 rfl rfl) h1
  obtain ⟨cs2, x2, hv2, hr2⟩ := open_arg (n := 9) (T := .slice (.int .u8)) (by kernel_rfl) (hval 2 23 v2 rfl rfl) h2
  obtain ⟨rec, rfl, rfl, hsz⟩ := rd_str.1 hr0
  obtain ⟨a1, l1, k1, e1, hb1, hn1⟩ := rd_u8s hr1
  obtain ⟨a2, l2, k2, e2, hb2, hn2⟩ := rd_u8s hr2
  simp only [Ty.isStruct, Bool.false_eq_true, if_false] at hv0 hv1 hv2
  rw [e1] at hv1
  rw [e2] at hv2
  subst hv0
  subst hv1
  subst hv2
  clear hA0 hval0
  refine (appendEnds_walk rec (by unfold Go.maxLen at hsz; omega) a1 l1 k1 a2 l2 k2 W hb1 hb2 hn1 hn2).mono fun e W' ⟨he, hb⟩ => ?_
  subst he
  exact ⟨_, rfl, law_post Tryz.laidOutP (by kernel_rfl) rfl Tryz.underlying4 hW' rfl rfl rfl rfl hb⟩

theorem appendEnds_holds : Rows.AppendEndsSaid :=
  OpenClaim.holds_of_wide 10 Tryz.f10 rfl rfl rfl rfl rfl rfl rfl ⟨rfl, rfl, rfl, rfl, rfl⟩ rfl rfl rfl rfl rfl (by kernel_rfl) Tryz.func10 (by kernel_rfl)
    (of_decide_eq_true (by kernel_rfl)) (by unfold Func.isWrapper; first | (rw [if_pos (by decide +kernel)]; kernel_rfl) | (rw [if_neg (by decide +kernel)]; exact ⟨rfl, rfl⟩))
    (fun os started H enc _ => appendEnds_lifted os started H enc)
end Go.Proofs.YtohmmjaikhpcfaaGreat
