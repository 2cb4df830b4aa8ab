import Derived.Test.YtchidgpaejkaiaaRRound
/- the projection of a text: the document's -/
namespace Go.Proofs.Ytchidgpaejkaiaa
open Go.RowKit Esch

theorem UnR.below {w w' : World} {b : Nat} {s : ByteArray} {a : Nat} {bad : Bool} (h : UnR w b s a bad) (hB : Below w.heap.size w w') : UnR w' b s a bad := h.mod (F := none') (Mod.of_below hB) id
def RDecRel (w : World) (b pb : Nat) (ep : Int) (s : ByteArray) (a : Nat) (bad : Bool) (n g : Nat) (s6 : Value) (wr : World) : Prop :=
  ∃ (k : Nat) (mi : Int) (va : Option Addr) (vc : Nat) (xs : List Value), g = mi.toNat ∧ 0 ≤ mi ∧ (k : Int) + mi = n ∧ s6 = .int .i64 mi ∧ UnR wr b s (rC s a bad k).2.1 (rC s a bad k).2.2 ∧ CopyAt w pb (pb + 1) ep va vc xs (rC s a bad k).1 wr
def RDecIn (w5 : World) (b : Nat) (s : ByteArray) (a : Nat) (bad : Bool) (n g : Nat) (s7 s8 : Value) (wr : World) : Prop :=
  ∃ (k : Nat) (mj : Int), g = mj.toNat ∧ 0 ≤ mj ∧ (k : Int) + mj = n ∧ s8 = .int .i64 mj ∧ UnR wr b s (rU s a bad k).2.1 (rU s a bad k).2.2 ∧ OwnI wr w5.heap.size s7 (rU s a bad k).1 ∧ Mod (· = b) w5 wr
set_option maxRecDepth 100000 in
set_option maxHeartbeats 4000000 in
theorem rdec_any (w : World) (s : ByteArray) (hs : s.size ≤ 9223372036854775807) :
    Calls Try.prog 35 #[.string s] w fun e w' => ∃ a c, (e = .returned (.tuple #[.agg #[.int .i64 (rAll s).1.epoch, .slice a (rAll s).1.chains.length c], .int .i64 0]) ∧ rOk s ∧ ListsAt (From w.heap.size) w' a (rAll s).1.chains ∨
      e = .returned (.tuple #[.agg #[.int .i64 0, .slice none 0 0], .int .i64 11]) ∧ ¬ rOk s) ∧ Below w.heap.size w w' := by
  obtain ⟨W0, hW0, hB0, hz0, rc0, rc1⟩ := oneBoxD w 24 (.int .i64 0) (.slice none 0 0)
  have rf0 : W0.frozen? ⟨w.heap.size, 0, none⟩ = false := by rw [hW0]; go_simp
  have rf1 : W0.frozen? ⟨w.heap.size, 1, none⟩ = false := by rw [hW0]; go_simp
  have HR0 := Lib.hid rc0
  have HR1 := Lib.hid rc1
  have HF0 := Lib.hid rf0
  have HF1 := Lib.hid rf1
  clear rc0 rc1 rf0 rf1
  have hop := ropen_any W0 s hs
  have HW0 := Lib.hid hW0
  clear hW0
  go_enter Try.func35, Try.ntmps35
  go_wp2_with fail
  rw [← HW0.out]
  refine hop.mono ?_
  clear hop
  rintro e w1 ⟨b, rfl, hU1, hb, hB1⟩
  have hz1 := hB1.size
  have hbl1 : b < w1.heap.size := cell_lt hU1.c0
  have hn4 : Calls Try.prog 57 #[.pointer (some ⟨b, 0, none⟩), .int .i64 4] w1 (NumPostR w1 b s (rNum s 0 false 4)) := rNum_any w1 b s 0 false 4 (by decide) hU1
  have hBw1 := hB1
  clear hU1
  go_wp2_with fail
  refine hn4.mono ?_
  clear hn4
  rintro e w2 ⟨rfl, hU2, hM2⟩
  have hz2 := hM2.size
  obtain ⟨⟨en, a2, b2⟩, hr2⟩ : ∃ r, r = rNum s 0 false 4 := ⟨_, rfl⟩
  rw [← hr2] at hU2
  have Hr2 := Lib.hid hr2
  rw [← hr2]
  clear hr2
  simp only at hU2
  obtain ⟨pb, hpb⟩ : ∃ pb, pb = w2.heap.size := ⟨_, rfl⟩
  obtain ⟨w3, hw3, hB3, hz3, p0, p1⟩ := oneBoxD w2 24 (.int .i64 en) (.slice none 0 0)
  have pf1 : w3.frozen? ⟨w2.heap.size, 1, none⟩ = false := by rw [hw3]; go_simp
  rw [← hpb] at p0 p1 pf1
  have HW3 := Lib.hid hw3
  have hU3 := hU2.mod (F := none') (Mod.of_below hB3) id
  have hn1 : Calls Try.prog 57 #[.pointer (some ⟨b, 0, none⟩), .int .i64 1] w3 (NumPostR w3 b s (rNum s a2 b2 1)) := rNum_any w3 b s a2 b2 1 (by decide) hU3
  clear hw3 hU2 hU3
  have Hpb := Lib.hid hpb
  have hpb1 : w2.heap.size ≤ pb := by omega
  have hpb2 : pb ≤ w2.heap.size := by omega
  clear hpb
  go_wp2_with fail
  rw [← HW3.out]
  rw [← Hpb.out]
  refine hn1.mono ?_
  clear hn1
  rintro e w4 ⟨rfl, hU4, hM4⟩
  have hz4 := hM4.size
  have hle := rNum_le s a2 b2
  obtain ⟨⟨cn, a4, b4⟩, hr4⟩ : ∃ r, r = rNum s a2 b2 1 := ⟨_, rfl⟩
  rw [← hr4] at hU4 hle
  have Hr4 := Lib.hid hr4
  rw [← hr4]
  clear hr4
  simp only at hU4 hle
  replace p0 := hM4.at p0 (by omega)
  replace p1 := hM4.at p1 (by omega)
  have pf1 := (hM4.frozen (p := ⟨pb, 1, none⟩) (by show pb < w3.heap.size; omega) (by show pb ≠ b; omega)).trans pf1
  have hBw4 : Below W0.heap.size W0 w4 := (((hBw1.trans (hM2.below_at hBw1.size (fun k hk e => by omega))).trans (hB3.mono (by have := hBw1.size; omega)))).trans (hM4.below_at (by have := hBw1.size; omega) (fun k hk e => by omega))
  have hC4 : CopyAt W0 pb (pb + 1) en none 0 [] [] w4 := ⟨p0, p1, pf1, World.ownsRow_nil _ _ _ _, HeadsOf.nil _ _, hBw4⟩
  have HC4 := Lib.hid hC4
  have HU4 := Lib.hid hU4
  have hwb : W0.heap.size ≤ b := by omega
  have hbpb : b < pb := by omega
  clear hB1 hM2 hB3 hM4 p0 p1 pf1 hC4 hU4 HW3 Hpb hz1 hz2 hz3 hz4
  go_wp2_with fail
  go_loopg [6] cn (fun g s6 wr => RDecRel W0 b pb en s a4 b4 cn g s6 wr)
  case atStart => exact ⟨0, cn, none, 0, [], by omega, by omega, by omega, rfl, HU4.out, HC4.out⟩
  case round =>
    obtain ⟨k, mi, va, vc, xs, rfl, hmi, hkm, rfl, hUr, hCr⟩ := hrel
    by_cases hlt : 0 < mi
    · have hnr : Calls Try.prog 57 #[.pointer (some ⟨b, 0, none⟩), .int .i64 1] wr (NumPostR wr b s (rNum s (rC s a4 b4 k).2.1 (rC s a4 b4 k).2.2 1)) := rNum_any wr b s _ _ 1 (by decide) hUr
      clear hUr
      have HCr := Lib.hid hCr
      clear hCr
      go_wp2_with fail
      refine hnr.mono ?_
      clear hnr
      rintro e w5 ⟨rfl, hU5, hM5⟩
      have hle5 := rNum_le s (rC s a4 b4 k).2.1 (rC s a4 b4 k).2.2
      have hC5 := HCr.out.mod hM5 hbpb (by omega)
      have hdc : rC s a4 b4 (k + 1) = ((rC s a4 b4 k).1 ++ [(rU s (rNum s (rC s a4 b4 k).2.1 (rC s a4 b4 k).2.2 1).2.1 (rNum s (rC s a4 b4 k).2.1 (rC s a4 b4 k).2.2 1).2.2 (rNum s (rC s a4 b4 k).2.1 (rC s a4 b4 k).2.2 1).1).1], (rU s (rNum s (rC s a4 b4 k).2.1 (rC s a4 b4 k).2.2 1).2.1 (rNum s (rC s a4 b4 k).2.1 (rC s a4 b4 k).2.2 1).2.2 (rNum s (rC s a4 b4 k).2.1 (rC s a4 b4 k).2.2 1).1).2) := rfl
      have hlk := rC_len s a4 b4 k
      generalize (rC s a4 b4 k).1 = lsk at hC5 hdc hlk
      obtain ⟨⟨un, a5, b5⟩, hr5⟩ : ∃ r, r = rNum s (rC s a4 b4 k).2.1 (rC s a4 b4 k).2.2 1 := ⟨_, rfl⟩
      rw [← hr5] at hU5 hle5 hdc
      rw [← hr5]
      simp only at hU5 hle5 hdc
      have Hdc := Lib.hid hdc
      have HC5 := Lib.hid hC5
      have HU5 := Lib.hid hU5
      clear hr5 hdc hC5 hU5 hM5 HCr
      go_wp2_with fail
      go_loopg [7, 8] un (fun g s7 s8 wr => RDecIn w5 b s a5 b5 un g s7 s8 wr)
      case atStart => exact ⟨0, un, by omega, by omega, by omega, rfl, HU5.out, OwnI.nil _ _, Mod.refl _ _⟩
      case round =>
        obtain ⟨k2, mj, rfl, hmj, hkm2, rfl, hUi, hOi, hMi⟩ := hrel
        have hdl := rU_len s a5 b5 k2
        have hb5 : b < w5.heap.size := cell_lt HU5.out.c0
        by_cases hlt2 : 0 < mj
        · have hni : Calls Try.prog 57 #[.pointer (some ⟨b, 0, none⟩), .int .i64 1] wr (NumPostR wr b s (rNum s (rU s a5 b5 k2).2.1 (rU s a5 b5 k2).2.2 1)) := rNum_any wr b s _ _ 1 (by decide) hUi
          have hdu : rU s a5 b5 (k2 + 1) = ((rU s a5 b5 k2).1 ++ [((rNum s (rU s a5 b5 k2).2.1 (rU s a5 b5 k2).2.2 1).1 : Int)], (rNum s (rU s a5 b5 k2).2.1 (rU s a5 b5 k2).2.2 1).2) := rfl
          obtain ⟨⟨xn, a6, b6⟩, hr6⟩ : ∃ r, r = rNum s (rU s a5 b5 k2).2.1 (rU s a5 b5 k2).2.2 1 := ⟨_, rfl⟩
          rw [← hr6] at hni hdu
          simp only at hdu
          generalize (rU s a5 b5 k2).1 = L at hOi hdl hdu
          have Hdu := Lib.hid hdu
          obtain ⟨va6, vc6, rfl, -⟩ := hOi.ints
          have HOi := Lib.hid hOi
          have HMi := Lib.hid hMi
          have hzi := hMi.size
          have Hdl := Lib.hid hdl
          have hL6 : L.length ≤ 300 := by omega
          clear hUi hOi hMi hdu hr6 hdl
          go_wp2_with fail
          refine hni.mono ?_
          clear hni
          rintro e w7 ⟨rfl, hU7, hM7⟩
          simp only at hU7
          have hz7 := hM7.size
          have hO7 : OwnI w7 w5.heap.size (.slice va6 L.length vc6) L := grown_mod hM7 (fun j hj e => by have := (HOi.out.lt hj).1; omega) (fun j hj => (HOi.out.lt hj).2) HOi.out
          have hsrc := IntsAt.new w7 xn 3
          have HU7 := Lib.hid hU7
          have HO7 := Lib.hid hO7
          have HM7 := Lib.hid hM7
          clear hU7 hO7 hM7
          go_wp2_with (at_builtin; refine wpList_appendO rfl (.tmp 26) (.tmp 29) rfl (· = w7.heap.size) w5.heap.size (.slice va6 L.length vc6) L [(xn : Int)] _ 1 1 rfl rfl rfl (HO7.out.alloc _) hsrc (by simp only [List.length_cons, List.length_nil]; omega) (by rw [World.size_alloc]; omega) ?_)
          intro v8 w8 hO8 hg8 hb8
          have hown := fun j (hj : (Value.slice va6 L.length vc6).ownBlock = some j) => (HO7.out.lt hj).1
          have HO8 := Lib.hid hO8
          have HU8 : Hid (UnR w8 b s a6 b6) := Lib.hid ((HU7.out.mod (F := none') ((Mod.refl none' _).alloc _) id).mod (mod_grown hg8) (fun e => by have := hown b e; omega))
          have HM8 : Hid (Mod (· = b) w5 w8) := Lib.hid (((HMi.out.trans HM7.out).alloc _).trans' (mod_grown hg8) (fun j hj e => by have := hown j e; omega))
          clear hO8 hg8 hb8 hown
          go_wp2_with fail
          go_roundg (mj - 1).toNat
          case measure => omega
          case rel =>
            refine ⟨k2 + 1, mj - 1, rfl, by omega, by omega, by go_num, ?_, ?_, HM8.out⟩
            · rw [Hdu.out]; exact HU8.out
            · rw [Hdu.out]; exact HO8.out
        · have hkn2 : k2 = un := by omega
          have hdcM := Hdc.out
          rw [← hkn2] at hdcM
          generalize hLe : (rU s a5 b5 k2).1 = L at hOi hdl hdcM
          obtain ⟨ja, jc, rfl, hj2, hcp1, hcp2, -⟩ := hOi.ints
          have hC6 := HC5.out.mod hMi hbpb (by omega)
          obtain ⟨w5', hMb, hBb, hzb⟩ := only_b hMi
          rw [← hzb] at hBb hj2
          have HCb := Lib.hid (HC5.out.mod hMb hbpb (by omega))
          have HBb := Lib.hid hBb
          have HJ2 := Lib.hid hj2
          have HUi := Lib.hid hUi
          have HdcM := Lib.hid hdcM
          obtain ⟨i0, hi, hz0, hz1, hz2⟩ := info_parts Try.infoInts
          have q1 := hC6.c1
          have hrow := hC6.row
          have hon := hC6.own_ne (Nat.lt_succ_self pb)
          have honb := hC6.own_ne (show b < pb + 1 by omega)
          have hf1 := hC6.f1
          have hpl : pb < wr.heap.size := cell_lt hC6.c0
          rw [hlk] at q1 hrow hon honb
          have Hrow := Lib.hid hrow
          have hL6 : L.length ≤ 300 := by omega
          have Hon := Lib.hid hon
          have Honb := Lib.hid honb
          have Hlk := Lib.hid hlk
          have hbr : b < wr.heap.size := cell_lt hUi.c0
          clear hLe hUi hOi hMi hC6 hMb hBb hj2 hdcM hzb hrow hdl hlk hon honb
          go_wp2_with (at_builtin; refine wpList_append_lies _ (by rfl) _ _ _ (by rfl) (pb + 1) 45 i0 _ 1 24 Try.underlying22 hi hz0 hz1 hz2 rfl (by omega) (.slice va k vc) k xs (by rfl) (Hrow.out.alloc _) ⟨wr.heap.size, 0, none⟩ 1 1 [.slice ja L.length jc] (by rfl) (by rfl) (World.news_of_block (cs := #[.slice ja L.length jc]) (t := 45) (fr := (0, 0)) (heap_alloc_new _ _)) (by simp [Value.oneCell']) (by omega) (by unfold Go.maxLen; omega) (by omega) (by simp; omega) (wr.heap.size + 1) (by simp) ?_; intro gg cap w8 hown1 hgrow hat hlt4; have hc8 := (grown_at hgrow (Hon.out) ((cell_alloc_lt wr _ pb 1 hpl).trans q1)); have hf8 := (grown_fr hgrow (Hon.out) (by rw [World.size_alloc]; omega)).trans ((frozen_alloc_lt wr _ pb 1 hpl).trans hf1))
          have hU8 : UnR (w8.setCell ⟨pb, 1, none⟩ (.slice (some ⟨gg, 0, none⟩) (k + 1) cap)) b s (rU s a5 b5 k2).2.1 (rU s a5 b5 k2).2.2 :=
            ((HUi.out.mod (F := none') ((Mod.refl none' _).alloc _) id).mod (grown_mod2 hgrow) Honb.out).mod (F := (· = pb)) ((Mod.refl (· = pb) _).setCellAt (fun _ => rfl) _) (by omega)
          have HC8 := Lib.hid (HCb.out.step HBb.out HJ2.out hown1 hgrow hat Hlk.out (by omega) hf8 hc8 ⟨hcp1, hcp2⟩)
          have HU8 := Lib.hid hU8
          clear hU8
          go_roundg (mi - 1).toNat
          case measure => omega
          case rel =>
            refine ⟨k + 1, mi - 1, some ⟨gg, 0, none⟩, cap, xs ++ [.slice ja L.length jc], rfl, by omega, by omega, by go_num, ?_, ?_⟩
            · rw [HdcM.out]; exact HU8.out
            · rw [HdcM.out]; exact HC8.out
    · have hkn : k = cn := by omega
      have hall : rAll s = (⟨en, (rC s a4 b4 k).1⟩, (rC s a4 b4 k).2) := by
        unfold rAll
        simp only [← Hr2.out, ← Hr4.out, hkn]
      have hlk := rC_len s a4 b4 k
      have hend := rEnd_any wr b _ _ _ hUr
      generalize rC s a4 b4 k = dr at hall hlk hend hUr hCr
      obtain ⟨lsd, ad, bd⟩ := dr
      simp only at hall hlk hend hUr hCr
      have hok : rOk s ↔ (bd = false ∧ ad = s.size ∧ (Proj.mk en lsd).good) := by unfold rOk; rw [hall]
      have Hok := Lib.hid hok
      obtain ⟨pa, pcc, hpv, hpl⟩ := own_lists hCr.row rfl hCr.heads.2
      simp only [Value.slice.injEq] at hpv
      obtain ⟨rfl, -, rfl⟩ := hpv
      have c0 := hCr.c0
      have c1 := hCr.c1
      have hBf := hCr.below
      have hpbl : pb < wr.heap.size := cell_lt c0
      have Hpl := Lib.hid hpl
      have Hall := Lib.hid hall
      have HBf := Lib.hid hBf
      obtain ⟨rb, hrb⟩ : ∃ rb, rb = w.heap.size := ⟨_, rfl⟩
      have hrb0 : rb < W0.heap.size := by omega
      have hrb1 : w.heap.size ≤ rb := by omega
      have r0 := below_at hBf HR0.out (by omega)
      have r1 := below_at hBf HR1.out (by omega)
      have f0 := (hBf.frozen (p := ⟨w.heap.size, 0, none⟩) (by show w.heap.size < W0.heap.size; omega)).trans HF0.out
      have f1 := (hBf.frozen (p := ⟨w.heap.size, 1, none⟩) (by show w.heap.size < W0.heap.size; omega)).trans HF1.out
      rw [← hrb] at r0 r1 f0 f1 ⊢
      have hrbr : rb < wr.heap.size := cell_lt r0
      have hBw : Below w.heap.size w wr := hB0.trans (hBf.mono (by omega))
      have HBw := Lib.hid hBw
      have Hkn := Lib.hid hkn
      have Hlk := Lib.hid hlk
      have hge : cn ≤ k := by omega
      clear hall hUr hCr hpl hBf hok hrb hBw hlt hlk hkn
      by_cases hbad : bd = true ∨ ad ≠ s.size
      · rw [if_pos hbad] at hend
        have Hbad := Lib.hid hbad
        clear hbad
        go_wp2_with fail
        refine hend.mono ?_
        clear hend
        rintro e w9 ⟨rfl, hM9⟩
        have hB9 := hM9.below
        have hz9 := hB9.size
        have r0 := below_at hB9 r0 hrbr
        have r1 := below_at hB9 r1 hrbr
        have f0 := (hB9.frozen (p := ⟨rb, 0, none⟩) hrbr).trans f0
        have f1 := (hB9.frozen (p := ⟨rb, 1, none⟩) hrbr).trans f1
        have c0 := below_at hB9 c0 hpbl
        have c1 := below_at hB9 c1 hpbl
        have HBw9 := Lib.hid (HBw.out.trans (hB9.mono HBw.out.size))
        have hrbr9 : rb < w9.heap.size := by omega
        have hpbl9 : pb < w9.heap.size := by omega
        go_wp2_with fail
        refine bodyPost_ret (v := .tuple #[.agg #[.int .i64 0, .slice none 0 0], .int .i64 11]) (by simp only [results, Try.results35]; go_simp) rfl ?_
        refine ⟨none, 0, Or.inr ⟨rfl, fun h => ?_⟩, by (repeat (first | with_reducible exact HBw9.out | with_reducible refine Below.drew ?_ | with_reducible refine Esch.below_drewN ?_ _ | with_reducible refine Below.setCell ?_ (by first | omega | (simp; done) | (simp; omega)) _ | with_reducible refine Below.alloc ?_ (by first | omega | (simp; done) | (simp; omega)) _))⟩
        obtain ⟨h1, h2, -⟩ := Hok.out.1 h
        rcases Hbad.out with e | e
        · rw [h1] at e; cases e
        · exact e h2
      · rw [if_neg hbad] at hend
        have Hbad := Lib.hid hbad
        clear hbad
        go_wp2_with fail
        refine hend.mono ?_
        clear hend
        rintro e w9 ⟨rfl, hM9⟩
        have hB9 := hM9.below
        have hz9 := hB9.size
        have r0 := below_at hB9 r0 hrbr
        have r1 := below_at hB9 r1 hrbr
        have f0 := (hB9.frozen (p := ⟨rb, 0, none⟩) hrbr).trans f0
        have f1 := (hB9.frozen (p := ⟨rb, 1, none⟩) hrbr).trans f1
        have c0 := below_at hB9 c0 hpbl
        have c1 := below_at hB9 c1 hpbl
        have HBw9 := Lib.hid (HBw.out.trans (hB9.mono HBw.out.size))
        have hrbr9 : rb < w9.heap.size := by omega
        have hpbl9 : pb < w9.heap.size := by omega
        have Hpl9 := Lib.hid (Hpl.out.mod (F := none') hM9 (fun _ _ _ => id))
        have hgd := rgood_any _ w9 (en : Int) va vc lsd Hpl9.out
        clear hM9 hB9
        go_wp2_with fail
        refine hgd.mono ?_
        clear hgd
        rintro e w10 ⟨rfl, hB10⟩
        have r0 := below_at hB10 r0 hrbr9
        have r1 := below_at hB10 r1 hrbr9
        have f0 := (hB10.frozen (p := ⟨rb, 0, none⟩) hrbr9).trans f0
        have f1 := (hB10.frozen (p := ⟨rb, 1, none⟩) hrbr9).trans f1
        have d0 := below_at hB10 c0 hpbl9
        have d1 := below_at hB10 c1 hpbl9
        have HBw10 := Lib.hid (HBw9.out.trans (hB10.mono HBw9.out.size))
        have Hpl10 := Lib.hid (Hpl9.out.mod (F := none') (Mod.of_below hB10) (fun _ _ _ => id))
        clear hB10 c0 c1 HBw Hpl
        by_cases hgood : (Proj.mk en lsd).good
        · rw [show goodB ⟨en, lsd⟩ = true from decide_eq_true hgood]
          have Hgood := Lib.hid hgood
          clear hgood
          go_wp2_with fail
          refine bodyPost_ret (v := .tuple #[.agg #[.int .i64 en, .slice va lsd.length vc], .int .i64 0]) (by simp only [results, Try.results35]; go_simp) rfl ?_
          refine ⟨va, vc, Or.inl ⟨?_, ?_, ?_⟩, by (repeat (first | with_reducible exact HBw10.out | with_reducible refine Below.drew ?_ | with_reducible refine Esch.below_drewN ?_ _ | with_reducible refine Below.setCell ?_ (by first | omega | (simp; done) | (simp; omega)) _ | with_reducible refine Below.alloc ?_ (by first | omega | (simp; done) | (simp; omega)) _))⟩
          · rw [Hall.out]
          · rw [Hok.out]
            refine ⟨?_, ?_, Hgood.out⟩
            · cases bd
              · rfl
              · exact absurd (Or.inl rfl) Hbad.out
            · exact Classical.byContradiction (fun h => Hbad.out (Or.inr h))
          · rw [Hall.out]
            refine (Hpl10.out.mod (F := (· = rb)) (by (repeat' (first | (with_reducible exact (Mod.refl _ _)) | (with_reducible apply Mod.drew) | (with_reducible apply Mod.drewN) | (with_reducible apply Mod.alloc) | (with_reducible apply Mod.setCellAt) | (intro _; first | rfl | exact Or.inl rfl | exact Or.inr rfl) | (intro h; exfalso; omega)))) (fun j hj _ (e : j = rb) => ?_)).sub (fun j _ hj => ?_)
            · have hj : pb + 1 ≤ j := hj.elim id (fun h => h.1)
              omega
            · have hj : pb + 1 ≤ j := hj.elim id (fun h => h.1)
              show w.heap.size ≤ j
              omega
        · rw [show goodB ⟨en, lsd⟩ = false from decide_eq_false hgood]
          have Hgood := Lib.hid hgood
          clear hgood
          go_wp2_with fail
          refine bodyPost_ret (v := .tuple #[.agg #[.int .i64 0, .slice none 0 0], .int .i64 11]) (by simp only [results, Try.results35]; go_simp) rfl ?_
          exact ⟨none, 0, Or.inr ⟨rfl, fun h => Hgood.out (Hok.out.1 h).2.2⟩, by (repeat (first | with_reducible exact HBw10.out | with_reducible refine Below.drew ?_ | with_reducible refine Esch.below_drewN ?_ _ | with_reducible refine Below.setCell ?_ (by first | omega | (simp; done) | (simp; omega)) _ | with_reducible refine Below.alloc ?_ (by first | omega | (simp; done) | (simp; omega)) _))⟩
end Go.Proofs.Ytchidgpaejkaiaa
