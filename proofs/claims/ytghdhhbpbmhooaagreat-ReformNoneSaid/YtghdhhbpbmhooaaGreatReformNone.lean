/-
  The law ReformNone: a reform that nobody made, or to what is no projection, asks nothing.
  Conditions: none.
-/
import Derived.Test.YtghdhhbpbmhooaaGreatRe7
import Derived.Test.YtghdhhbpbmhooaaGreatKeepAns
import Derived.Test.YtghdhhbpbmhooaaGreatCopyK
import Derived.Test.YtghdhhbpbmhooaaGreatRefGood
import Derived.Test.YtghdhhbpbmhooaaGreatRow
namespace Go.Proofs.YtghdhhbpbmhooaaGreat
open Go.RowKit Esch Go.ChangeShapes Go.WideShapes Go.ChangeAt

theorem tn_boxes (w : World) (y0 y1 x0 x1 x2 x3 x4 x5 x6 x7 : Value) : ∃ W, W = (w.alloc (.cells #[y0, y1] 24)).alloc (.cells #[x0, x1, x2, x3, x4, x5, x6, x7] 49) ∧ Below w.heap.size w W ∧ W.heap.size = w.heap.size + 2 ∧ W.cell? ⟨w.heap.size, 0, none⟩ = some y0 ∧ W.cell? ⟨w.heap.size, 1, none⟩ = some y1 ∧ (W.cell? ⟨w.heap.size + 1, 0, none⟩ = some x0 ∧ W.cell? ⟨w.heap.size + 1, 1, none⟩ = some x1 ∧ W.cell? ⟨w.heap.size + 1, 2, none⟩ = some x2 ∧ W.cell? ⟨w.heap.size + 1, 3, none⟩ = some x3 ∧ W.cell? ⟨w.heap.size + 1, 4, none⟩ = some x4 ∧ W.cell? ⟨w.heap.size + 1, 5, none⟩ = some x5 ∧ W.cell? ⟨w.heap.size + 1, 6, none⟩ = some x6 ∧ W.cell? ⟨w.heap.size + 1, 7, none⟩ = some x7) :=
  ⟨_, rfl, by exact belC (Below.refl _ _), by simp, by go_simp, by go_simp, by go_simp, by go_simp, by go_simp, by go_simp, by go_simp, by go_simp, by go_simp, by go_simp⟩
theorem re0_at (q : Proj) : ((re0 q).at = 4) = (goodB q = false) ∧ (re0 q).overE = (if goodB q = false then 11 else 0) ∧ (re0 q).skipB = false := by
  unfold re0
  cases e : goodB q
  · exact ⟨by simp, by simp [ReS.overE], by simp [ReS.skipB]⟩
  · exact ⟨by simp, by simp [ReS.overE], by simp [ReS.skipB]⟩
theorem reAsk_nil' (w : World) : Calls Tryz.prog 13 #[.pointer none] w fun e w' => e = .returned (.tuple #[qV qz none 0, .bool false]) ∧ Below w.heap.size w w' := by
  go_enter Tryz.func13, Tryz.ntmps13
  go_wp2_with fail
  refine bodyPost_ret (v := .tuple #[qV qz none 0, .bool false]) (by simp only [results, Tryz.results13, qV, Esch.p0, List.length_nil]; go_simp) rfl ?_
  exact ⟨rfl, by exact belC (Below.refl _ _)⟩
set_option maxRecDepth 100000 in
set_option maxHeartbeats 4000000 in
theorem reformNone_walk (S S' : Nat → Prop) (pe : Int) (pa : Option Addr) (pc : Nat) (ls : List (List Int)) (q : AnC) (hd : q.data.size ≤ 9223372036854775807) (w : World) (h : ListsAt S w pa ls) (h' : ListsAt S' w q.ca q.ls) :
    Calls Tryz.prog 5 #[.agg #[.int .i64 pe, .slice pa ls.length pc], .agg #[.int .i64 q.code, .int .i64 q.n, .string q.data, .int .i64 q.pe, .slice q.ca q.ls.length q.cc, .int .i64 q.mark, .int .i64 q.size, .int .i64 q.epoch]] w fun r w' => r = .returned (.bool true) ∧ Below w.heap.size w w' := by
  obtain ⟨W0, hW0, hB0, hz0, p0, p1, a0, a1, a2, a3, a4, a5, a6, a7⟩ := tn_boxes w (.int .i64 pe) (.slice pa ls.length pc) (.int .i64 q.code) (.int .i64 q.n) (.string q.data) (.int .i64 q.pe) (.slice q.ca q.ls.length q.cc) (.int .i64 q.mark) (.int .i64 q.size) (.int .i64 q.epoch)
  have hl0 := h.mod (F := none') (Mod.of_below hB0) (fun _ _ _ => id)
  have hl0' := h'.mod (F := none') (Mod.of_below hB0) (fun _ _ _ => id)
  have HW0 := Lib.hid hW0
  have HL0 := Lib.hid hl0
  have HL0' := Lib.hid hl0'
  have hlp := largeProj_any S W0 pe pa pc ls hl0
  clear hW0 h h' hl0 hl0'
  go_enter Tryz.func5, Tryz.ntmps5
  go_wp2_with fail
  rw [← HW0.out]
  refine hlp.mono ?_
  clear hlp
  rintro r w1 ⟨rfl, hB1⟩
  have hz1 := hB1.size
  have HB1 := Lib.hid hB1
  have Hsm : Hid (largeProj ls = false → Small ls) := Lib.hid small_ofA
  generalize largeProj ls = lg at *
  have hBw1 : Below w.heap.size w w1 := hB0.trans (hB1.mono (by omega))
  cases lg
  · have Hs : Hid (Small ls) := Lib.hid (Hsm.out rfl)
    clear Hsm
    have l0 : w.heap.size < W0.heap.size := by omega
    have l1 : w.heap.size + 1 < W0.heap.size := by omega
    replace p0 := below_at hB1 p0 l0
    replace p1 := below_at hB1 p1 l0
    replace a0 := below_at hB1 a0 l1
    replace a1 := below_at hB1 a1 l1
    replace a2 := below_at hB1 a2 l1
    replace a3 := below_at hB1 a3 l1
    replace a4 := below_at hB1 a4 l1
    replace a5 := below_at hB1 a5 l1
    replace a6 := below_at hB1 a6 l1
    replace a7 := below_at hB1 a7 l1
    have hla := largeAns_any S' q.code q.n q.data hd q.pe q.ca q.cc q.ls q.mark q.size q.epoch w1 (HL0'.out.mod (F := none') (Mod.of_below hB1) (fun _ _ _ => id))
    clear hB1
    go_wp2_with fail
    refine hla.mono ?_
    clear hla
    rintro r w2 ⟨rfl, hB2⟩
    have hz2 := hB2.size
    generalize (decide (6000 < q.data.size) || largeProj q.ls) = lg2
    have hBw2 : Below w.heap.size w w2 := hBw1.trans (hB2.mono hBw1.size)
    have HB02 := Lib.hid (HB1.out.trans (hB2.mono hz1))
    cases lg2
    · have l2 : w.heap.size < w1.heap.size := by omega
      have l3 : w.heap.size + 1 < w1.heap.size := by omega
      replace p0 := below_at hB2 p0 l2
      replace p1 := below_at hB2 p1 l2
      replace a0 := below_at hB2 a0 l3
      replace a1 := below_at hB2 a1 l3
      replace a2 := below_at hB2 a2 l3
      replace a3 := below_at hB2 a3 l3
      replace a4 := below_at hB2 a4 l3
      replace a5 := below_at hB2 a5 l3
      replace a6 := below_at hB2 a6 l3
      replace a7 := below_at hB2 a7 l3
      clear hB2
      have hhe := reHear_nil w2 ⟨q.code, q.n, q.data, ⟨q.pe, q.ls⟩, q.mark, q.size, q.epoch⟩ q.ca q.cc true
      unfold QuietPost at hhe
      simp only [aV] at hhe
      go_wp2_with fail
      refine hhe.mono ?_
      clear hhe
      rintro r w3 ⟨rfl, hB3⟩
      have hz3 := hB3.size
      have l4 : w.heap.size < w2.heap.size := by omega
      replace p0 := below_at hB3 p0 l4
      replace p1 := below_at hB3 p1 l4
      have HBw3 := Lib.hid (hBw2.trans (hB3.mono hBw2.size))
      have HB03 := Lib.hid (HB02.out.trans (hB3.mono HB02.out.size))
      have hta := reAsk_nil' w3
      simp only [qV, Esch.p0, List.length_nil] at hta
      clear hB3 a0 a1 a2 a3 a4 a5 a6 a7
      go_wp2_with fail
      refine hta.mono ?_
      clear hta
      rintro r w4 ⟨rfl, hB4⟩
      have hz4 := hB4.size
      have l5 : w.heap.size < w3.heap.size := by omega
      replace p0 := below_at hB4 p0 l5
      replace p1 := below_at hB4 p1 l5
      have l6 : w.heap.size < w4.heap.size := by omega
      have HBw4 := Lib.hid (HBw3.out.trans (hB4.mono HBw3.out.size))
      have HB04 := Lib.hid (HB03.out.trans (hB4.mono HB03.out.size))
      clear hB4
      go_wp2_with fail
      obtain ⟨W4, hW4⟩ : ∃ W4, W4 = w4.alloc (.cells #[.int .i64 0, .int .i64 0, .int .i64 0, .int .i64 0, .int .i64 0, .int .i64 0, .string ⟨#[]⟩, .int .i64 0, .slice none 0 0] 34) := ⟨_, rfl⟩
      have hB4a : Below w4.heap.size w4 W4 := by rw [hW4]; exact belC (Below.refl _ _)
      replace p0 := below_at hB4a p0 l6
      replace p1 := below_at hB4a p1 l6
      have hz4a := hB4a.size
      have HBw4a := Lib.hid (HBw4.out.trans (hB4a.mono HBw4.out.size))
      have HB04a := Lib.hid (HB04.out.trans (hB4a.mono HB04.out.size))
      rw [← hW4]
      clear hW4 hB4a
      refine (reOver_nil W4).mono ?_
      rintro r w5 ⟨rfl, rfl⟩
      go_wp2_with fail
      refine (reSkip_nil _).mono ?_
      rintro r w6 ⟨rfl, hM6⟩
      have hB6 := Mod.below hM6
      have hz6 := hB6.size
      have l7 : w.heap.size < w5.heap.size := by omega
      replace p0 := below_at hB6 p0 l7
      replace p1 := below_at hB6 p1 l7
      have HBw6 := Lib.hid (HBw4a.out.trans (hB6.mono HBw4a.out.size))
      have HB06 := Lib.hid (HB04a.out.trans (hB6.mono HB04a.out.size))
      have hcp := copyK_any S w6 pe pa pc ls Hs.out (HL0.out.mod (F := none') (Mod.of_below HB06.out) (fun _ _ _ => id))
      clear hB6 hM6
      go_wp2_with fail
      refine hcp.mono ?_
      clear hcp
      rintro r w7 ⟨a7, c7, rfl, hl7, hB7⟩
      have hz7 := hB7.size
      have l8 : w.heap.size < w6.heap.size := by omega
      replace p0 := below_at hB7 p0 l8
      replace p1 := below_at hB7 p1 l8
      have htn := reNew_any _ w7 ⟨pe, ls⟩ a7 c7 Hs.out hl7
      have HBw7 := Lib.hid (HBw6.out.trans (hB7.mono HBw6.out.size))
      have HB07 := Lib.hid (HB06.out.trans (hB7.mono HB06.out.size))
      clear hB7 hl7
      go_wp2_with fail
      refine htn.mono ?_
      clear htn
      rintro r w8 ⟨rb, tb, rfl, hT8, hB8⟩
      have hz8 := hB8.size
      have l9 : w.heap.size < w7.heap.size := by omega
      replace p0 := below_at hB8 p0 l9
      replace p1 := below_at hB8 p1 l9
      have hak := reAsk_any hT8 (re0_ok _)
      have hk2 := (re0 ⟨pe, ls⟩).ask_2
      obtain ⟨gat, gov, gsk⟩ := re0_at ⟨pe, ls⟩
      obtain ⟨⟨⟨qk, qu, qe, qp, qs, qn, qd, ⟨qpe, qls⟩⟩, qb⟩, hqq⟩ : ∃ r, r = (re0 ⟨pe, ls⟩).ask := ⟨_, rfl⟩
      rw [← hqq] at hak hk2
      have HT8 := Lib.hid hT8
      have Hre := Lib.hid (re0_ok ⟨pe, ls⟩)
      have HBw8 := Lib.hid (HBw7.out.trans (hB8.mono HBw7.out.size))
      have HB08 := Lib.hid (HB07.out.trans (hB8.mono HB07.out.size))
      obtain ⟨gd, hgd⟩ : ∃ gd, gd = goodB ⟨pe, ls⟩ := ⟨_, rfl⟩
      have hqb : qb = gd := by
        have h : qb = !decide ((re0 ⟨pe, ls⟩).at = 4) := hk2
        rw [h, hgd]
        cases e : goodB ⟨pe, ls⟩ <;> simp [gat, e]
      subst hqb
      have hov := fun W (hB : Below w8.heap.size w8 W) => reOver_any (HT8.out.below hB)
      rw [show decide ((re0 ⟨pe, ls⟩).at = 4) = !qb by rw [hgd]; cases e : goodB ⟨pe, ls⟩ <;> simp [gat, e], show (re0 ⟨pe, ls⟩).overE = (if qb = false then 11 else 0) by rw [gov, hgd]] at hov
      have hsk := fun W (hB : Below w8.heap.size w8 W) => reSkip_any (HT8.out.below hB) Hre.out
      unfold ReSkipPost at hsk
      rw [gsk] at hsk
      have Hov := Lib.hid hov
      have Hsk := Lib.hid hsk
      have Hgd := Lib.hid hgd
      clear hgd hk2 gat gov gsk hov hsk
      clear hB8 hT8 hqq
      unfold ReAskPost at hak
      simp only [qV] at hak
      go_wp2_with fail
      refine hak.mono ?_
      clear hak
      rintro r w9 ⟨a9, c9, rfl, -, hB9⟩
      have hz9 := hB9.size
      have l10 : w.heap.size < w8.heap.size := by omega
      replace p0 := below_at hB9 p0 l10
      replace p1 := below_at hB9 p1 l10
      have HBw9 := Lib.hid (HBw8.out.trans (hB9.mono HBw8.out.size))
      have HB09 := Lib.hid (HB08.out.trans (hB9.mono HB08.out.size))
      have HB89 := Lib.hid hB9
      have hov := Hov.out w9 hB9
      clear hB9 Hov
      cases qb
      all_goals
        simp only [if_true, if_false, Bool.not_false, Bool.not_true, Bool.true_eq_false] at hov
        go_wp2_with fail
        refine hov.mono ?_
        clear hov
        rintro r w10 ⟨rfl, hM10⟩
        have hB10 := Mod.below hM10
        have l11 : w.heap.size < w9.heap.size := by omega
        replace p0 := below_at hB10 p0 l11
        replace p1 := below_at hB10 p1 l11
        have HBw10 := Lib.hid (HBw9.out.trans (hB10.mono HBw9.out.size))
        have HB010 := Lib.hid (HB09.out.trans (hB10.mono HB09.out.size))
        have HB810 := Lib.hid (HB89.out.trans (hB10.mono HB89.out.size))
        have hgo := rgood_any S w10 pe pa pc ls (HL0.out.mod (F := none') (Mod.of_below HB010.out) (fun _ _ _ => id))
        rw [← Hgd.out] at hgo
        clear hM10 hB10
        go_wp2_with fail
        refine hgo.mono ?_
        clear hgo
        rintro r w11 ⟨rfl, hB11⟩
        have HBw11 := Lib.hid (HBw10.out.trans (hB11.mono HBw10.out.size))
        have hsk := Hsk.out w11 (HB810.out.trans (hB11.mono HB810.out.size))
        have HB811 := Lib.hid (HB810.out.trans (hB11.mono HB810.out.size))
        clear hB11 Hsk
        go_wp2_with fail
        refine hsk.mono ?_
        clear hsk
        rintro r w12 ⟨rfl, -, hM12⟩
        have HBw12 := Lib.hid (HBw11.out.trans (hM12.below_at HBw11.out.size (fun k hk e => by have e : k = rb := e; have h := HT8.out.sb; have h : w7.heap.size ≤ rb := h; have := HBw7.out.size; omega)))
        clear hM12
        go_wp2_with fail
        refine (wakes18_any _).mono ?_
        rintro r w13 ⟨rfl, hB13⟩
        have HBw13 := Lib.hid (HBw12.out.trans (hB13.mono HBw12.out.size))
        clear hB13
        go_wp2_with fail
        go_ret
        exact ⟨rfl, HBw13.out⟩
    · go_wp2_with fail
      refine (wakes18_any _).mono ?_
      rintro r w3 ⟨rfl, hB3⟩
      go_wp2_with fail
      go_ret
      exact ⟨rfl, hBw2.trans (hB3.mono hBw2.size)⟩
  · go_wp2_with fail
    refine (wakes18_any _).mono ?_
    rintro r w3 ⟨rfl, hB3⟩
    go_wp2_with fail
    go_ret
    exact ⟨rfl, hBw1.trans (hB3.mono hBw1.size)⟩

set_option maxRecDepth 100000 in
set_option maxHeartbeats 2000000 in
theorem reformNone_lifted (os : Os) (started : os.Started) (H : Type) (enc : TypeId × Value → H) :
    ReturnsInHanded {} Tryz.checked os 5 .any (Rows.reformNoneSpec.pre6 enc Tryz.prog Tryz.f5 Rows.reformNoneRow.domain false) (Rows.reformNoneSpec.post enc Tryz.prog Tryz.f5 false true false false) := by
  refine returnsInHanded_of_change (C := Tryz.checked) Tryz.ownP started (by kernel_rfl) Tryz.func5
    (ChangeSpec.witness6 (enc := enc) (C := Tryz.checked) false ⟨#[], #[.agg #[.int .i64 0, .slice none 0 0], .agg #[.int .i64 0, .int .i64 0, .string ⟨#[]⟩, .int .i64 0, .slice none 0 0, .int .i64 0, .int .i64 0, .int .i64 0]], []⟩ 8 (by kernel_rfl) (by kernel_rfl) (by kernel_rfl) (by kernel_rfl)) ?_
  intro W base args ds gs before hval0 hW hcnd _
  have hval : ∀ (j : Nat) t v, Tryz.f5.params[j]? = some t → args[j]? = some v → Value.okWide Tryz.prog W .any base t v := hval0
  have hW' := hW
  obtain ⟨p, q, hA0, hV, rfl, hfz, hnd⟩ := hW
  have hA : DataW.TrodAll enc Tryz.prog W 0 (fun _ => true) true Tryz.f5.params.toList args.toList ds p := hA0
  rw [Tryz.params5] at hA hval
  obtain ⟨v0, vs0, d0, ds0, p0, q0, hargs, rfl, rfl, h0, r0⟩ := trodAll_cons hA
  obtain ⟨v1, vs1, d1, ds1, p1, q1, rfl, rfl, rfl, h1, r1⟩ := trodAll_cons r0
  obtain ⟨rfl, rfl, rfl⟩ := trodAll_nil r1
  obtain rfl : args = #[v0, v1] := by cases args; simp_all
  obtain ⟨rfl, rfl⟩ := trodVars_none hV
  obtain ⟨cs0, x0, hv0, hr0⟩ := open_arg (n := 9) (T := tyProj) (by kernel_rfl) (hval 0 24 v0 rfl rfl) h0
  obtain ⟨cs1, x1, hv1, hr1⟩ := open_arg (n := 9) (T := tyAns) (by kernel_rfl) (hval 1 49 v1 rfl rfl) h1
  simp only [tyProj, tyAns, Ty.isStruct, if_true] at hv0 hv1
  obtain ⟨pe, pa, ls, pc, e0, hp⟩ := rd_proj hr0
  obtain ⟨q, e1, hq, hq'⟩ := rd_ans hr1
  subst e0
  subst e1
  subst hv0
  subst hv1
  clear hA0 hval0
  refine (reformNone_walk _ _ pe pa pc ls q hq W hp hq').mono fun e W' ⟨he, hb⟩ => ?_
  subst he
  exact ⟨_, rfl, law_post Tryz.laidOutP (by kernel_rfl) rfl Tryz.underlying4 hW' rfl rfl rfl rfl hb⟩

theorem reformNone_holds : Rows.ReformNoneSaid :=
  OpenClaim.holds_of_wide 5 Tryz.f5 rfl rfl rfl rfl rfl rfl rfl ⟨rfl, rfl, rfl, rfl, rfl⟩ rfl rfl rfl rfl rfl (by kernel_rfl) Tryz.func5 (by kernel_rfl)
    (of_decide_eq_true (by kernel_rfl)) (by unfold Func.isWrapper; first | (rw [if_pos (by decide +kernel)]; kernel_rfl) | (rw [if_neg (by decide +kernel)]; exact ⟨rfl, rfl⟩))
    (fun os started H enc _ => reformNone_lifted os started H enc)
end Go.Proofs.YtghdhhbpbmhooaaGreat
