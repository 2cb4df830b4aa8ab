/-
  The law TreeApart: a call with an error changes nothing, whatever the error.
  Conditions: none.
-/
import Derived.Test.YtakbalmbkokklaaGreatPkTwo
namespace Go.Proofs.YtakbalmbkokklaaGreat
open Go.RowKit Esch Go.ChangeShapes Go.WideShapes Go.ChangeAt

def Ap22 (B : World) (b q : Nat) (S : Nat → Prop) (n g : Nat) (s7 : Value) (wr : World) : Prop :=
  ∃ (i : Nat) (s : TrS) (R : Nat → Prop), g = n - i ∧ i ≤ n ∧ s7 = .int .i64 i ∧ Two22 B b q S R s wr ∧ Gs22 s i
set_option maxRecDepth 100000 in
set_option maxHeartbeats 8000000 in
theorem treeApart_walk (w : World) (oa : Option Addr) (cap : Nat) (ps : List St22) (h : Sts22 w oa ps) (hn : ps.length ≤ 9223372036854775807) (x : St22) :
    Calls Tryz.prog 8 #[.slice oa ps.length cap, .agg #[.int .i64 x.k, .int .i64 x.z, .string (bs x.p), .string (bs x.q)]] w fun e w' => e = .returned (.bool true) ∧ Below w.heap.size w w' := by
  obtain ⟨xk, xz, xp, xq⟩ := x
  simp only
  obtain ⟨B, hB, hBB⟩ : ∃ B, B = w.alloc (.cells #[.int .i64 xk, .int .i64 xz, .string (bs xp), .string (bs xq)] 48) ∧ Below w.heap.size w B := ⟨_, rfl, by exact belC (Below.refl _ _)⟩
  have x0 : B.cell? ⟨w.heap.size, 0, none⟩ = some (.int .i64 xk) := by rw [hB]; go_simp
  have x1 : B.cell? ⟨w.heap.size, 1, none⟩ = some (.int .i64 xz) := by rw [hB]; go_simp
  have x2 : B.cell? ⟨w.heap.size, 2, none⟩ = some (.string (bs xp)) := by rw [hB]; go_simp
  have x3 : B.cell? ⟨w.heap.size, 3, none⟩ = some (.string (bs xq)) := by rw [hB]; go_simp
  obtain ⟨xb, hxb⟩ : ∃ xb, xb = w.heap.size := ⟨_, rfl⟩
  rw [← hxb] at x0 x1 x2 x3
  have hxl := cell_lt x0
  have HXB := Lib.hid hxb
  have HBW := Lib.hid hB
  have HBB := Lib.hid hBB
  have HS := Lib.hid (h.below hBB)
  clear h hB hBB hxb
  go_enter Tryz.func8, Tryz.ntmps8
  go_wp2_with fail
  rw [← HBW.out, ← HXB.out]
  refine (trNew_any _).mono ?_
  rintro e w1 ⟨b, rfl, hT, hB1⟩
  go_wp2_with fail
  refine (rtNew_any _).mono ?_
  rintro e w2 ⟨q, rfl, hR, hB2⟩
  obtain ⟨S, hSS⟩ : ∃ S : Nat → Prop, S = fun k => B.heap.size ≤ k ∧ k < w1.heap.size := ⟨_, rfl⟩
  obtain ⟨R, hRR⟩ : ∃ R : Nat → Prop, R = fun k => w1.heap.size ≤ k ∧ k < w2.heap.size := ⟨_, rfl⟩
  rw [← hSS] at hT
  rw [← hRR] at hR
  have hBB2 := hB1.trans (hB2.mono hB1.size)
  have h2 : Two22 B b q S R tr0 w2 := ⟨hT.below' hB2, hR, fun k hk => by rw [hSS] at hk; exact hk.1, fun k hk => by rw [hRR] at hk; exact Nat.le_trans hB1.size hk.1, fun k hk hs => by rw [hRR] at hk; rw [hSS] at hs; omega, hBB2⟩
  have hfa := fair22b_any w2 oa cap ps (HS.out.below hBB2) hn
  have H2 := Lib.hid h2
  clear hT hR hB1 hB2 hBB2 hSS hRR h2
  go_wp2_with fail
  refine hfa.mono ?_
  clear hfa
  rintro e w3 ⟨v, rfl, hv, hB3⟩
  have H3 := Lib.hid (H2.out.below hB3)
  have HW3 := Lib.hid (HBB.out.trans (H3.out.bel.mono HBB.out.size))
  have HV := Lib.hid hv
  clear hv hB3
  cases v
  · go_wp2_with fail
    refine (wakes22_any _).mono ?_
    rintro e wz ⟨rfl, hBz⟩
    go_wp2_with fail
    go_ret
    exact ⟨rfl, HW3.out.trans (hBz.mono HW3.out.size)⟩
  have HF := Lib.hid (HV.out rfl)
  have y0 := below_at H3.out.bel x0 hxl
  have y1 := below_at H3.out.bel x1 hxl
  have y2 := below_at H3.out.bel x2 hxl
  have y3 := below_at H3.out.bel x3 hxl
  have hxl3 := cell_lt y0
  obtain ⟨W4, hW4, hB4⟩ : ∃ W4, W4 = w3.alloc (.cells #[.int .i64 xk, .int .i64 xz, .string (bs xp), .string (bs xq)] 48) ∧ Below w3.heap.size w3 W4 := ⟨_, rfl, by exact belC (Below.refl _ _)⟩
  have hst : Sts22 W4 (some ⟨w3.heap.size, 0, none⟩) [⟨xk, xz, xp, xq⟩] := fun _ => ⟨w3.heap.size, 0, rfl, by rw [hW4]; simp, fun i hi => by
    obtain rfl : i = 0 := by simpa using hi
    rw [hW4]
    exact ⟨by go_simp, by go_simp, by go_simp, by go_simp⟩⟩
  have hfa := fair22b_any W4 _ 1 [⟨xk, xz, xp, xq⟩] hst (by show 1 ≤ 9223372036854775807; decide)
  have HW4 := Lib.hid hW4
  have H4 := Lib.hid (H3.out.below hB4)
  clear hst hW4 hB4 HV
  go_wp2_with fail
  rw [← HW4.out]
  refine hfa.mono ?_
  clear hfa
  rintro e w5 ⟨v, rfl, hv, hB5⟩
  have H5 := Lib.hid (H4.out.below hB5)
  have HW5 := Lib.hid (HBB.out.trans (H5.out.bel.mono HBB.out.size))
  have HV := Lib.hid hv
  clear hv hB5 y0 y1 y2 y3 hxl3
  cases v
  · go_wp2_with fail
    refine (wakes22_any _).mono ?_
    rintro e wz ⟨rfl, hBz⟩
    go_wp2_with fail
    go_ret
    exact ⟨rfl, HW5.out.trans (hBz.mono HW5.out.size)⟩
  have HXF := Lib.hid (HV.out rfl)
  clear hn HV
  go_wp2_with fail
  go_loopg [7] ps.length (fun g s7 wr => Ap22 B b q S ps.length g s7 wr)
  case atStart => exact ⟨0, tr0, R, rfl, Nat.zero_le _, rfl, H5.out, gs22_0⟩
  case round =>
    obtain ⟨i, s, R', rfl, hi, rfl, h2, hG⟩ := hrel
    have HT := Lib.hid h2
    have HG := Lib.hid hG
    clear h2 hG
    by_cases hlt : i < ps.length
    · skip
      obtain ⟨bk, off, rfl, hb, hc⟩ := HS.out (by omega)
      obtain ⟨c0, c1, c2, c3⟩ := hc i hlt
      have hfx := HF.out.2 _ (List.getElem_mem hlt)
      rw [show ps[i] = ps.getD i default by rw [List.getD_eq_getElem?_getD, List.getElem?_eq_getElem hlt]; rfl] at hfx
      have h100 := HF.out.1
      have d0 := below_at HT.out.bel c0 hb
      have d1 := below_at HT.out.bel c1 hb
      have d2 := below_at HT.out.bel c2 hb
      have d3 := below_at HT.out.bel c3 hb
      have hdo := do22_any wr b S s HT.out.t HG.out.good.ok (ps.getD i default).k (ps.getD i default).z (ps.getD i default).p (ps.getD i default).q
      have hds := fun W (hW : RTreeAt W q R' s) => does22_any W q R' s hW (HG.out.gk (by omega)) (ps.getD i default).k (ps.getD i default).z (ps.getD i default).p (ps.getD i default).q (by omega) (by omega)
      have hg2 := HG.out.step (ps.getD i default).k (ps.getD i default).z (ps.getD i default).p (ps.getD i default).q
      unfold ErrPost at hdo
      generalize ps.getD i default = x at *
      obtain ⟨yk, yz, yp, yq⟩ := x
      simp only at d0 d1 d2 d3 hdo hds hg2
      generalize s.step yk yz yp yq = r at hdo hds hg2
      obtain ⟨re, rs⟩ := r
      simp only at hdo hds hg2
      have HG2 := Lib.hid hg2
      have hil : (0 : Int) ≤ i ∧ (i : Int) < ps.length := by omega
      have hms : ps.length - (i + 1) < ps.length - i := by omega
      have hwr1 := Lib.hid (show wrap64 ((i : Int) + 1) = ((i + 1 : Nat) : Int) by unfold wrap64; omega)
      have HBK := Lib.hid hb
      have HC0 := Lib.hid c0
      have HC1 := Lib.hid c1
      have HC2 := Lib.hid c2
      have HC3 := Lib.hid c3
      clear hc c0 c1 c2 c3 hg2 hfx h100
      go_wp2_with fail
      refine hdo.mono ?_
      clear hdo
      rintro e w7 ⟨rfl, hT7, hM7⟩
      have h7 := HT.out.left hT7 hM7
      have hds7 := hds w7 h7.2.1
      have d0 := below_at h7.2.2 HC0.out HBK.out
      have d1 := below_at h7.2.2 HC1.out HBK.out
      have d2 := below_at h7.2.2 HC2.out HBK.out
      have d3 := below_at h7.2.2 HC3.out HBK.out
      have H7 := Lib.hid h7
      clear hds hT7 hM7 h7
      go_wp2_with fail
      refine hds7.mono ?_
      clear hds7
      rintro e w8 ⟨rfl, hR8, hM8⟩
      have H8 := Lib.hid (HT.out.right H7.out hR8 hM8)
      clear hR8 hM8 d0 d1 d2 d3
      go_wp2_with fail
      go_roundg (ps.length - (i + 1))
      case measure => exact hms
      case rel => exact ⟨i + 1, _, _, rfl, by omega, by first | rfl | rw [hwr1.out], H8.out, HG2.out⟩
    · obtain rfl : i = ps.length := by omega
      have y0 := below_at HT.out.bel x0 hxl
      have y1 := below_at HT.out.bel x1 hxl
      have y2 := below_at HT.out.bel x2 hxl
      have y3 := below_at HT.out.bel x3 hxl
      have hdo := do22_any wr b S s HT.out.t HG.out.good.ok xk xz xp xq
      unfold ErrPost at hdo
      have hse := Lib.hid (@step_err s xk xz xp xq)
      generalize s.step xk xz xp xq = r at hdo hse
      obtain ⟨re, rs⟩ := r
      simp only at hdo
      clear hlt hi
      have hgk := HG.out.gk (by have := HF.out.1; omega)
      have HGK := Lib.hid hgk
      clear hgk
      by_cases hre : re = 0
      · subst hre
        go_wp2_with fail
        refine hdo.mono ?_
        clear hdo
        rintro e w8 ⟨rfl, hT8, hM8⟩
        have H8 := Lib.hid (HBB.out.trans ((HT.out.left hT8 hM8).2.2.mono HBB.out.size))
        clear hT8 hM8 y0 y1 y2 y3
        go_wp2_with fail
        refine (wakes22_any _).mono ?_
        rintro e wz ⟨rfl, hBz⟩
        go_wp2_with fail
        go_ret
        exact ⟨rfl, H8.out.trans (hBz.mono H8.out.size)⟩
      · have hre' : (re == 0) = false := by simpa using hre
        obtain rfl : rs = s := hse.out hre
        clear hre
        go_wp2_with fail
        refine hdo.mono ?_
        clear hdo
        rintro e w8 ⟨rfl, hT8, hM8⟩
        have h8 := HT.out.left hT8 hM8
        have hsm := sameTree_any w8 b q S R' rs h8.1 h8.2.1 HGK.out HG.out.rise
        have H8 := Lib.hid (HBB.out.trans (h8.2.2.mono HBB.out.size))
        clear hT8 hM8 y0 y1 y2 y3 h8
        go_wp2_with fail
        refine hsm.mono ?_
        clear hsm
        rintro e w9 ⟨rfl, hB9⟩
        have H9 := Lib.hid (H8.out.trans (hB9.mono H8.out.size))
        clear hB9
        go_wp2_with fail
        refine (wakes22_any _).mono ?_
        rintro e wz ⟨rfl, hBz⟩
        go_wp2_with fail
        go_ret
        exact ⟨rfl, H9.out.trans (hBz.mono H9.out.size)⟩
set_option maxRecDepth 100000 in
set_option maxHeartbeats 2000000 in
theorem treeApart_lifted (os : Os) (started : os.Started) (H : Type) (enc : TypeId × Value → H) :
    ReturnsInHanded {} Tryz.checked os 8 .any (Rows.treeApartSpec.pre6 enc Tryz.prog Tryz.f8 Rows.treeApartRow.domain false) (Rows.treeApartSpec.post enc Tryz.prog Tryz.f8 false true false false) := by
  refine returnsInHanded_of_change (C := Tryz.checked) Tryz.ownP started (by kernel_rfl) Tryz.func8
    (ChangeSpec.witness6 (enc := enc) (C := Tryz.checked) false ⟨#[], #[.slice none 0 0, .agg #[.int .i64 0, .int .i64 0, .string ⟨#[]⟩, .string ⟨#[]⟩]], []⟩ 8 (by kernel_rfl) (by kernel_rfl) (by kernel_rfl) (by kernel_rfl)) ?_
  intro W base args ds gs before hval0 hW hcnd _
  have hval : ∀ (j : Nat) t v, Tryz.f8.params[j]? = some t → args[j]? = some v → Value.okWide Tryz.prog W .any base t v := hval0
  have hW' := hW
  obtain ⟨p, q, hA0, hV, rfl, hfz, hnd⟩ := hW
  have hA : DataW.TrodAll enc Tryz.prog W 0 (fun _ => true) true Tryz.f8.params.toList args.toList ds p := hA0
  rw [Tryz.params8] at hA hval
  obtain ⟨v0, vs0, d0, ds0, p0, q0, hargs, rfl, rfl, h0, r0⟩ := trodAll_cons hA
  obtain ⟨v1, vs1, d1, ds1, p1, q1, rfl, rfl, rfl, h1, r1⟩ := trodAll_cons r0
  obtain ⟨rfl, rfl, rfl⟩ := trodAll_nil r1
  obtain rfl : args = #[v0, v1] := by cases args; simp_all
  obtain ⟨rfl, rfl⟩ := trodVars_none hV
  obtain ⟨cs0, x0, hv0, hr0⟩ := open_arg (n := 9) (T := (.slice ty22)) (by kernel_rfl) (hval 0 44 v0 rfl rfl) h0
  obtain ⟨cs1, x1, hv1, hr1⟩ := open_arg (n := 9) (T := ty22) (by kernel_rfl) (hval 1 48 v1 rfl rfl) h1
  obtain ⟨oa, cap, ps, e0, hn, hS⟩ := rd_sts22 hr0
  obtain ⟨x, e1⟩ := rd_st22 hr1
  simp only [Ty.isStruct, Bool.false_eq_true, if_false] at hv0
  rw [e0] at hv0
  subst hv0
  simp only [ty22, Ty.isStruct, if_true] at hv1
  rw [e1] at hv1
  subst hv1
  clear hA0 hval0
  refine (treeApart_walk W oa cap ps hS hn x).mono fun e W' ⟨he, hb⟩ => ?_
  subst he
  exact ⟨_, rfl, law_post Tryz.laidOutP (by kernel_rfl) rfl Tryz.underlying4 hW' rfl rfl rfl rfl hb⟩

theorem treeApart_holds : Rows.TreeApartSaid :=
  OpenClaim.holds_of_wide 8 Tryz.f8 rfl rfl rfl rfl rfl rfl rfl ⟨rfl, rfl, rfl, rfl, rfl⟩ rfl rfl rfl rfl rfl (by kernel_rfl) Tryz.func8 (by kernel_rfl)
    (of_decide_eq_true (by kernel_rfl)) (by unfold Func.isWrapper; first | (rw [if_pos (by decide +kernel)]; kernel_rfl) | (rw [if_neg (by decide +kernel)]; exact ⟨rfl, rfl⟩))
    (fun os started H enc _ => treeApart_lifted os started H enc)
end Go.Proofs.YtakbalmbkokklaaGreat
