/-
  The law TreeRenames: what is renamed stands at its new place as it stood, with all that lies in it, and no more at its old one; what is renamed back is as it was, where nothing stood at the new place.
  Conditions: none.
-/
import Derived.Test.YtakbalmbkokklaaGreatRenLaw
import Derived.Test.YtakbalmbkokklaaGreatPkWk
namespace Go.Proofs.YtakbalmbkokklaaGreat
open Go.RowKit Esch Go.ChangeShapes Go.WideShapes Go.ChangeAt

def Re22 (B : World) (b q : Nat) (S : Nat → Prop) (n g : Nat) (s9 : Value) (wr : World) : Prop :=
  ∃ (i : Nat) (s : TrS) (R : Nat → Prop), g = n - i ∧ i ≤ n ∧ s9 = .int .i64 i ∧ Two22 B b q S R s wr ∧ Gs22 s i
set_option maxRecDepth 100000 in
set_option maxHeartbeats 16000000 in
theorem treeRenames_walk (w : World) (oa : Option Addr) (cap : Nat) (ps : List St22) (h : Sts22 w oa ps) (hn : ps.length ≤ 9223372036854775807) (p pt : Nm) :
    Calls Tryz.prog 7 #[.slice oa ps.length cap, .string (bs p), .string (bs pt)] w fun e w' => e = .returned (.bool true) ∧ Below w.heap.size w w' := by
  have HS := Lib.hid h
  clear h
  go_enter Tryz.func7, Tryz.ntmps7
  go_wp2_with fail
  refine (trNew_any _).mono ?_
  rintro e w1 ⟨b, rfl, hT, hB1⟩
  obtain ⟨S, hSS⟩ : ∃ S : Nat → Prop, S = fun k => w.heap.size ≤ k ∧ k < w1.heap.size := ⟨_, rfl⟩
  rw [← hSS] at hT
  have HSS := Lib.hid (show ∀ k, S k → w.heap.size ≤ k ∧ k < w1.heap.size by rw [hSS]; exact fun k hk => hk)
  have hfa := fair22b_any w1 oa cap ps (HS.out.below hB1) hn
  have HT1 := Lib.hid hT
  have HB1 := Lib.hid hB1
  clear hT hB1 hSS
  go_wp2_with fail
  refine hfa.mono ?_
  clear hfa
  rintro e w3 ⟨v, rfl, hv, hB3⟩
  have HT3 := Lib.hid (HT1.out.below' hB3)
  have HB3 := Lib.hid (HB1.out.trans (hB3.mono HB1.out.size))
  have HS3 := Lib.hid hB3.size
  have HV := Lib.hid hv
  clear hv hB3
  cases v
  · go_wp2_with fail
    refine (wakes22_any _).mono ?_
    rintro e wz ⟨rfl, hBz⟩
    go_wp2_with fail
    go_ret
    exact ⟨rfl, HB3.out.trans (hBz.mono HB3.out.size)⟩
  have HF := Lib.hid (HV.out rfl)
  clear hn HV
  by_cases hp : 2000 < p.length
  · have hp2 : (2000 : Int) < p.length := by omega
    go_wp2_with fail
    refine (wakes22_any _).mono ?_
    rintro e wz ⟨rfl, hBz⟩
    go_wp2_with fail
    go_ret
    exact ⟨rfl, HB3.out.trans (hBz.mono HB3.out.size)⟩
  by_cases ht : 2000 < pt.length
  · have hp1 : decide (2000 < p.length) = false := decide_eq_false hp
    have hp2 : ¬ (2000 : Int) < p.length := by omega
    have ht2 : (2000 : Int) < pt.length := by omega
    clear hp
    go_wp2_with fail
    refine (wakes22_any _).mono ?_
    rintro e wz ⟨rfl, hBz⟩
    go_wp2_with fail
    go_ret
    exact ⟨rfl, HB3.out.trans (hBz.mono HB3.out.size)⟩
  have hp1 : decide (2000 < p.length) = false := decide_eq_false hp
  have hp2 : ¬ (2000 : Int) < p.length := by omega
  have ht1 : decide (2000 < pt.length) = false := decide_eq_false ht
  have ht2 : ¬ (2000 : Int) < pt.length := by omega
  clear hp ht
  go_wp2_with fail
  refine (rtNew_any _).mono ?_
  rintro e w4 ⟨q, rfl, hR, hB4⟩
  have h5 : Two22 w b q S _ tr0 w4 := ⟨HT3.out.below' hB4, hR, fun k hk => (HSS.out k hk).1, fun k hk => Nat.le_trans HB3.out.size hk.1, fun k hk hs => by have := (HSS.out k hs).2; have := HS3.out; omega, HB3.out.trans (hB4.mono HB3.out.size)⟩
  have H5 := Lib.hid h5
  clear hR hB4 h5 hp1 hp2 ht1 ht2
  go_wp2_with fail
  go_loopg [9] ps.length (fun g s9 wr => Re22 w b q S ps.length g s9 wr)
  case atStart => exact ⟨0, tr0, _, rfl, Nat.zero_le _, rfl, H5.out, gs22_0⟩
  case round =>
    obtain ⟨i, s, R', rfl, hi, rfl, h2, hG⟩ := hrel
    have HT := Lib.hid h2
    have HG := Lib.hid hG
    clear h2 hG
    by_cases hlt : i < ps.length
    · skip
      obtain ⟨bk, off, rfl, hb, hc⟩ := HS.out (by omega)
      obtain ⟨c0, c1, c2, c3⟩ := hc i hlt
      have hfx := HF.out.2 _ (List.getElem_mem hlt)
      rw [show ps[i] = ps.getD i default by rw [List.getD_eq_getElem?_getD, List.getElem?_eq_getElem hlt]; rfl] at hfx
      have h100 := HF.out.1
      have d0 := below_at HT.out.bel c0 hb
      have d1 := below_at HT.out.bel c1 hb
      have d2 := below_at HT.out.bel c2 hb
      have d3 := below_at HT.out.bel c3 hb
      have hdo := do22_any wr b S s HT.out.t HG.out.good.ok (ps.getD i default).k (ps.getD i default).z (ps.getD i default).p (ps.getD i default).q
      have hds := fun W (hW : RTreeAt W q R' s) => does22_any W q R' s hW (HG.out.gk (by omega)) (ps.getD i default).k (ps.getD i default).z (ps.getD i default).p (ps.getD i default).q (by omega) (by omega)
      have hg2 := HG.out.step (ps.getD i default).k (ps.getD i default).z (ps.getD i default).p (ps.getD i default).q
      unfold ErrPost at hdo
      generalize ps.getD i default = x at *
      obtain ⟨yk, yz, yp, yq⟩ := x
      simp only at d0 d1 d2 d3 hdo hds hg2
      generalize s.step yk yz yp yq = r at hdo hds hg2
      obtain ⟨re, rs⟩ := r
      simp only at hdo hds hg2
      have HG2 := Lib.hid hg2
      have hil : (0 : Int) ≤ i ∧ (i : Int) < ps.length := by omega
      have hms : ps.length - (i + 1) < ps.length - i := by omega
      have hwr1 := Lib.hid (show wrap64 ((i : Int) + 1) = ((i + 1 : Nat) : Int) by unfold wrap64; omega)
      have HBK := Lib.hid hb
      have HC0 := Lib.hid c0
      have HC1 := Lib.hid c1
      have HC2 := Lib.hid c2
      have HC3 := Lib.hid c3
      clear hc c0 c1 c2 c3 hg2 hfx h100
      go_wp2_with fail
      refine hdo.mono ?_
      clear hdo
      rintro e w7 ⟨rfl, hT7, hM7⟩
      have h7 := HT.out.left hT7 hM7
      have hds7 := hds w7 h7.2.1
      have d0 := below_at h7.2.2 HC0.out HBK.out
      have d1 := below_at h7.2.2 HC1.out HBK.out
      have d2 := below_at h7.2.2 HC2.out HBK.out
      have d3 := below_at h7.2.2 HC3.out HBK.out
      have H7 := Lib.hid h7
      clear hds hT7 hM7 h7
      go_wp2_with fail
      refine hds7.mono ?_
      clear hds7
      rintro e w8 ⟨rfl, hR8, hM8⟩
      have H8 := Lib.hid (HT.out.right H7.out hR8 hM8)
      clear hR8 hM8 d0 d1 d2 d3
      go_wp2_with fail
      go_roundg (ps.length - (i + 1))
      case measure => exact hms
      case rel => exact ⟨i + 1, _, _, rfl, by omega, by first | rfl | rw [hwr1.out], H8.out, HG2.out⟩
    · obtain rfl : i = ps.length := by omega
      have hGG : Gs22 s 100 := ⟨HG.out.good, HG.out.len, Nat.le_trans HG.out.nlen HF.out.1, HG.out.rise⟩
      have HG := Lib.hid hGG
      have HNL := Lib.hid (show s.n.m.length ≤ 100 from hGG.nlen)
      have hs1 := fun W hW => trStat_any W b S s hW p
      have hls := fun W hW => trList_any W b S s hW p (by have := HNL.out; omega)
      have hs2 := fun W hW => trStat_any W b S s hW pt
      have hrn := fun W hW => trRename_any W b S s hW HG.out.good.ok p pt
      unfold StatPost statV at hs1 hs2
      unfold ListPost at hls
      unfold ErrPost at hrn
      clear hGG hlt hi
      cases hre : s.rename p pt with
      | err e0 =>
        have he0 : (e0 != 0) = true := by simpa using rename_err hre
        have hE : (s.rename p pt).run s = (e0, s) := by rw [hre]; rfl
        rw [hE] at hrn
        simp only at hrn
        generalize statOf s (s.resolve p) = X1 at hs1
        generalize (s.resolve p).code = c1 at hs1
        generalize statOf s (s.resolve pt) = X2 at hs2
        generalize (s.resolve pt).code = c2 at hs2
        generalize lstOf s (s.resolve p) = rl at hls
        generalize rl.code = c3 at hls
        obtain ⟨a0, a1, a2, a4, a3⟩ := X1
        obtain ⟨b0, b1, b2, b4, b3⟩ := X2
        simp only at hs1 hs2
        clear hre hE
        -- Stat, List of p; Stat of the other
        go_wp2_with fail
        refine (hs1 _ HT.out.t).mono ?_
        rintro e w4 ⟨rfl, hB4⟩
        obtain ⟨V4, hV4, hBV4⟩ : ∃ V4, V4 = w4.alloc (.cells #[.int .i64 a0, .int .i64 a1, .int .i64 a2, .int .i64 a3] 32) ∧ Below w4.heap.size w4 V4 := ⟨_, rfl, by exact belC (Below.refl _ _)⟩
        have x0 : V4.cell? ⟨w4.heap.size, 0, none⟩ = some (.int .i64 a0) := by rw [hV4]; go_simp
        have x1 : V4.cell? ⟨w4.heap.size, 1, none⟩ = some (.int .i64 a1) := by rw [hV4]; go_simp
        have x2 : V4.cell? ⟨w4.heap.size, 2, none⟩ = some (.int .i64 a2) := by rw [hV4]; go_simp
        obtain ⟨xb, hxb⟩ : ∃ xb, xb = w4.heap.size := ⟨_, rfl⟩
        rw [← hxb] at x0 x1 x2
        have HXB := Lib.hid hxb
        have HXV := Lib.hid hV4
        have HXW := Lib.hid hBV4
        clear hxb hV4 hBV4
        have H4 := Lib.hid ((HT.out.below hB4).below HXW.out)
        have HXS := Lib.hid (show ∀ k, S k → k < xb from fun k hk => by rw [HXB.out]; exact Nat.lt_of_lt_of_le (HT.out.t.lt k hk) hB4.size)
        clear hB4 hs1
        go_wp2_with fail
        rw [← HXV.out, ← HXB.out]
        refine (hls _ H4.out.t).mono ?_
        rintro e w5 ⟨la, lc, ll, rfl, hL, hN, -, hB5⟩
        have HL := Lib.hid hL
        have HN := Lib.hid hN
        have x0 := below_at hB5 x0 (cell_lt x0)
        have x1 := below_at hB5 x1 (cell_lt x1)
        have x2 := below_at hB5 x2 (cell_lt x2)
        have H5 := Lib.hid (H4.out.below hB5)
        have HLS := Lib.hid (show ∀ k, S k → k < V4.heap.size from H4.out.t.lt)
        clear hL hN hB5 hls
        go_wp2_with fail
        refine (hs2 _ H5.out.t).mono ?_
        rintro e w6 ⟨rfl, hB6⟩
        have x0 := below_at hB6 x0 (cell_lt x0)
        have x1 := below_at hB6 x1 (cell_lt x1)
        have x2 := below_at hB6 x2 (cell_lt x2)
        have hxl6 := cell_lt x0
        obtain ⟨V6, hV6, hBV6⟩ : ∃ V6, V6 = w6.alloc (.cells #[.int .i64 b0, .int .i64 b1, .int .i64 b2, .int .i64 b3] 32) ∧ Below w6.heap.size w6 V6 := ⟨_, rfl, by exact belC (Below.refl _ _)⟩
        have y0 : V6.cell? ⟨w6.heap.size, 0, none⟩ = some (.int .i64 b0) := by rw [hV6]; go_simp
        have y1 : V6.cell? ⟨w6.heap.size, 1, none⟩ = some (.int .i64 b1) := by rw [hV6]; go_simp
        have y2 : V6.cell? ⟨w6.heap.size, 2, none⟩ = some (.int .i64 b2) := by rw [hV6]; go_simp
        obtain ⟨yb, hyb⟩ : ∃ yb, yb = w6.heap.size := ⟨_, rfl⟩
        rw [← hyb] at y0 y1 y2
        have HYB := Lib.hid hyb
        have HYV := Lib.hid hV6
        have HYW := Lib.hid hBV6
        clear hyb hV6 hBV6
        have x0 := below_at HYW.out x0 hxl6
        have x1 := below_at HYW.out x1 hxl6
        have x2 := below_at HYW.out x2 hxl6
        have H6 := Lib.hid ((H5.out.below hB6).below HYW.out)
        have HYS := Lib.hid (show ∀ k, S k → k < yb from fun k hk => by rw [HYB.out]; exact Nat.lt_of_lt_of_le (H5.out.t.lt k hk) hB6.size)
        have HN6 := Lib.hid (HN.out.mod (F := none') (Mod.of_below (hB6.trans (HYW.out.mono hB6.size))) (fun _ _ _ => id))
        clear hB6 hs2 hxl6
        go_wp2_with fail
        rw [← HYV.out, ← HYB.out]
        refine (hrn _ H6.out.t).mono ?_
        rintro e w7 ⟨rfl, hT7, hM7⟩
        have h7 := H6.out.left hT7 hM7
        have hx7 : ¬ S xb := fun hk => by have := HXS.out _ hk; omega
        have hy7 : ¬ S yb := fun hk => by have := HYS.out _ hk; omega
        have x0 := hM7.at x0 hx7
        have x1 := hM7.at x1 hx7
        have x2 := hM7.at x2 hx7
        have y0 := hM7.at y0 hy7
        have HN7 := Lib.hid (HN6.out.mod hM7 (fun k hk _ hs => by have hk : V4.heap.size ≤ k := hk; have := HLS.out k hs; omega))
        have H7 := Lib.hid h7
        clear hT7 hM7 h7 hx7 hy7 hrn y1 y2
        have hsm := sameTree_any w7 b q S R' s H7.out.1 H7.out.2.1 (HG.out.gk (by decide)) HG.out.rise
        clear x0 x1 x2 y0
        go_wp2_with fail
        refine hsm.mono ?_
        clear hsm
        rintro e w8 ⟨rfl, hB8⟩
        have H8 := Lib.hid (H7.out.2.2.trans (hB8.mono H7.out.2.2.size))
        clear hB8
        go_wp2_with fail
        refine (wakes22_any _).mono ?_
        rintro e wz ⟨rfl, hBz⟩
        go_wp2_with fail
        go_ret
        exact ⟨rfl, H8.out.trans (hBz.mono H8.out.size)⟩
      | ok s' =>
        obtain ⟨xi, yi, hx0, hK⟩ := renK HG.out hre
        have hE : (s.rename p pt).run s = (0, s') := by rw [hre]; rfl
        rw [hE] at hrn
        simp only at hrn
        have HK := Lib.hid hK
        have hs3 := fun W hW => trStat_any W b S s' hW pt
        have hls2 := fun W hW => trList_any W b S s' hW pt (by have := HK.out.good.nlen; omega)
        have hs4 := fun W hW => trStat_any W b S s' hW p
        unfold StatPost statV at hs3 hs4
        unfold ListPost at hls2
        rw [hK.p1] at hs1 hls
        rw [hK.q1] at hs2
        rw [hK.q2] at hs3 hls2
        rw [show statOf s (.ok xi) = s.t.at xi from rfl, show (Res.ok xi : Res Int).code = 0 from rfl] at hs1
        rw [show statOf s' (.ok xi) = s'.t.at xi from rfl, show (Res.ok xi : Res Int).code = 0 from rfl, hK.at'] at hs3
        have HLE := Lib.hid (fun l l' => ls_eq (s := s) (s' := s') (i := xi) (l := l) (l' := l') hK.nd hK.good.good.ok.n.nd (by unfold TrS.kind; rw [hK.at']) hK.ins)
        have hxn := hK.xn
        have hgone := fun hne => HK.out.gone hne
        have hback := fun hne => HK.out.back hne
        have hsame := fun he => HK.out.same he
        have hyn := fun h0 => HK.out.yn h0
        by_cases hxy : xi = yi
        · have HSE := Lib.hid (hsame hxy)
          rw [← hxy, if_neg hx0, show statOf s (optRes (some xi)) = s.t.at xi from rfl, show (optRes (some xi)).code = 0 from rfl] at hs2
          generalize s.t.at xi = X1 at hs1 hs2 hs3 hxn
          generalize lstOf s (.ok xi) = rl at hls HLE
          generalize lstOf s' (.ok xi) = rl2 at hls2 HLE
          generalize rl.code = c3 at hls
          generalize rl2.code = c4 at hls2
          obtain ⟨a0, a1, a2, a4, a3⟩ := X1
          simp only at hs1 hs2 hs3 hxn
          clear hre hE hK
          clear hgone hback hsame hyn hs4 hxy hx0 HK hxn
          -- Stat, List of p; Stat of the other
          go_wp2_with fail
          refine (hs1 _ HT.out.t).mono ?_
          rintro e w4 ⟨rfl, hB4⟩
          obtain ⟨V4, hV4, hBV4⟩ : ∃ V4, V4 = w4.alloc (.cells #[.int .i64 a0, .int .i64 a1, .int .i64 a2, .int .i64 a3] 32) ∧ Below w4.heap.size w4 V4 := ⟨_, rfl, by exact belC (Below.refl _ _)⟩
          have x0 : V4.cell? ⟨w4.heap.size, 0, none⟩ = some (.int .i64 a0) := by rw [hV4]; go_simp
          have x1 : V4.cell? ⟨w4.heap.size, 1, none⟩ = some (.int .i64 a1) := by rw [hV4]; go_simp
          have x2 : V4.cell? ⟨w4.heap.size, 2, none⟩ = some (.int .i64 a2) := by rw [hV4]; go_simp
          obtain ⟨xb, hxb⟩ : ∃ xb, xb = w4.heap.size := ⟨_, rfl⟩
          rw [← hxb] at x0 x1 x2
          have HXB := Lib.hid hxb
          have HXV := Lib.hid hV4
          have HXW := Lib.hid hBV4
          clear hxb hV4 hBV4
          have H4 := Lib.hid ((HT.out.below hB4).below HXW.out)
          have HXS := Lib.hid (show ∀ k, S k → k < xb from fun k hk => by rw [HXB.out]; exact Nat.lt_of_lt_of_le (HT.out.t.lt k hk) hB4.size)
          clear hB4 hs1
          go_wp2_with fail
          rw [← HXV.out, ← HXB.out]
          refine (hls _ H4.out.t).mono ?_
          rintro e w5 ⟨la, lc, ll, rfl, hL, hN, -, hB5⟩
          have HL := Lib.hid hL
          have HN := Lib.hid hN
          have x0 := below_at hB5 x0 (cell_lt x0)
          have x1 := below_at hB5 x1 (cell_lt x1)
          have x2 := below_at hB5 x2 (cell_lt x2)
          have H5 := Lib.hid (H4.out.below hB5)
          have HLS := Lib.hid (show ∀ k, S k → k < V4.heap.size from H4.out.t.lt)
          clear hL hN hB5 hls
          go_wp2_with fail
          refine (hs2 _ H5.out.t).mono ?_
          rintro e w6 ⟨rfl, hB6⟩
          have x0 := below_at hB6 x0 (cell_lt x0)
          have x1 := below_at hB6 x1 (cell_lt x1)
          have x2 := below_at hB6 x2 (cell_lt x2)
          have hxl6 := cell_lt x0
          obtain ⟨V6, hV6, hBV6⟩ : ∃ V6, V6 = w6.alloc (.cells #[.int .i64 a0, .int .i64 a1, .int .i64 a2, .int .i64 a3] 32) ∧ Below w6.heap.size w6 V6 := ⟨_, rfl, by exact belC (Below.refl _ _)⟩
          have y0 : V6.cell? ⟨w6.heap.size, 0, none⟩ = some (.int .i64 a0) := by rw [hV6]; go_simp
          have y1 : V6.cell? ⟨w6.heap.size, 1, none⟩ = some (.int .i64 a1) := by rw [hV6]; go_simp
          have y2 : V6.cell? ⟨w6.heap.size, 2, none⟩ = some (.int .i64 a2) := by rw [hV6]; go_simp
          obtain ⟨yb, hyb⟩ : ∃ yb, yb = w6.heap.size := ⟨_, rfl⟩
          rw [← hyb] at y0 y1 y2
          have HYB := Lib.hid hyb
          have HYV := Lib.hid hV6
          have HYW := Lib.hid hBV6
          clear hyb hV6 hBV6
          have x0 := below_at HYW.out x0 hxl6
          have x1 := below_at HYW.out x1 hxl6
          have x2 := below_at HYW.out x2 hxl6
          have H6 := Lib.hid ((H5.out.below hB6).below HYW.out)
          have HYS := Lib.hid (show ∀ k, S k → k < yb from fun k hk => by rw [HYB.out]; exact Nat.lt_of_lt_of_le (H5.out.t.lt k hk) hB6.size)
          have HN6 := Lib.hid (HN.out.mod (F := none') (Mod.of_below (hB6.trans (HYW.out.mono hB6.size))) (fun _ _ _ => id))
          clear hB6 hs2 hxl6
          go_wp2_with fail
          rw [← HYV.out, ← HYB.out]
          refine (hrn _ H6.out.t).mono ?_
          rintro e w7 ⟨rfl, hT7, hM7⟩
          have h7 := H6.out.left hT7 hM7
          have hx7 : ¬ S xb := fun hk => by have := HXS.out _ hk; omega
          have hy7 : ¬ S yb := fun hk => by have := HYS.out _ hk; omega
          have x0 := hM7.at x0 hx7
          have x1 := hM7.at x1 hx7
          have x2 := hM7.at x2 hx7
          have y0 := hM7.at y0 hy7
          have HN7 := Lib.hid (HN6.out.mod hM7 (fun k hk _ hs => by have hk : V4.heap.size ≤ k := hk; have := HLS.out k hs; omega))
          have H7 := Lib.hid h7
          clear hT7 hM7 h7 hx7 hy7 hrn y1 y2
          -- Stat, List of the new place; they are as they were
          go_wp2_with fail
          refine (hs3 _ H7.out.1).mono ?_
          rintro e w8 ⟨rfl, hB8⟩
          have x0 := below_at hB8 x0 (cell_lt x0)
          have x1 := below_at hB8 x1 (cell_lt x1)
          have x2 := below_at hB8 x2 (cell_lt x2)
          have y0 := below_at hB8 y0 (cell_lt y0)
          have hxl8 := cell_lt x0
          have hyl8 := cell_lt y0
          obtain ⟨V8, hV8, hBV8⟩ : ∃ V8, V8 = w8.alloc (.cells #[.int .i64 a0, .int .i64 a1, .int .i64 a2, .int .i64 a3] 32) ∧ Below w8.heap.size w8 V8 := ⟨_, rfl, by exact belC (Below.refl _ _)⟩
          have z0 : V8.cell? ⟨w8.heap.size, 0, none⟩ = some (.int .i64 a0) := by rw [hV8]; go_simp
          have z1 : V8.cell? ⟨w8.heap.size, 1, none⟩ = some (.int .i64 a1) := by rw [hV8]; go_simp
          have z2 : V8.cell? ⟨w8.heap.size, 2, none⟩ = some (.int .i64 a2) := by rw [hV8]; go_simp
          obtain ⟨zb, hzb⟩ : ∃ zb, zb = w8.heap.size := ⟨_, rfl⟩
          rw [← hzb] at z0 z1 z2
          have HZB := Lib.hid hzb
          have HZV := Lib.hid hV8
          have HZW := Lib.hid hBV8
          clear hzb hV8 hBV8
          have x0 := below_at HZW.out x0 hxl8
          have x1 := below_at HZW.out x1 hxl8
          have x2 := below_at HZW.out x2 hxl8
          have y0 := below_at HZW.out y0 hyl8
          have hB78 := hB8.trans (HZW.out.mono hB8.size)
          have hT8 := H7.out.1.below' hB78
          have hR8 := H7.out.2.1.below' hB78
          have H8 := Lib.hid (show TreeAt V8 b S s' ∧ RTreeAt V8 q R' s ∧ Below w.heap.size w V8 from ⟨hT8, hR8, H7.out.2.2.trans (hB78.mono H7.out.2.2.size)⟩)
          have HN8 := Lib.hid (HN7.out.mod (F := none') (Mod.of_below hB78) (fun _ _ _ => id))
          clear hB8 hs3 hB78 hT8 hR8 hxl8 hyl8
          go_wp2_with fail
          rw [← HZV.out, ← HZB.out]
          refine (hls2 _ H8.out.1).mono ?_
          rintro e w9 ⟨ma, mc, ml, rfl, hL9, hN9, -, hB9⟩
          obtain rfl : ml = ll := HLE.out _ _ HL.out hL9
          have hll := Lib.hid (show ml.length ≤ 100000 from Nat.le_trans (lsOk_len HL.out) (by have := HNL.out; omega))
          have HN9 := Lib.hid hN9
          have HN9b := Lib.hid (HN8.out.mod (F := none') (Mod.of_below hB9) (fun _ _ _ => id))
          have x0 := below_at hB9 x0 (cell_lt x0)
          have x1 := below_at hB9 x1 (cell_lt x1)
          have x2 := below_at hB9 x2 (cell_lt x2)
          have y0 := below_at hB9 y0 (cell_lt y0)
          have z0 := below_at hB9 z0 (cell_lt z0)
          have z1 := below_at hB9 z1 (cell_lt z1)
          have z2 := below_at hB9 z2 (cell_lt z2)
          have H9 := Lib.hid (show TreeAt w9 b S s' ∧ RTreeAt w9 q R' s ∧ Below w.heap.size w w9 from ⟨H8.out.1.below' hB9, H8.out.2.1.below' hB9, H8.out.2.2.trans (hB9.mono H8.out.2.2.size)⟩)
          have htx := texts_any w9 _ _ ma la mc lc ml ml HN9.out HN9b.out hll.out
          rw [decide_eq_true rfl] at htx
          clear hL9 hN9 hB9 hls2 hll
          go_wp2_with fail
          refine htx.mono ?_
          clear htx
          rintro e w10 ⟨rfl, hB10⟩
          have x0 := below_at hB10 x0 (cell_lt x0)
          have x2 := below_at hB10 x2 (cell_lt x2)
          have y0 := below_at hB10 y0 (cell_lt y0)
          have z2 := below_at hB10 z2 (cell_lt z2)
          have H10 := Lib.hid (show TreeAt w10 b S s' ∧ RTreeAt w10 q R' s ∧ Below w.heap.size w w10 from ⟨H9.out.1.below' hB10, H9.out.2.1.below' hB10, H9.out.2.2.trans (hB10.mono H9.out.2.2.size)⟩)
          clear hB10 x1 z0 z1
          have hsm := sameTree_any w10 b q S R' s (HSE.out ▸ H10.out.1) H10.out.2.1 (HG.out.gk (by decide)) HG.out.rise
          go_wp2_with fail
          refine hsm.mono ?_
          clear hsm
          rintro e w11 ⟨rfl, hB11⟩
          have H11 := Lib.hid (H10.out.2.2.trans (hB11.mono H10.out.2.2.size))
          clear hB11
          go_wp2_with fail
          refine (wakes22_any _).mono ?_
          rintro e wz ⟨rfl, hBz⟩
          go_wp2_with fail
          go_ret
          exact ⟨rfl, H11.out.trans (hBz.mono H11.out.size)⟩
        · rw [hgone hxy, show statOf s' (.err 60) = in0 from rfl, show (Res.err 60 : Res Int).code = 60 from rfl] at hs4
          unfold in0 at hs4
          simp only at hs4
          by_cases hy0 : yi = 0
          · obtain ⟨s2, e2, hg2, ht2, hp2⟩ := hback hxy hy0
            have hrn2 := fun W hW => trRename_any W b S s' hW HK.out.good.good.ok pt p
            unfold ErrPost at hrn2
            rw [show (s'.rename pt p).run s' = (0, s2) by rw [e2]; rfl] at hrn2
            simp only at hrn2
            have HG2 := Lib.hid hg2
            have HT2 := Lib.hid ht2
            have HP2 := Lib.hid hp2
            rw [if_pos hy0, show statOf s (optRes none) = in0 from rfl, show (optRes none).code = 60 from rfl] at hs2
            unfold in0 at hs2
            simp only at hs2
            generalize s.t.at xi = X1 at hs1 hs3 hxn
            generalize lstOf s (.ok xi) = rl at hls HLE
            generalize lstOf s' (.ok xi) = rl2 at hls2 HLE
            generalize rl.code = c3 at hls
            generalize rl2.code = c4 at hls2
            obtain ⟨a0, a1, a2, a4, a3⟩ := X1
            simp only at hs1 hs3 hxn
            clear hre hE hK
            clear hgone hback hsame hyn hxy hy0 hx0 HK hxn e2 hg2 ht2 hp2
            -- Stat, List of p; Stat of the other
            go_wp2_with fail
            refine (hs1 _ HT.out.t).mono ?_
            rintro e w4 ⟨rfl, hB4⟩
            obtain ⟨V4, hV4, hBV4⟩ : ∃ V4, V4 = w4.alloc (.cells #[.int .i64 a0, .int .i64 a1, .int .i64 a2, .int .i64 a3] 32) ∧ Below w4.heap.size w4 V4 := ⟨_, rfl, by exact belC (Below.refl _ _)⟩
            have x0 : V4.cell? ⟨w4.heap.size, 0, none⟩ = some (.int .i64 a0) := by rw [hV4]; go_simp
            have x1 : V4.cell? ⟨w4.heap.size, 1, none⟩ = some (.int .i64 a1) := by rw [hV4]; go_simp
            have x2 : V4.cell? ⟨w4.heap.size, 2, none⟩ = some (.int .i64 a2) := by rw [hV4]; go_simp
            obtain ⟨xb, hxb⟩ : ∃ xb, xb = w4.heap.size := ⟨_, rfl⟩
            rw [← hxb] at x0 x1 x2
            have HXB := Lib.hid hxb
            have HXV := Lib.hid hV4
            have HXW := Lib.hid hBV4
            clear hxb hV4 hBV4
            have H4 := Lib.hid ((HT.out.below hB4).below HXW.out)
            have HXS := Lib.hid (show ∀ k, S k → k < xb from fun k hk => by rw [HXB.out]; exact Nat.lt_of_lt_of_le (HT.out.t.lt k hk) hB4.size)
            clear hB4 hs1
            go_wp2_with fail
            rw [← HXV.out, ← HXB.out]
            refine (hls _ H4.out.t).mono ?_
            rintro e w5 ⟨la, lc, ll, rfl, hL, hN, -, hB5⟩
            have HL := Lib.hid hL
            have HN := Lib.hid hN
            have x0 := below_at hB5 x0 (cell_lt x0)
            have x1 := below_at hB5 x1 (cell_lt x1)
            have x2 := below_at hB5 x2 (cell_lt x2)
            have H5 := Lib.hid (H4.out.below hB5)
            have HLS := Lib.hid (show ∀ k, S k → k < V4.heap.size from H4.out.t.lt)
            clear hL hN hB5 hls
            go_wp2_with fail
            refine (hs2 _ H5.out.t).mono ?_
            rintro e w6 ⟨rfl, hB6⟩
            have x0 := below_at hB6 x0 (cell_lt x0)
            have x1 := below_at hB6 x1 (cell_lt x1)
            have x2 := below_at hB6 x2 (cell_lt x2)
            have hxl6 := cell_lt x0
            obtain ⟨V6, hV6, hBV6⟩ : ∃ V6, V6 = w6.alloc (.cells #[.int .i64 0, .int .i64 0, .int .i64 0, .int .i64 0] 32) ∧ Below w6.heap.size w6 V6 := ⟨_, rfl, by exact belC (Below.refl _ _)⟩
            have y0 : V6.cell? ⟨w6.heap.size, 0, none⟩ = some (.int .i64 0) := by rw [hV6]; go_simp
            have y1 : V6.cell? ⟨w6.heap.size, 1, none⟩ = some (.int .i64 0) := by rw [hV6]; go_simp
            have y2 : V6.cell? ⟨w6.heap.size, 2, none⟩ = some (.int .i64 0) := by rw [hV6]; go_simp
            obtain ⟨yb, hyb⟩ : ∃ yb, yb = w6.heap.size := ⟨_, rfl⟩
            rw [← hyb] at y0 y1 y2
            have HYB := Lib.hid hyb
            have HYV := Lib.hid hV6
            have HYW := Lib.hid hBV6
            clear hyb hV6 hBV6
            have x0 := below_at HYW.out x0 hxl6
            have x1 := below_at HYW.out x1 hxl6
            have x2 := below_at HYW.out x2 hxl6
            have H6 := Lib.hid ((H5.out.below hB6).below HYW.out)
            have HYS := Lib.hid (show ∀ k, S k → k < yb from fun k hk => by rw [HYB.out]; exact Nat.lt_of_lt_of_le (H5.out.t.lt k hk) hB6.size)
            have HN6 := Lib.hid (HN.out.mod (F := none') (Mod.of_below (hB6.trans (HYW.out.mono hB6.size))) (fun _ _ _ => id))
            clear hB6 hs2 hxl6
            go_wp2_with fail
            rw [← HYV.out, ← HYB.out]
            refine (hrn _ H6.out.t).mono ?_
            rintro e w7 ⟨rfl, hT7, hM7⟩
            have h7 := H6.out.left hT7 hM7
            have hx7 : ¬ S xb := fun hk => by have := HXS.out _ hk; omega
            have hy7 : ¬ S yb := fun hk => by have := HYS.out _ hk; omega
            have x0 := hM7.at x0 hx7
            have x1 := hM7.at x1 hx7
            have x2 := hM7.at x2 hx7
            have y0 := hM7.at y0 hy7
            have HN7 := Lib.hid (HN6.out.mod hM7 (fun k hk _ hs => by have hk : V4.heap.size ≤ k := hk; have := HLS.out k hs; omega))
            have H7 := Lib.hid h7
            clear hT7 hM7 h7 hx7 hy7 hrn y1 y2
            -- Stat, List of the new place; they are as they were
            go_wp2_with fail
            refine (hs3 _ H7.out.1).mono ?_
            rintro e w8 ⟨rfl, hB8⟩
            have x0 := below_at hB8 x0 (cell_lt x0)
            have x1 := below_at hB8 x1 (cell_lt x1)
            have x2 := below_at hB8 x2 (cell_lt x2)
            have y0 := below_at hB8 y0 (cell_lt y0)
            have hxl8 := cell_lt x0
            have hyl8 := cell_lt y0
            obtain ⟨V8, hV8, hBV8⟩ : ∃ V8, V8 = w8.alloc (.cells #[.int .i64 a0, .int .i64 a1, .int .i64 a2, .int .i64 a3] 32) ∧ Below w8.heap.size w8 V8 := ⟨_, rfl, by exact belC (Below.refl _ _)⟩
            have z0 : V8.cell? ⟨w8.heap.size, 0, none⟩ = some (.int .i64 a0) := by rw [hV8]; go_simp
            have z1 : V8.cell? ⟨w8.heap.size, 1, none⟩ = some (.int .i64 a1) := by rw [hV8]; go_simp
            have z2 : V8.cell? ⟨w8.heap.size, 2, none⟩ = some (.int .i64 a2) := by rw [hV8]; go_simp
            obtain ⟨zb, hzb⟩ : ∃ zb, zb = w8.heap.size := ⟨_, rfl⟩
            rw [← hzb] at z0 z1 z2
            have HZB := Lib.hid hzb
            have HZV := Lib.hid hV8
            have HZW := Lib.hid hBV8
            clear hzb hV8 hBV8
            have x0 := below_at HZW.out x0 hxl8
            have x1 := below_at HZW.out x1 hxl8
            have x2 := below_at HZW.out x2 hxl8
            have y0 := below_at HZW.out y0 hyl8
            have hB78 := hB8.trans (HZW.out.mono hB8.size)
            have hT8 := H7.out.1.below' hB78
            have hR8 := H7.out.2.1.below' hB78
            have H8 := Lib.hid (show TreeAt V8 b S s' ∧ RTreeAt V8 q R' s ∧ Below w.heap.size w V8 from ⟨hT8, hR8, H7.out.2.2.trans (hB78.mono H7.out.2.2.size)⟩)
            have HN8 := Lib.hid (HN7.out.mod (F := none') (Mod.of_below hB78) (fun _ _ _ => id))
            clear hB8 hs3 hB78 hT8 hR8 hxl8 hyl8
            go_wp2_with fail
            rw [← HZV.out, ← HZB.out]
            refine (hls2 _ H8.out.1).mono ?_
            rintro e w9 ⟨ma, mc, ml, rfl, hL9, hN9, -, hB9⟩
            obtain rfl : ml = ll := HLE.out _ _ HL.out hL9
            have hll := Lib.hid (show ml.length ≤ 100000 from Nat.le_trans (lsOk_len HL.out) (by have := HNL.out; omega))
            have HN9 := Lib.hid hN9
            have HN9b := Lib.hid (HN8.out.mod (F := none') (Mod.of_below hB9) (fun _ _ _ => id))
            have x0 := below_at hB9 x0 (cell_lt x0)
            have x1 := below_at hB9 x1 (cell_lt x1)
            have x2 := below_at hB9 x2 (cell_lt x2)
            have y0 := below_at hB9 y0 (cell_lt y0)
            have z0 := below_at hB9 z0 (cell_lt z0)
            have z1 := below_at hB9 z1 (cell_lt z1)
            have z2 := below_at hB9 z2 (cell_lt z2)
            have H9 := Lib.hid (show TreeAt w9 b S s' ∧ RTreeAt w9 q R' s ∧ Below w.heap.size w w9 from ⟨H8.out.1.below' hB9, H8.out.2.1.below' hB9, H8.out.2.2.trans (hB9.mono H8.out.2.2.size)⟩)
            have htx := texts_any w9 _ _ ma la mc lc ml ml HN9.out HN9b.out hll.out
            rw [decide_eq_true rfl] at htx
            clear hL9 hN9 hB9 hls2 hll
            go_wp2_with fail
            refine htx.mono ?_
            clear htx
            rintro e w10 ⟨rfl, hB10⟩
            have x0 := below_at hB10 x0 (cell_lt x0)
            have x2 := below_at hB10 x2 (cell_lt x2)
            have y0 := below_at hB10 y0 (cell_lt y0)
            have z2 := below_at hB10 z2 (cell_lt z2)
            have H10 := Lib.hid (show TreeAt w10 b S s' ∧ RTreeAt w10 q R' s ∧ Below w.heap.size w w10 from ⟨H9.out.1.below' hB10, H9.out.2.1.below' hB10, H9.out.2.2.trans (hB10.mono H9.out.2.2.size)⟩)
            clear hB10 x1 z0 z1
            clear x0 x2 y0 z2
            -- nothing stands at the old place
            go_wp2_with fail
            refine (hs4 _ H10.out.1).mono ?_
            clear hs4
            rintro e w11 ⟨rfl, hB11⟩
            obtain ⟨V11, hV11, hBV11⟩ : ∃ V11, V11 = w11.alloc (.cells #[.int .i64 0, .int .i64 0, .int .i64 0, .int .i64 0] 32) ∧ Below w11.heap.size w11 V11 := ⟨_, rfl, by exact belC (Below.refl _ _)⟩
            have hB1011 := hB11.trans (hBV11.mono hB11.size)
            try have x2 := below_at hB11 x2 (cell_lt x2)
            try have z2 := below_at hB11 z2 (cell_lt z2)
            try have hxl11 := cell_lt x2
            try have hzl11 := cell_lt z2
            have H12 := Lib.hid (show TreeAt V11 b S s' ∧ RTreeAt V11 q R' s ∧ Below w.heap.size w V11 from ⟨H10.out.1.below' hB1011, H10.out.2.1.below' hB1011, H10.out.2.2.trans (hB1011.mono H10.out.2.2.size)⟩)
            have H12w := Lib.hid H12.out.2.2
            have HV11 := Lib.hid hV11
            clear hB11 hV11 hBV11 hB1011
            go_wp2_with fail
            rw [← HV11.out]
            refine (hrn2 _ H12.out.1).mono ?_
            clear hrn2
            rintro e w13 ⟨rfl, hT13, hM13⟩
            have H13 := Lib.hid (show TreeAt w13 b S s2 ∧ RTreeAt w13 q R' s ∧ Below w.heap.size w w13 from ⟨hT13, H12.out.2.1.mod hM13 HT.out.d, H12.out.2.2.trans (hM13.below_at H12.out.2.2.size (fun k hk e => by have := HT.out.s0 k e; omega))⟩)
            have hsm := sameTree_any w13 b q S R' s2 H13.out.1 (H13.out.2.1.like HT2.out HP2.out) (HG2.out.gk (by decide)) HG2.out.rise
            clear hT13 hM13
            go_wp2_with fail
            refine hsm.mono ?_
            clear hsm
            rintro e w14 ⟨rfl, hB14⟩
            have H14 := Lib.hid (H13.out.2.2.trans (hB14.mono H13.out.2.2.size))
            clear hB14
            go_wp2_with fail
            refine (wakes22_any _).mono ?_
            rintro e wz ⟨rfl, hBz⟩
            go_wp2_with fail
            go_ret
            exact ⟨rfl, H14.out.trans (hBz.mono H14.out.size)⟩
          · have hyn := hyn hy0
            rw [if_neg hy0, show statOf s (optRes (some yi)) = s.t.at yi from rfl, show (optRes (some yi)).code = 0 from rfl] at hs2
            generalize s.t.at yi = X2 at hs2 hyn
            obtain ⟨b0, b1, b2, b4, b3⟩ := X2
            simp only at hs2 hyn
            generalize s.t.at xi = X1 at hs1 hs3 hxn
            generalize lstOf s (.ok xi) = rl at hls HLE
            generalize lstOf s' (.ok xi) = rl2 at hls2 HLE
            generalize rl.code = c3 at hls
            generalize rl2.code = c4 at hls2
            obtain ⟨a0, a1, a2, a4, a3⟩ := X1
            simp only at hs1 hs3 hxn
            clear hre hE hK
            have hba : (b0 == a0) = false := by rw [hxn, hyn]; simpa using fun e => hxy (Eq.symm e)
            clear hgone hback hsame hyn hxy hy0 hx0 HK hxn
            -- Stat, List of p; Stat of the other
            go_wp2_with fail
            refine (hs1 _ HT.out.t).mono ?_
            rintro e w4 ⟨rfl, hB4⟩
            obtain ⟨V4, hV4, hBV4⟩ : ∃ V4, V4 = w4.alloc (.cells #[.int .i64 a0, .int .i64 a1, .int .i64 a2, .int .i64 a3] 32) ∧ Below w4.heap.size w4 V4 := ⟨_, rfl, by exact belC (Below.refl _ _)⟩
            have x0 : V4.cell? ⟨w4.heap.size, 0, none⟩ = some (.int .i64 a0) := by rw [hV4]; go_simp
            have x1 : V4.cell? ⟨w4.heap.size, 1, none⟩ = some (.int .i64 a1) := by rw [hV4]; go_simp
            have x2 : V4.cell? ⟨w4.heap.size, 2, none⟩ = some (.int .i64 a2) := by rw [hV4]; go_simp
            obtain ⟨xb, hxb⟩ : ∃ xb, xb = w4.heap.size := ⟨_, rfl⟩
            rw [← hxb] at x0 x1 x2
            have HXB := Lib.hid hxb
            have HXV := Lib.hid hV4
            have HXW := Lib.hid hBV4
            clear hxb hV4 hBV4
            have H4 := Lib.hid ((HT.out.below hB4).below HXW.out)
            have HXS := Lib.hid (show ∀ k, S k → k < xb from fun k hk => by rw [HXB.out]; exact Nat.lt_of_lt_of_le (HT.out.t.lt k hk) hB4.size)
            clear hB4 hs1
            go_wp2_with fail
            rw [← HXV.out, ← HXB.out]
            refine (hls _ H4.out.t).mono ?_
            rintro e w5 ⟨la, lc, ll, rfl, hL, hN, -, hB5⟩
            have HL := Lib.hid hL
            have HN := Lib.hid hN
            have x0 := below_at hB5 x0 (cell_lt x0)
            have x1 := below_at hB5 x1 (cell_lt x1)
            have x2 := below_at hB5 x2 (cell_lt x2)
            have H5 := Lib.hid (H4.out.below hB5)
            have HLS := Lib.hid (show ∀ k, S k → k < V4.heap.size from H4.out.t.lt)
            clear hL hN hB5 hls
            go_wp2_with fail
            refine (hs2 _ H5.out.t).mono ?_
            rintro e w6 ⟨rfl, hB6⟩
            have x0 := below_at hB6 x0 (cell_lt x0)
            have x1 := below_at hB6 x1 (cell_lt x1)
            have x2 := below_at hB6 x2 (cell_lt x2)
            have hxl6 := cell_lt x0
            obtain ⟨V6, hV6, hBV6⟩ : ∃ V6, V6 = w6.alloc (.cells #[.int .i64 b0, .int .i64 b1, .int .i64 b2, .int .i64 b3] 32) ∧ Below w6.heap.size w6 V6 := ⟨_, rfl, by exact belC (Below.refl _ _)⟩
            have y0 : V6.cell? ⟨w6.heap.size, 0, none⟩ = some (.int .i64 b0) := by rw [hV6]; go_simp
            have y1 : V6.cell? ⟨w6.heap.size, 1, none⟩ = some (.int .i64 b1) := by rw [hV6]; go_simp
            have y2 : V6.cell? ⟨w6.heap.size, 2, none⟩ = some (.int .i64 b2) := by rw [hV6]; go_simp
            obtain ⟨yb, hyb⟩ : ∃ yb, yb = w6.heap.size := ⟨_, rfl⟩
            rw [← hyb] at y0 y1 y2
            have HYB := Lib.hid hyb
            have HYV := Lib.hid hV6
            have HYW := Lib.hid hBV6
            clear hyb hV6 hBV6
            have x0 := below_at HYW.out x0 hxl6
            have x1 := below_at HYW.out x1 hxl6
            have x2 := below_at HYW.out x2 hxl6
            have H6 := Lib.hid ((H5.out.below hB6).below HYW.out)
            have HYS := Lib.hid (show ∀ k, S k → k < yb from fun k hk => by rw [HYB.out]; exact Nat.lt_of_lt_of_le (H5.out.t.lt k hk) hB6.size)
            have HN6 := Lib.hid (HN.out.mod (F := none') (Mod.of_below (hB6.trans (HYW.out.mono hB6.size))) (fun _ _ _ => id))
            clear hB6 hs2 hxl6
            go_wp2_with fail
            rw [← HYV.out, ← HYB.out]
            refine (hrn _ H6.out.t).mono ?_
            rintro e w7 ⟨rfl, hT7, hM7⟩
            have h7 := H6.out.left hT7 hM7
            have hx7 : ¬ S xb := fun hk => by have := HXS.out _ hk; omega
            have hy7 : ¬ S yb := fun hk => by have := HYS.out _ hk; omega
            have x0 := hM7.at x0 hx7
            have x1 := hM7.at x1 hx7
            have x2 := hM7.at x2 hx7
            have y0 := hM7.at y0 hy7
            have HN7 := Lib.hid (HN6.out.mod hM7 (fun k hk _ hs => by have hk : V4.heap.size ≤ k := hk; have := HLS.out k hs; omega))
            have H7 := Lib.hid h7
            clear hT7 hM7 h7 hx7 hy7 hrn y1 y2
            -- Stat, List of the new place; they are as they were
            go_wp2_with fail
            refine (hs3 _ H7.out.1).mono ?_
            rintro e w8 ⟨rfl, hB8⟩
            have x0 := below_at hB8 x0 (cell_lt x0)
            have x1 := below_at hB8 x1 (cell_lt x1)
            have x2 := below_at hB8 x2 (cell_lt x2)
            have y0 := below_at hB8 y0 (cell_lt y0)
            have hxl8 := cell_lt x0
            have hyl8 := cell_lt y0
            obtain ⟨V8, hV8, hBV8⟩ : ∃ V8, V8 = w8.alloc (.cells #[.int .i64 a0, .int .i64 a1, .int .i64 a2, .int .i64 a3] 32) ∧ Below w8.heap.size w8 V8 := ⟨_, rfl, by exact belC (Below.refl _ _)⟩
            have z0 : V8.cell? ⟨w8.heap.size, 0, none⟩ = some (.int .i64 a0) := by rw [hV8]; go_simp
            have z1 : V8.cell? ⟨w8.heap.size, 1, none⟩ = some (.int .i64 a1) := by rw [hV8]; go_simp
            have z2 : V8.cell? ⟨w8.heap.size, 2, none⟩ = some (.int .i64 a2) := by rw [hV8]; go_simp
            obtain ⟨zb, hzb⟩ : ∃ zb, zb = w8.heap.size := ⟨_, rfl⟩
            rw [← hzb] at z0 z1 z2
            have HZB := Lib.hid hzb
            have HZV := Lib.hid hV8
            have HZW := Lib.hid hBV8
            clear hzb hV8 hBV8
            have x0 := below_at HZW.out x0 hxl8
            have x1 := below_at HZW.out x1 hxl8
            have x2 := below_at HZW.out x2 hxl8
            have y0 := below_at HZW.out y0 hyl8
            have hB78 := hB8.trans (HZW.out.mono hB8.size)
            have hT8 := H7.out.1.below' hB78
            have hR8 := H7.out.2.1.below' hB78
            have H8 := Lib.hid (show TreeAt V8 b S s' ∧ RTreeAt V8 q R' s ∧ Below w.heap.size w V8 from ⟨hT8, hR8, H7.out.2.2.trans (hB78.mono H7.out.2.2.size)⟩)
            have HN8 := Lib.hid (HN7.out.mod (F := none') (Mod.of_below hB78) (fun _ _ _ => id))
            clear hB8 hs3 hB78 hT8 hR8 hxl8 hyl8
            go_wp2_with fail
            rw [← HZV.out, ← HZB.out]
            refine (hls2 _ H8.out.1).mono ?_
            rintro e w9 ⟨ma, mc, ml, rfl, hL9, hN9, -, hB9⟩
            obtain rfl : ml = ll := HLE.out _ _ HL.out hL9
            have hll := Lib.hid (show ml.length ≤ 100000 from Nat.le_trans (lsOk_len HL.out) (by have := HNL.out; omega))
            have HN9 := Lib.hid hN9
            have HN9b := Lib.hid (HN8.out.mod (F := none') (Mod.of_below hB9) (fun _ _ _ => id))
            have x0 := below_at hB9 x0 (cell_lt x0)
            have x1 := below_at hB9 x1 (cell_lt x1)
            have x2 := below_at hB9 x2 (cell_lt x2)
            have y0 := below_at hB9 y0 (cell_lt y0)
            have z0 := below_at hB9 z0 (cell_lt z0)
            have z1 := below_at hB9 z1 (cell_lt z1)
            have z2 := below_at hB9 z2 (cell_lt z2)
            have H9 := Lib.hid (show TreeAt w9 b S s' ∧ RTreeAt w9 q R' s ∧ Below w.heap.size w w9 from ⟨H8.out.1.below' hB9, H8.out.2.1.below' hB9, H8.out.2.2.trans (hB9.mono H8.out.2.2.size)⟩)
            have htx := texts_any w9 _ _ ma la mc lc ml ml HN9.out HN9b.out hll.out
            rw [decide_eq_true rfl] at htx
            clear hL9 hN9 hB9 hls2 hll
            go_wp2_with fail
            refine htx.mono ?_
            clear htx
            rintro e w10 ⟨rfl, hB10⟩
            have x0 := below_at hB10 x0 (cell_lt x0)
            have x2 := below_at hB10 x2 (cell_lt x2)
            have y0 := below_at hB10 y0 (cell_lt y0)
            have z2 := below_at hB10 z2 (cell_lt z2)
            have H10 := Lib.hid (show TreeAt w10 b S s' ∧ RTreeAt w10 q R' s ∧ Below w.heap.size w w10 from ⟨H9.out.1.below' hB10, H9.out.2.1.below' hB10, H9.out.2.2.trans (hB10.mono H9.out.2.2.size)⟩)
            clear hB10 x1 z0 z1
            -- nothing stands at the old place
            go_wp2_with fail
            refine (hs4 _ H10.out.1).mono ?_
            clear hs4
            rintro e w11 ⟨rfl, hB11⟩
            obtain ⟨V11, hV11, hBV11⟩ : ∃ V11, V11 = w11.alloc (.cells #[.int .i64 0, .int .i64 0, .int .i64 0, .int .i64 0] 32) ∧ Below w11.heap.size w11 V11 := ⟨_, rfl, by exact belC (Below.refl _ _)⟩
            have hB1011 := hB11.trans (hBV11.mono hB11.size)
            try have x2 := below_at hB11 x2 (cell_lt x2)
            try have z2 := below_at hB11 z2 (cell_lt z2)
            try have hxl11 := cell_lt x2
            try have hzl11 := cell_lt z2
            have H12 := Lib.hid (show TreeAt V11 b S s' ∧ RTreeAt V11 q R' s ∧ Below w.heap.size w V11 from ⟨H10.out.1.below' hB1011, H10.out.2.1.below' hB1011, H10.out.2.2.trans (hB1011.mono H10.out.2.2.size)⟩)
            have H12w := Lib.hid H12.out.2.2
            have HV11 := Lib.hid hV11
            clear hB11 hV11 hBV11 hB1011
            go_wp2_with fail
            rw [← HV11.out]
            refine (wakes22_any _).mono ?_
            rintro e wz ⟨rfl, hBz⟩
            go_wp2_with fail
            go_ret
            exact ⟨rfl, H12w.out.trans (hBz.mono H12w.out.size)⟩
set_option maxRecDepth 100000 in
set_option maxHeartbeats 2000000 in
theorem treeRenames_lifted (os : Os) (started : os.Started) (H : Type) (enc : TypeId × Value → H) :
    ReturnsInHanded {} Tryz.checked os 7 .any (Rows.treeRenamesSpec.pre6 enc Tryz.prog Tryz.f7 Rows.treeRenamesRow.domain false) (Rows.treeRenamesSpec.post enc Tryz.prog Tryz.f7 false true false false) := by
  refine returnsInHanded_of_change (C := Tryz.checked) Tryz.ownP started (by kernel_rfl) Tryz.func7
    (ChangeSpec.witness6 (enc := enc) (C := Tryz.checked) false ⟨#[], #[.slice none 0 0, .string ⟨#[]⟩, .string ⟨#[]⟩], []⟩ 8 (by kernel_rfl) (by kernel_rfl) (by kernel_rfl) (by kernel_rfl)) ?_
  intro W base args ds gs before hval0 hW hcnd _
  have hval : ∀ (j : Nat) t v, Tryz.f7.params[j]? = some t → args[j]? = some v → Value.okWide Tryz.prog W .any base t v := hval0
  have hW' := hW
  obtain ⟨p, q, hA0, hV, rfl, hfz, hnd⟩ := hW
  have hA : DataW.TrodAll enc Tryz.prog W 0 (fun _ => true) true Tryz.f7.params.toList args.toList ds p := hA0
  rw [Tryz.params7] at hA hval
  obtain ⟨v0, vs0, d0, ds0, p0, q0, hargs, rfl, rfl, h0, r0⟩ := trodAll_cons hA
  obtain ⟨v1, vs1, d1, ds1, p1, q1, rfl, rfl, rfl, h1, r1⟩ := trodAll_cons r0
  obtain ⟨v2, vs2, d2, ds2, p2, q2, rfl, rfl, rfl, h2, r2⟩ := trodAll_cons r1
  obtain ⟨rfl, rfl, rfl⟩ := trodAll_nil r2
  obtain rfl : args = #[v0, v1, v2] := by cases args; simp_all
  obtain ⟨rfl, rfl⟩ := trodVars_none hV
  obtain ⟨cs0, x0, hv0, hr0⟩ := open_arg (n := 9) (T := (.slice ty22)) (by kernel_rfl) (hval 0 44 v0 rfl rfl) h0
  obtain ⟨cs1, x1, hv1, hr1⟩ := open_arg (n := 9) (T := .str) (by kernel_rfl) (hval 1 9 v1 rfl rfl) h1
  obtain ⟨cs2, x2, hv2, hr2⟩ := open_arg (n := 9) (T := .str) (by kernel_rfl) (hval 2 9 v2 rfl rfl) h2
  obtain ⟨oa, cap, ps, e0, hn, hS⟩ := rd_sts22 hr0
  obtain ⟨p, e1, -, -⟩ := rd_str.1 hr1
  obtain ⟨pt, e2, -, -⟩ := rd_str.1 hr2
  simp only [Ty.isStruct, Bool.false_eq_true, if_false] at hv0 hv1 hv2
  rw [e0] at hv0
  rw [e1] at hv1
  rw [e2] at hv2
  subst hv0 hv1 hv2
  clear hA0 hval0
  refine (treeRenames_walk W oa cap ps hS hn p.data.toList pt.data.toList).mono fun e W' ⟨he, hb⟩ => ?_
  subst he
  exact ⟨_, rfl, law_post Tryz.laidOutP (by kernel_rfl) rfl Tryz.underlying4 hW' rfl rfl rfl rfl hb⟩

theorem treeRenames_holds : Rows.TreeRenamesSaid :=
  OpenClaim.holds_of_wide 7 Tryz.f7 rfl rfl rfl rfl rfl rfl rfl ⟨rfl, rfl, rfl, rfl, rfl⟩ rfl rfl rfl rfl rfl (by kernel_rfl) Tryz.func7 (by kernel_rfl)
    (of_decide_eq_true (by kernel_rfl)) (by unfold Func.isWrapper; first | (rw [if_pos (by decide +kernel)]; kernel_rfl) | (rw [if_neg (by decide +kernel)]; exact ⟨rfl, rfl⟩))
    (fun os started H enc _ => treeRenames_lifted os started H enc)
end Go.Proofs.YtakbalmbkokklaaGreat
