/-
  The law FetchTrims: what is trimmed is told so; a fetch without filling changes nothing where nothing is.
  Conditions: none.
-/
import Derived.Test.YtohmmjaikhpcfaaGreatTrimP2
import Derived.Test.YtohmmjaikhpcfaaGreatRow
import Derived.Test.YtohmmjaikhpcfaaGreatPkFet2
namespace Go.Proofs.YtohmmjaikhpcfaaGreat
open Go.RowKit Esch Go.ChangeShapes Go.WideShapes Go.ChangeAt

theorem PutsAt.below' {w w' : World} {oa : Option Addr} {n : Nat} {ps : Nat → PutS} (h : PutsAt w oa n ps) (hB : Below w.heap.size w w') : PutsAt w' oa n ps := fun h0 => by
  obtain ⟨b, off, e, hb, hc⟩ := h h0
  exact ⟨b, off, e, Nat.lt_of_lt_of_le hb hB.size, fun i hi => ⟨(hc i hi).1, fun j v hv => below_at hB ((hc i hi).2 j v hv) hb⟩⟩
theorem PutsAt.out {w : World} {oa : Option Addr} {n : Nat} {ps : Nat → PutS} (h : PutsAt w oa n ps) {V : Nat → Prop} (hV : ∀ k, V k → w.heap.size ≤ k) : ∀ b off, oa = some ⟨b, off, none⟩ → 0 < n → ¬ V b := fun b off e h0 hv => by
  obtain ⟨b', off', e', hb, -⟩ := h h0
  rw [e] at e'; cases e'
  have := hV b hv
  omega
def TrRel (w0 : World) (c hb : Nat) (V : Nat → Prop) (hd : HdS) (a n : Nat) (w10 : World) (g : Nat) (s14 : Value) (wr : World) : Prop :=
  ∃ (i : Nat) (V' : Nat → Prop), g = lenT a - i ∧ i ≤ lenT a ∧ s14 = .int .i64 i ∧ Hd1 w0 (c + i) hb V' { hd with nd := trS hd.nd a n i } wr ∧ (∀ k, V' k → V k ∨ w10.heap.size ≤ k) ∧ Mod V w10 wr
theorem ask_tr {hd : HdS} {R : Nat} {M : Pgs} (h : VI hd.nd R M) {a n i : Nat} (hn : n ≤ 14) (hi : i < lenT a) : ({ hd with nd := trS hd.nd a n i } : HdS).ask (qTr a n i) 0 = ((anU 0 ⟨#[]⟩, true), { hd with nd := trS hd.nd a n (i + 1) }) := by
  unfold HdS.ask
  rw [if_pos rfl]
  have e := (VwE.trimmed (trS_vw h hn i (by omega)) hi hn).1
  simp only [e]
  rfl
theorem us_le {nd : NdS} {R : Nat} {M : Pgs} (h : VI nd R M) {a n : Nat} (hn : n ≤ 14) {k : Nat} (hk : k < lenT a) : ((trS nd a n (lenT a)).units (uT a k)).pg.m.length ≤ 14 := by
  have hu : uT a k < 16 := by have := uT_lt hk; omega
  obtain ⟨P, h1, h2⟩ := trS_vw h hn (lenT a) (Nat.le_refl _)
  rw [hlt_pg h1 hu]
  exact (h2 _ hu).1.len
def usN (nd : NdS) (a : Nat) : Nat → Nat
  | 0 => 0
  | k + 1 => usN nd a k + (nd.units (uT a k)).pg.m.length
def UsRel (nd : NdS) (a : Nat) (w11 : World) (g : Nat) (s16 s17 : Value) (wr : World) : Prop := ∃ k : Nat, g = lenT a - k ∧ k ≤ lenT a ∧ s16 = .int .i64 (usN nd a k : Nat) ∧ s17 = .int .i64 k ∧ Mod none' w11 wr
def SbRel (nd : NdS) (a : Nat) (us : Int) (w13 : World) (g : Nat) (s16 s22 : Value) (wr : World) : Prop := ∃ k : Nat, g = lenT a - k ∧ k ≤ lenT a ∧ s16 = .int .i64 (us - (usN nd a k : Nat)) ∧ s22 = .int .i64 k ∧ Mod none' w13 wr
theorem usN_le {nd : NdS} {a : Nat} (h : ∀ k, k < lenT a → (nd.units (uT a k)).pg.m.length ≤ 14) : ∀ k, k ≤ lenT a → usN nd a k ≤ 14 * k
  | 0, _ => Nat.le_refl _
  | k + 1, hk => by
    have := usN_le h k (by omega)
    have := h k (by omega)
    show usN nd a k + _ ≤ _
    omega
theorem usN_same {nd nd' : NdS} {a : Nat} (h : ∀ k, k < lenT a → (nd'.units (uT a k)).pg.m.length = (nd.units (uT a k)).pg.m.length) : ∀ k, k ≤ lenT a → usN nd' a k = usN nd a k
  | 0, _ => rfl
  | k + 1, hk => by
    show usN nd' a k + _ = usN nd a k + _
    rw [usN_same h k (by omega), h k (by omega)]
set_option maxRecDepth 100000 in
set_option maxHeartbeats 8000000 in
theorem fetchTrims_walk (la : Option Addr) (n lc : Nat) (ps : Nat → PutS) (hn : n ≤ 9223372036854775807) (ad be : Int) (hbe : 0 ≤ be ∧ be < 256) (w : World) (hps : PutsAt w la n ps) :
    Calls Tryz.prog 8 #[.slice la n lc, .int .i64 ad, .int .u8 be] w fun r w' => r = .returned (.bool true) ∧ Below w.heap.size w w' := by
  have HPS := Lib.hid hps
  clear hps
  go_enter Tryz.func8, Tryz.ntmps8
  go_wp2_with fail
  refine (three_any _).mono ?_
  rintro e w1 ⟨b1, rfl, hl1, hB1⟩
  go_wp2_with fail
  have hmk : Calls Tryz.prog 11 #[.agg #[.int .i64 0, .slice (some ⟨b1, 0, none⟩) 3 3], .int .i64 200] _ _ := made_any _ w1 qT _ 3 200 (by decide) hl1 (by decide) (by decide)
  refine hmk.mono ?_
  clear hmk hl1
  rintro e w2 ⟨hb, rb, nb, rfl, hH2, -, hB2⟩
  have hD := Hd1.start hH2 hB1 hB2
  obtain ⟨V2, hV⟩ : ∃ V, V = grow none' w1 w2 := ⟨_, rfl⟩
  rw [← hV] at hD
  have HD := Lib.hid hD
  have HBw2 := Lib.hid hD.below
  have hfair := fair16_any la n lc ps hn w2 (HPS.out.below' hD.below)
  clear hH2 hB1 hB2 hD hV
  go_wp2_with fail
  refine hfair.mono ?_
  clear hfair
  rintro e w3 ⟨f, rfl, hf, rfl⟩
  cases f
  · skip
    go_wp2_with fail
    refine (wakes16_any _).mono ?_
    rintro e wz ⟨rfl, hBz⟩
    go_wp2_with fail
    go_ret
    exact ⟨rfl, HBw2.out.trans (hBz.mono HBw2.out.size)⟩
  have HSZ := Lib.hid (hf rfl)
  have HVI := Lib.hid (VI.start 200 (by decide))
  clear hf
  go_wp2_with fail
  refine (three_any _).mono ?_
  rintro e wt ⟨bt, rfl, hlt, hBt⟩
  have hDt := HD.out.below' hBt
  have hlay : Calls Tryz.prog 35 #[.pointer (some ⟨hb, 0, none⟩), .agg #[.int .i64 0, .slice (some ⟨bt, 0, none⟩) 3 3], .slice la n lc] wt _ := lay_any hDt (by first | omega | (simp only [List.length_nil]; omega)) HVI.out _ _ 3 hlt (fun j hj e => by have hj : w3.heap.size ≤ j := hj; have := HD.out.lt j e; omega) la n lc ps ((HPS.out).below' hDt.below) hn HSZ.out (HPS.out.out HD.out.old)
  clear hlt hDt
  go_wp2_with fail
  refine hlay.mono ?_
  clear hlay
  rintro e w5 ⟨rfl, hd5, M5, hD5, hVI5, hPG5, -⟩
  have HD5 := Lib.hid hD5
  have HVI5 := Lib.hid hVI5
  have HPG5 := Lib.hid hPG5
  clear hD5 hVI5 hPG5 hBt
  obtain ⟨V5, hV5⟩ : ∃ V, V = grow V2 wt w5 := ⟨_, rfl⟩
  have hD5' := HD5.out
  rw [← hV5] at hD5'
  replace HD5 := Lib.hid hD5'
  clear hD5' hV5 HPG5 HSZ
  go_wp2_with fail
  refine (kmod_any ad w5).mono ?_
  rintro e w5' ⟨a, ha, rfl, rfl⟩
  have Ha := Lib.hid ha
  obtain ⟨hcl, hcu⟩ := chainP_qT ha
  have hl := lenT_le a
  obtain ⟨r0, hr0⟩ : ∃ r, r = ((a % 3 : Nat) : Int) := ⟨_, rfl⟩
  obtain ⟨r1, hr1⟩ : ∃ r, r = ((a / 3 : Nat) : Int) := ⟨_, rfl⟩
  have hofr : ofP qT (a : Int) = (r0, r1, true) := by rw [ofP_qT ha, hr0, hr1]
  have Hofr := Lib.hid hofr
  have Hr1 := Lib.hid hr1
  have Hcl := Lib.hid hcl
  have Hcu := Lib.hid hcu
  have Hl := Lib.hid hl
  clear hcl hcu ha hr0 hr1 hofr hl
  go_wp2_with fail
  refine (three_any _).mono ?_
  rintro e w6 ⟨b6, rfl, hl6, hB6⟩
  have hch : Calls Tryz.prog 18 #[.agg #[.int .i64 0, .slice (some ⟨b6, 0, none⟩) 3 3], .int .i64 (a : Int)] w6 fun e w' => ∃ ca cc, e = .returned (.slice ca (lenT a) cc) ∧ IntsAt (From w6.heap.size) w' ca (chainP qT (a : Int)) ∧ Below w6.heap.size w6 w' := (rChain_any _ w6 qT _ 3 (a : Int) hl6).mono fun e w' ⟨ca, cc, he, h1, h2⟩ => ⟨ca, cc, by rw [he, Hcl.out], h1, h2⟩
  clear hl6
  go_wp2_with fail
  refine hch.mono ?_
  clear hch
  rintro e w7 ⟨ca, cc, rfl, hci, hB7⟩
  obtain ⟨cb, coff, rfl, hcb, hcbl, hcc⟩ := hci.2 (by rw [Hcl.out]; have := Hl.out.1; omega)
  have HU7 := Lib.hid (show ∀ j, j < lenT a → w7.cell? ⟨cb, coff + j, none⟩ = some (.int .i64 (uT a j : Nat)) from fun j hj => by rw [← Hcu.out j hj]; exact hcc j (by rw [Hcl.out]; exact hj))
  have hcb6 : w6.heap.size ≤ cb := hcb
  clear hci hcc hcb
  go_wp2_with fail
  refine (three_any _).mono ?_
  rintro e w8 ⟨b8, rfl, hl8, hB8⟩
  have hof : Calls Tryz.prog 17 #[.agg #[.int .i64 0, .slice (some ⟨b8, 0, none⟩) 3 3], .int .i64 (a : Int)] w8 fun e w' => e = .returned (.agg #[.int .i64 r0, .int .i64 r1, .bool true]) ∧ Below w8.heap.size w8 w' := (rOf_any _ w8 qT _ 3 (a : Int) hl8).mono fun e w' ⟨he, h1⟩ => ⟨by rw [he, Hofr.out]; rfl, h1⟩
  clear hl8
  go_wp2_with fail
  refine hof.mono ?_
  clear hof
  rintro e w9 ⟨rfl, hB9⟩
  go_wp2_with fail
  obtain ⟨w10, hw10, hB10, hz10, g0, g1, g2⟩ := got_box w9 (.int .i64 r0) (.int .i64 r1) (.bool true)
  rw [← hw10]
  have hB79 : Below w7.heap.size w7 w10 := hB8.trans ((hB9.trans (hB10.mono hB9.size)).mono hB8.size)
  have hB510 : Below w5'.heap.size w5' w10 := hB6.trans ((hB7.trans (hB79.mono hB7.size)).mono hB6.size)
  have HU10 := Lib.hid (show ∀ j, j < lenT a → w10.cell? ⟨cb, coff + j, none⟩ = some (.int .i64 (uT a j : Nat)) from fun j hj => below_at hB79 (HU7.out j hj) hcbl)
  have HD10 := Lib.hid (HD5.out.below' hB510)
  have HP10 := Lib.hid g1
  have ncb : ¬ V5 cb := fun e => by have := HD5.out.lt _ e; have := hB6.size; omega
  have ngb : ¬ V5 w9.heap.size := fun e => by have := HD5.out.lt _ e; have := hB6.size; have := hB7.size; have := hB8.size; have := hB9.size; omega
  have Hncb := Lib.hid ncb
  have Hngb := Lib.hid ngb
  clear hw10 hB79 hB510 hB6 hB7 hB8 hB9 hB10 hz10 g0 g2 g1 HU7 hcb6 hcbl HD5 ncb ngb

  go_wp2_with fail
  obtain ⟨nn, hnn, hn14⟩ : ∃ nn : Nat, be % 15 = nn ∧ nn ≤ 14 := ⟨(be % 15).toNat, by omega, by omega⟩
  rw [hnn]
  clear hnn
  have Hn14 := Lib.hid hn14
  clear hn14
  go_loopg [14] (lenT a) (fun g s14 wr => TrRel w 200 hb V5 hd5 a nn w10 g s14 wr)
  case atStart => exact ⟨0, V5, rfl, Nat.zero_le _, rfl, HD10.out, fun _ h => Or.inl h, Mod.refl _ _⟩
  case round =>
    obtain ⟨i, V', rfl, hi, rfl, hDr, hVr, hMr⟩ := hrel
    by_cases hil : i < lenT a
    · have hD' := ask_tr HVI5.out Hn14.out hil
      obtain ⟨un, hun⟩ : ∃ un, un = ((uT a i : Nat) : Int) := ⟨_, rfl⟩
      have k0 := hMr.at (HU10.out i hil) Hncb.out
      rw [← hun] at k0
      have hc1 := hd1_hand hDr (by have := (lenT_le a).2; omega) (qTr a nn i) rfl (show (ByteArray.mk #[]).size ≤ 9223372036854775807 by decide) 0
      rw [hD'] at hc1
      unfold Hd1HPost qTr at hc1
      rw [← hun] at hc1
      simp only [qV, aV, anU, Esch.p0, List.length_nil] at hc1
      have HVr := Lib.hid hVr
      have HMr := Lib.hid hMr
      have i0 : (0 : Int) ≤ i := by omega
      have i1 : (i : Int) < lenT a := by omega
      have i2 : (i : Int) < 3 := by have := (lenT_le a).2; omega
      have Hil := Lib.hid hil
      clear hD' hun hDr hVr hMr hil
      go_wp2_with fail
      refine hc1.mono ?_
      clear hc1
      rintro e w4 ⟨xa, xcc, rfl, -, hD4, hM4⟩
      have HD4 := Lib.hid hD4
      have HM4 := Lib.hid hM4
      clear hD4 hM4 k0
      go_wp2_with fail
      go_roundg (lenT a - (i + 1))
      case measure => have := Hil.out; omega
      case rel =>
        have hz := HMr.out.size
        exact ⟨i + 1, _, rfl, Hil.out, by go_num, HD4.out, fun j hj => by
          rcases hj with hj | hj
          · exact HVr.out j hj
          · exact Or.inr (by omega), HMr.out.trans' HM4.out (fun j hj h => (HVr.out j h).resolve_right (by omega))⟩
    · obtain rfl : i = lenT a := by omega
      have HDr := Lib.hid hDr
      have HVr := Lib.hid hVr
      have HMr := Lib.hid hMr
      have i1 : ¬ ((lenT a : Int) < lenT a) := by omega
      obtain ⟨hd6, hhd6⟩ : ∃ y, y = ({ hd5 with nd := trS hd5.nd a nn (lenT a) } : HdS) := ⟨_, rfl⟩
      have hout := trim_out (hd := hd6) HVI5.out Ha.out Hn14.out (by rw [hhd6])
      have hlen : ∀ k, k < lenT a → (hd6.nd.units (uT a k)).pg.m.length ≤ 14 := fun k hk => by
        rw [hhd6]
        exact us_le HVI5.out Hn14.out hk
      have HDr' := HDr.out
      rw [← hhd6] at HDr'
      replace HDr := Lib.hid HDr'
      obtain ⟨kd0, hkd0⟩ : ∃ k, k = (hd6.nd.units (uT a 0)).pg.kind ((a / 3 : Nat) : Int) := ⟨_, rfl⟩
      have Hout := Lib.hid hout
      have Hlen := Lib.hid hlen
      have Hkd0 := Lib.hid hkd0
      have hwz : w10.heap.size ≤ wr.heap.size := hMr.size
      have HUr := Lib.hid (show ∀ j, j < lenT a → wr.cell? ⟨cb, coff + j, none⟩ = some (.int .i64 (uT a j : Nat)) from fun j hj => hMr.at (HU10.out j hj) Hncb.out)
      have HPr := Lib.hid (hMr.at HP10.out Hngb.out)
      have hncr : ¬ V' cb := fun e => (HVr.out cb e).elim Hncb.out (fun h => by have := cell_lt (HU10.out 0 (by have := (lenT_le a).1; omega)); have : cb < w10.heap.size := this; omega)
      have hngr : ¬ V' w9.heap.size := fun e => (HVr.out _ e).elim Hngb.out (fun h => by have := cell_lt HP10.out; have : w9.heap.size < w10.heap.size := this; omega)
      have Hncr := Lib.hid hncr
      have Hngr := Lib.hid hngr
      clear hhd6 hout hlen HDr' hkd0 hDr hVr hMr hi hil hncr hngr
      clear HU10 HP10 HD10 Hncb Hngb HVI5 HD HVI
      obtain ⟨nb', hn', hu'⟩ := HDr.out.nodes
      have x0 : wr.drew.cell? ⟨cb, coff, none⟩ = some (.int .i64 (uT a 0 : Nat)) := HUr.out 0 (by have := Hl.out.1; omega)
      have x1 : wr.drew.cell? ⟨w9.heap.size, 1, none⟩ = some (.int .i64 r1) := HPr.out
      obtain ⟨un, hun⟩ : ∃ un, un = ((uT a 0 : Nat) : Int) := ⟨_, rfl⟩
      have hMd : Mod none' wr wr.drew := (Mod.refl _ _).drew
      have hcn := hn' wr.drew hMd
      obtain ⟨⟨ub, pb, q1, q2, q3⟩, gk⟩ := hu' (uT a 0) (by have := uT_lt (show 0 < lenT a by have := Hl.out.1; omega); omega)
      have hcu1 := q1 wr.drew hMd
      rw [← hun] at x0 hcu1
      have R2 := Lib.hid q2
      have R3 := Lib.hid q3
      have HMd := Lib.hid hMd
      have hl0 : 0 < lenT a := Hl.out.1
      clear hn' hu' q1 q2 q3 hMd hun
      go_wp2_with fail
      go_region_held3 (fun w' => w'.cell? ⟨cb, coff, none⟩ = some (.int .i64 un) ∧ w'.cell? ⟨w9.heap.size, 1, none⟩ = some (.int .i64 r1))
        (first
          | with_reducible exact ⟨x0, x1⟩
          | with_reducible exact ⟨z0, z1⟩
          | with_reducible exact ⟨y0, y1⟩)
        (first
          | (go_at_call 19; (with_reducible refine hcn.mono ?_); rintro e wa ⟨rfl, rfl⟩)
          | (go_at_call 20; (with_reducible refine hcu1.mono ?_); rintro e wb ⟨rfl, hMb⟩
             have z0 := hMb.at x0 id
             have z1 := hMb.at x1 id
             have hcp1 := R2.out wb (HMd.out.trans hMb)
             obtain ⟨mb, hP⟩ := R3.out wb (HMd.out.trans hMb)
             have hcr := pkind_any wb pb mb _ hP r1
             rw [Hr1.out, ← Hkd0.out, ← Hr1.out] at hcr
             have HMb := Lib.hid hMb
             clear hMb hP)
          | (go_at_call 21; (with_reducible refine hcp1.mono ?_); rintro e wc ⟨rfl, rfl⟩)
          | (go_at_call 38; (with_reducible refine hcr.mono ?_); rintro e w11 ⟨rfl, hM11⟩
             have y0 := hM11.at z0 id
             have y1 := hM11.at z1 id
             have HM11 := Lib.hid hM11
             clear hM11))
      have hM1 := HMd.out.trans (HMb.out.trans HM11.out)
      have HD11 := Lib.hid (HDr.out.mod hM1 (fun _ _ => id) (fun _ _ => id))
      have HU11 := Lib.hid (show ∀ j, j < lenT a → w11.cell? ⟨cb, coff + j, none⟩ = some (.int .i64 (uT a j : Nat)) from fun j hj => hM1.at (HUr.out j hj) id)
      have HP11 := Lib.hid (hM1.at HPr.out id)
      clear x0 x1 z0 z1 y0 y1 hcn hcu1 hcp1 hcr HMb HM11 hM1 HDr HMd HUr HPr R2 R3
      clear gk
      go_wp2_with fail
      go_loopg [16, 17] (lenT a) (fun g s16 s17 wr => UsRel hd6.nd a w11 g s16 s17 wr)
      case atStart => exact ⟨0, rfl, Nat.zero_le _, rfl, rfl, Mod.refl _ _⟩
      case round =>
        obtain ⟨k, rfl, hk, rfl, rfl, hMr⟩ := hrel
        by_cases hkl : k < lenT a
        · skip
          have hMrd : Mod none' w11 wr.drew := hMr.drew
          obtain ⟨un, hun⟩ : ∃ un, un = ((uT a k : Nat) : Int) := ⟨_, rfl⟩
          obtain ⟨u0, hu0⟩ : ∃ u0, u0 = ((usN hd6.nd a k : Nat) : Int) := ⟨_, rfl⟩
          obtain ⟨l0, hl0'⟩ : ∃ l0, l0 = (((hd6.nd.units (uT a k)).pg.m.length : Nat) : Int) := ⟨_, rfl⟩
          have hck := HU11.out k hkl
          rw [← hun] at hck
          have k0 : wr.drew.cell? ⟨cb, coff + k, none⟩ = some (.int .i64 un) := hMrd.at hck id
          obtain ⟨nb2, hn2, hu2⟩ := HD11.out.nodes
          have hcn := hn2 wr.drew hMrd
          obtain ⟨⟨ub, pb, q1, q2, q3⟩, gk⟩ := hu2 (uT a k) (by have := uT_lt hkl; omega)
          have hcu1 := q1 wr.drew hMrd
          rw [← hun] at hcu1
          have R2 := Lib.hid q2
          have R3 := Lib.hid q3
          have HMrd := Lib.hid hMrd
          have Hl0 := Lib.hid hl0'
          have hl0l : 0 ≤ l0 ∧ l0 ≤ 14 := by have := Hlen.out k hkl; omega
          have hu0l : 0 ≤ u0 ∧ u0 ≤ 42 := by have := usN_le Hlen.out k hk; have := (lenT_le a).2; omega
          have HE := Lib.hid (show ((usN hd6.nd a (k + 1) : Nat) : Int) = u0 + l0 by rw [hu0, hl0']; exact Int.natCast_add (usN hd6.nd a k) _)
          rw [← hu0]
          have n0 : (0 : Int) ≤ k := by omega
          have n1 : (k : Int) < lenT a := by omega
          have n2 : (k : Int) < 3 := by have := (lenT_le a).2; omega
          clear hck q1 q2 q3 hMr hMrd hun hn2 hu2 hu0 hl0' gk
          go_wp2_with fail
          go_region_held3 (fun w' => w'.cell? ⟨cb, coff + k, none⟩ = some (.int .i64 un))
            (first
              | with_reducible exact k0
              | with_reducible exact z0
              | with_reducible exact y0)
            (first
              | (go_at_call 19; (with_reducible refine hcn.mono ?_); rintro e wa ⟨rfl, rfl⟩)
              | (go_at_call 20; (with_reducible refine hcu1.mono ?_); rintro e wb ⟨rfl, hMb⟩
                 have z0 := hMb.at k0 id
                 have hcp1 := R2.out wb (HMrd.out.trans hMb)
                 obtain ⟨mb, hP⟩ := R3.out wb (HMrd.out.trans hMb)
                 have hcr := pused_any wb pb mb _ hP
                 rw [← Hl0.out] at hcr
                 have HMb := Lib.hid hMb
                 clear hMb hP)
              | (go_at_call 21; (with_reducible refine hcp1.mono ?_); rintro e wc ⟨rfl, rfl⟩)
              | (go_at_call 39; (with_reducible refine hcr.mono ?_); rintro e wd ⟨rfl, hMd⟩
                 have y0 := hMd.at z0 id
                 have HMd := Lib.hid hMd
                 clear hMd))
          have HMe := Lib.hid (HMrd.out.trans (HMb.out.trans HMd.out))
          clear k0 z0 y0 hcn hcu1 hcp1 hcr HMb HMd
          go_wp2_with fail
          go_roundg (lenT a - (k + 1))
          case measure => omega
          case rel =>
            have e : ((usN hd6.nd a (k + 1) : Nat) : Int) = u0 + l0 := HE.out
            exact ⟨k + 1, rfl, by omega, by rw [e, wrap_i64' (by omega) (by omega)], by go_num, HMe.out⟩
        · obtain rfl : k = lenT a := by omega
          have HMu := Lib.hid hMr
          have i3 : ¬ ((lenT a : Int) < lenT a) := by omega
          obtain ⟨us, hus⟩ : ∃ us, us = ((usN hd6.nd a (lenT a) : Nat) : Int) := ⟨_, rfl⟩
          rw [← hus]
          have Hus := Lib.hid hus
          clear hMr hkl hk hus
          go_wp2_with fail
          refine (three_any _).mono ?_
          rintro e w12 ⟨b12, rfl, hl12, hB12⟩
          have hD12 := (HD11.out.mod HMu.out (fun _ _ => id) (fun _ _ => id)).below' hB12
          obtain ⟨kd, dd, o1, o2, o3, o4, o5⟩ := Hout.out
          have hrd : Calls Tryz.prog 37 #[.pointer (some ⟨hb, 0, none⟩), .agg #[.int .i64 0, .slice (some ⟨b12, 0, none⟩) 3 3], .int .i64 (a : Int), .bool false, .slice none 0 0] w12 _ := read16_any hD12 (by have := (lenT_le a).2; first | omega | (simp only [List.length_nil]; omega)) _ qT (a : Int) false _ 3 ⟨by decide, by decide⟩ hl12 none [] 0 (fun h => absurd h (by simp)) (by simp) (fun _ _ e => by cases e)
          have o1' : FOverV (stR hd6 qT (a : Int) false [] (([] : List Int).length + 30)).2 = .tuple #[.int .i64 kd, .string dd, .int .i64 0, .bool true] := o1
          unfold Rd16Post at hrd
          rw [o1'] at hrd
          obtain ⟨hd7, hhd7⟩ : ∃ y, y = (stR hd6 qT (a : Int) false [] (([] : List Int).length + 30)).1 := ⟨_, rfl⟩
          rw [← hhd7] at hrd
          have o6 : kd = 0 ∨ kd = 3 → ∀ k, k < lenT a → (hd7.nd.units (uT a k)).pg.m.length = (hd6.nd.units (uT a k)).pg.m.length := fun h k hk => by rw [hhd7]; exact o5 h k hk
          rw [← Hkd0.out] at o3
          have hr1 : ((a / 3 : Nat) : Int) = r1 := Hr1.out.symm
          have p2 : kd = 3 ↔ r1 < nn := by rw [o2]; omega
          have p3 : kd = 0 ↔ (kd0 = 0 ∧ (nn : Int) ≤ r1) := by rw [o3]; omega
          have P2 := Lib.hid p2
          have P3 := Lib.hid p3
          have P4 := Lib.hid o4
          have P6 := Lib.hid o6
          have HB12 := Lib.hid hB12
          clear hl12 hD12 hB12 o1 o2 o3 o4 o5 o6 o1' hhd7 hr1 p2 p3 Hout
          go_wp2_with fail
          refine hrd.mono ?_
          clear hrd
          rintro e w13 ⟨rfl, hD13, hM13⟩
          have HD13 := Lib.hid hD13
          have hM1113 : Mod V' w11 w13 := ((mod_none HMu.out).trans (Mod.of_below HB12.out)).trans hM13
          have HU13 := Lib.hid (show ∀ j, j < lenT a → w13.cell? ⟨cb, coff + j, none⟩ = some (.int .i64 (uT a j : Nat)) from fun j hj => hM1113.at (HU11.out j hj) Hncr.out)
          have HP13 := Lib.hid (hM1113.at HP11.out Hngr.out)
          have HB13 := Lib.hid hD13.below
          have c1 : w13.cell? ⟨w9.heap.size, 1, none⟩ = some (.int .i64 r1) := HP13.out
          clear hD13 hM13 hM1113 HU11 HP11 HMu HB12 HD11
          by_cases h03 : kd = 0 ∨ kd = 3
          · have HP6 := Lib.hid (P6.out h03)
            obtain rfl : dd = ⟨#[]⟩ := P4.out (by omega)
            have hc : (kd = 3 ∧ kd0 = 0 ∧ r1 < (nn : Int) ∧ ¬ ((nn : Int) ≤ r1)) ∨ (kd = 3 ∧ (kd0 == 0) = false ∧ r1 < (nn : Int) ∧ ¬ ((nn : Int) ≤ r1)) ∨ (kd = 0 ∧ kd0 = 0 ∧ ¬ (r1 < (nn : Int)) ∧ (nn : Int) ≤ r1) := by
              rcases h03 with h0 | h3
              · obtain ⟨g1, g2⟩ := P3.out.1 h0
                exact Or.inr (Or.inr ⟨h0, g1, by omega, g2⟩)
              · have hr := P2.out.1 h3
                by_cases h0 : kd0 = 0
                · exact Or.inl ⟨h3, h0, hr, by omega⟩
                · exact Or.inr (Or.inl ⟨h3, by simpa using h0, hr, by omega⟩)
            clear P2 P3 P4 P6 h03
            rcases hc with ⟨rfl, rfl, hr, hr'⟩ | ⟨rfl, h0', hr, hr'⟩ | ⟨rfl, rfl, hr, hr'⟩
            all_goals
              skip
              have HUS := Lib.hid (show 0 ≤ us ∧ us ≤ 42 by
                have := usN_le Hlen.out (lenT a) (Nat.le_refl _)
                have := (lenT_le a).2
                rw [Hus.out]
                omega)
              have Hlen7 := Lib.hid (show ∀ k, k < lenT a → (hd7.nd.units (uT a k)).pg.m.length ≤ 14 from fun k hk => by rw [HP6.out k hk]; exact Hlen.out k hk)
              go_wp2_with fail
              go_loopg [16, 22] (lenT a) (fun g s16 s22 wr => SbRel hd7.nd a us w13 g s16 s22 wr)
              case atStart => exact ⟨0, rfl, Nat.zero_le _, by show Value.int .i64 us = .int .i64 (us - (0 : Nat)); simp, rfl, Mod.refl _ _⟩
              case round =>
                obtain ⟨k, rfl, hk, rfl, rfl, hMr⟩ := hrel
                by_cases hkl : k < lenT a
                · skip
                  have hMrd : Mod none' w13 wr.drew := hMr.drew
                  obtain ⟨un, hun⟩ : ∃ un, un = ((uT a k : Nat) : Int) := ⟨_, rfl⟩
                  obtain ⟨u0, hu0⟩ : ∃ u0, u0 = ((usN hd7.nd a k : Nat) : Int) := ⟨_, rfl⟩
                  obtain ⟨l0, hl0'⟩ : ∃ l0, l0 = (((hd7.nd.units (uT a k)).pg.m.length : Nat) : Int) := ⟨_, rfl⟩
                  have hck := HU13.out k hkl
                  rw [← hun] at hck
                  have k0 : wr.drew.cell? ⟨cb, coff + k, none⟩ = some (.int .i64 un) := hMrd.at hck id
                  obtain ⟨nb2, hn2, hu2⟩ := HD13.out.nodes
                  have hcn := hn2 wr.drew hMrd
                  obtain ⟨⟨ub, pb, q1, q2, q3⟩, gk⟩ := hu2 (uT a k) (by have := uT_lt hkl; omega)
                  have hcu1 := q1 wr.drew hMrd
                  rw [← hun] at hcu1
                  have R2 := Lib.hid q2
                  have R3 := Lib.hid q3
                  have HMrd := Lib.hid hMrd
                  have Hl0 := Lib.hid hl0'
                  have hl0l : 0 ≤ l0 ∧ l0 ≤ 14 := by have := Hlen7.out k hkl; omega
                  have hu0l : 0 ≤ u0 ∧ u0 ≤ 42 := by have := usN_le Hlen7.out k hk; have := (lenT_le a).2; omega
                  have HE := Lib.hid (show ((usN hd7.nd a (k + 1) : Nat) : Int) = u0 + l0 by rw [hu0, hl0']; exact Int.natCast_add (usN hd7.nd a k) _)
                  rw [← hu0]
                  have n0 : (0 : Int) ≤ k := by omega
                  have n1 : (k : Int) < lenT a := by omega
                  have n2 : (k : Int) < 3 := by have := (lenT_le a).2; omega
                  clear hck q1 q2 q3 hMr hMrd hun hn2 hu2 hu0 hl0' gk
                  go_wp2_with fail
                  go_region_held3 (fun w' => w'.cell? ⟨cb, coff + k, none⟩ = some (.int .i64 un))
                    (first
                      | with_reducible exact k0
                      | with_reducible exact z0
                      | with_reducible exact y0)
                    (first
                      | (go_at_call 19; (with_reducible refine hcn.mono ?_); rintro e wa ⟨rfl, rfl⟩)
                      | (go_at_call 20; (with_reducible refine hcu1.mono ?_); rintro e wb ⟨rfl, hMb⟩
                         have z0 := hMb.at k0 id
                         have hcp1 := R2.out wb (HMrd.out.trans hMb)
                         obtain ⟨mb, hP⟩ := R3.out wb (HMrd.out.trans hMb)
                         have hcr := pused_any wb pb mb _ hP
                         rw [← Hl0.out] at hcr
                         have HMb := Lib.hid hMb
                         clear hMb hP)
                      | (go_at_call 21; (with_reducible refine hcp1.mono ?_); rintro e wc ⟨rfl, rfl⟩)
                      | (go_at_call 39; (with_reducible refine hcr.mono ?_); rintro e wd ⟨rfl, hMd⟩
                         have y0 := hMd.at z0 id
                         have HMd := Lib.hid hMd
                         clear hMd))
                  have HMe := Lib.hid (HMrd.out.trans (HMb.out.trans HMd.out))
                  clear k0 z0 y0 hcn hcu1 hcp1 hcr HMb HMd
                  have husl : 0 ≤ us ∧ us ≤ 42 := HUS.out
                  go_wp2_with fail
                  go_roundg (lenT a - (k + 1))
                  case measure => omega
                  case rel =>
                    have e : us - ((usN hd7.nd a (k + 1) : Nat) : Int) = us - u0 - l0 := by rw [HE.out]; omega
                    exact ⟨k + 1, rfl, by omega, by rw [e, wrap_i64' (by omega) (by omega)], by go_num, HMe.out⟩
                · obtain rfl : k = lenT a := by omega
                  have HBr := Lib.hid (HB13.out.trans ((Mod.below hMr).mono HB13.out.size))
                  have e0 : us - ((usN hd7.nd a (lenT a) : Nat) : Int) = 0 := by rw [usN_same HP6.out _ (Nat.le_refl _), Hus.out]; omega
                  rw [e0]
                  clear hMr hkl hk e0
                  go_wp2_with fail
                  refine (wakes16_any _).mono ?_
                  rintro e wz ⟨rfl, hBz⟩
                  go_wp2_with fail
                  go_ret
                  exact ⟨rfl, HBr.out.trans (hBz.mono HBr.out.size)⟩
          · have h0 : ¬ kd = 0 := fun h => h03 (Or.inl h)
            have h3 : ¬ kd = 3 := fun h => h03 (Or.inr h)
            clear h03
            have hk0 : (kd == 0) = false := by simpa using h0
            have hk3 : (kd == 3) = false := by simpa using h3
            have hr : ¬ (r1 < (nn : Int)) := fun h => h3 (P2.out.2 h)
            have hr' : (nn : Int) ≤ r1 := by omega
            have hkd0 : (kd0 == 0) = false := by
              have : kd0 ≠ 0 := fun h => h0 (P3.out.2 ⟨h, hr'⟩)
              simpa using this
            by_cases h1 : kd = 1
            · subst h1
              clear P2 P3 P4 P6 h0 h3
              go_wp2_with fail
              refine (wakes16_any _).mono ?_
              rintro e wz ⟨rfl, hBz⟩
              go_wp2_with fail
              go_ret
              exact ⟨rfl, HB13.out.trans (hBz.mono HB13.out.size)⟩
            · have hk1 : (kd == 1) = false := by simpa using h1
              obtain rfl : dd = ⟨#[]⟩ := P4.out h1
              clear P2 P3 P4 P6 h0 h3 h1
              go_wp2_with fail
              all_goals
                refine (wakes16_any _).mono ?_
                rintro e wz ⟨rfl, hBz⟩
                go_wp2_with fail
                go_ret
                exact ⟨rfl, HB13.out.trans (hBz.mono HB13.out.size)⟩
set_option maxRecDepth 100000 in
set_option maxHeartbeats 2000000 in
theorem fetchTrims_lifted (os : Os) (started : os.Started) (H : Type) (enc : TypeId × Value → H) :
    ReturnsInHanded {} Tryz.checked os 8 .any (Rows.fetchTrimsSpec.pre6 enc Tryz.prog Tryz.f8 Rows.fetchTrimsRow.domain false) (Rows.fetchTrimsSpec.post enc Tryz.prog Tryz.f8 false true false false) := by
  refine returnsInHanded_of_change (C := Tryz.checked) Tryz.ownP started (by kernel_rfl) Tryz.func8
    (ChangeSpec.witness6 (enc := enc) (C := Tryz.checked) false ⟨#[], #[.slice none 0 0, .int .i64 0, .int .u8 0], []⟩ 8 (by kernel_rfl) (by kernel_rfl) (by kernel_rfl) (by kernel_rfl)) ?_
  intro W base args ds gs before hval0 hW hcnd _
  have hval : ∀ (j : Nat) t v, Tryz.f8.params[j]? = some t → args[j]? = some v → Value.okWide Tryz.prog W .any base t v := hval0
  have hW' := hW
  obtain ⟨p, q, hA0, hV, rfl, hfz, hnd⟩ := hW
  have hA : DataW.TrodAll enc Tryz.prog W 0 (fun _ => true) true Tryz.f8.params.toList args.toList ds p := hA0
  rw [Tryz.params8] at hA hval
  obtain ⟨v0, vs0, d0, ds0, p0, q0, hargs, rfl, rfl, h0, r0⟩ := trodAll_cons hA
  obtain ⟨v1, vs1, d1, ds1, p1, q1, rfl, rfl, rfl, h1, r1⟩ := trodAll_cons r0
  obtain ⟨v2, vs2, d2, ds2, p2, q2, rfl, rfl, rfl, h2, r2⟩ := trodAll_cons r1
  obtain ⟨rfl, rfl, rfl⟩ := trodAll_nil r2
  obtain rfl : args = #[v0, v1, v2] := by cases args; simp_all
  obtain ⟨rfl, rfl⟩ := trodVars_none hV
  obtain ⟨cs0, x0, hv0, hr0⟩ := open_arg (n := 9) (T := .slice tyPut) (by kernel_rfl) (hval 0 72 v0 rfl rfl) h0
  obtain ⟨cs1, x1, hv1, hr1⟩ := open_arg (n := 9) (T := .int .i64) (by kernel_rfl) (hval 1 3 v1 rfl rfl) h1
  obtain ⟨cs2, x2, hv2, hr2⟩ := open_arg (n := 9) (T := .int .u8) (by kernel_rfl) (hval 2 5 v2 rfl rfl) h2
  obtain ⟨a0, n0, k0, ps, e0, hn0, hp0⟩ := rd_puts hr0
  obtain ⟨xa, rfl, rfl, -⟩ := rd_int.1 hr1
  obtain ⟨kv, rfl, rfl, hk0, hk1⟩ := rd_int.1 hr2
  simp only [Ty.isStruct, Bool.false_eq_true, if_false] at hv0 hv1 hv2
  rw [e0] at hv0
  subst hv0
  subst hv1
  subst hv2
  clear hA0 hval0
  refine (fetchTrims_walk a0 n0 k0 ps hn0 _ _ ⟨hk0, by have : kv ≤ 255 := hk1; omega⟩ W hp0).mono fun e W' ⟨he, hb⟩ => ?_
  subst he
  exact ⟨_, rfl, law_post Tryz.laidOutP (by kernel_rfl) rfl Tryz.underlying4 hW' rfl rfl rfl rfl hb⟩

theorem fetchTrims_holds : Rows.FetchTrimsSaid :=
  OpenClaim.holds_of_wide 8 Tryz.f8 rfl rfl rfl rfl rfl rfl rfl ⟨rfl, rfl, rfl, rfl, rfl⟩ rfl rfl rfl rfl rfl (by kernel_rfl) Tryz.func8 (by kernel_rfl)
    (of_decide_eq_true (by kernel_rfl)) (by unfold Func.isWrapper; first | (rw [if_pos (by decide +kernel)]; kernel_rfl) | (rw [if_neg (by decide +kernel)]; exact ⟨rfl, rfl⟩))
    (fun os started H enc _ => fetchTrims_lifted os started H enc)
end Go.Proofs.YtohmmjaikhpcfaaGreat
