/-
  The law FetchMends: a fetch whose questions are heard in the end tells what the first unit has, and all units of the chain have it then.
  Conditions: none.
-/
import Derived.Test.YtohmmjaikhpcfaaGreatMends
import Derived.Test.YtohmmjaikhpcfaaGreatRow
import Derived.Test.YtohmmjaikhpcfaaGreatPkFet2
namespace Go.Proofs.YtohmmjaikhpcfaaGreat
open Go.RowKit Esch Go.ChangeShapes Go.WideShapes Go.ChangeAt

set_option maxRecDepth 100000 in
set_option maxHeartbeats 8000000 in
theorem fetchMends_walk (la : Option Addr) (n lc : Nat) (ps : Nat → PutS) (hn : n ≤ 9223372036854775807) (ad : Int) (fa : Option Addr) (fates : List Int) (fc : Nat) (hfl : fates.length ≤ 9223372036854775807) (w : World) (hps : PutsAt w la n ps) (hfa : BytesAt w fa fates) :
    Calls Tryz.prog 6 #[.slice la n lc, .int .i64 ad, .slice fa fates.length fc] w fun r w' => r = .returned (.bool true) ∧ Below w.heap.size w w' := by
  have HPS := Lib.hid hps
  have HFA := Lib.hid hfa
  clear hps hfa
  go_enter Tryz.func6, Tryz.ntmps6
  go_wp2_with fail
  refine (three_any _).mono ?_
  rintro e w1 ⟨b1, rfl, hl1, hB1⟩
  go_wp2_with fail
  have hmk : Calls Tryz.prog 11 #[.agg #[.int .i64 0, .slice (some ⟨b1, 0, none⟩) 3 3], .int .i64 200] _ _ := made_any _ w1 qT _ 3 200 (by decide) hl1 (by decide) (by decide)
  refine hmk.mono ?_
  clear hmk hl1
  rintro e w2 ⟨hb, rb, nb, rfl, hH2, -, hB2⟩
  have hD := Hd1.start hH2 hB1 hB2
  obtain ⟨V, hV⟩ : ∃ V, V = grow none' w1 w2 := ⟨_, rfl⟩
  rw [← hV] at hD
  have HD := Lib.hid hD
  have hBw2 := hD.below
  have HBw2 := Lib.hid hBw2
  have hfair := fair16_any la n lc ps hn w2 (fun h0 => by
    obtain ⟨b, off, e, hb, hc⟩ := HPS.out h0
    exact ⟨b, off, e, Nat.lt_of_lt_of_le hb hBw2.size, fun i hi => ⟨(hc i hi).1, fun j v hv => below_at hBw2 ((hc i hi).2 j v hv) hb⟩⟩)
  clear hH2 hB1 hB2 hD hV hBw2
  go_wp2_with fail
  refine hfair.mono ?_
  clear hfair
  rintro e w3 ⟨f, rfl, hf, rfl⟩
  cases f
  · skip
    go_wp2_with fail
    refine (wakes16_any _).mono ?_
    rintro e wz ⟨rfl, hBz⟩
    go_wp2_with fail
    go_ret
    exact ⟨rfl, HBw2.out.trans (hBz.mono HBw2.out.size)⟩
  · have HSZ := Lib.hid (hf rfl)
    clear hf
    by_cases hf6 : 60 < fates.length
    · have hf6' : (60 : Int) < fates.length := by omega
      clear hf6
      go_wp2_with fail
      refine (wakes16_any _).mono ?_
      rintro e wz ⟨rfl, hBz⟩
      go_wp2_with fail
      go_ret
      exact ⟨rfl, HBw2.out.trans (hBz.mono HBw2.out.size)⟩
    · have hf6' : (fates.length : Int) ≤ 60 := by omega
      have Hf6 := Lib.hid (show fates.length ≤ 60 by omega)
      clear hf6
      go_wp2_with fail
      refine (three_any _).mono ?_
      rintro e w4 ⟨b4, rfl, hl4, hB4⟩
      have hD4 := HD.out.below' hB4
      have hBw4 := hD4.below
      have hlay : Calls Tryz.prog 35 #[.pointer (some ⟨hb, 0, none⟩), .agg #[.int .i64 0, .slice (some ⟨b4, 0, none⟩) 3 3], .slice la n lc] w4 _ := lay_any hD4 (by omega) (VI.start 200 (by decide)) _ _ 3 hl4 (fun j hj e => by have hj : w3.heap.size ≤ j := hj; have := HD.out.lt j e; omega) la n lc ps (fun h0 => by
        obtain ⟨b, off, e, hb, hc⟩ := HPS.out h0
        exact ⟨b, off, e, Nat.lt_of_lt_of_le hb hBw4.size, fun i hi => ⟨(hc i hi).1, fun j v hv => below_at hBw4 ((hc i hi).2 j v hv) hb⟩⟩) hn HSZ.out (fun b off e h0 hV => by
        obtain ⟨b', off', e', hb, -⟩ := HPS.out h0
        rw [e] at e'; cases e'
        have := HD.out.old b hV; omega)
      clear hl4 hD4 hBw4
      go_wp2_with fail
      refine hlay.mono ?_
      clear hlay
      rintro e w5 ⟨rfl, hd2, M1, hD5, hVI5, -, -⟩
      obtain ⟨V2, hV2⟩ : ∃ V2, V2 = grow V w4 w5 := ⟨_, rfl⟩
      rw [← hV2] at hD5
      have HD5 := Lib.hid hD5
      have HVI5 := Lib.hid hVI5
      clear hD5 hVI5 hV2 hB4
      go_wp2_with fail
      refine (kmod_any ad w5).mono ?_
      rintro e w5' ⟨a, ha, rfl, rfl⟩
      have Ha := Lib.hid ha
      obtain ⟨hcl, hcu⟩ := chainP_qT ha
      have hl := lenT_le a
      obtain ⟨r0, hr0⟩ : ∃ r, r = ((a % 3 : Nat) : Int) := ⟨_, rfl⟩
      obtain ⟨r1, hr1⟩ : ∃ r, r = ((a / 3 : Nat) : Int) := ⟨_, rfl⟩
      have hofr : ofP qT (a : Int) = (r0, r1, true) := by rw [ofP_qT ha, hr0, hr1]
      have Hofr := Lib.hid hofr
      have Hr1 := Lib.hid hr1
      have Hcl := Lib.hid hcl
      have Hcu := Lib.hid hcu
      have Hl := Lib.hid hl
      clear hcl hcu ha hr0 hr1 hofr hl
      go_wp2_with fail
      refine (three_any _).mono ?_
      rintro e w6 ⟨b6, rfl, hl6, hB6⟩
      have hch : Calls Tryz.prog 18 #[.agg #[.int .i64 0, .slice (some ⟨b6, 0, none⟩) 3 3], .int .i64 (a : Int)] w6 fun e w' => ∃ ca cc, e = .returned (.slice ca (lenT a) cc) ∧ IntsAt (From w6.heap.size) w' ca (chainP qT (a : Int)) ∧ Below w6.heap.size w6 w' := (rChain_any _ w6 qT _ 3 (a : Int) hl6).mono fun e w' ⟨ca, cc, he, h1, h2⟩ => ⟨ca, cc, by rw [he, Hcl.out], h1, h2⟩
      clear hl6
      go_wp2_with fail
      refine hch.mono ?_
      clear hch
      rintro e w7 ⟨ca, cc, rfl, hci, hB7⟩
      obtain ⟨cb, coff, rfl, hcb, hcbl, hcc⟩ := hci.2 (by rw [Hcl.out]; have := Hl.out.1; omega)
      have HU7 := Lib.hid (show ∀ j, j < lenT a → w7.cell? ⟨cb, coff + j, none⟩ = some (.int .i64 (uT a j : Nat)) from fun j hj => by rw [← Hcu.out j hj]; exact hcc j (by rw [Hcl.out]; exact hj))
      have hcb6 : w6.heap.size ≤ cb := hcb
      clear hci hcc hcb
      go_wp2_with fail
      refine (three_any _).mono ?_
      rintro e w8 ⟨b8, rfl, hl8, hB8⟩
      have hof : Calls Tryz.prog 17 #[.agg #[.int .i64 0, .slice (some ⟨b8, 0, none⟩) 3 3], .int .i64 (a : Int)] w8 fun e w' => e = .returned (.agg #[.int .i64 r0, .int .i64 r1, .bool true]) ∧ Below w8.heap.size w8 w' := (rOf_any _ w8 qT _ 3 (a : Int) hl8).mono fun e w' ⟨he, h1⟩ => ⟨by rw [he, Hofr.out]; rfl, h1⟩
      clear hl8
      go_wp2_with fail
      refine hof.mono ?_
      clear hof
      rintro e w9 ⟨rfl, hB9⟩
      go_wp2_with fail
      obtain ⟨w10, hw10, hB10, hz10, g0, g1, g2⟩ := got_box w9 (.int .i64 r0) (.int .i64 r1) (.bool true)
      rw [← hw10]
      have hB79 : Below w7.heap.size w7 w10 := hB8.trans ((hB9.trans (hB10.mono hB9.size)).mono hB8.size)
      have hB510 : Below w5'.heap.size w5' w10 := hB6.trans ((hB7.trans (hB79.mono hB7.size)).mono hB6.size)
      have HU10 := Lib.hid (show ∀ j, j < lenT a → w10.cell? ⟨cb, coff + j, none⟩ = some (.int .i64 (uT a j : Nat)) from fun j hj => below_at hB79 (HU7.out j hj) hcbl)
      have HD10 := Lib.hid (HD5.out.below' hB510)
      have HP10 := Lib.hid g1
      have ncb : ¬ V2 cb := fun e => by have := HD5.out.lt _ e; have := hB6.size; omega
      have ngb : ¬ V2 w9.heap.size := fun e => by have := HD5.out.lt _ e; have := hB6.size; have := hB7.size; have := hB8.size; have := hB9.size; omega
      have Hncb := Lib.hid ncb
      have Hngb := Lib.hid ngb
      clear hw10 hB79 hB510 hB6 hB7 hB8 hB9 hB10 hz10 g0 g2 g1 HU7 hcb6 hcbl HD5 ncb ngb
      obtain ⟨m0, v0, hp0, hg0⟩ := HVI5.out.inv.pre a Ha.out
      obtain ⟨d0, e0, hread, hcase⟩ := HVI5.out.first Ha.out hp0 hg0
      obtain ⟨W, M', m', hW, hVI', -, hp', -, kd, dd, hov, hres⟩ := fetch_end true fates Ha.out HVI5.out hp0 hg0
      have hmW : m' = lenT a ∧ W = (kd, dd) := hres.resolve_right (fun h => by cases h.1)
      rw [← hW, hmW.2] at hcase
      rw [← Hr1.out] at hread
      have HmW := Lib.hid (show m' = lenT a ∧ W.1 = kd from ⟨hmW.1, by rw [hmW.2]⟩)
      have Hp13 := Lib.hid hp'
      have Hread := Lib.hid hread
      have Hov := Lib.hid hov
      have HVI13 := Lib.hid hVI'
      have Hcase := Lib.hid hcase
      clear hp0 hg0 hread hcase hW hVI' hp' hov hres hmW
      obtain ⟨nb', hn', hu'⟩ := HD10.out.nodes
      have x0 : w10.drew.cell? ⟨cb, coff, none⟩ = some (.int .i64 (uT a 0 : Nat)) := HU10.out 0 (by have := Hl.out.1; omega)
      have x1 : w10.drew.cell? ⟨w9.heap.size, 1, none⟩ = some (.int .i64 r1) := HP10.out
      obtain ⟨un, hun⟩ : ∃ un, un = ((uT a 0 : Nat) : Int) := ⟨_, rfl⟩
      have hMd : Mod none' w10 w10.drew := (Mod.refl _ _).drew
      have hcn := hn' w10.drew hMd
      obtain ⟨⟨ub, pb, q1, q2, q3⟩, gk⟩ := hu' (uT a 0) (by have := uT_lt (show 0 < lenT a by have := Hl.out.1; omega); omega)
      have hcu1 := q1 w10.drew hMd
      rw [← hun] at x0 hcu1
      have R2 := Lib.hid q2
      have R3 := Lib.hid q3
      have HMd := Lib.hid hMd
      have hl0 : 0 < lenT a := Hl.out.1
      clear hn' hu' q1 q2 q3 hMd hun
      go_wp2_with fail
      go_region_held3 (fun w' => w'.cell? ⟨cb, coff, none⟩ = some (.int .i64 un) ∧ w'.cell? ⟨w9.heap.size, 1, none⟩ = some (.int .i64 r1))
        (first
          | with_reducible exact ⟨x0, x1⟩
          | with_reducible exact ⟨z0, z1⟩
          | with_reducible exact ⟨y0, y1⟩)
        (first
          | (go_at_call 19; (with_reducible refine hcn.mono ?_); rintro e wa ⟨rfl, rfl⟩)
          | (go_at_call 20; (with_reducible refine hcu1.mono ?_); rintro e wb ⟨rfl, hMb⟩
             have z0 := hMb.at x0 id
             have z1 := hMb.at x1 id
             have hcp1 := R2.out wb (HMd.out.trans hMb)
             obtain ⟨mb, hP⟩ := R3.out wb (HMd.out.trans hMb)
             have hcr := pread_any wb pb mb _ gk hP r1
             rw [Hread.out] at hcr
             unfold RdPost at hcr
             simp only at hcr
             have HMb := Lib.hid hMb
             clear hMb hP)
          | (go_at_call 21; (with_reducible refine hcp1.mono ?_); rintro e wc ⟨rfl, rfl⟩)
          | (go_at_call 22; (with_reducible refine hcr.mono ?_); rintro e w11 ⟨rfl, hM11⟩
             have y0 := hM11.at z0 id
             have y1 := hM11.at z1 id
             have HM11 := Lib.hid hM11
             clear hM11))
      have hM1011 := HMd.out.trans (HMb.out.trans HM11.out)
      have HM1011 := Lib.hid hM1011
      have HD11 := Lib.hid (HD10.out.mod hM1011 (fun _ _ => id) (fun _ _ => id))
      clear x0 x1 z0 z1 y0 y1 hcn hcu1 hcp1 hcr HMb HM11 hM1011 HD10 HMd
      go_wp2_with fail
      refine (three_any _).mono ?_
      rintro e w12 ⟨b12, rfl, hl12, hB12⟩
      have hD12 := HD11.out.below' hB12
      have hrd : Calls Tryz.prog 37 #[.pointer (some ⟨hb, 0, none⟩), .agg #[.int .i64 0, .slice (some ⟨b12, 0, none⟩) 3 3], .int .i64 (a : Int), .bool true, .slice fa fates.length fc] w12 _ := read16_any hD12 (by omega) _ qT (a : Int) true _ 3 ⟨by decide, by decide⟩ hl12 fa fates fc (HFA.out.below' hD12.below) (by have := Hf6.out; omega) (fun b off e h0 hV => by
        obtain ⟨b', off', e', hb, -⟩ := HFA.out h0
        rw [e] at e'; cases e'
        have := HD11.out.old b hV; omega)
      unfold Rd16Post at hrd
      rw [Hov.out] at hrd
      have HB12 := Lib.hid hB12
      clear hl12 hD12 hB12
      go_wp2_with fail
      refine hrd.mono ?_
      clear hrd
      rintro e w13 ⟨rfl, hD13, hM13⟩
      have HD13 := Lib.hid hD13
      have HB13 := Lib.hid hD13.below
      have hM1013 : Mod V2 w10 w13 := ((mod_none HM1011.out).trans (Mod.of_below HB12.out)).trans hM13
      have HU13 := Lib.hid (show ∀ j, j < lenT a → w13.cell? ⟨cb, coff + j, none⟩ = some (.int .i64 (uT a j : Nat)) from fun j hj => hM1013.at (HU10.out j hj) Hncb.out)
      have HP13 := Lib.hid (hM1013.at HP10.out Hngb.out)
      clear hD13 hM13 hM1013 HU10 HP10 HM1011 HB12 HD11
      rcases Hcase.out with ⟨h1, h2⟩ | ⟨h1, h2⟩
      · obtain ⟨rfl, rfl⟩ := Prod.mk.inj h2
        subst h1
        clear h2
        go_wp2_with fail
        go_loopg [19] (lenT a) (fun g s19 wr => MendsRel w13 (lenT a) g s19 wr)
        case atStart => exact ⟨0, rfl, Nat.zero_le _, rfl, Mod.refl _ _⟩
        case round =>
          obtain ⟨k, rfl, hk, rfl, hMr⟩ := hrel
          by_cases hkl : k < lenT a
          · obtain ⟨un, hun⟩ : ∃ un, un = ((uT a k : Nat) : Int) := ⟨_, rfl⟩
            have hkd := HVI13.out.kind Ha.out Hp13.out hkl (by rw [HmW.out.1]; exact hkl)
            rw [HmW.out.2] at hkd
            rw [← Hr1.out] at hkd
            have hck := HU13.out k hkl
            have hMrd : Mod none' w13 wr.drew := hMr.drew
            rw [← hun] at hck
            have k0 : wr.drew.cell? ⟨cb, coff + k, none⟩ = some (.int .i64 un) := hMrd.at hck id
            have k1 : wr.drew.cell? ⟨w9.heap.size, 1, none⟩ = some (.int .i64 r1) := hMrd.at HP13.out id
            obtain ⟨nb2, hn2, hu2⟩ := HD13.out.nodes
            have hcn := hn2 wr.drew hMrd
            obtain ⟨⟨ub, pb, q1, q2, q3⟩, gk⟩ := hu2 (uT a k) (by have := uT_lt hkl; omega)
            have hcu1 := q1 wr.drew hMrd
            rw [← hun] at hcu1
            have R2 := Lib.hid q2
            have R3 := Lib.hid q3
            have HMrd := Lib.hid hMrd
            have Hkd := Lib.hid hkd
            have n0 : (0 : Int) ≤ k := by omega
            have n1 : (k : Int) < lenT a := by omega
            have n2 : (k : Int) < 3 := by have := (lenT_le a).2; omega
            clear hck q1 q2 q3 hMr hMrd hun hn2 hu2 hkd
            go_wp2_with fail
            go_region_held3 (fun w' => w'.cell? ⟨cb, coff + k, none⟩ = some (.int .i64 un) ∧ w'.cell? ⟨w9.heap.size, 1, none⟩ = some (.int .i64 r1))
              (first
                | with_reducible exact ⟨k0, k1⟩
                | with_reducible exact ⟨z0, z1⟩
                | with_reducible exact ⟨y0, y1⟩)
              (first
                | (go_at_call 19; (with_reducible refine hcn.mono ?_); rintro e wa ⟨rfl, rfl⟩)
                | (go_at_call 20; (with_reducible refine hcu1.mono ?_); rintro e wb ⟨rfl, hMb⟩
                   have z0 := hMb.at k0 id
                   have z1 := hMb.at k1 id
                   have hcp1 := R2.out wb (HMrd.out.trans hMb)
                   obtain ⟨mb, hP⟩ := R3.out wb (HMrd.out.trans hMb)
                   have hcr := pkind_any wb pb mb _ hP r1
                   rw [Hkd.out] at hcr
                   have HMb := Lib.hid hMb
                   clear hMb hP)
                | (go_at_call 21; (with_reducible refine hcp1.mono ?_); rintro e wc ⟨rfl, rfl⟩)
                | (go_at_call 38; (with_reducible refine hcr.mono ?_); rintro e wd ⟨rfl, hMd⟩
                   have y0 := hMd.at z0 id
                   have y1 := hMd.at z1 id
                   have HMd := Lib.hid hMd
                   clear hMd))
            have HMe := Lib.hid (HMrd.out.trans (HMb.out.trans HMd.out))
            clear k0 k1 z0 z1 y0 y1 hcn hcu1 hcp1 hcr HMb HMd
            go_wp2_with fail
            go_roundg (lenT a - (k + 1))
            case measure => omega
            case rel => exact ⟨k + 1, rfl, by omega, by go_num, HMe.out⟩
          · obtain rfl : k = lenT a := by omega
            have HBr := Lib.hid (HB13.out.trans ((Mod.below hMr).mono HB13.out.size))
            clear hMr hkl hk
            go_wp2_with fail
            refine (wakes16_any _).mono ?_
            rintro e wz ⟨rfl, hBz⟩
            go_wp2_with fail
            go_ret
            exact ⟨rfl, HBr.out.trans (hBz.mono HBr.out.size)⟩
      · obtain ⟨rfl, rfl⟩ := Prod.mk.inj h2
        have h1' : (e0 == 0) = false := by simpa using h1
        clear h1 h2
        go_wp2_with fail
        go_loopg [19] (lenT a) (fun g s19 wr => MendsRel w13 (lenT a) g s19 wr)
        case atStart => exact ⟨0, rfl, Nat.zero_le _, rfl, Mod.refl _ _⟩
        case round =>
          obtain ⟨k, rfl, hk, rfl, hMr⟩ := hrel
          by_cases hkl : k < lenT a
          · obtain ⟨un, hun⟩ : ∃ un, un = ((uT a k : Nat) : Int) := ⟨_, rfl⟩
            have hkd := HVI13.out.kind Ha.out Hp13.out hkl (by rw [HmW.out.1]; exact hkl)
            rw [HmW.out.2] at hkd
            rw [← Hr1.out] at hkd
            have hck := HU13.out k hkl
            have hMrd : Mod none' w13 wr.drew := hMr.drew
            rw [← hun] at hck
            have k0 : wr.drew.cell? ⟨cb, coff + k, none⟩ = some (.int .i64 un) := hMrd.at hck id
            have k1 : wr.drew.cell? ⟨w9.heap.size, 1, none⟩ = some (.int .i64 r1) := hMrd.at HP13.out id
            obtain ⟨nb2, hn2, hu2⟩ := HD13.out.nodes
            have hcn := hn2 wr.drew hMrd
            obtain ⟨⟨ub, pb, q1, q2, q3⟩, gk⟩ := hu2 (uT a k) (by have := uT_lt hkl; omega)
            have hcu1 := q1 wr.drew hMrd
            rw [← hun] at hcu1
            have R2 := Lib.hid q2
            have R3 := Lib.hid q3
            have HMrd := Lib.hid hMrd
            have Hkd := Lib.hid hkd
            have n0 : (0 : Int) ≤ k := by omega
            have n1 : (k : Int) < lenT a := by omega
            have n2 : (k : Int) < 3 := by have := (lenT_le a).2; omega
            clear hck q1 q2 q3 hMr hMrd hun hn2 hu2 hkd
            go_wp2_with fail
            go_region_held3 (fun w' => w'.cell? ⟨cb, coff + k, none⟩ = some (.int .i64 un) ∧ w'.cell? ⟨w9.heap.size, 1, none⟩ = some (.int .i64 r1))
              (first
                | with_reducible exact ⟨k0, k1⟩
                | with_reducible exact ⟨z0, z1⟩
                | with_reducible exact ⟨y0, y1⟩)
              (first
                | (go_at_call 19; (with_reducible refine hcn.mono ?_); rintro e wa ⟨rfl, rfl⟩)
                | (go_at_call 20; (with_reducible refine hcu1.mono ?_); rintro e wb ⟨rfl, hMb⟩
                   have z0 := hMb.at k0 id
                   have z1 := hMb.at k1 id
                   have hcp1 := R2.out wb (HMrd.out.trans hMb)
                   obtain ⟨mb, hP⟩ := R3.out wb (HMrd.out.trans hMb)
                   have hcr := pkind_any wb pb mb _ hP r1
                   rw [Hkd.out] at hcr
                   have HMb := Lib.hid hMb
                   clear hMb hP)
                | (go_at_call 21; (with_reducible refine hcp1.mono ?_); rintro e wc ⟨rfl, rfl⟩)
                | (go_at_call 38; (with_reducible refine hcr.mono ?_); rintro e wd ⟨rfl, hMd⟩
                   have y0 := hMd.at z0 id
                   have y1 := hMd.at z1 id
                   have HMd := Lib.hid hMd
                   clear hMd))
            have HMe := Lib.hid (HMrd.out.trans (HMb.out.trans HMd.out))
            clear k0 k1 z0 z1 y0 y1 hcn hcu1 hcp1 hcr HMb HMd
            go_wp2_with fail
            go_roundg (lenT a - (k + 1))
            case measure => omega
            case rel => exact ⟨k + 1, rfl, by omega, by go_num, HMe.out⟩
          · obtain rfl : k = lenT a := by omega
            have HBr := Lib.hid (HB13.out.trans ((Mod.below hMr).mono HB13.out.size))
            clear hMr hkl hk
            go_wp2_with fail
            refine (wakes16_any _).mono ?_
            rintro e wz ⟨rfl, hBz⟩
            go_wp2_with fail
            go_ret
            exact ⟨rfl, HBr.out.trans (hBz.mono HBr.out.size)⟩
set_option maxRecDepth 100000 in
set_option maxHeartbeats 2000000 in
theorem fetchMends_lifted (os : Os) (started : os.Started) (H : Type) (enc : TypeId × Value → H) :
    ReturnsInHanded {} Tryz.checked os 6 .any (Rows.fetchMendsSpec.pre6 enc Tryz.prog Tryz.f6 Rows.fetchMendsRow.domain false) (Rows.fetchMendsSpec.post enc Tryz.prog Tryz.f6 false true false false) := by
  refine returnsInHanded_of_change (C := Tryz.checked) Tryz.ownP started (by kernel_rfl) Tryz.func6
    (ChangeSpec.witness6 (enc := enc) (C := Tryz.checked) false ⟨#[], #[.slice none 0 0, .int .i64 0, .slice none 0 0], []⟩ 8 (by kernel_rfl) (by kernel_rfl) (by kernel_rfl) (by kernel_rfl)) ?_
  intro W base args ds gs before hval0 hW hcnd _
  have hval : ∀ (j : Nat) t v, Tryz.f6.params[j]? = some t → args[j]? = some v → Value.okWide Tryz.prog W .any base t v := hval0
  have hW' := hW
  obtain ⟨p, q, hA0, hV, rfl, hfz, hnd⟩ := hW
  have hA : DataW.TrodAll enc Tryz.prog W 0 (fun _ => true) true Tryz.f6.params.toList args.toList ds p := hA0
  rw [Tryz.params6] at hA hval
  obtain ⟨v0, vs0, d0, ds0, p0, q0, hargs, rfl, rfl, h0, r0⟩ := trodAll_cons hA
  obtain ⟨v1, vs1, d1, ds1, p1, q1, rfl, rfl, rfl, h1, r1⟩ := trodAll_cons r0
  obtain ⟨v2, vs2, d2, ds2, p2, q2, rfl, rfl, rfl, h2, r2⟩ := trodAll_cons r1
  obtain ⟨rfl, rfl, rfl⟩ := trodAll_nil r2
  obtain rfl : args = #[v0, v1, v2] := by cases args; simp_all
  obtain ⟨rfl, rfl⟩ := trodVars_none hV
  obtain ⟨cs0, x0, hv0, hr0⟩ := open_arg (n := 9) (T := .slice tyPut) (by kernel_rfl) (hval 0 72 v0 rfl rfl) h0
  obtain ⟨cs1, x1, hv1, hr1⟩ := open_arg (n := 9) (T := .int .i64) (by kernel_rfl) (hval 1 3 v1 rfl rfl) h1
  obtain ⟨cs2, x2, hv2, hr2⟩ := open_arg (n := 9) (T := .slice (.int .u8)) (by kernel_rfl) (hval 2 23 v2 rfl rfl) h2
  obtain ⟨a0, n0, k0, ps, e0, hn0, hp0⟩ := rd_puts hr0
  obtain ⟨xa, rfl, rfl, -⟩ := rd_int.1 hr1
  obtain ⟨a2, l2, k2, e2, hb2, hn2⟩ := rd_u8s hr2
  simp only [Ty.isStruct, Bool.false_eq_true, if_false] at hv0 hv1 hv2
  rw [e0] at hv0
  rw [e2] at hv2
  subst hv0
  subst hv1
  subst hv2
  clear hA0 hval0
  refine (fetchMends_walk a0 n0 k0 ps hn0 _ a2 l2 k2 hn2 W hp0 hb2).mono fun e W' ⟨he, hb⟩ => ?_
  subst he
  exact ⟨_, rfl, law_post Tryz.laidOutP (by kernel_rfl) rfl Tryz.underlying4 hW' rfl rfl rfl rfl hb⟩

theorem fetchMends_holds : Rows.FetchMendsSaid :=
  OpenClaim.holds_of_wide 6 Tryz.f6 rfl rfl rfl rfl rfl rfl rfl ⟨rfl, rfl, rfl, rfl, rfl⟩ rfl rfl rfl rfl rfl (by kernel_rfl) Tryz.func6 (by kernel_rfl)
    (of_decide_eq_true (by kernel_rfl)) (by unfold Func.isWrapper; first | (rw [if_pos (by decide +kernel)]; kernel_rfl) | (rw [if_neg (by decide +kernel)]; exact ⟨rfl, rfl⟩))
    (fun os started H enc _ => fetchMends_lifted os started H enc)
end Go.Proofs.YtohmmjaikhpcfaaGreat
