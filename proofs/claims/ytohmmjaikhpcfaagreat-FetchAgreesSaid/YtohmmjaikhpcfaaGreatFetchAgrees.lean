/-
  The law FetchAgrees: two fetches of one address tell the same, where the first one told that something is there.
  Conditions: none.
-/
import Derived.Test.YtohmmjaikhpcfaaGreatMends
import Derived.Test.YtohmmjaikhpcfaaGreatRow
import Derived.Test.YtohmmjaikhpcfaaGreatPkFet2
namespace Go.Proofs.YtohmmjaikhpcfaaGreat
open Go.RowKit Esch Go.ChangeShapes Go.WideShapes Go.ChangeAt

theorem PutsAt.below' {w w' : World} {oa : Option Addr} {n : Nat} {ps : Nat → PutS} (h : PutsAt w oa n ps) (hB : Below w.heap.size w w') : PutsAt w' oa n ps := fun h0 => by
  obtain ⟨b, off, e, hb, hc⟩ := h h0
  exact ⟨b, off, e, Nat.lt_of_lt_of_le hb hB.size, fun i hi => ⟨(hc i hi).1, fun j v hv => below_at hB ((hc i hi).2 j v hv) hb⟩⟩
theorem PutsAt.out {w : World} {oa : Option Addr} {n : Nat} {ps : Nat → PutS} (h : PutsAt w oa n ps) {V : Nat → Prop} (hV : ∀ k, V k → w.heap.size ≤ k) : ∀ b off, oa = some ⟨b, off, none⟩ → 0 < n → ¬ V b := fun b off e h0 hv => by
  obtain ⟨b', off', e', hb, -⟩ := h h0
  rw [e] at e'; cases e'
  have := hV b hv
  omega
/-- all units have it: so it stays -/
theorem Pre.stays {a : Nat} {M M' : Pgs} {v v' : Int × ByteArray} {m' : Nat} (h : Pre a M (lenT a) v) (hM : PgLe M M') (h' : Pre a M' m' v') : (if m' = 0 then ((2 : Int), (⟨#[]⟩ : ByteArray)) else v') = v := by
  have hl := lenT_le a
  have h1 := h.at' 0 (by omega)
  rw [if_pos (by omega)] at h1
  have h2 := hM _ _ _ h1
  rw [h'.at' 0 (by omega)] at h2
  by_cases e : 0 < m'
  · rw [if_pos e] at h2
    rw [if_neg (by omega)]
    exact Option.some.inj h2
  · rw [if_neg e] at h2
    cases h2
set_option maxRecDepth 100000 in
set_option maxHeartbeats 8000000 in
theorem fetchAgrees_walk (la : Option Addr) (n lc : Nat) (ps : Nat → PutS) (hn : n ≤ 9223372036854775807) (lb : Option Addr) (n' lc' : Nat) (ps' : Nat → PutS) (hn' : n' ≤ 9223372036854775807) (ad : Int) (w : World) (hps : PutsAt w la n ps) (hps' : PutsAt w lb n' ps') :
    Calls Tryz.prog 7 #[.slice la n lc, .slice lb n' lc', .int .i64 ad] w fun r w' => r = .returned (.bool true) ∧ Below w.heap.size w w' := by
  have HPS := Lib.hid hps
  have HPS' := Lib.hid hps'
  clear hps hps'
  go_enter Tryz.func7, Tryz.ntmps7
  go_wp2_with fail
  refine (three_any _).mono ?_
  rintro e w1 ⟨b1, rfl, hl1, hB1⟩
  go_wp2_with fail
  have hmk : Calls Tryz.prog 11 #[.agg #[.int .i64 0, .slice (some ⟨b1, 0, none⟩) 3 3], .int .i64 300] _ _ := made_any _ w1 qT _ 3 300 (by decide) hl1 (by decide) (by decide)
  refine hmk.mono ?_
  clear hmk hl1
  rintro e w2 ⟨hb, rb, nb, rfl, hH2, -, hB2⟩
  have hD := Hd1.start hH2 hB1 hB2
  have HD := Lib.hid hD
  have HBw2 := Lib.hid hD.below
  have hfair := fair16_any la n lc ps hn w2 (HPS.out.below' hD.below)
  have hfair' := fair16_any lb n' lc' ps' hn' w2 (HPS'.out.below' hD.below)
  clear hH2 hB1 hB2 hD
  go_wp2_with fail
  refine hfair.mono ?_
  clear hfair
  rintro e w3 ⟨f, rfl, hf, rfl⟩
  cases f
  · clear hfair'
    go_wp2_with fail
    refine (wakes16_any _).mono ?_
    rintro e wz ⟨rfl, hBz⟩
    go_wp2_with fail
    go_ret
    exact ⟨rfl, HBw2.out.trans (hBz.mono HBw2.out.size)⟩
  have HSZ := Lib.hid (hf rfl)
  clear hf
  go_wp2_with fail
  refine hfair'.mono ?_
  clear hfair'
  rintro e w4 ⟨f, rfl, hf, rfl⟩
  cases f
  · skip
    go_wp2_with fail
    refine (wakes16_any _).mono ?_
    rintro e wz ⟨rfl, hBz⟩
    go_wp2_with fail
    go_ret
    exact ⟨rfl, HBw2.out.trans (hBz.mono HBw2.out.size)⟩
  have HSZ' := Lib.hid (hf rfl)
  have HVI := Lib.hid (VI.start 300 (by decide))
  clear hf
  go_wp2_with fail
  refine (three_any _).mono ?_
  rintro e wt ⟨bt, rfl, hlt, hBt⟩
  have hDt := HD.out.below' hBt
  have hlay : Calls Tryz.prog 35 #[.pointer (some ⟨hb, 0, none⟩), .agg #[.int .i64 0, .slice (some ⟨bt, 0, none⟩) 3 3], .slice la n lc] wt _ := lay_any hDt (by first | omega | (simp only [List.length_nil]; omega)) HVI.out _ _ 3 hlt (fun j hj e => by have hj : w4.heap.size ≤ j := hj; have := HD.out.lt j e; omega) la n lc ps ((HPS.out).below' hDt.below) hn HSZ.out (HPS.out.out HD.out.old)
  clear hlt hDt
  go_wp2_with fail
  refine hlay.mono ?_
  clear hlay
  rintro e w5 ⟨rfl, hd5, M5, hD5, hVI5, hPG5, -⟩
  have HD5 := Lib.hid hD5
  have HVI5 := Lib.hid hVI5
  have HPG5 := Lib.hid hPG5
  clear hD5 hVI5 hPG5 hBt
  go_wp2_with fail
  refine (kmod_any ad w5).mono ?_
  rintro e w6 ⟨a, ha, rfl, rfl⟩
  have Ha := Lib.hid ha
  clear ha
  obtain ⟨m0, v0, hp0, hg0⟩ := HVI5.out.inv.pre a Ha.out
  obtain ⟨fb, hfb⟩ : ∃ fb, fb = (ad.tmod 2 == 0) := ⟨_, rfl⟩
  obtain ⟨W1, M1, m1, -, hVI1, -, hp1, hgw1, kd, dd, hov1, hres1⟩ := fetch_end fb [] Ha.out HVI5.out hp0 hg0
  have Hres1 := Lib.hid hres1
  have Hfb := Lib.hid hfb
  obtain ⟨hd7, hhd7⟩ : ∃ y, y = (stR hd5 qT (a : Int) fb [] (([] : List Int).length + 30)).1 := ⟨_, rfl⟩
  rw [← hhd7] at hVI1
  have HVI7 := Lib.hid hVI1
  have Hhd7 := Lib.hid hhd7
  have Hp1 := Lib.hid hp1
  have Hgw1 := Lib.hid hgw1
  clear hp0 hg0 hVI1 hp1 hgw1 hres1 hhd7
  go_wp2_with fail
  refine (three_any _).mono ?_
  rintro e wt ⟨bt, rfl, hlt, hBt⟩
  have hDt := HD5.out.below' hBt
  have hrd : Calls Tryz.prog 37 #[.pointer (some ⟨hb, 0, none⟩), .agg #[.int .i64 0, .slice (some ⟨bt, 0, none⟩) 3 3], .int .i64 (a : Int), .bool fb, .slice none 0 0] wt _ := read16_any hDt (by omega) _ qT (a : Int) fb _ 3 ⟨by decide, by decide⟩ hlt none [] 0 (fun h => absurd h (by simp)) (by simp) (fun _ _ e => by cases e)
  unfold Rd16Post at hrd
  rw [hov1] at hrd
  rw [hfb] at hrd
  clear hlt hDt hov1 hBt hfb
  go_wp2_with fail
  refine hrd.mono ?_
  clear hrd
  rintro e w7 ⟨rfl, hD7, -⟩
  rw [← Hfb.out] at hD7
  rw [← Hhd7.out] at hD7
  have HD7 := Lib.hid hD7
  clear hD7
  go_wp2_with fail
  refine (three_any _).mono ?_
  rintro e wt ⟨bt, rfl, hlt, hBt⟩
  have hDt := HD7.out.below' hBt
  have hlay : Calls Tryz.prog 35 #[.pointer (some ⟨hb, 0, none⟩), .agg #[.int .i64 0, .slice (some ⟨bt, 0, none⟩) 3 3], .slice lb n' lc'] wt _ := lay_any hDt (by first | omega | (simp only [List.length_nil]; omega)) HVI7.out _ _ 3 hlt (fun j hj e => by have hj : w7.heap.size ≤ j := hj; have := HD7.out.lt j e; omega) lb n' lc' ps' ((HPS'.out).below' hDt.below) hn' HSZ'.out (HPS'.out.out HD7.out.old)
  clear hlt hDt
  go_wp2_with fail
  refine hlay.mono ?_
  clear hlay
  rintro e w8 ⟨rfl, hd8, M8, hD5, hVI5, hPG5, -⟩
  have HD8 := Lib.hid hD5
  have HVI8 := Lib.hid hVI5
  have HPG8 := Lib.hid hPG5
  clear hD5 hVI5 hPG5 hBt
  obtain ⟨m8, v8, hp8, hg8⟩ := HVI8.out.inv.pre a Ha.out
  obtain ⟨W9, M9, m9, hW9, hVI9, -, hp9, hgw9, kd9, dd9, hov9, hres9⟩ := fetch_end true [] Ha.out HVI8.out hp8 hg8
  have hm9 : m9 = lenT a ∧ W9 = (kd9, dd9) := hres9.resolve_right (fun h => by cases h.1)
  have hkd9 : kd9 ≠ 0 := by
    have e := hgw9
    rw [hm9.2] at e
    rcases e with e | ⟨e, -⟩
    · rw [(Prod.mk.inj e).1]; decide
    · rw [show kd9 = 1 from e]; decide
  have hcase : (kd = 0) ∨ (kd = kd9 ∧ dd = dd9 ∧ kd ≠ 0) := by
    rcases Hres1.out with ⟨e1, e2⟩ | ⟨-, e2, -⟩
    · right
      have hp1' := Hp1.out
      rw [e1] at hp1'
      have := hp1'.stays HPG8.out hp8
      rw [← hW9, hm9.2, e2] at this
      obtain ⟨g1, g2⟩ := Prod.mk.inj this
      exact ⟨g1.symm, g2.symm, by rw [← g1]; exact hkd9⟩
    · exact Or.inl e2
  have Hcase := Lib.hid hcase
  have Hkd9 := Lib.hid hkd9
  clear hp8 hg8 hW9 hVI9 hp9 hgw9 hres9 hm9 hkd9 hcase
  go_wp2_with fail
  refine (three_any _).mono ?_
  rintro e wt ⟨bt, rfl, hlt, hBt⟩
  have hDt := HD8.out.below' hBt
  have hrd : Calls Tryz.prog 37 #[.pointer (some ⟨hb, 0, none⟩), .agg #[.int .i64 0, .slice (some ⟨bt, 0, none⟩) 3 3], .int .i64 (a : Int), .bool true, .slice none 0 0] wt _ := read16_any hDt (by simp only [List.length_nil]; omega) _ qT (a : Int) true _ 3 ⟨by decide, by decide⟩ hlt none [] 0 (fun h => absurd h (by simp)) (by simp) (fun _ _ e => by cases e)
  unfold Rd16Post at hrd
  rw [hov9] at hrd
  clear hlt hDt hov9 hBt
  go_wp2_with fail
  refine hrd.mono ?_
  clear hrd
  rintro e w10 ⟨rfl, hD10, -⟩
  have HB10 := Lib.hid hD10.below
  have e9 : (kd9 == 0) = false := by simpa using Hkd9.out
  clear hD10
  rcases Hcase.out with h0 | ⟨h1, h2, h3⟩
  · subst h0
    go_wp2_with fail
    refine (wakes16_any _).mono ?_
    rintro e wz ⟨rfl, hBz⟩
    go_wp2_with fail
    go_ret
    exact ⟨rfl, HB10.out.trans (hBz.mono HB10.out.size)⟩
  · subst h1 h2
    go_wp2_with fail
    refine (wakes16_any _).mono ?_
    rintro e wz ⟨rfl, hBz⟩
    go_wp2_with fail
    go_ret
    exact ⟨rfl, HB10.out.trans (hBz.mono HB10.out.size)⟩
set_option maxRecDepth 100000 in
set_option maxHeartbeats 2000000 in
theorem fetchAgrees_lifted (os : Os) (started : os.Started) (H : Type) (enc : TypeId × Value → H) :
    ReturnsInHanded {} Tryz.checked os 7 .any (Rows.fetchAgreesSpec.pre6 enc Tryz.prog Tryz.f7 Rows.fetchAgreesRow.domain false) (Rows.fetchAgreesSpec.post enc Tryz.prog Tryz.f7 false true false false) := by
  refine returnsInHanded_of_change (C := Tryz.checked) Tryz.ownP started (by kernel_rfl) Tryz.func7
    (ChangeSpec.witness6 (enc := enc) (C := Tryz.checked) false ⟨#[], #[.slice none 0 0, .slice none 0 0, .int .i64 0], []⟩ 8 (by kernel_rfl) (by kernel_rfl) (by kernel_rfl) (by kernel_rfl)) ?_
  intro W base args ds gs before hval0 hW hcnd _
  have hval : ∀ (j : Nat) t v, Tryz.f7.params[j]? = some t → args[j]? = some v → Value.okWide Tryz.prog W .any base t v := hval0
  have hW' := hW
  obtain ⟨p, q, hA0, hV, rfl, hfz, hnd⟩ := hW
  have hA : DataW.TrodAll enc Tryz.prog W 0 (fun _ => true) true Tryz.f7.params.toList args.toList ds p := hA0
  rw [Tryz.params7] at hA hval
  obtain ⟨v0, vs0, d0, ds0, p0, q0, hargs, rfl, rfl, h0, r0⟩ := trodAll_cons hA
  obtain ⟨v1, vs1, d1, ds1, p1, q1, rfl, rfl, rfl, h1, r1⟩ := trodAll_cons r0
  obtain ⟨v2, vs2, d2, ds2, p2, q2, rfl, rfl, rfl, h2, r2⟩ := trodAll_cons r1
  obtain ⟨rfl, rfl, rfl⟩ := trodAll_nil r2
  obtain rfl : args = #[v0, v1, v2] := by cases args; simp_all
  obtain ⟨rfl, rfl⟩ := trodVars_none hV
  obtain ⟨cs0, x0, hv0, hr0⟩ := open_arg (n := 9) (T := .slice tyPut) (by kernel_rfl) (hval 0 72 v0 rfl rfl) h0
  obtain ⟨cs1, x1, hv1, hr1⟩ := open_arg (n := 9) (T := .slice tyPut) (by kernel_rfl) (hval 1 72 v1 rfl rfl) h1
  obtain ⟨cs2, x2, hv2, hr2⟩ := open_arg (n := 9) (T := .int .i64) (by kernel_rfl) (hval 2 3 v2 rfl rfl) h2
  obtain ⟨a0, n0, k0, ps, e0, hn0, hp0⟩ := rd_puts hr0
  obtain ⟨a1, n1, k1, ps1, e1, hn1, hp1⟩ := rd_puts hr1
  obtain ⟨xa, rfl, rfl, -⟩ := rd_int.1 hr2
  simp only [Ty.isStruct, Bool.false_eq_true, if_false] at hv0 hv1 hv2
  rw [e0] at hv0
  rw [e1] at hv1
  subst hv0
  subst hv1
  subst hv2
  clear hA0 hval0
  refine (fetchAgrees_walk a0 n0 k0 ps hn0 a1 n1 k1 ps1 hn1 _ W hp0 hp1).mono fun e W' ⟨he, hb⟩ => ?_
  subst he
  exact ⟨_, rfl, law_post Tryz.laidOutP (by kernel_rfl) rfl Tryz.underlying4 hW' rfl rfl rfl rfl hb⟩

theorem fetchAgrees_holds : Rows.FetchAgreesSaid :=
  OpenClaim.holds_of_wide 7 Tryz.f7 rfl rfl rfl rfl rfl rfl rfl ⟨rfl, rfl, rfl, rfl, rfl⟩ rfl rfl rfl rfl rfl (by kernel_rfl) Tryz.func7 (by kernel_rfl)
    (of_decide_eq_true (by kernel_rfl)) (by unfold Func.isWrapper; first | (rw [if_pos (by decide +kernel)]; kernel_rfl) | (rw [if_neg (by decide +kernel)]; exact ⟨rfl, rfl⟩))
    (fun os started H enc _ => fetchAgrees_lifted os started H enc)
end Go.Proofs.YtohmmjaikhpcfaaGreat
