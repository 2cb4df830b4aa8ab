/-
  The law HandOnce: each question is done once at most.
  Conditions: none.
-/
import Derived.Test.YthdgochecdobnaaPkHand
import Derived.Test.YthdgochecdobnaaHandHeld
import Derived.Test.YthdgochecdobnaaHoLen
import Derived.Test.YthdgochecdobnaaRow
import Derived.Test.YthdgochecdobnaaBytes8
namespace Go.Proofs.Ythdgochecdobnaa
open Go.RowKit Esch Go.ChangeShapes Go.WideShapes Go.ChangeAt

def OnceH1 (w0 : World) (hb L g : Nat) (s8 s9 s10 : Value) (wr : World) : Prop := ∃ (i t n : Nat) (U : Nat → Prop), g = 100 - i ∧ i ≤ 100 ∧ i ≤ L ∧ s8 = .int .i64 t ∧ s9 = .int .i64 n ∧ s10 = .int .i64 i ∧ t ≤ i ∧ n ≤ 64 ∧ HO w0 i t n hb U wr
def OnceH2 (w0 : World) (hb L g : Nat) (s8 s9 s14 : Value) (wr : World) : Prop := ∃ (i t n c : Nat) (U : Nat → Prop), g = 100 - i ∧ i ≤ 100 ∧ i ≤ L ∧ s8 = .int .i64 t ∧ s9 = .int .i64 n ∧ s14 = .int .i64 i ∧ t ≤ 100 + i ∧ n ≤ 64 ∧ c ≤ 100 + i ∧ HO w0 c t n hb U wr
set_option maxRecDepth 100000 in
set_option maxHeartbeats 4000000 in
theorem handOnce_walk (a0 a1 : Option Addr) (l0 l1 : List Int) (k0 k1 : Nat) (w : World) (h0 : BytesAt w a0 l0) (h1 : BytesAt w a1 l1) :
    Calls Try.prog 3 #[.slice a0 l0.length k0, .slice a1 l1.length k1] w fun r w' => r = .returned (.bool true) ∧ Below w.heap.size w w' := by
  have H0 := Lib.hid h0
  have H1 := Lib.hid h1
  clear h0 h1
  go_enter Try.func3, Try.ntmps3
  go_wp2_with fail
  have hmk : Calls Try.prog 6 #[.agg #[.int .i64 0, .slice (some ⟨w.heap.size + 1, 0, none⟩) 1 1], .int .i64 9] _ _ := made_any _ _ qOne _ 1 9 (by decide) (lit14a w 0) (by decide) (by decide)
  refine hmk.mono ?_
  clear hmk
  rintro e w1 ⟨hb, rb, nb, rfl, hH1, -, hB1⟩
  have hO1 := HO.start hH1 rfl (show Below w.heap.size w _ from by (repeat (first | with_reducible exact (Below.refl _ _) | with_reducible refine Below.drew ?_ | with_reducible refine Esch.below_drewN ?_ _ | with_reducible refine Below.setCell ?_ (by first | omega | (simp; done) | (simp; omega)) _ | with_reducible refine Below.alloc ?_ (by first | omega | (simp; done) | (simp; omega)) _))) hB1
  have HO1 := Lib.hid hO1
  clear hH1 hB1 hO1
  go_wp2_with fail
  go_loopg [8, 9, 10] 100 (fun g s8 s9 s10 wr => OnceH1 w hb l0.length g s8 s9 s10 wr)
  case atStart => exact ⟨0, 0, 0, _, rfl, by omega, Nat.zero_le _, rfl, rfl, rfl, by omega, by omega, HO1.out⟩
  case round =>
    obtain ⟨i, t, n, U, rfl, hi, hiL, rfl, rfl, rfl, ht, hn, hO⟩ := hrel
    have HO := Lib.hid hO
    by_cases hlt : i < l0.length ∧ i < 100
    · obtain ⟨b, off, v, rfl, hcell, v0, v1⟩ := H0.out.get hO.below hlt.1
      obtain ⟨j1, j2⟩ := hlt
      have j0 : (0 : Int) ≤ i := by omega
      have j3 : (i : Int) < l0.length := by omega
      have j4 : (i : Int) < 100 := by omega
      have hv : v % 5 = 0 ∨ v % 5 = 1 ∨ v % 5 = 2 ∨ v % 5 = 3 ∨ v % 5 = 4 := by omega
      rcases hv with hv | hv | hv | hv | hv
      · have Hv := Lib.hid hv
        have hc := ho_heard hO (by omega) (by omega)
        clear hO hv
        simp only [qV, p0, List.length_nil] at hc
        go_wp2_with fail
        rw [Hv.out]
        refine hc.mono ?_
        clear hc
        rintro e w4 ⟨⟨ca, cc, rfl⟩, hO4, hM4⟩
        have HO4 := Lib.hid hO4
        clear hO4 hM4
        simp only [aV, anN, p0, List.length_nil]
        go_wp2_with fail
        go_roundg (100 - (i + 1))
        case measure => omega
        case rel => exact ⟨i + 1, (t + 1), n, _, rfl, by omega, by omega, by go_num, by go_num, by go_num, by omega, by omega, HO4.out.below' (by (repeat (first | with_reducible exact (Below.refl _ _) | with_reducible refine Below.drew ?_ | with_reducible refine Esch.below_drewN ?_ _ | with_reducible refine Below.setCell ?_ (by first | omega | (simp; done) | (simp; omega)) _ | with_reducible refine Below.alloc ?_ (by first | omega | (simp; done) | (simp; omega)) _)))⟩
      · have Hv := Lib.hid hv
        have hc := ho_no hO 1 ⟨by decide, by decide, fun h => by cases h⟩
        clear hO hv
        simp only [qV, p0, List.length_nil] at hc
        go_wp2_with fail
        rw [Hv.out]
        refine hc.mono ?_
        clear hc
        rintro e w4 ⟨⟨ca, cc, rfl⟩, hO4, hM4⟩
        have HO4 := Lib.hid hO4
        clear hO4 hM4
        simp only [aV, an0, p0, List.length_nil]
        go_wp2_with fail
        go_roundg (100 - (i + 1))
        case measure => omega
        case rel => exact ⟨i + 1, t, n, _, rfl, by omega, by omega, by go_num, by go_num, by go_num, by omega, by omega, HO4.out.below' (by (repeat (first | with_reducible exact (Below.refl _ _) | with_reducible refine Below.drew ?_ | with_reducible refine Esch.below_drewN ?_ _ | with_reducible refine Below.setCell ?_ (by first | omega | (simp; done) | (simp; omega)) _ | with_reducible refine Below.alloc ?_ (by first | omega | (simp; done) | (simp; omega)) _)))⟩
      · have Hv := Lib.hid hv
        have hc := ho_deaf hO (by omega) (by omega)
        clear hO hv
        simp only [qV, p0, List.length_nil] at hc
        go_wp2_with fail
        rw [Hv.out]
        refine hc.mono ?_
        clear hc
        rintro e w4 ⟨⟨ca, cc, rfl⟩, hO4, hM4⟩
        have HO4 := Lib.hid hO4
        clear hO4 hM4
        simp only [aV, an0, p0, List.length_nil]
        go_wp2_with fail
        go_roundg (100 - (i + 1))
        case measure => omega
        case rel => exact ⟨i + 1, (t + 1), n, _, rfl, by omega, by omega, by go_num, by go_num, by go_num, by omega, by omega, HO4.out.below' (by (repeat (first | with_reducible exact (Below.refl _ _) | with_reducible refine Below.drew ?_ | with_reducible refine Esch.below_drewN ?_ _ | with_reducible refine Below.setCell ?_ (by first | omega | (simp; done) | (simp; omega)) _ | with_reducible refine Below.alloc ?_ (by first | omega | (simp; done) | (simp; omega)) _)))⟩
      · have Hv := Lib.hid hv
        by_cases h64 : n < 64
        · have hc := ho_held hO h64
          have h64' : (n : Int) < 64 := by omega
          clear hO hv
          simp only [qV, p0, List.length_nil] at hc
          go_wp2_with fail
          rw [Hv.out]
          refine hc.mono ?_
          clear hc
          rintro e w4 ⟨⟨ca, cc, rfl⟩, hO4, hM4⟩
          have HO4 := Lib.hid hO4
          clear hO4 hM4
          simp only [aV, an0, p0, List.length_nil]
          go_wp2_with fail
          go_roundg (100 - (i + 1))
          case measure => omega
          case rel => exact ⟨i + 1, t, (n + 1), _, rfl, by omega, by omega, by go_num, by go_num, by go_num, by omega, by omega, HO4.out.below' (by (repeat (first | with_reducible exact (Below.refl _ _) | with_reducible refine Below.drew ?_ | with_reducible refine Esch.below_drewN ?_ _ | with_reducible refine Below.setCell ?_ (by first | omega | (simp; done) | (simp; omega)) _ | with_reducible refine Below.alloc ?_ (by first | omega | (simp; done) | (simp; omega)) _)))⟩
        · have hc := ho_no hO 3 ⟨by decide, by decide, fun _ => by omega⟩
          have h64' : (64 : Int) ≤ n := by omega
          clear hO hv h64
          simp only [qV, p0, List.length_nil] at hc
          go_wp2_with fail
          rw [Hv.out]
          refine hc.mono ?_
          clear hc
          rintro e w4 ⟨⟨ca, cc, rfl⟩, hO4, hM4⟩
          have HO4 := Lib.hid hO4
          clear hO4 hM4
          simp only [aV, an0, p0, List.length_nil]
          go_wp2_with fail
          go_roundg (100 - (i + 1))
          case measure => omega
          case rel => exact ⟨i + 1, t, n, _, rfl, by omega, by omega, by go_num, by go_num, by go_num, by omega, by omega, HO4.out.below' (by (repeat (first | with_reducible exact (Below.refl _ _) | with_reducible refine Below.drew ?_ | with_reducible refine Esch.below_drewN ?_ _ | with_reducible refine Below.setCell ?_ (by first | omega | (simp; done) | (simp; omega)) _ | with_reducible refine Below.alloc ?_ (by first | omega | (simp; done) | (simp; omega)) _)))⟩
      · have Hv := Lib.hid hv
        have hc := ho_no hO 4 ⟨by decide, by decide, fun h => by cases h⟩
        clear hO hv
        simp only [qV, p0, List.length_nil] at hc
        go_wp2_with fail
        rw [Hv.out]
        refine hc.mono ?_
        clear hc
        rintro e w4 ⟨⟨ca, cc, rfl⟩, hO4, hM4⟩
        have HO4 := Lib.hid hO4
        clear hO4 hM4
        simp only [aV, an0, p0, List.length_nil]
        go_wp2_with fail
        go_roundg (100 - (i + 1))
        case measure => omega
        case rel => exact ⟨i + 1, t, n, _, rfl, by omega, by omega, by go_num, by go_num, by go_num, by omega, by omega, HO4.out.below' (by (repeat (first | with_reducible exact (Below.refl _ _) | with_reducible refine Below.drew ?_ | with_reducible refine Esch.below_drewN ?_ _ | with_reducible refine Below.setCell ?_ (by first | omega | (simp; done) | (simp; omega)) _ | with_reducible refine Below.alloc ?_ (by first | omega | (simp; done) | (simp; omega)) _)))⟩
    · have hdec : (i : Int) < l0.length ∧ (i : Int) = 100 ∨ (l0.length : Int) ≤ i := by omega
      have HT := Lib.hid ht
      have HN := Lib.hid hn
      clear hO hlt hiL ht
      rcases hdec with ⟨d1, d2⟩ | d1
      all_goals
        have HI := Lib.hid hi
        try (have d3 : decide ((i : Int) < 100) = false := decide_eq_false (by omega))
        clear hi
        try clear d2
        go_wp2_with fail
        go_loopg [8, 9, 14] 100 (fun g s8 s9 s14 wr => OnceH2 w hb l1.length g s8 s9 s14 wr)
        case atStart => exact ⟨0, t, n, i, _, rfl, by omega, Nat.zero_le _, rfl, rfl, rfl, by have := HT.out; have := HI.out; omega, HN.out, by have := HI.out; omega, HO.out⟩
        case round =>
          obtain ⟨j, t2, n2, c2, U2, rfl, hj, hjL, rfl, rfl, rfl, ht2, hn2, hc2, hO2⟩ := hrel
          have HO2 := Lib.hid hO2
          by_cases hlt2 : j < l1.length ∧ j < 100
          · obtain ⟨b, off, v, rfl, hcell, v0, v1⟩ := H1.out.get hO2.below hlt2.1
            obtain ⟨j1, j2⟩ := hlt2
            have j0 : (0 : Int) ≤ j := by omega
            have j3 : (j : Int) < l1.length := by omega
            have j4 : (j : Int) < 100 := by omega
            obtain ⟨m, rfl⟩ : ∃ m : Nat, v = m := ⟨v.toNat, by omega⟩
            by_cases hmn : m < n2
            · have hd := ho_do hO2 (by omega) (by omega) m hmn
              have hmn' : (m : Int) < n2 := by omega
              have hsub : ((n2 : Int) - 1) = ((n2 - 1 : Nat) : Int) := by omega
              have Hsub := Lib.hid hsub
              clear hO2 hsub
              go_wp2_with fail
              refine hd.mono ?_
              clear hd
              rintro e w4 ⟨rfl, hO4, hM4⟩
              have HO4 := Lib.hid hO4
              clear hO4 hM4
              go_wp2_with fail
              try rw [Hsub.out]
              go_roundg (100 - (j + 1))
              case measure => omega
              case rel => exact ⟨j + 1, t2 + 1, n2 - 1, c2 + 1, _, rfl, by omega, by omega, by go_num, by go_num, by go_num, by omega, by omega, by omega, HO4.out⟩
            · have hd := ho_doNo hO2 m (by omega)
              have hmn' : (n2 : Int) ≤ m := by omega
              clear hO2 hmn
              go_wp2_with fail
              refine hd.mono ?_
              clear hd
              rintro e w4 ⟨rfl, hO4, hM4⟩
              have HO4 := Lib.hid hO4
              clear hO4 hM4
              go_wp2_with fail
              go_roundg (100 - (j + 1))
              case measure => omega
              case rel => exact ⟨j + 1, t2, n2, c2 + 1, _, rfl, by omega, by omega, by go_num, by go_num, by go_num, by omega, by omega, by omega, HO4.out⟩
          · have hdec2 : (j : Int) < l1.length ∧ (j : Int) = 100 ∨ (l1.length : Int) ≤ j := by omega
            have hc := ho_tail hO2 (by omega)
            simp only [qV, p0, List.length_nil] at hc
            clear hO2 hlt2 hjL ht2 hn2 hc2
            rcases hdec2 with ⟨d4, d5⟩ | d4
            all_goals
              try (have d6 : decide ((j : Int) < 100) = false := decide_eq_false (by omega))
              try clear d5
              clear hj
              go_wp2_with fail
              refine hc.mono ?_
              clear hc
              rintro e w4 ⟨⟨ca, cc, rfl⟩, hO4, hM4⟩
              have HO4 := Lib.hid hO4
              clear hO4 hM4
              simp only [aV, anN, p0, List.length_nil]
              go_wp2_with fail
              refine (ho_len (HO4.out.below' (by (repeat (first | with_reducible exact (Below.refl _ _) | with_reducible refine Below.drew ?_ | with_reducible refine Esch.below_drewN ?_ _ | with_reducible refine Below.setCell ?_ (by first | omega | (simp; done) | (simp; omega)) _ | with_reducible refine Below.alloc ?_ (by first | omega | (simp; done) | (simp; omega)) _))))).mono ?_
              rintro e w5 ⟨a5, c5, rfl, hB5⟩
              have hz4 := HO4.out.below.size
              have HB5 := Lib.hid (HO4.out.below.trans ((show Below w4.heap.size w4 w5 from Below.trans (by (repeat (first | with_reducible exact (Below.refl _ _) | with_reducible refine Below.drew ?_ | with_reducible refine Esch.below_drewN ?_ _ | with_reducible refine Below.setCell ?_ (by first | omega | (simp; done) | (simp; omega)) _ | with_reducible refine Below.alloc ?_ (by first | omega | (simp; done) | (simp; omega)) _))) (hB5.mono (by simp))).mono HO4.out.below.size))
              clear hB5
              go_wp2_with fail
              refine (wakes14_any _).mono ?_
              rintro e w6 ⟨rfl, hB6⟩
              have HB6 := Lib.hid (HB5.out.trans (hB6.mono HB5.out.size))
              clear hB6
              go_wp2_with fail
              go_ret
              exact ⟨rfl, HB6.out⟩

set_option maxRecDepth 100000 in
set_option maxHeartbeats 2000000 in
theorem handOnce_lifted (os : Os) (started : os.Started) (H : Type) (enc : TypeId × Value → H) :
    ReturnsInHanded {} Try.checked os 3 .any (Rows.handOnceSpec.pre6 enc Try.prog Try.f3 Rows.handOnceRow.domain false) (Rows.handOnceSpec.post enc Try.prog Try.f3 false true false false) := by
  refine returnsInHanded_of_change (C := Try.checked) Try.ownP started (by kernel_rfl) Try.func3
    (ChangeSpec.witness6 (enc := enc) (C := Try.checked) false ⟨#[], #[.slice none 0 0, .slice none 0 0], []⟩ 8 (by kernel_rfl) (by kernel_rfl) (by kernel_rfl) (by kernel_rfl)) ?_
  intro W base args ds gs before hval0 hW hcnd _
  have hval : ∀ (j : Nat) t v, Try.f3.params[j]? = some t → args[j]? = some v → Value.okWide Try.prog W .any base t v := hval0
  have hW' := hW
  obtain ⟨p, q, hA0, hV, rfl, hfz, hnd⟩ := hW
  have hA : DataW.TrodAll enc Try.prog W 0 (fun _ => true) true Try.f3.params.toList args.toList ds p := hA0
  rw [Try.params3] at hA hval
  obtain ⟨v0, vs0, d0, ds0, p0, q0, hargs, rfl, rfl, h0, r0⟩ := trodAll_cons hA
  obtain ⟨v1, vs1, d1, ds1, p1, q1, rfl, rfl, rfl, h1, r1⟩ := trodAll_cons r0
  obtain ⟨rfl, rfl, rfl⟩ := trodAll_nil r1
  obtain rfl : args = #[v0, v1] := by cases args; simp_all
  obtain ⟨rfl, rfl⟩ := trodVars_none hV
  obtain ⟨cs0, x0, hv0, hr0⟩ := open_arg (n := 9) (T := .slice (.int .u8)) (by kernel_rfl) (hval 0 22 v0 rfl rfl) h0
  obtain ⟨cs1, x1, hv1, hr1⟩ := open_arg (n := 9) (T := .slice (.int .u8)) (by kernel_rfl) (hval 1 22 v1 rfl rfl) h1
  obtain ⟨a0, l0, k0, e0, hb0, -⟩ := rd_u8s hr0
  obtain ⟨a1, l1, k1, e1, hb1, -⟩ := rd_u8s hr1
  simp only [Ty.isStruct, Bool.false_eq_true, if_false] at hv0 hv1
  rw [e0] at hv0
  rw [e1] at hv1
  subst hv0
  subst hv1
  clear hA0 hval0
  refine (handOnce_walk a0 a1 l0 l1 k0 k1 W hb0 hb1).mono fun e W' ⟨he, hb⟩ => ?_
  subst he
  exact ⟨_, rfl, law_post Try.laidOutP (by kernel_rfl) rfl Try.underlying4 hW' rfl rfl rfl rfl hb⟩

theorem handOnce_holds : Rows.HandOnceSaid :=
  OpenClaim.holds_of_wide 3 Try.f3 rfl rfl rfl rfl rfl rfl rfl ⟨rfl, rfl, rfl, rfl, rfl⟩ rfl rfl rfl rfl rfl (by kernel_rfl) Try.func3 (by kernel_rfl)
    (of_decide_eq_true (by kernel_rfl)) (by unfold Func.isWrapper; first | (rw [if_pos (by decide +kernel)]; kernel_rfl) | (rw [if_neg (by decide +kernel)]; exact ⟨rfl, rfl⟩))
    (fun os started H enc _ => handOnce_lifted os started H enc)
end Go.Proofs.Ythdgochecdobnaa
