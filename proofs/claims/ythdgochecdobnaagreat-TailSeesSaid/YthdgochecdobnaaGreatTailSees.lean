/-
  The law TailSees: a tail that is asked for lies above every number that was told ahead of it.
  Conditions: none.
-/
import Derived.Test.YthdgochecdobnaaGreatTail4
import Derived.Test.YthdgochecdobnaaGreatRow
namespace Go.Proofs.YthdgochecdobnaaGreat
open Go.RowKit Esch Go.ChangeShapes Go.WideShapes Go.ChangeAt

def SeesRel1 (w0 : World) (hb n g : Nat) (s8 s9 : Value) (wr : World) : Prop := ∃ (i : Nat) (U : Nat → Prop), g = n - i ∧ i ≤ n ∧ s8 = .int .i64 ((i : Int) - 1) ∧ s9 = .int .i64 i ∧ HO w0 i i 0 hb U wr
def SeesRel2 (w0 : World) (hb n c0 g : Nat) (s15 : Value) (wr : World) : Prop := ∃ (i : Nat) (U : Nat → Prop), g = 100 - i ∧ i ≤ 100 ∧ s15 = .int .i64 i ∧ HT w0 (c0 + i) n hb U wr
set_option maxRecDepth 100000 in
set_option maxHeartbeats 4000000 in
theorem tailSees_walk (n : Nat) (hn : n ≤ 255) (fa : Option Addr) (fl : List Int) (fc : Nat) (w : World) (hf : BytesAt w fa fl) :
    Calls Tryz.prog 4 #[.int .u8 n, .slice fa fl.length fc] w fun r w' => r = .returned (.bool true) ∧ Below w.heap.size w w' := by
  have Hf := Lib.hid hf
  clear hf
  go_enter Tryz.func4, Tryz.ntmps4
  go_wp2_with fail
  refine (two_any _).mono ?_
  rintro e w1 ⟨b1, rfl, hl1, hB1⟩
  go_wp2_with fail
  have hmk : Calls Tryz.prog 16 #[.agg #[.int .i64 0, .slice (some ⟨b1, 0, none⟩) 1 1], .int .i64 9] _ _ := made_any _ w1 qTwo _ 1 9 (by decide) hl1 (by decide) (by decide)
  refine hmk.mono ?_
  clear hmk hl1
  rintro e w2 ⟨hb, rb, nb, rfl, hH2, -, hB2⟩
  have HO2 := Lib.hid (HO.start hH2 rfl hB1 hB2)
  clear hH2 hB2 hB1
  by_cases h60 : 60 < fl.length
  · have h60' : (60 : Int) < fl.length := by omega
    go_wp2_with fail
    refine (wakes17_any _).mono ?_
    rintro e w3 ⟨rfl, hB3⟩
    go_wp2_with fail
    go_ret
    exact ⟨rfl, HO2.out.below.trans (hB3.mono HO2.out.below.size)⟩
  · have h60' : (fl.length : Int) ≤ 60 := by omega
    have Hfl := Lib.hid h60
    clear h60
    go_wp2_with fail
    go_loopg [8, 9] n (fun g s8 s9 wr => SeesRel1 w hb n g s8 s9 wr)
    case atStart => exact ⟨0, _, rfl, Nat.zero_le _, rfl, rfl, HO2.out⟩
    case round =>
      obtain ⟨i, U, rfl, hi, rfl, rfl, hO⟩ := hrel
      have HO := Lib.hid hO
      by_cases hlt : i < n
      · have hc := ho_heard hO (by omega) (by omega)
        simp only [qV, Esch.p0, List.length_nil] at hc
        clear hO
        go_wp2_with fail
        refine hc.mono ?_
        clear hc
        rintro e w4 ⟨⟨ca, cc, rfl⟩, hO4, hM4⟩
        have HO4 := Lib.hid hO4
        clear hO4 hM4
        simp only [aV, anN, Esch.p0, List.length_nil]
        go_wp2_with fail
        go_roundg (n - (i + 1))
        case measure => omega
        case rel => exact ⟨i + 1, _, rfl, by omega, by first | go_num | (congr 1; omega), by go_num, HO4.out.below' (by (repeat (first | with_reducible exact (Below.refl _ _) | with_reducible refine Below.drew ?_ | with_reducible refine Esch.below_drewN ?_ _ | with_reducible refine Below.setCell ?_ (by first | omega | (simp; done) | (simp; omega)) _ | with_reducible refine Below.alloc ?_ (by first | omega | (simp; done) | (simp; omega)) _)))⟩
      · obtain rfl : i = n := by omega
        have hH := hO.toT
        clear hO hlt
        go_wp2_with fail
        refine (two_any _).mono ?_
        rintro e w4 ⟨b4, rfl, hl4, hB4⟩
        have hH4 := hH.below' hB4
        clear hH hB4
        go_wp2_with fail
        have hse : Calls Tryz.prog 19 #[.pointer (some ⟨hb, 0, none⟩), .agg #[.int .i64 0, .slice (some ⟨b4, 0, none⟩) 1 1], .slice fa fl.length fc] _ _ := see_any hH4 (by omega) (by omega) _ _ 1 hl4 fa fl fc (by have := Hfl.out; omega) Hf.out
        refine hse.mono ?_
        clear hse hH4 hl4
        rintro e w5 ⟨rfl, hH, -⟩
        have HH5 := Lib.hid hH
        clear hH
        go_wp2_with fail
        go_loopg [15] 100 (fun g s15 wr => SeesRel2 w hb i (i + 62) g s15 wr)
        case atStart => exact ⟨0, _, rfl, by omega, rfl, HH5.out⟩
        case round =>
          obtain ⟨j, U6, rfl, hj, rfl, hH6⟩ := hrel
          have HH6 := Lib.hid hH6
          by_cases hlt2 : j < 100
          · have hd := ht_do hH6 (by omega) 0
            clear hH6
            go_wp2_with fail
            refine hd.mono ?_
            clear hd
            rintro e w7 ⟨bb, rfl, hH7, -⟩
            have HH7 := Lib.hid hH7
            clear hH7
            go_wp2_with fail
            go_roundg (100 - (j + 1))
            case measure => omega
            case rel => exact ⟨j + 1, _, rfl, by omega, by go_num, HH7.out⟩
          · have hj100 : j = 100 := by omega
            have hH := hH6
            clear hlt2 hH6
            subst hj100
            go_wp2_with fail
            refine (two_any _).mono ?_
            rintro e w7 ⟨b7, rfl, hl7, hB7⟩
            have hH7 := hH.below' hB7
            clear hH hB7
            go_wp2_with fail
            have hse : Calls Tryz.prog 19 #[.pointer (some ⟨hb, 0, none⟩), .agg #[.int .i64 0, .slice (some ⟨b7, 0, none⟩) 1 1], .slice none 0 0] _ _ := see_any hH7 (by omega) (by omega) _ _ 1 hl7 none [] 0 (by decide) (fun h => absurd h (by simp))
            refine hse.mono ?_
            clear hse hH7 hl7
            rintro e w8 ⟨rfl, hH, -⟩
            have hBe := hH.below
            clear hH
            go_wp2_with fail
            refine (wakes17_any _).mono ?_
            rintro e w9 ⟨rfl, hB9⟩
            go_wp2_with fail
            go_ret
            exact ⟨rfl, hBe.trans (hB9.mono hBe.size)⟩

set_option maxRecDepth 100000 in
set_option maxHeartbeats 2000000 in
theorem tailSees_lifted (os : Os) (started : os.Started) (H : Type) (enc : TypeId × Value → H) :
    ReturnsInHanded {} Tryz.checked os 4 .any (Rows.tailSeesSpec.pre6 enc Tryz.prog Tryz.f4 Rows.tailSeesRow.domain false) (Rows.tailSeesSpec.post enc Tryz.prog Tryz.f4 false true false false) := by
  refine returnsInHanded_of_change (C := Tryz.checked) Tryz.ownP started (by kernel_rfl) Tryz.func4
    (ChangeSpec.witness6 (enc := enc) (C := Tryz.checked) false ⟨#[], #[.int .u8 0, .slice none 0 0], []⟩ 8 (by kernel_rfl) (by kernel_rfl) (by kernel_rfl) (by kernel_rfl)) ?_
  intro W base args ds gs before hval0 hW hcnd _
  have hval : ∀ (j : Nat) t v, Tryz.f4.params[j]? = some t → args[j]? = some v → Value.okWide Tryz.prog W .any base t v := hval0
  have hW' := hW
  obtain ⟨p, q, hA0, hV, rfl, hfz, hnd⟩ := hW
  have hA : DataW.TrodAll enc Tryz.prog W 0 (fun _ => true) true Tryz.f4.params.toList args.toList ds p := hA0
  rw [Tryz.params4] at hA hval
  obtain ⟨v0, vs0, d0, ds0, p0, q0, hargs, rfl, rfl, h0, r0⟩ := trodAll_cons hA
  obtain ⟨v1, vs1, d1, ds1, p1, q1, rfl, rfl, rfl, h1, r1⟩ := trodAll_cons r0
  obtain ⟨rfl, rfl, rfl⟩ := trodAll_nil r1
  obtain rfl : args = #[v0, v1] := by cases args; simp_all
  obtain ⟨rfl, rfl⟩ := trodVars_none hV
  obtain ⟨cs0, x0, hv0, hr0⟩ := open_arg (n := 9) (T := .int .u8) (by kernel_rfl) (hval 0 5 v0 rfl rfl) h0
  obtain ⟨cs1, x1, hv1, hr1⟩ := open_arg (n := 9) (T := .slice (.int .u8)) (by kernel_rfl) (hval 1 43 v1 rfl rfl) h1
  obtain ⟨kv, rfl, rfl, hk0, hk1⟩ := rd_int.1 hr0
  obtain ⟨a1, l1, k1, e1, hb1, -⟩ := rd_u8s hr1
  simp only [Ty.isStruct, Bool.false_eq_true, if_false] at hv0 hv1
  rw [e1] at hv1
  subst hv0
  subst hv1
  obtain ⟨n, rfl⟩ : ∃ n : Nat, kv = n := ⟨kv.toNat, by have : (0 : Int) ≤ kv := hk0; omega⟩
  clear hA0 hval0
  refine (tailSees_walk n (by have : (n : Int) ≤ 255 := hk1; omega) a1 l1 k1 W hb1).mono fun e W' ⟨he, hb⟩ => ?_
  subst he
  exact ⟨_, rfl, law_post Tryz.laidOutP (by kernel_rfl) rfl Tryz.underlying4 hW' rfl rfl rfl rfl hb⟩

theorem tailSees_holds : Rows.TailSeesSaid :=
  OpenClaim.holds_of_wide 4 Tryz.f4 rfl rfl rfl rfl rfl rfl rfl ⟨rfl, rfl, rfl, rfl, rfl⟩ rfl rfl rfl rfl rfl (by kernel_rfl) Tryz.func4 (by kernel_rfl)
    (of_decide_eq_true (by kernel_rfl)) (by unfold Func.isWrapper; first | (rw [if_pos (by decide +kernel)]; kernel_rfl) | (rw [if_neg (by decide +kernel)]; exact ⟨rfl, rfl⟩))
    (fun os started H enc _ => tailSees_lifted os started H enc)
end Go.Proofs.YthdgochecdobnaaGreat
