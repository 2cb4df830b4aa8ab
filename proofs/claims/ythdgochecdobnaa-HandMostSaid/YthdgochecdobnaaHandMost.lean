/-
  The law HandMost: just so many questions are held; one more is lost.
  Conditions: none.
-/
import Derived.Test.YthdgochecdobnaaPkHand
import Derived.Test.YthdgochecdobnaaHoLen
import Derived.Test.YthdgochecdobnaaRow
import Derived.Test.YthdgochecdobnaaReadApi
namespace Go.Proofs.Ythdgochecdobnaa
open Go.RowKit Esch Go.ChangeShapes Go.WideShapes Go.ChangeAt

theorem min_bne (i : Nat) : (((min i 64 : Nat) : Int) != min (i : Int) 64) = false := by
  have : ((min i 64 : Nat) : Int) = min (i : Int) 64 := by omega
  simp [this]
def MostRel1 (w0 : World) (hb m g : Nat) (s7 : Value) (wr : World) : Prop := ∃ (i : Nat) (U : Nat → Prop), g = m - i ∧ i ≤ m ∧ s7 = .int .i64 i ∧ HO w0 i 0 (min i 64) hb U wr
def MostRel2 (w0 : World) (hb m K g : Nat) (s8 : Value) (wr : World) : Prop := ∃ (i : Nat) (U : Nat → Prop), g = K - i ∧ i ≤ K ∧ s8 = .int .i64 i ∧ HO w0 (m + i) i (K - i) hb U wr
set_option maxRecDepth 100000 in
set_option maxHeartbeats 2000000 in
theorem handMost_walk (kv : Int) (hk0 : 0 ≤ kv) (hk1 : kv ≤ 255) (w : World) :
    Calls Try.prog 4 #[.int .u8 kv] w fun r w' => r = .returned (.bool true) ∧ Below w.heap.size w w' := by
  obtain ⟨m, hm, hlt⟩ : ∃ m : Nat, kv % 80 = m ∧ m < 80 := ⟨(kv % 80).toNat, by omega, by omega⟩
  have Hm := Lib.hid hm
  clear hm
  go_enter Try.func4, Try.ntmps4
  go_wp2_with fail
  have hmk : Calls Try.prog 6 #[.agg #[.int .i64 0, .slice (some ⟨w.heap.size + 1, 0, none⟩) 1 1], .int .i64 9] _ _ := made_any _ _ qOne _ 1 9 (by decide) (lit14a w 0) (by decide) (by decide)
  refine hmk.mono ?_
  clear hmk
  rintro e w1 ⟨hb, rb, nb, rfl, hH1, -, hB1⟩
  have hO1 := HO.start hH1 rfl (show Below w.heap.size w _ from by (repeat (first | with_reducible exact (Below.refl _ _) | with_reducible refine Below.drew ?_ | with_reducible refine Esch.below_drewN ?_ _ | with_reducible refine Below.setCell ?_ (by first | omega | (simp; done) | (simp; omega)) _ | with_reducible refine Below.alloc ?_ (by first | omega | (simp; done) | (simp; omega)) _))) hB1
  have HO1 := Lib.hid hO1
  clear hH1 hB1 hO1
  go_wp2_with fail
  rw [Hm.out]
  go_loopg [7] m (fun g s7 wr => MostRel1 w hb m g s7 wr)
  case atStart => exact ⟨0, _, rfl, Nat.zero_le _, rfl, HO1.out⟩
  case round =>
    obtain ⟨i, U, rfl, hi, rfl, hO⟩ := hrel
    have HO := Lib.hid hO
    by_cases him : i < m
    · have hc : Calls Try.prog 7 #[.pointer (some ⟨hb, 0, none⟩), qV q6 none 0, .int .i64 3] wr (HOPost w (i + 1) 0 (min (i + 1) 64) hb U wr an0 false) := by
        by_cases h64 : i < 64
        · have := ho_held hO (by omega)
          rwa [show min i 64 + 1 = min (i + 1) 64 by omega] at this
        · have := ho_no hO 3 ⟨by decide, by decide, fun _ => by omega⟩
          rwa [show min i 64 = min (i + 1) 64 by omega] at this
      simp only [qV, p0, List.length_nil] at hc
      clear hO
      go_wp2_with fail
      refine hc.mono ?_
      clear hc
      rintro e w4 ⟨⟨ca, cc, rfl⟩, hO4, hM4⟩
      have HO4 := Lib.hid hO4
      clear hO4 hM4
      go_wp2_with fail
      go_roundg (m - (i + 1))
      case measure => omega
      case rel => exact ⟨i + 1, _, rfl, by omega, by go_num, HO4.out⟩
    · obtain rfl : i = m := by omega
      have hc := ho_len hO
      clear hO him
      go_wp2_with fail
      refine hc.mono ?_
      clear hc
      rintro e w4 ⟨a4, c4, rfl, hB4⟩
      have HO4 := Lib.hid (HO.out.below' hB4)
      clear hB4
      go_wp2_with fail
      rw [min_bne i]
      go_loopg [8] (min i 64) (fun g s8 wr => MostRel2 w hb i (min i 64) g s8 wr)
      case atStart => exact ⟨0, _, rfl, Nat.zero_le _, rfl, HO4.out⟩
      case round =>
        obtain ⟨j, U2, rfl, hj, rfl, hO2⟩ := hrel
        have HO2 := Lib.hid hO2
        have j0 : (j : Int) < 100 := by omega
        by_cases hjK : j < min i 64
        · have hd : Calls Try.prog 8 #[.pointer (some ⟨hb, 0, none⟩), .int .i64 0] _ _ := ho_do hO2 (by omega) (by omega) 0 (by omega)
          clear hO2
          go_wp2_with fail
          refine hd.mono ?_
          clear hd
          rintro e w5 ⟨rfl, hO5, hM5⟩
          have HO5 := Lib.hid hO5
          clear hO5 hM5
          go_wp2_with fail
          go_roundg (min i 64 - (j + 1))
          case measure => omega
          case rel => exact ⟨j + 1, _, rfl, by omega, by go_num, by have := HO5.out; rwa [show min i 64 - j - 1 = min i 64 - (j + 1) by omega] at this⟩
        · obtain rfl : j = min i 64 := by omega
          have hd : Calls Try.prog 8 #[.pointer (some ⟨hb, 0, none⟩), .int .i64 0] _ _ := ho_doNo hO2 0 (by omega)
          clear hO2 hjK
          go_wp2_with fail
          refine hd.mono ?_
          clear hd
          rintro e w5 ⟨rfl, hO5, hM5⟩
          have hc := ho_tail hO5 (by omega)
          simp only [qV, p0, List.length_nil] at hc
          clear hO5 hM5
          go_wp2_with fail
          refine hc.mono ?_
          clear hc
          rintro e w6 ⟨⟨ca, cc, rfl⟩, hO6, hM6⟩
          have hBe := hO6.below
          have hze := hBe.size
          clear hO6 hM6
          simp only [aV, anN, p0, List.length_nil]
          go_wp2_with fail
          refine (wakes14_any _).mono ?_
          rintro e w7 ⟨rfl, hB7⟩
          have HB7 := Lib.hid ((hBe.alloc hze _).trans (hB7.mono (by simp only [World.size_alloc]; omega)))
          clear hB7
          go_wp2_with fail
          go_ret
          exact ⟨rfl, HB7.out⟩

set_option maxRecDepth 100000 in
set_option maxHeartbeats 2000000 in
theorem handMost_lifted (os : Os) (started : os.Started) (H : Type) (enc : TypeId × Value → H) :
    ReturnsInHanded {} Try.checked os 4 .any (Rows.handMostSpec.pre6 enc Try.prog Try.f4 Rows.handMostRow.domain false) (Rows.handMostSpec.post enc Try.prog Try.f4 false true false false) := by
  refine returnsInHanded_of_change (C := Try.checked) Try.ownP started (by kernel_rfl) Try.func4
    (ChangeSpec.witness6 (enc := enc) (C := Try.checked) false ⟨#[], #[.int .u8 0], []⟩ 8 (by kernel_rfl) (by kernel_rfl) (by kernel_rfl) (by kernel_rfl)) ?_
  intro W base args ds gs before hval0 hW hcnd _
  have hval : ∀ (j : Nat) t v, Try.f4.params[j]? = some t → args[j]? = some v → Value.okWide Try.prog W .any base t v := hval0
  have hW' := hW
  obtain ⟨p, q, hA0, hV, rfl, hfz, hnd⟩ := hW
  have hA : DataW.TrodAll enc Try.prog W 0 (fun _ => true) true Try.f4.params.toList args.toList ds p := hA0
  rw [Try.params4] at hA hval
  obtain ⟨v0, vs0, d0, ds0, p0, q0, hargs, rfl, rfl, h0, r0⟩ := trodAll_cons hA
  obtain ⟨rfl, rfl, rfl⟩ := trodAll_nil r0
  obtain rfl : args = #[v0] := by cases args; simp_all
  obtain ⟨rfl, rfl⟩ := trodVars_none hV
  obtain ⟨cs0, x0, hv0, hr0⟩ := open_arg (n := 9) (T := .int .u8) (by kernel_rfl) (hval 0 5 v0 rfl rfl) h0
  obtain ⟨kv, rfl, rfl, hk0, hk1⟩ := rd_int.1 hr0
  simp only [Ty.isStruct, Bool.false_eq_true, if_false] at hv0
  subst hv0
  clear hA0 hval0
  refine (handMost_walk kv hk0 hk1 W).mono fun e W' ⟨he, hb⟩ => ?_
  subst he
  exact ⟨_, rfl, law_post Try.laidOutP (by kernel_rfl) rfl Try.underlying4 hW' rfl rfl rfl rfl hb⟩

theorem handMost_holds : Rows.HandMostSaid :=
  OpenClaim.holds_of_wide 4 Try.f4 rfl rfl rfl rfl rfl rfl rfl ⟨rfl, rfl, rfl, rfl, rfl⟩ rfl rfl rfl rfl rfl (by kernel_rfl) Try.func4 (by kernel_rfl)
    (of_decide_eq_true (by kernel_rfl)) (by unfold Func.isWrapper; first | (rw [if_pos (by decide +kernel)]; kernel_rfl) | (rw [if_neg (by decide +kernel)]; exact ⟨rfl, rfl⟩))
    (fun os started H enc _ => handMost_lifted os started H enc)
end Go.Proofs.Ythdgochecdobnaa
