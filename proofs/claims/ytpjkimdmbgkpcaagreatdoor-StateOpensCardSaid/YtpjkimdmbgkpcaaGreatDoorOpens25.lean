/-
  The law StateOpens, with its row's tie to the program's text: a file that is open lives on when its name goes; it takes writes; the last close ends it.
  Conditions: the table of the records' fields reads as the program's text lays it (the card ties it).
-/
import Derived.Test.YtpjkimdmbgkpcaaGreatDoorStateOpens
import Derived.Test.YtpjkimdmbgkpcaaGreatDoorPkRow
import Derived.Test.YtpjkimdmbgkpcaaGreatDoorKOpens
import Derived.Test.YtpjkimdmbgkpcaaGreatDoorTie
import Derived.Test.YtpjkimdmbgkpcaaGreatDoorCards
import Derived.SevenTiedAt
namespace Go.Proofs.YtpjkimdmbgkpcaaGreatDoor
open Go.ChangeShapes Go.WideShapes Go.ChangeAt Go.WideMaps Go.WideElems Go.RowKit Esch

set_option maxRecDepth 100000 in
theorem stateOpens_closed : joinedFacts Tryz.prog 4 Tryz.f4 Rows.stateOpensSpec Rows.stateOpensRow = true := by
  unfold joinedFacts
  exact and_tt (and_tt (and_tt (and_tt (and_tt (and_tt (and_tt (and_tt (and_tt (and_tt (and_tt (and_tt (and_tt (and_tt (and_tt (and_tt (and_tt (and_tt (and_tt (and_tt (and_tt (and_tt (and_tt (and_tt (and_tt (and_tt (and_tt (and_tt (and_tt (and_tt (and_tt stateOpens_j0 stateOpens_j1) stateOpens_j2) stateOpens_j3) stateOpens_j4) stateOpens_j5) stateOpens_j6) stateOpens_j7) stateOpens_j8) stateOpens_j9) stateOpens_j10) stateOpens_j11) stateOpens_j12) stateOpens_j13) stateOpens_j14) stateOpens_j15) stateOpens_j16) stateOpens_j17) stateOpens_j18) stateOpens_j19) stateOpens_j20) stateOpens_j21) stateOpens_j22) stateOpens_j23) stateOpens_j24) stateOpens_j25) stateOpens_j26) stateOpens_j27) stateOpens_j28) stateOpens_j29) stateOpens_j30) stateOpens_j31
theorem door_a (os : Os) (args : Array Value) : (DataW.laidRun Tryz.prog ((World.doorLaid Tryz.prog 400 os).forCall (fun _ _ => 0) ⟨#[], args, []⟩).memory 8 (((laid25 (H := Unit)).filter fun x => x.2.handleName?.isNone).map (·.1))).map (·.1) = some ((laid25 (H := Unit)).filter fun x => x.2.handleName?.isNone) := by kernel_rfl
theorem door_b (os : Os) (args : Array Value) : (DataW.laidRun Tryz.prog ((World.doorLaid Tryz.prog 400 os).forCall (fun _ _ => 0) ⟨#[], args, []⟩).memory 8 (((laid25 (H := Unit)).filter fun x => x.2.handleName?.isNone).map (·.1))).map (fun x => decide x.2.Nodup && laidRowsB Tryz.prog ((World.doorLaid Tryz.prog 400 os).forCall (fun _ _ => 0) ⟨#[], args, []⟩).memory x.2) = some true := by kernel_rfl
theorem door_met25 (os : Os) (args : Array Value) : laidMetH Tryz.prog laid25 ((World.doorLaid Tryz.prog 400 os).forCall (fun _ _ => 0) ⟨#[], args, []⟩).memory :=
  laidMetH_of_parts3 (fuel := 8) (laidMet_of_run' 8 (door_a os args) (door_b os args)) (by kernel_rfl) (by kernel_rfl)

set_option maxRecDepth 100000 in
set_option maxHeartbeats 2000000 in
theorem stateOpens_lifted (os : Os) (started : os.Started) (H : Type) (enc : TypeId × Value → H) :
    ReturnsInHanded {} Tryz.checked os 4 .any (fun w args => (Rows.stateOpensSpec.pre enc Tryz.prog Tryz.f4 [] false w args ∧ laidMetH Tryz.prog laid25 w) ∧ sizedMet enc Tryz.prog Tryz.f4 (OpenSpec.ofChange Rows.stateOpensSpec) false w args)
      (Rows.stateOpensSpec.post enc Tryz.prog Tryz.f4 false true false false) := by
  refine returnsInHanded_of_change_and (C := Tryz.checked) (X := fun w _ => laidMetH Tryz.prog laid25 w) (fun _ _ _ hh h => h.of_heap hh) Tryz.ownP started (by kernel_rfl) Tryz.func4
    (ChangeSpec.witness_shaped (enc := enc) (C := Tryz.checked) (os := os) (X := fun w _ => laidMetH Tryz.prog laid25 w) false (World.doorLaid Tryz.prog 400 os) #[.int .u8 0, .int .u16 0, .string ⟨#[]⟩] 8 rfl (World.shaped_of_RefB (by kernel_rfl) (by kernel_rfl)) (by kernel_rfl) (by kernel_rfl) (by kernel_rfl) (door_met25 os _)) ?_
  intro W base args ds gs before hval0 hW _ _ hL _
  have hval : ∀ (j : Nat) t v, Tryz.f4.params[j]? = some t → args[j]? = some v → Value.okWide Tryz.prog W .any base t v := hval0
  have hW' := hW
  obtain ⟨p, q, hA0, hV, rfl, hfz, hnd⟩ := hW
  have hA : DataW.TrodAll enc Tryz.prog W 0 (fun _ => true) true Tryz.f4.params.toList args.toList ds p := hA0
  rw [Tryz.params4] at hA hval
  obtain ⟨v0, vs0, d0, ds0, p0, q0, hargs, rfl, rfl, h0, r0⟩ := trodAll_cons hA
  obtain ⟨v1, vs1, d1, ds1, p1, q1, rfl, rfl, rfl, h1, r1⟩ := trodAll_cons r0
  obtain ⟨v2, vs2, d2, ds2, p2, q2, rfl, rfl, rfl, h2, r2⟩ := trodAll_cons r1
  obtain ⟨rfl, rfl, rfl⟩ := trodAll_nil r2
  obtain rfl : args = #[v0, v1, v2] := by cases args; simp_all
  obtain ⟨rfl, rfl⟩ := trodVars_none hV
  obtain ⟨cs0, x0, hv0, hr0⟩ := open_arg (n := 9) (T := .int .u8) (by kernel_rfl) (hval 0 5 v0 rfl rfl) h0
  obtain ⟨cs1, x1, hv1, hr1⟩ := open_arg (n := 9) (T := .int .u16) (by kernel_rfl) (hval 1 39 v1 rfl rfl) h1
  obtain ⟨cs2, x2, hv2, hr2⟩ := open_arg (n := 9) (T := .str) (by kernel_rfl) (hval 2 9 v2 rfl rfl) h2
  simp only [Ty.isStruct, Bool.false_eq_true, if_false] at hv0 hv1 hv2
  obtain ⟨be, e0, -, hb0, hb1⟩ := rd_int.1 hr0
  obtain ⟨oe, e1, -, ho0, ho1⟩ := rd_int.1 hr1
  obtain ⟨dd, e2, -, -⟩ := rd_str.1 hr2
  rw [e0] at hv0
  rw [e1] at hv1
  rw [e2] at hv2
  subst hv0
  subst hv1
  subst hv2
  clear hA0 hval0
  have hb0 : 0 ≤ be := hb0
  have hb1 : be ≤ 255 := hb1
  have ho0 : 0 ≤ oe := ho0
  have ho1 : oe ≤ 65535 := ho1
  obtain ⟨j, rfl⟩ : ∃ n : Nat, be = n := ⟨be.toNat, by omega⟩
  obtain ⟨o, rfl⟩ : ∃ n : Nat, oe = n := ⟨oe.toNat, by omega⟩
  have hF := of_laid25 hL
  have hw : 0 < W.heap.size := Nat.lt_of_le_of_lt (Nat.zero_le _) (cell_lt (hF 0 (by decide)))
  refine (stateOpens_walk W hF hw j o (by omega) (by omega) dd).mono fun e W' ⟨he, hb⟩ => ?_
  subst he
  exact ⟨_, rfl, law_post Tryz.laidOutP (by kernel_rfl) rfl Tryz.underlying4 hW' rfl rfl rfl rfl hb⟩

theorem stateOpens_holds : Rows.StateOpensSaid :=
  OpenClaim.holds_of_wide 4 Tryz.f4 rfl rfl rfl rfl rfl rfl rfl ⟨rfl, rfl, rfl, rfl, rfl⟩ rfl rfl rfl rfl rfl (by kernel_rfl) Tryz.func4 stateOpens_closed
    (of_decide_eq_true (by kernel_rfl)) (by unfold Func.isWrapper; first | (rw [if_pos (by decide +kernel)]; kernel_rfl) | (rw [if_neg (by decide +kernel)]; exact ⟨rfl, rfl⟩))
    (fun os started H enc _ => stateOpens_lifted os started H enc)
theorem stateOpens_card : Rows.StateOpensCardSaid :=
  Claim7.holds_tied_plain_at .later [] [.data] true (true, "2a74713b51849bb1510c08fcd908d64d16844c1c6d3ca96a3db72006de3f63e5") true
    stateOpens_holds (fun _ h => by cases h) (by kernel_rfl) (fun _ h => by cases h) stateOpens_row_tie rfl ⟨rfl, rfl⟩ (by kernel_rfl) rfl
    (fun f fn hf hfn => by
      obtain rfl : f = 4 := Option.some.inj ((show Tryz.prog.funcNamed "escheat/escheatlaw25.StateOpens" = some 4 by kernel_rfl).symm.trans hf) |>.symm
      obtain rfl : fn = Tryz.f4 := (Option.some.inj (Tryz.func4.symm.trans hfn)).symm
      exact ⟨by kernel_rfl, fun j t ht => by
        rw [Tryz.params4] at ht
        have hm : t ∈ [5, 39, 9] := by simpa using Array.mem_of_getElem? ht
        have hall : ([5, 39, 9].all fun u => !Tryz.prog.wantsStandIn u) = true := by kernel_rfl
        exact (show Tryz.prog.wantsStandIn t = false by simpa using List.all_eq_true.1 hall t hm)⟩)
    (by kernel_rfl)
end Go.Proofs.YtpjkimdmbgkpcaaGreatDoor
