/-
  The law ImageNone, with its row's tie to the program's text: what nobody made puts nothing together, whatever record it is given.
  Conditions: the table of the records' fields reads as the program's text lays it (the card ties it).
-/
import Derived.Test.YtdbhbdlljgaleaaGreatDoorPkWk
import Derived.Test.YtdbhbdlljgaleaaGreatDoorRdRow
import Derived.Test.YtdbhbdlljgaleaaGreatDoorPkRow
import Derived.Test.YtdbhbdlljgaleaaGreatDoorKImNone
import Derived.Test.YtdbhbdlljgaleaaGreatDoorTie
import Derived.Test.YtdbhbdlljgaleaaGreatDoorCards
import Derived.SevenTiedAt
namespace Go.Proofs.YtdbhbdlljgaleaaGreatDoor
open Go.ChangeShapes Go.WideShapes Go.ChangeAt Go.WideMaps Go.WideElems Go.RowKit Esch

set_option maxRecDepth 100000 in
theorem imageNone_closed : joinedFacts Tryz.prog 3 Tryz.f3 Rows.imageNoneSpec Rows.imageNoneRow = true := by
  unfold joinedFacts
  exact and_tt (and_tt (and_tt (and_tt (and_tt (and_tt (and_tt (and_tt (and_tt (and_tt (and_tt (and_tt (and_tt (and_tt (and_tt (and_tt (and_tt (and_tt (and_tt (and_tt (and_tt (and_tt (and_tt (and_tt (and_tt (and_tt (and_tt (and_tt (and_tt (and_tt (and_tt imageNone_j0 imageNone_j1) imageNone_j2) imageNone_j3) imageNone_j4) imageNone_j5) imageNone_j6) imageNone_j7) imageNone_j8) imageNone_j9) imageNone_j10) imageNone_j11) imageNone_j12) imageNone_j13) imageNone_j14) imageNone_j15) imageNone_j16) imageNone_j17) imageNone_j18) imageNone_j19) imageNone_j20) imageNone_j21) imageNone_j22) imageNone_j23) imageNone_j24) imageNone_j25) imageNone_j26) imageNone_j27) imageNone_j28) imageNone_j29) imageNone_j30) imageNone_j31
theorem door_a (os : Os) (args : Array Value) : (DataW.laidRun Tryz.prog ((World.doorLaid Tryz.prog 400 os).forCall (fun _ _ => 0) ⟨#[], args, []⟩).memory 8 (((laid25 (H := Unit)).filter fun x => x.2.handleName?.isNone).map (·.1))).map (·.1) = some ((laid25 (H := Unit)).filter fun x => x.2.handleName?.isNone) := by kernel_rfl
theorem door_b (os : Os) (args : Array Value) : (DataW.laidRun Tryz.prog ((World.doorLaid Tryz.prog 400 os).forCall (fun _ _ => 0) ⟨#[], args, []⟩).memory 8 (((laid25 (H := Unit)).filter fun x => x.2.handleName?.isNone).map (·.1))).map (fun x => decide x.2.Nodup && laidRowsB Tryz.prog ((World.doorLaid Tryz.prog 400 os).forCall (fun _ _ => 0) ⟨#[], args, []⟩).memory x.2) = some true := by kernel_rfl
theorem door_met25 (os : Os) (args : Array Value) : laidMetH Tryz.prog laid25 ((World.doorLaid Tryz.prog 400 os).forCall (fun _ _ => 0) ⟨#[], args, []⟩).memory :=
  laidMetH_of_parts3 (fuel := 8) (laidMet_of_run' 8 (door_a os args) (door_b os args)) (by kernel_rfl) (by kernel_rfl)

set_option maxRecDepth 100000 in
set_option maxHeartbeats 2000000 in
theorem imageNone_lifted (os : Os) (started : os.Started) (H : Type) (enc : TypeId × Value → H) :
    ReturnsInHanded {} Tryz.checked os 3 .any (fun w args => (Rows.imageNoneSpec.pre enc Tryz.prog Tryz.f3 [] false w args ∧ laidMetH Tryz.prog laid25 w) ∧ sizedMet enc Tryz.prog Tryz.f3 (OpenSpec.ofChange Rows.imageNoneSpec) false w args)
      (Rows.imageNoneSpec.post enc Tryz.prog Tryz.f3 false true false false) := by
  refine returnsInHanded_of_change_and (C := Tryz.checked) (X := fun w _ => laidMetH Tryz.prog laid25 w) (fun _ _ _ hh h => h.of_heap hh) Tryz.ownP started (by kernel_rfl) Tryz.func3
    (ChangeSpec.witness_shaped (enc := enc) (C := Tryz.checked) (os := os) (X := fun w _ => laidMetH Tryz.prog laid25 w) false (World.doorLaid Tryz.prog 400 os) #[.agg #[.int .i64 0, .int .i64 0, .int .i64 0, .string ⟨#[]⟩, .string ⟨#[]⟩, .int .i64 0, .int .i64 0, .int .i64 0, .string ⟨#[]⟩, .int .i64 0, .int .i64 0, .slice none 0 0]] 8 rfl (World.shaped_of_RefB (by kernel_rfl) (by kernel_rfl)) (by kernel_rfl) (by kernel_rfl) (by kernel_rfl) (door_met25 os _)) ?_
  intro W base args ds gs before hval0 hW _ _ hL _
  have hval : ∀ (j : Nat) t v, Tryz.f3.params[j]? = some t → args[j]? = some v → Value.okWide Tryz.prog W .any base t v := hval0
  have hW' := hW
  obtain ⟨p, q, hA0, hV, rfl, hfz, hnd⟩ := hW
  have hA : DataW.TrodAll enc Tryz.prog W 0 (fun _ => true) true Tryz.f3.params.toList args.toList ds p := hA0
  rw [Tryz.params3] at hA hval
  obtain ⟨v0, vs0, d0, ds0, p0, q0, hargs, rfl, rfl, h0, r0⟩ := trodAll_cons hA
  obtain ⟨rfl, rfl, rfl⟩ := trodAll_nil r0
  obtain rfl : args = #[v0] := by cases args; simp_all
  obtain ⟨rfl, rfl⟩ := trodVars_none hV
  obtain ⟨cs0, x0, hv0, hr0⟩ := open_arg (n := 9) (T := tyOp) (by kernel_rfl) (hval 0 24 v0 rfl rfl) h0
  have hv0 : v0 = .agg cs0.toArray := hv0
  obtain ⟨x, mv, e0, hin⟩ := rd_op hr0
  rw [e0] at hv0
  subst hv0
  clear hA0 hval0
  refine (imNone_any W x).mono fun e W' ⟨he, hb⟩ => ?_
  subst he
  exact ⟨_, rfl, law_post Tryz.laidOutP (by kernel_rfl) rfl Tryz.underlying4 hW' rfl rfl rfl rfl hb⟩

theorem imageNone_holds : Rows.ImageNoneSaid :=
  OpenClaim.holds_of_wide 3 Tryz.f3 rfl rfl rfl rfl rfl rfl rfl ⟨rfl, rfl, rfl, rfl, rfl⟩ rfl rfl rfl rfl rfl (by kernel_rfl) Tryz.func3 imageNone_closed
    (of_decide_eq_true (by kernel_rfl)) (by unfold Func.isWrapper; first | (rw [if_pos (by decide +kernel)]; kernel_rfl) | (rw [if_neg (by decide +kernel)]; exact ⟨rfl, rfl⟩))
    (fun os started H enc _ => imageNone_lifted os started H enc)
theorem imageNone_card : Rows.ImageNoneCardSaid :=
  Claim7.holds_tied_plain_at .later [] [.data] true (true, "455d5b011592c6ccd2e9d2d6001c47629e3bfea3b649e7bfd519049d40bb4e1b") true
    imageNone_holds (fun _ h => by cases h) (by kernel_rfl) (fun _ h => by cases h) imageNone_row_tie rfl ⟨rfl, rfl⟩ (by kernel_rfl) rfl
    (fun f fn hf hfn => by
      obtain rfl : f = 3 := Option.some.inj ((show Tryz.prog.funcNamed "escheat/escheatlaw26.ImageNone" = some 3 by kernel_rfl).symm.trans hf) |>.symm
      obtain rfl : fn = Tryz.f3 := (Option.some.inj (Tryz.func3.symm.trans hfn)).symm
      exact ⟨by kernel_rfl, fun j t ht => by
        rw [Tryz.params3] at ht
        have hm : t ∈ [24] := by simpa using Array.mem_of_getElem? ht
        have hall : ([24].all fun u => !Tryz.prog.wantsStandIn u) = true := by kernel_rfl
        exact (show Tryz.prog.wantsStandIn t = false by simpa using List.all_eq_true.1 hall t hm)⟩)
    (by kernel_rfl)
end Go.Proofs.YtdbhbdlljgaleaaGreatDoor
