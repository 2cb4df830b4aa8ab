/-
  The law StateSames, with its row's tie to the program's text: two dumps are the same just if they are alike in all.
  Conditions: the table of the records' fields reads as the program's text lays it (the card ties it).
-/
import Derived.Test.YtpiogibkleaaaaaGreatDoorStateSames
import Derived.Test.YtpiogibkleaaaaaGreatDoorPkRd
import Derived.Test.YtpiogibkleaaaaaGreatDoorPkRow
import Derived.Test.YtpiogibkleaaaaaGreatDoorKSames
import Derived.Test.YtpiogibkleaaaaaGreatDoorTie
import Derived.Test.YtpiogibkleaaaaaGreatDoorCards
import Derived.SevenTiedAt
namespace Go.Proofs.YtpiogibkleaaaaaGreatDoor
open Go.ChangeShapes Go.WideShapes Go.ChangeAt Go.WideMaps Go.WideElems Go.RowKit Esch

/-- the dump of nothing -/
def dump0 : Value := .agg (Value.int .i64 0 :: Value.slice none 0 0 :: Value.int .i64 0 :: Value.slice none 0 0 :: Value.slice none 0 0 :: List.replicate 32 (Value.int .i64 0)).toArray
set_option maxRecDepth 100000 in
theorem stateSames_closed : joinedFacts Tryz.prog 3 Tryz.f3 Rows.stateSamesSpec Rows.stateSamesRow = true := by
  unfold joinedFacts
  exact and_tt (and_tt (and_tt (and_tt (and_tt (and_tt (and_tt (and_tt (and_tt (and_tt (and_tt (and_tt (and_tt (and_tt (and_tt (and_tt (and_tt (and_tt (and_tt (and_tt (and_tt (and_tt (and_tt (and_tt (and_tt (and_tt (and_tt (and_tt (and_tt (and_tt (and_tt stateSames_j0 stateSames_j1) stateSames_j2) stateSames_j3) stateSames_j4) stateSames_j5) stateSames_j6) stateSames_j7) stateSames_j8) stateSames_j9) stateSames_j10) stateSames_j11) stateSames_j12) stateSames_j13) stateSames_j14) stateSames_j15) stateSames_j16) stateSames_j17) stateSames_j18) stateSames_j19) stateSames_j20) stateSames_j21) stateSames_j22) stateSames_j23) stateSames_j24) stateSames_j25) stateSames_j26) stateSames_j27) stateSames_j28) stateSames_j29) stateSames_j30) stateSames_j31
theorem door_a (os : Os) (args : Array Value) : (DataW.laidRun Tryz.prog ((World.doorLaid Tryz.prog 400 os).forCall (fun _ _ => 0) ⟨#[], args, []⟩).memory 8 (((laid25 (H := Unit)).filter fun x => x.2.handleName?.isNone).map (·.1))).map (·.1) = some ((laid25 (H := Unit)).filter fun x => x.2.handleName?.isNone) := by kernel_rfl
theorem door_b (os : Os) (args : Array Value) : (DataW.laidRun Tryz.prog ((World.doorLaid Tryz.prog 400 os).forCall (fun _ _ => 0) ⟨#[], args, []⟩).memory 8 (((laid25 (H := Unit)).filter fun x => x.2.handleName?.isNone).map (·.1))).map (fun x => decide x.2.Nodup && laidRowsB Tryz.prog ((World.doorLaid Tryz.prog 400 os).forCall (fun _ _ => 0) ⟨#[], args, []⟩).memory x.2) = some true := by kernel_rfl
theorem door_met25 (os : Os) (args : Array Value) : laidMetH Tryz.prog laid25 ((World.doorLaid Tryz.prog 400 os).forCall (fun _ _ => 0) ⟨#[], args, []⟩).memory :=
  laidMetH_of_parts3 (fuel := 8) (laidMet_of_run' 8 (door_a os args) (door_b os args)) (by kernel_rfl) (by kernel_rfl)

set_option maxRecDepth 100000 in
set_option maxHeartbeats 2000000 in
theorem stateSames_lifted (os : Os) (started : os.Started) (H : Type) (enc : TypeId × Value → H) :
    ReturnsInHanded {} Tryz.checked os 3 .any (fun w args => (Rows.stateSamesSpec.pre enc Tryz.prog Tryz.f3 [] false w args ∧ laidMetH Tryz.prog laid25 w) ∧ sizedMet enc Tryz.prog Tryz.f3 (OpenSpec.ofChange Rows.stateSamesSpec) false w args)
      (Rows.stateSamesSpec.post enc Tryz.prog Tryz.f3 false true false false) := by
  refine returnsInHanded_of_change_and (C := Tryz.checked) (X := fun w _ => laidMetH Tryz.prog laid25 w) (fun _ _ _ hh h => h.of_heap hh) Tryz.ownP started (by kernel_rfl) Tryz.func3
    (ChangeSpec.witness_shaped (enc := enc) (C := Tryz.checked) (os := os) (X := fun w _ => laidMetH Tryz.prog laid25 w) false (World.doorLaid Tryz.prog 400 os) #[dump0, dump0] 8 rfl (World.shaped_of_RefB (by kernel_rfl) (by kernel_rfl)) (by kernel_rfl) (by kernel_rfl) (by kernel_rfl) (door_met25 os _)) ?_
  intro W base args ds gs before hval0 hW _ _ hL _
  have hval : ∀ (j : Nat) t v, Tryz.f3.params[j]? = some t → args[j]? = some v → Value.okWide Tryz.prog W .any base t v := hval0
  have hW' := hW
  obtain ⟨p, q, hA0, hV, rfl, hfz, hnd⟩ := hW
  have hA : DataW.TrodAll enc Tryz.prog W 0 (fun _ => true) true Tryz.f3.params.toList args.toList ds p := hA0
  rw [Tryz.params3] at hA hval
  obtain ⟨v0, vs0, d0, ds0, p0, q0, hargs, rfl, rfl, h0, r0⟩ := trodAll_cons hA
  obtain ⟨v1, vs1, d1, ds1, p1, q1, rfl, rfl, rfl, h1, r1⟩ := trodAll_cons r0
  obtain ⟨rfl, rfl, rfl⟩ := trodAll_nil r1
  obtain rfl : args = #[v0, v1] := by cases args; simp_all
  obtain ⟨rfl, rfl⟩ := trodVars_none hV
  obtain ⟨cs0, x0, hv0, hr0⟩ := open_arg (n := 9) (T := tyDump) (by kernel_rfl) (hval 0 31 v0 rfl rfl) h0
  obtain ⟨cs1, x1, hv1, hr1⟩ := open_arg (n := 9) (T := tyDump) (by kernel_rfl) (hval 1 31 v1 rfl rfl) h1
  have hv0 : v0 = .agg cs0.toArray := hv0
  have hv1 : v1 = .agg cs1.toArray := hv1
  obtain ⟨x, e0, hx⟩ := rd_dump hr0
  obtain ⟨y, e1, hy⟩ := rd_dump hr1
  rw [e0] at hv0
  rw [e1] at hv1
  subst hv0
  subst hv1
  clear hA0 hval0
  have hF := of_laid25 hL
  have hw : 0 < W.heap.size := Nat.lt_of_le_of_lt (Nat.zero_le _) (cell_lt (hF 0 (by decide)))
  refine (stateSames_walk W hF hw x y hx hy).mono fun e W' ⟨he, hb⟩ => ?_
  subst he
  exact ⟨_, rfl, law_post Tryz.laidOutP (by kernel_rfl) rfl Tryz.underlying4 hW' rfl rfl rfl rfl hb⟩

theorem stateSames_holds : Rows.StateSamesSaid :=
  OpenClaim.holds_of_wide 3 Tryz.f3 rfl rfl rfl rfl rfl rfl rfl ⟨rfl, rfl, rfl, rfl, rfl⟩ rfl rfl rfl rfl rfl (by kernel_rfl) Tryz.func3 stateSames_closed
    (of_decide_eq_true (by kernel_rfl)) (by unfold Func.isWrapper; first | (rw [if_pos (by decide +kernel)]; kernel_rfl) | (rw [if_neg (by decide +kernel)]; exact ⟨rfl, rfl⟩))
    (fun os started H enc _ => stateSames_lifted os started H enc)
theorem stateSames_card : Rows.StateSamesCardSaid :=
  Claim7.holds_tied_plain_at .later [] [.data] true (true, "72ff8ed873b85d99bb8ede3644749de92f89dc54997f5c3b62997ad343e4ab37") true
    stateSames_holds (fun _ h => by cases h) (by kernel_rfl) (fun _ h => by cases h) stateSames_row_tie rfl ⟨rfl, rfl⟩ (by kernel_rfl) rfl
    (fun f fn hf hfn => by
      obtain rfl : f = 3 := Option.some.inj ((show Tryz.prog.funcNamed "escheat/escheatlaw25.StateSames" = some 3 by kernel_rfl).symm.trans hf) |>.symm
      obtain rfl : fn = Tryz.f3 := (Option.some.inj (Tryz.func3.symm.trans hfn)).symm
      exact ⟨by kernel_rfl, fun j t ht => by
        rw [Tryz.params3] at ht
        have hm : t ∈ [31, 31] := by simpa using Array.mem_of_getElem? ht
        have hall : ([31, 31].all fun u => !Tryz.prog.wantsStandIn u) = true := by kernel_rfl
        exact (show Tryz.prog.wantsStandIn t = false by simpa using List.all_eq_true.1 hall t hm)⟩)
    (by kernel_rfl)
end Go.Proofs.YtpiogibkleaaaaaGreatDoor
