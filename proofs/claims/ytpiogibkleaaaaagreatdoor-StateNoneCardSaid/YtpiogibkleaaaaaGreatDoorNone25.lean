/-
  The law StateNone, with its row's tie to the program's text: whatever record and address a state that nobody made is given, it applies nothing, tells nothing, and loads nothing.
  Conditions: the table of the records' fields reads as the program's text lays it (the card ties it).
-/
import Derived.Test.YtpiogibkleaaaaaGreatDoorStateNone
import Derived.Test.YtpiogibkleaaaaaGreatDoorRdRow
import Derived.Test.YtpiogibkleaaaaaGreatDoorPkRow
import Derived.Test.YtpiogibkleaaaaaGreatDoorKNone
import Derived.Test.YtpiogibkleaaaaaGreatDoorTie
import Derived.Test.YtpiogibkleaaaaaGreatDoorCards
import Derived.SevenTiedAt
namespace Go.Proofs.YtpiogibkleaaaaaGreatDoor
open Go.ChangeShapes Go.WideShapes Go.ChangeAt Go.WideMaps Go.WideElems Go.RowKit Esch

def tyRec : Ty := .struct [tyOp, .str, .bool, .bool]
theorem rd_rec {w : World} {cs : List Value} {d : D} (h : Rd w tyRec cs d) : ∃ (x : OpS) (t : ByteArray) (raw junk : Bool) (mv : List Mv), cs = recCells x t raw junk ∧ OpIn w x mv := by
  obtain ⟨ds, rfl, g0⟩ := rd_struct.1 h
  clear h
  obtain ⟨c0, r0, d0, s0, rfl, rfl, -, h0, g1⟩ := rds_cons.1 g0
  clear g0
  obtain ⟨c1, r1, d1, s1, rfl, rfl, -, h1, g2⟩ := rds_cons.1 g1
  clear g1
  obtain ⟨c2, r2, d2, s2, rfl, rfl, -, h2, g3⟩ := rds_cons.1 g2
  clear g2
  obtain ⟨c3, r3, d3, s3, rfl, rfl, -, h3, g4⟩ := rds_cons.1 g3
  clear g3
  obtain ⟨rfl, rfl⟩ := rds_nil.1 g4
  clear g4
  obtain ⟨x, mv, rfl, hin⟩ := rd_op h0
  obtain ⟨t, rfl, -, -⟩ := rd_str.1 h1
  obtain ⟨raw, rfl, -⟩ := rd_bool.1 h2
  obtain ⟨junk, rfl, -⟩ := rd_bool.1 h3
  exact ⟨x, t, raw, junk, mv, rfl, hin⟩
set_option maxRecDepth 100000 in
theorem stateNone_closed : joinedFacts Tryz.prog 4 Tryz.f4 Rows.stateNoneSpec Rows.stateNoneRow = true := by
  unfold joinedFacts
  exact and_tt (and_tt (and_tt (and_tt (and_tt (and_tt (and_tt (and_tt (and_tt (and_tt (and_tt (and_tt (and_tt (and_tt (and_tt (and_tt (and_tt (and_tt (and_tt (and_tt (and_tt (and_tt (and_tt (and_tt (and_tt (and_tt (and_tt (and_tt (and_tt (and_tt (and_tt stateNone_j0 stateNone_j1) stateNone_j2) stateNone_j3) stateNone_j4) stateNone_j5) stateNone_j6) stateNone_j7) stateNone_j8) stateNone_j9) stateNone_j10) stateNone_j11) stateNone_j12) stateNone_j13) stateNone_j14) stateNone_j15) stateNone_j16) stateNone_j17) stateNone_j18) stateNone_j19) stateNone_j20) stateNone_j21) stateNone_j22) stateNone_j23) stateNone_j24) stateNone_j25) stateNone_j26) stateNone_j27) stateNone_j28) stateNone_j29) stateNone_j30) stateNone_j31
theorem door_a (os : Os) (args : Array Value) : (DataW.laidRun Tryz.prog ((World.doorLaid Tryz.prog 400 os).forCall (fun _ _ => 0) ⟨#[], args, []⟩).memory 8 (((laid25 (H := Unit)).filter fun x => x.2.handleName?.isNone).map (·.1))).map (·.1) = some ((laid25 (H := Unit)).filter fun x => x.2.handleName?.isNone) := by kernel_rfl
theorem door_b (os : Os) (args : Array Value) : (DataW.laidRun Tryz.prog ((World.doorLaid Tryz.prog 400 os).forCall (fun _ _ => 0) ⟨#[], args, []⟩).memory 8 (((laid25 (H := Unit)).filter fun x => x.2.handleName?.isNone).map (·.1))).map (fun x => decide x.2.Nodup && laidRowsB Tryz.prog ((World.doorLaid Tryz.prog 400 os).forCall (fun _ _ => 0) ⟨#[], args, []⟩).memory x.2) = some true := by kernel_rfl
theorem door_met25 (os : Os) (args : Array Value) : laidMetH Tryz.prog laid25 ((World.doorLaid Tryz.prog 400 os).forCall (fun _ _ => 0) ⟨#[], args, []⟩).memory :=
  laidMetH_of_parts3 (fuel := 8) (laidMet_of_run' 8 (door_a os args) (door_b os args)) (by kernel_rfl) (by kernel_rfl)

set_option maxRecDepth 100000 in
set_option maxHeartbeats 2000000 in
theorem stateNone_lifted (os : Os) (started : os.Started) (H : Type) (enc : TypeId × Value → H) :
    ReturnsInHanded {} Tryz.checked os 4 .any (fun w args => (Rows.stateNoneSpec.pre enc Tryz.prog Tryz.f4 [] false w args ∧ laidMetH Tryz.prog laid25 w) ∧ sizedMet enc Tryz.prog Tryz.f4 (OpenSpec.ofChange Rows.stateNoneSpec) false w args)
      (Rows.stateNoneSpec.post enc Tryz.prog Tryz.f4 false true false false) := by
  refine returnsInHanded_of_change_and (C := Tryz.checked) (X := fun w _ => laidMetH Tryz.prog laid25 w) (fun _ _ _ hh h => h.of_heap hh) Tryz.ownP started (by kernel_rfl) Tryz.func4
    (ChangeSpec.witness_shaped (enc := enc) (C := Tryz.checked) (os := os) (X := fun w _ => laidMetH Tryz.prog laid25 w) false (World.doorLaid Tryz.prog 400 os) #[.agg #[.int .i64 0, .int .i64 0, .int .i64 0, .string ⟨#[]⟩, .string ⟨#[]⟩, .int .i64 0, .int .i64 0, .int .i64 0, .string ⟨#[]⟩, .int .i64 0, .int .i64 0, .slice none 0 0, .string ⟨#[]⟩, .bool false, .bool false], .int .i64 0] 8 rfl (World.shaped_of_RefB (by kernel_rfl) (by kernel_rfl)) (by kernel_rfl) (by kernel_rfl) (by kernel_rfl) (door_met25 os _)) ?_
  intro W base args ds gs before hval0 hW _ _ hL _
  have hval : ∀ (j : Nat) t v, Tryz.f4.params[j]? = some t → args[j]? = some v → Value.okWide Tryz.prog W .any base t v := hval0
  have hW' := hW
  obtain ⟨p, q, hA0, hV, rfl, hfz, hnd⟩ := hW
  have hA : DataW.TrodAll enc Tryz.prog W 0 (fun _ => true) true Tryz.f4.params.toList args.toList ds p := hA0
  rw [Tryz.params4] at hA hval
  obtain ⟨v0, vs0, d0, ds0, p0, q0, hargs, rfl, rfl, h0, r0⟩ := trodAll_cons hA
  obtain ⟨v1, vs1, d1, ds1, p1, q1, rfl, rfl, rfl, h1, r1⟩ := trodAll_cons r0
  obtain ⟨rfl, rfl, rfl⟩ := trodAll_nil r1
  obtain rfl : args = #[v0, v1] := by cases args; simp_all
  obtain ⟨rfl, rfl⟩ := trodVars_none hV
  obtain ⟨cs0, x0, hv0, hr0⟩ := open_arg (n := 9) (T := tyRec) (by kernel_rfl) (hval 0 43 v0 rfl rfl) h0
  obtain ⟨cs1, x1, hv1, hr1⟩ := open_arg (n := 9) (T := .int .i64) (by kernel_rfl) (hval 1 3 v1 rfl rfl) h1
  have hv0 : v0 = .agg cs0.toArray := hv0
  obtain ⟨x, t, raw, junk, mv, e0, hin⟩ := rd_rec hr0
  obtain ⟨be, e1, -, -, -⟩ := rd_int.1 hr1
  rw [e0] at hv0
  rw [e1] at hv1
  have hv1 : v1 = .int .i64 be := hv1
  subst hv0
  subst hv1
  clear hA0 hval0
  have hF := of_laid25 hL
  have hw : 0 < W.heap.size := Nat.lt_of_le_of_lt (Nat.zero_le _) (cell_lt (hF 0 (by decide)))
  refine (stateNone_walk W hF hw x t raw junk be mv hin).mono fun e W' ⟨he, hb⟩ => ?_
  subst he
  exact ⟨_, rfl, law_post Tryz.laidOutP (by kernel_rfl) rfl Tryz.underlying4 hW' rfl rfl rfl rfl hb⟩

theorem stateNone_holds : Rows.StateNoneSaid :=
  OpenClaim.holds_of_wide 4 Tryz.f4 rfl rfl rfl rfl rfl rfl rfl ⟨rfl, rfl, rfl, rfl, rfl⟩ rfl rfl rfl rfl rfl (by kernel_rfl) Tryz.func4 stateNone_closed
    (of_decide_eq_true (by kernel_rfl)) (by unfold Func.isWrapper; first | (rw [if_pos (by decide +kernel)]; kernel_rfl) | (rw [if_neg (by decide +kernel)]; exact ⟨rfl, rfl⟩))
    (fun os started H enc _ => stateNone_lifted os started H enc)
theorem stateNone_card : Rows.StateNoneCardSaid :=
  Claim7.holds_tied_plain_at .later [] [.data] true (true, "72ff8ed873b85d99bb8ede3644749de92f89dc54997f5c3b62997ad343e4ab37") true
    stateNone_holds (fun _ h => by cases h) (by kernel_rfl) (fun _ h => by cases h) stateNone_row_tie rfl ⟨rfl, rfl⟩ (by kernel_rfl) rfl
    (fun f fn hf hfn => by
      obtain rfl : f = 4 := Option.some.inj ((show Tryz.prog.funcNamed "escheat/escheatlaw25.StateNone" = some 4 by kernel_rfl).symm.trans hf) |>.symm
      obtain rfl : fn = Tryz.f4 := (Option.some.inj (Tryz.func4.symm.trans hfn)).symm
      exact ⟨by kernel_rfl, fun j t ht => by
        rw [Tryz.params4] at ht
        have hm : t ∈ [43, 3] := by simpa using Array.mem_of_getElem? ht
        have hall : ([43, 3].all fun u => !Tryz.prog.wantsStandIn u) = true := by kernel_rfl
        exact (show Tryz.prog.wantsStandIn t = false by simpa using List.all_eq_true.1 hall t hm)⟩)
    (by kernel_rfl)
end Go.Proofs.YtpiogibkleaaaaaGreatDoor
