/-
  The law StateOnce, with its row's tie to the program's text: however often a record stands in the log, it counts once, where it stands first; a lesser number of a client behind a greater one counts for nothing.
  Conditions: the table of the records' fields reads as the program's text lays it (the card ties it).
-/
import Derived.Test.YtajbooppoohplaaGreatDoorMac
import Derived.Test.YtajbooppoohplaaGreatDoorPkTw
import Derived.Test.YtajbooppoohplaaGreatDoorPkRd
import Derived.Test.YtajbooppoohplaaGreatDoorPkRow
import Derived.Test.YtajbooppoohplaaGreatDoorKOnce
import Derived.Test.YtajbooppoohplaaGreatDoorTie
import Derived.Test.YtajbooppoohplaaGreatDoorCards
import Derived.SevenTiedAt
set_option maxRecDepth 100000
set_option maxHeartbeats 2000000
namespace Go.Proofs.YtajbooppoohplaaGreatDoor
open Go.ChangeShapes Go.WideShapes Go.ChangeAt Go.WideMaps Go.WideElems Go.RowKit Esch

def tyRec : Ty := .struct [tyOp, .str, .bool, .bool]
theorem rd_rec {w : World} {cs : List Value} {d : D} (h : Rd w tyRec cs d) : ∃ (x : OpS) (t : ByteArray) (raw junk : Bool) (mv : List Mv), cs = (⟨x, mv, t, raw, junk⟩ : RecS).cells ∧ OpIn w x mv := by
 obtain ⟨ds, rfl, g0⟩ := rd_struct.1 h
 clear h
 obtain ⟨c0, r0, d0, s0, rfl, rfl, -, h0, g1⟩ := rds_cons.1 g0
 clear g0
 obtain ⟨c1, r1, d1, s1, rfl, rfl, -, h1, g2⟩ := rds_cons.1 g1
 clear g1
 obtain ⟨c2, r2, d2, s2, rfl, rfl, -, h2, g3⟩ := rds_cons.1 g2
 clear g2
 obtain ⟨c3, r3, d3, s3, rfl, rfl, -, h3, g4⟩ := rds_cons.1 g3
 clear g3
 obtain ⟨rfl, rfl⟩ := rds_nil.1 g4
 clear g4
 obtain ⟨x, mv, rfl, hin⟩ := rd_op h0
 obtain ⟨t, rfl, -, -⟩ := rd_str.1 h1
 obtain ⟨raw, rfl, -⟩ := rd_bool.1 h2
 obtain ⟨junk, rfl, -⟩ := rd_bool.1 h3
 exact ⟨x, t, raw, junk, mv, rfl, hin⟩
theorem stateOnce_closed : joinedFacts Tryz.prog 3 Tryz.f3 Rows.stateOnceSpec Rows.stateOnceRow = true := by
 unfold joinedFacts
 exact and_tt (and_tt (and_tt (and_tt (and_tt (and_tt (and_tt (and_tt (and_tt (and_tt (and_tt (and_tt (and_tt (and_tt (and_tt (and_tt (and_tt (and_tt (and_tt (and_tt (and_tt (and_tt (and_tt (and_tt (and_tt (and_tt (and_tt (and_tt (and_tt (and_tt (and_tt stateOnce_j0 stateOnce_j1) stateOnce_j2) stateOnce_j3) stateOnce_j4) stateOnce_j5) stateOnce_j6) stateOnce_j7) stateOnce_j8) stateOnce_j9) stateOnce_j10) stateOnce_j11) stateOnce_j12) stateOnce_j13) stateOnce_j14) stateOnce_j15) stateOnce_j16) stateOnce_j17) stateOnce_j18) stateOnce_j19) stateOnce_j20) stateOnce_j21) stateOnce_j22) stateOnce_j23) stateOnce_j24) stateOnce_j25) stateOnce_j26) stateOnce_j27) stateOnce_j28) stateOnce_j29) stateOnce_j30) stateOnce_j31
theorem door_a (os : Os) (args : Array Value) : (DataW.laidRun Tryz.prog ((World.doorLaid Tryz.prog 400 os).forCall (fun _ _ => 0) ⟨#[], args, []⟩).memory 8 (((laid25 (H := Unit)).filter fun x => x.2.handleName?.isNone).map (·.1))).map (·.1) = some ((laid25 (H := Unit)).filter fun x => x.2.handleName?.isNone) := by kernel_rfl
theorem door_b (os : Os) (args : Array Value) : (DataW.laidRun Tryz.prog ((World.doorLaid Tryz.prog 400 os).forCall (fun _ _ => 0) ⟨#[], args, []⟩).memory 8 (((laid25 (H := Unit)).filter fun x => x.2.handleName?.isNone).map (·.1))).map (fun x => decide x.2.Nodup && laidRowsB Tryz.prog ((World.doorLaid Tryz.prog 400 os).forCall (fun _ _ => 0) ⟨#[], args, []⟩).memory x.2) = some true := by kernel_rfl
theorem door_met25 (os : Os) (args : Array Value) : laidMetH Tryz.prog laid25 ((World.doorLaid Tryz.prog 400 os).forCall (fun _ _ => 0) ⟨#[], args, []⟩).memory :=
  laidMetH_of_parts3 (fuel := 8) (laidMet_of_run' 8 (door_a os args) (door_b os args)) (by kernel_rfl) (by kernel_rfl)

theorem stateOnce_lifted (os : Os) (started : os.Started) (H : Type) (enc : TypeId × Value → H) :
    ReturnsInHanded {} Tryz.checked os 3 .any (fun w args => (Rows.stateOnceSpec.pre enc Tryz.prog Tryz.f3 [] false w args ∧ laidMetH Tryz.prog laid25 w) ∧ sizedMet enc Tryz.prog Tryz.f3 (OpenSpec.ofChange Rows.stateOnceSpec) false w args)
    (Rows.stateOnceSpec.post enc Tryz.prog Tryz.f3 false true false false) := by
 refine returnsInHanded_of_change_and (C := Tryz.checked) (X := fun w _ => laidMetH Tryz.prog laid25 w) (fun _ _ _ hh h => h.of_heap hh) Tryz.ownP started (by kernel_rfl) Tryz.func3
   (ChangeSpec.witness_shaped (enc := enc) (C := Tryz.checked) (os := os) (X := fun w _ => laidMetH Tryz.prog laid25 w) false (World.doorLaid Tryz.prog 400 os) #[.slice none 0 0, .slice none 0 0] 8 rfl (World.shaped_of_RefB (by kernel_rfl) (by kernel_rfl)) (by kernel_rfl) (by kernel_rfl) (by kernel_rfl) (door_met25 os _)) ?_
 intro W base args ds gs before hval0 hW _ _ hL _
 have hval : ∀ (j : Nat) t v, Tryz.f3.params[j]? = some t → args[j]? = some v → Value.okWide Tryz.prog W .any base t v := hval0
 have hW' := hW
 obtain ⟨p, q, hA0, hV, rfl, hfz, hnd⟩ := hW
 have hA : DataW.TrodAll enc Tryz.prog W 0 (fun _ => true) true Tryz.f3.params.toList args.toList ds p := hA0
 rw [Tryz.params3] at hA hval
 obtain ⟨v0, vs0, d0, ds0, p0, q0, hargs, rfl, rfl, h0, r0⟩ := trodAll_cons hA
 obtain ⟨v1, vs1, d1, ds1, p1, q1, rfl, rfl, rfl, h1, r1⟩ := trodAll_cons r0
 obtain ⟨rfl, rfl, rfl⟩ := trodAll_nil r1
 obtain rfl : args = #[v0, v1] := by cases args; simp_all
 obtain ⟨rfl, rfl⟩ := trodVars_none hV
 obtain ⟨cs0, x0, hv0, hr0⟩ := open_arg (n := 9) (T := .slice tyRec) (by kernel_rfl) (hval 0 22 v0 rfl rfl) h0
 obtain ⟨cs1, x1, hv1, hr1⟩ := open_arg (n := 9) (T := .slice (.int .u8)) (by kernel_rfl) (hval 1 23 v1 rfl rfl) h1
 obtain ⟨a, cap, l, e0, hcap, hc2, -, hrow, hin⟩ := rd_rw (size := 15) RecS.cells (fun r => OpIn W r.x r.mv) RecS.cells_len rfl (by decide) hr0 (fun c d h => by
   obtain ⟨x, t, raw, junk, mv, e, hi⟩ := rd_rec h
   exact ⟨⟨x, mv, t, raw, junk⟩, e, hi⟩)
 obtain ⟨a2, cap2, bl, e1, -, -, -, hrow2, hin2⟩ := rd_rw (size := 1) u8C (fun x => 0 ≤ x ∧ x ≤ 255) (fun _ => rfl) rfl (by decide) hr1 (fun c d h => by
   obtain ⟨x, e, -, h1, h2⟩ := rd_int.1 h
   exact ⟨x, e, h1, h2⟩)
 rw [e0] at hv0
 rw [e1] at hv1
 have hv0 : v0 = .slice a l.length cap := hv0
 have hv1 : v1 = .slice a2 bl.length cap2 := hv1
 subst hv0
 subst hv1
 clear hA0 hval0
 have hF := of_laid25 hL
 have hw : 0 < W.heap.size := Nat.lt_of_le_of_lt (Nat.zero_le _) (cell_lt (hF 0 (by decide)))
 refine (stateOnce_walk W hF hw a cap l hrow hin (Nat.le_trans hcap hc2) a2 cap2 bl hrow2 hin2).mono fun e W' ⟨he, hb⟩ => ?_
 subst he
 exact ⟨_, rfl, law_post Tryz.laidOutP (by kernel_rfl) rfl Tryz.underlying4 hW' rfl rfl rfl rfl hb⟩
theorem stateOnce_holds : Rows.StateOnceSaid :=
  OpenClaim.holds_of_wide 3 Tryz.f3 rfl rfl rfl rfl rfl rfl rfl ⟨rfl, rfl, rfl, rfl, rfl⟩ rfl rfl rfl rfl rfl (by kernel_rfl) Tryz.func3 stateOnce_closed
    (of_decide_eq_true (by kernel_rfl)) (by unfold Func.isWrapper; first | (rw [if_pos (by decide +kernel)]; kernel_rfl) | (rw [if_neg (by decide +kernel)]; exact ⟨rfl, rfl⟩))
    (fun os started H enc _ => stateOnce_lifted os started H enc)
theorem stateOnce_card : Rows.StateOnceCardSaid :=
  Claim7.holds_tied_plain_at .later [] [.data] true (true, "4151ca48d7694e2e290298277ce53c197d77b3e575c2422d03ffb69bd42e3407") true
    stateOnce_holds (fun _ h => by cases h) (by kernel_rfl) (fun _ h => by cases h) stateOnce_row_tie rfl ⟨rfl, rfl⟩ (by kernel_rfl) rfl
    (fun f fn hf hfn => by
      obtain rfl : f = 3 := Option.some.inj ((show Tryz.prog.funcNamed "escheat/escheatlaw25.StateOnce" = some 3 by kernel_rfl).symm.trans hf) |>.symm
      obtain rfl : fn = Tryz.f3 := (Option.some.inj (Tryz.func3.symm.trans hfn)).symm
      exact ⟨by kernel_rfl, fun j t ht => by
        rw [Tryz.params3] at ht
        have hm : t ∈ [22, 23] := by simpa using Array.mem_of_getElem? ht
        have hall : ([22, 23].all fun u => !Tryz.prog.wantsStandIn u) = true := by kernel_rfl
        exact (show Tryz.prog.wantsStandIn t = false by simpa using List.all_eq_true.1 hall t hm)⟩)
    (by kernel_rfl)
end Go.Proofs.YtajbooppoohplaaGreatDoor
