/-
  The law ImagePieces, with its row's tie to the program's text: the pieces of any text, or that there are none, are the document's; what pieces that come one behind the other, others among them, are put together to, is the document's.
  Conditions: the table of the records' fields reads as the program's text lays it (the card ties it).
-/
import Derived.Test.YtpfcomepecgcmaaGreatDoorPkIp
import Derived.Test.YtpfcomepecgcmaaGreatDoorRdRow
import Derived.Test.YtpfcomepecgcmaaGreatDoorPkRow
import Derived.Test.YtpfcomepecgcmaaGreatDoorKImPieces
import Derived.Test.YtpfcomepecgcmaaGreatDoorTie
import Derived.Test.YtpfcomepecgcmaaGreatDoorCards
import Derived.SevenTiedAt
namespace Go.Proofs.YtpfcomepecgcmaaGreatDoor
open Go.ChangeShapes Go.WideShapes Go.ChangeAt Go.WideMaps Go.WideElems Go.RowKit Esch

def tyN2b : Ty := .struct [.int .i64, .int .i64]
theorem rd_n2b {w : World} {cs : List Value} {d : D} (h : Rd w tyN2b cs d) : ∃ a b : Int, cs = [.int .i64 a, .int .i64 b] := by
  simp only [tyN2b, rd_struct, rds_cons, rds_nil, rd_int] at h
  obtain ⟨ds, rfl, c0, r0, d0, s0, rfl, rfl, -, ⟨a, rfl, rfl, -⟩, c1, r1, d1, s1, rfl, rfl, -, ⟨b, rfl, rfl, -⟩, rfl, rfl⟩ := h
  exact ⟨a, b, rfl⟩
set_option maxRecDepth 100000 in
theorem imagePieces_closed : joinedFacts Tryz.prog 3 Tryz.f3 Rows.imagePiecesSpec Rows.imagePiecesRow = true := by
  unfold joinedFacts
  exact and_tt (and_tt (and_tt (and_tt (and_tt (and_tt (and_tt (and_tt (and_tt (and_tt (and_tt (and_tt (and_tt (and_tt (and_tt (and_tt (and_tt (and_tt (and_tt (and_tt (and_tt (and_tt (and_tt (and_tt (and_tt (and_tt (and_tt (and_tt (and_tt (and_tt (and_tt imagePieces_j0 imagePieces_j1) imagePieces_j2) imagePieces_j3) imagePieces_j4) imagePieces_j5) imagePieces_j6) imagePieces_j7) imagePieces_j8) imagePieces_j9) imagePieces_j10) imagePieces_j11) imagePieces_j12) imagePieces_j13) imagePieces_j14) imagePieces_j15) imagePieces_j16) imagePieces_j17) imagePieces_j18) imagePieces_j19) imagePieces_j20) imagePieces_j21) imagePieces_j22) imagePieces_j23) imagePieces_j24) imagePieces_j25) imagePieces_j26) imagePieces_j27) imagePieces_j28) imagePieces_j29) imagePieces_j30) imagePieces_j31
theorem door_a (os : Os) (args : Array Value) : (DataW.laidRun Tryz.prog ((World.doorLaid Tryz.prog 400 os).forCall (fun _ _ => 0) ⟨#[], args, []⟩).memory 8 (((laid25 (H := Unit)).filter fun x => x.2.handleName?.isNone).map (·.1))).map (·.1) = some ((laid25 (H := Unit)).filter fun x => x.2.handleName?.isNone) := by kernel_rfl
theorem door_b (os : Os) (args : Array Value) : (DataW.laidRun Tryz.prog ((World.doorLaid Tryz.prog 400 os).forCall (fun _ _ => 0) ⟨#[], args, []⟩).memory 8 (((laid25 (H := Unit)).filter fun x => x.2.handleName?.isNone).map (·.1))).map (fun x => decide x.2.Nodup && laidRowsB Tryz.prog ((World.doorLaid Tryz.prog 400 os).forCall (fun _ _ => 0) ⟨#[], args, []⟩).memory x.2) = some true := by kernel_rfl
theorem door_met25 (os : Os) (args : Array Value) : laidMetH Tryz.prog laid25 ((World.doorLaid Tryz.prog 400 os).forCall (fun _ _ => 0) ⟨#[], args, []⟩).memory :=
  laidMetH_of_parts3 (fuel := 8) (laidMet_of_run' 8 (door_a os args) (door_b os args)) (by kernel_rfl) (by kernel_rfl)

set_option maxRecDepth 100000 in
set_option maxHeartbeats 2000000 in
theorem imagePieces_lifted (os : Os) (started : os.Started) (H : Type) (enc : TypeId × Value → H) :
    ReturnsInHanded {} Tryz.checked os 3 .any (fun w args => (Rows.imagePiecesSpec.pre enc Tryz.prog Tryz.f3 [] false w args ∧ laidMetH Tryz.prog laid25 w) ∧ sizedMet enc Tryz.prog Tryz.f3 (OpenSpec.ofChange Rows.imagePiecesSpec) false w args)
      (Rows.imagePiecesSpec.post enc Tryz.prog Tryz.f3 false true false false) := by
  refine returnsInHanded_of_change_and (C := Tryz.checked) (X := fun w _ => laidMetH Tryz.prog laid25 w) (fun _ _ _ hh h => h.of_heap hh) Tryz.ownP started (by kernel_rfl) Tryz.func3
    (ChangeSpec.witness_shaped (enc := enc) (C := Tryz.checked) (os := os) (X := fun w _ => laidMetH Tryz.prog laid25 w) false (World.doorLaid Tryz.prog 400 os) #[.string ⟨#[]⟩, .agg #[.int .i64 0, .int .i64 0], .slice none 0 0] 8 rfl (World.shaped_of_RefB (by kernel_rfl) (by kernel_rfl)) (by kernel_rfl) (by kernel_rfl) (by kernel_rfl) (door_met25 os _)) ?_
  intro W base args ds gs before hval0 hW _ _ hL _
  have hval : ∀ (j : Nat) t v, Tryz.f3.params[j]? = some t → args[j]? = some v → Value.okWide Tryz.prog W .any base t v := hval0
  have hW' := hW
  obtain ⟨p, q, hA0, hV, rfl, hfz, hnd⟩ := hW
  have hA : DataW.TrodAll enc Tryz.prog W 0 (fun _ => true) true Tryz.f3.params.toList args.toList ds p := hA0
  rw [Tryz.params3] at hA hval
  obtain ⟨v0, vs0, d0, ds0, p0, q0, hargs, rfl, rfl, h0, r0⟩ := trodAll_cons hA
  obtain ⟨v1, vs1, d1, ds1, p1, q1, rfl, rfl, rfl, h1, r1⟩ := trodAll_cons r0
  obtain ⟨v2, vs2, d2, ds2, p2, q2, rfl, rfl, rfl, h2, r2⟩ := trodAll_cons r1
  obtain ⟨rfl, rfl, rfl⟩ := trodAll_nil r2
  obtain rfl : args = #[v0, v1, v2] := by cases args; simp_all
  obtain ⟨rfl, rfl⟩ := trodVars_none hV
  obtain ⟨cs0, x0, hv0, hr0⟩ := open_arg (n := 9) (T := .str) (by kernel_rfl) (hval 0 9 v0 rfl rfl) h0
  obtain ⟨cs1, x1, hv1, hr1⟩ := open_arg (n := 9) (T := tyN2b) (by kernel_rfl) (hval 1 22 v1 rfl rfl) h1
  obtain ⟨cs2, x2, hv2, hr2⟩ := open_arg (n := 9) (T := .slice tyOp) (by kernel_rfl) (hval 2 23 v2 rfl rfl) h2
  obtain ⟨s, e0, -, hs⟩ := rd_str.1 hr0
  obtain ⟨n0, n1, e1⟩ := rd_n2b hr1
  obtain ⟨a, cap, l, e2, hcap, -, -, hrow, hin⟩ := rd_rw (size := 12) OpS.cells (fun x => ∃ mv, OpIn W x mv) OpS.cells_len rfl (by decide) hr2 (fun c d h => by
    obtain ⟨x, mv, e, hi⟩ := rd_op h
    exact ⟨x, e, mv, hi⟩)
  rw [e0] at hv0
  rw [e1] at hv1
  rw [e2] at hv2
  have hv0 : v0 = .string s := hv0
  have hv1 : v1 = .agg #[.int .i64 n0, .int .i64 n1] := hv1
  have hv2 : v2 = .slice a l.length cap := hv2
  subst hv0
  subst hv1
  subst hv2
  clear hA0 hval0
  have hF := of_laid25 hL
  have hw : 0 < W.heap.size := Nat.lt_of_le_of_lt (Nat.zero_le _) (cell_lt (hF 0 (by decide)))
  refine (imPieces_any W s n0 n1 a cap l hrow hcap hin hF hw hs).mono fun e W' ⟨he, hb⟩ => ?_
  subst he
  exact ⟨_, rfl, law_post Tryz.laidOutP (by kernel_rfl) rfl Tryz.underlying4 hW' rfl rfl rfl rfl hb⟩

theorem imagePieces_holds : Rows.ImagePiecesSaid :=
  OpenClaim.holds_of_wide 3 Tryz.f3 rfl rfl rfl rfl rfl rfl rfl ⟨rfl, rfl, rfl, rfl, rfl⟩ rfl rfl rfl rfl rfl (by kernel_rfl) Tryz.func3 imagePieces_closed
    (of_decide_eq_true (by kernel_rfl)) (by unfold Func.isWrapper; first | (rw [if_pos (by decide +kernel)]; kernel_rfl) | (rw [if_neg (by decide +kernel)]; exact ⟨rfl, rfl⟩))
    (fun os started H enc _ => imagePieces_lifted os started H enc)
theorem imagePieces_card : Rows.ImagePiecesCardSaid :=
  Claim7.holds_tied_plain_at .later [] [.data] true (true, "ea313fd0955d2b0a9dd6f7558fa7369ce8c3f3562d26ce71a29ccecc4857c907") true
    imagePieces_holds (fun _ h => by cases h) (by kernel_rfl) (fun _ h => by cases h) imagePieces_row_tie rfl ⟨rfl, rfl⟩ (by kernel_rfl) rfl
    (fun f fn hf hfn => by
      obtain rfl : f = 3 := Option.some.inj ((show Tryz.prog.funcNamed "escheat/escheatlaw26.ImagePieces" = some 3 by kernel_rfl).symm.trans hf) |>.symm
      obtain rfl : fn = Tryz.f3 := (Option.some.inj (Tryz.func3.symm.trans hfn)).symm
      exact ⟨by kernel_rfl, fun j t ht => by
        rw [Tryz.params3] at ht
        have hm : t ∈ [9, 22, 23] := by simpa using Array.mem_of_getElem? ht
        have hall : ([9, 22, 23].all fun u => !Tryz.prog.wantsStandIn u) = true := by kernel_rfl
        exact (show Tryz.prog.wantsStandIn t = false by simpa using List.all_eq_true.1 hall t hm)⟩)
    (by kernel_rfl)
end Go.Proofs.YtpfcomepecgcmaaGreatDoor
