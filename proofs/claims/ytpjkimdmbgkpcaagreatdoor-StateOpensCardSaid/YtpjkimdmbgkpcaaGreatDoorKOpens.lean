/- the closed facts of the row stateOpens -/
import Derived.Test.YtpjkimdmbgkpcaaGreatDoorChecked
import Derived.Test.YtpjkimdmbgkpcaaGreatDoorRows
import Derived.ProofKit
namespace Go.Proofs.YtpjkimdmbgkpcaaGreatDoor
open Go.RowKit

theorem and_tt {a b : Bool} (ha : a = true) (hb : b = true) : (a && b) = true := by rw [ha, hb]; rfl
theorem stateOpens_j0 : Rows.stateOpensRow.wf (OpenSpec.ofChange Rows.stateOpensSpec) = true := by kernel_rfl
theorem stateOpens_j1 : laidOutB Tryz.prog = true := by kernel_rfl
theorem stateOpens_j2 : mapsRowed Tryz.prog = true := by kernel_rfl
theorem stateOpens_j3 : Tryz.f4.params.all (Tryz.prog.readableRec ·) = true := by kernel_rfl
theorem stateOpens_j4 : namedTie Tryz.prog Rows.stateOpensRow.named Rows.stateOpensSpec.vars = true := by kernel_rfl
theorem stateOpens_j5 : (Rows.stateOpensRow.stops == []) = true := by kernel_rfl
theorem stateOpens_j6 : (Tryz.prog.stops == []) = true := by kernel_rfl
theorem stateOpens_j7 : (Rows.stateOpensRow.knobs == []) = true := by kernel_rfl
theorem stateOpens_j8 : (Tryz.prog.stopKnobs == []) = true := by kernel_rfl
theorem stateOpens_j9 : (Rows.stateOpensRow.inPlace == Tryz.prog.inPlace 4) = true := by kernel_rfl
theorem stateOpens_j10 : (Rows.stateOpensRow.unfollowed == Tryz.prog.unfollowed 4) = true := by kernel_rfl
theorem stateOpens_j11 : (Rows.stateOpensRow.recurses == Tryz.prog.recurses 4) = true := by kernel_rfl
theorem stateOpens_j12 : (Rows.stateOpensRow.named == Tryz.prog.varsNamed 4) = true := by kernel_rfl
theorem stateOpens_j13 : (Rows.stateOpensRow.maps == (Tryz.f4.params.toList ++ Rows.stateOpensSpec.plain.varTypes Tryz.prog).any (Tryz.prog.mapsRec ·)) = true := by kernel_rfl
theorem stateOpens_j14 : (Rows.stateOpensRow.ifaces == (Tryz.f4.params.toList ++ Rows.stateOpensSpec.plain.varTypes Tryz.prog).any (Tryz.prog.ifacesRec ·)) = true := by kernel_rfl
theorem stateOpens_j15 : (Rows.stateOpensRow.mapsOut == Tryz.prog.mapsAmong Tryz.f4.resultTypes.toList) = true := by kernel_rfl
theorem stateOpens_j16 : (Rows.stateOpensRow.loops == (Tryz.f4.params.toList ++ Rows.stateOpensSpec.plain.varTypes Tryz.prog).any (Tryz.prog.loopsFrom ·)) = true := by kernel_rfl
theorem stateOpens_j17 : (Rows.stateOpensRow.wideKeys == (Tryz.f4.params.toList ++ Rows.stateOpensSpec.plain.varTypes Tryz.prog ++ Tryz.f4.resultTypes.toList).any (Tryz.prog.wideKeysFrom ·)) = true := by kernel_rfl
theorem stateOpens_j18 : Rows.stateOpensSpec.vars.all (Tryz.prog.varReadable ·) = true := by kernel_rfl
theorem stateOpens_j19 : Tryz.f4.resultTypes.all (fun t => Tryz.prog.readableRec t && decide (t < Tryz.prog.types.size)) = true := by kernel_rfl
theorem stateOpens_j20 : (Rows.stateOpensRow.ifacesOut == Tryz.f4.resultTypes.toList.any (Tryz.prog.ifacesRec ·)) = true := by kernel_rfl
theorem stateOpens_j21 : (Rows.stateOpensRow.loopsOut == Tryz.f4.resultTypes.toList.any (Tryz.prog.loopsFrom ·)) = true := by kernel_rfl
theorem stateOpens_j22 : (Rows.stateOpensRow.plainKeys == Tryz.prog.plainKeys) = true := by kernel_rfl
theorem stateOpens_j23 : Rows.stateOpensRow.shortTexts.isNone = true := by kernel_rfl
theorem stateOpens_j24 : Tryz.prog.stopsHeard = true := by kernel_rfl
theorem stateOpens_j25 : Tryz.prog.mayEnter = true := by kernel_rfl
theorem stateOpens_j26 : (Rows.stateOpensRow.lifted == Tryz.prog.liftsFinal) = true := by kernel_rfl
theorem stateOpens_j27 : (Tryz.prog.make == some Rows.stateOpensRow.make) = true := by kernel_rfl
theorem stateOpens_j28 : (Rows.stateOpensRow.kinds == (if Rows.stateOpensRow.domain.isEmpty then [] else Tryz.f4.params.toList.map fun t => match Tryz.prog.underlying t with | some (.int k) => some k | _ => none)) = true := by kernel_rfl
theorem stateOpens_j29 : (Rows.stateOpensRow.pinned == Rows.stateOpensRow.pinnedBy) = true := by kernel_rfl
theorem stateOpens_j30 : (Rows.stateOpensRow.veiled == (Tryz.f4.params.toList ++ Rows.stateOpensSpec.plain.varTypes Tryz.prog ++ Tryz.f4.resultTypes.toList).any (Tryz.prog.veiledRec ·)) = true := by kernel_rfl
theorem stateOpens_j31 : Rows.stateOpensRow.veiledFits Tryz.prog Tryz.f4.params.toList (Tryz.f4.params.toList ++ Rows.stateOpensSpec.plain.varTypes Tryz.prog ++ Tryz.f4.resultTypes.toList) = true := by kernel_rfl
end Go.Proofs.YtpjkimdmbgkpcaaGreatDoor
