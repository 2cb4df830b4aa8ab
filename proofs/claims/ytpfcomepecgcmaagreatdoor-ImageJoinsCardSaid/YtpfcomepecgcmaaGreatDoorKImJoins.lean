/- the closed facts of the row imageJoins -/
import Derived.Test.YtpfcomepecgcmaaGreatDoorChecked
import Derived.Test.YtpfcomepecgcmaaGreatDoorRows
import Derived.ProofKit
namespace Go.Proofs.YtpfcomepecgcmaaGreatDoor
open Go.RowKit

theorem and_tt {a b : Bool} (ha : a = true) (hb : b = true) : (a && b) = true := by rw [ha, hb]; rfl
theorem imageJoins_j0 : Rows.imageJoinsRow.wf (OpenSpec.ofChange Rows.imageJoinsSpec) = true := by kernel_rfl
theorem imageJoins_j1 : laidOutB Tryz.prog = true := by kernel_rfl
theorem imageJoins_j2 : mapsRowed Tryz.prog = true := by kernel_rfl
theorem imageJoins_j3 : Tryz.f4.params.all (Tryz.prog.readableRec ·) = true := by kernel_rfl
theorem imageJoins_j4 : namedTie Tryz.prog Rows.imageJoinsRow.named Rows.imageJoinsSpec.vars = true := by kernel_rfl
theorem imageJoins_j5 : (Rows.imageJoinsRow.stops == []) = true := by kernel_rfl
theorem imageJoins_j6 : (Tryz.prog.stops == []) = true := by kernel_rfl
theorem imageJoins_j7 : (Rows.imageJoinsRow.knobs == []) = true := by kernel_rfl
theorem imageJoins_j8 : (Tryz.prog.stopKnobs == []) = true := by kernel_rfl
theorem imageJoins_j9 : (Rows.imageJoinsRow.inPlace == Tryz.prog.inPlace 4) = true := by kernel_rfl
theorem imageJoins_j10 : (Rows.imageJoinsRow.unfollowed == Tryz.prog.unfollowed 4) = true := by kernel_rfl
theorem imageJoins_j11 : (Rows.imageJoinsRow.recurses == Tryz.prog.recurses 4) = true := by kernel_rfl
theorem imageJoins_j12 : (Rows.imageJoinsRow.named == Tryz.prog.varsNamed 4) = true := by kernel_rfl
theorem imageJoins_j13 : (Rows.imageJoinsRow.maps == (Tryz.f4.params.toList ++ Rows.imageJoinsSpec.plain.varTypes Tryz.prog).any (Tryz.prog.mapsRec ·)) = true := by kernel_rfl
theorem imageJoins_j14 : (Rows.imageJoinsRow.ifaces == (Tryz.f4.params.toList ++ Rows.imageJoinsSpec.plain.varTypes Tryz.prog).any (Tryz.prog.ifacesRec ·)) = true := by kernel_rfl
theorem imageJoins_j15 : (Rows.imageJoinsRow.mapsOut == Tryz.prog.mapsAmong Tryz.f4.resultTypes.toList) = true := by kernel_rfl
theorem imageJoins_j16 : (Rows.imageJoinsRow.loops == (Tryz.f4.params.toList ++ Rows.imageJoinsSpec.plain.varTypes Tryz.prog).any (Tryz.prog.loopsFrom ·)) = true := by kernel_rfl
theorem imageJoins_j17 : (Rows.imageJoinsRow.wideKeys == (Tryz.f4.params.toList ++ Rows.imageJoinsSpec.plain.varTypes Tryz.prog ++ Tryz.f4.resultTypes.toList).any (Tryz.prog.wideKeysFrom ·)) = true := by kernel_rfl
theorem imageJoins_j18 : Rows.imageJoinsSpec.vars.all (Tryz.prog.varReadable ·) = true := by kernel_rfl
theorem imageJoins_j19 : Tryz.f4.resultTypes.all (fun t => Tryz.prog.readableRec t && decide (t < Tryz.prog.types.size)) = true := by kernel_rfl
theorem imageJoins_j20 : (Rows.imageJoinsRow.ifacesOut == Tryz.f4.resultTypes.toList.any (Tryz.prog.ifacesRec ·)) = true := by kernel_rfl
theorem imageJoins_j21 : (Rows.imageJoinsRow.loopsOut == Tryz.f4.resultTypes.toList.any (Tryz.prog.loopsFrom ·)) = true := by kernel_rfl
theorem imageJoins_j22 : (Rows.imageJoinsRow.plainKeys == Tryz.prog.plainKeys) = true := by kernel_rfl
theorem imageJoins_j23 : Rows.imageJoinsRow.shortTexts.isNone = true := by kernel_rfl
theorem imageJoins_j24 : Tryz.prog.stopsHeard = true := by kernel_rfl
theorem imageJoins_j25 : Tryz.prog.mayEnter = true := by kernel_rfl
theorem imageJoins_j26 : (Rows.imageJoinsRow.lifted == Tryz.prog.liftsFinal) = true := by kernel_rfl
theorem imageJoins_j27 : (Tryz.prog.make == some Rows.imageJoinsRow.make) = true := by kernel_rfl
theorem imageJoins_j28 : (Rows.imageJoinsRow.kinds == (if Rows.imageJoinsRow.domain.isEmpty then [] else Tryz.f4.params.toList.map fun t => match Tryz.prog.underlying t with | some (.int k) => some k | _ => none)) = true := by kernel_rfl
theorem imageJoins_j29 : (Rows.imageJoinsRow.pinned == Rows.imageJoinsRow.pinnedBy) = true := by kernel_rfl
theorem imageJoins_j30 : (Rows.imageJoinsRow.veiled == (Tryz.f4.params.toList ++ Rows.imageJoinsSpec.plain.varTypes Tryz.prog ++ Tryz.f4.resultTypes.toList).any (Tryz.prog.veiledRec ·)) = true := by kernel_rfl
theorem imageJoins_j31 : Rows.imageJoinsRow.veiledFits Tryz.prog Tryz.f4.params.toList (Tryz.f4.params.toList ++ Rows.imageJoinsSpec.plain.varTypes Tryz.prog ++ Tryz.f4.resultTypes.toList) = true := by kernel_rfl
end Go.Proofs.YtpfcomepecgcmaaGreatDoor
