/- the closed facts of the row stateSames -/
import Derived.Test.YtpiogibkleaaaaaGreatDoorChecked
import Derived.Test.YtpiogibkleaaaaaGreatDoorRows
import Derived.ProofKit
namespace Go.Proofs.YtpiogibkleaaaaaGreatDoor
open Go.RowKit

theorem and_tt {a b : Bool} (ha : a = true) (hb : b = true) : (a && b) = true := by rw [ha, hb]; rfl
theorem stateSames_j0 : Rows.stateSamesRow.wf (OpenSpec.ofChange Rows.stateSamesSpec) = true := by kernel_rfl
theorem stateSames_j1 : laidOutB Tryz.prog = true := by kernel_rfl
theorem stateSames_j2 : mapsRowed Tryz.prog = true := by kernel_rfl
theorem stateSames_j3 : Tryz.f3.params.all (Tryz.prog.readableRec ·) = true := by kernel_rfl
theorem stateSames_j4 : namedTie Tryz.prog Rows.stateSamesRow.named Rows.stateSamesSpec.vars = true := by kernel_rfl
theorem stateSames_j5 : (Rows.stateSamesRow.stops == []) = true := by kernel_rfl
theorem stateSames_j6 : (Tryz.prog.stops == []) = true := by kernel_rfl
theorem stateSames_j7 : (Rows.stateSamesRow.knobs == []) = true := by kernel_rfl
theorem stateSames_j8 : (Tryz.prog.stopKnobs == []) = true := by kernel_rfl
theorem stateSames_j9 : (Rows.stateSamesRow.inPlace == Tryz.prog.inPlace 3) = true := by kernel_rfl
theorem stateSames_j10 : (Rows.stateSamesRow.unfollowed == Tryz.prog.unfollowed 3) = true := by kernel_rfl
theorem stateSames_j11 : (Rows.stateSamesRow.recurses == Tryz.prog.recurses 3) = true := by kernel_rfl
theorem stateSames_j12 : (Rows.stateSamesRow.named == Tryz.prog.varsNamed 3) = true := by kernel_rfl
theorem stateSames_j13 : (Rows.stateSamesRow.maps == (Tryz.f3.params.toList ++ Rows.stateSamesSpec.plain.varTypes Tryz.prog).any (Tryz.prog.mapsRec ·)) = true := by kernel_rfl
theorem stateSames_j14 : (Rows.stateSamesRow.ifaces == (Tryz.f3.params.toList ++ Rows.stateSamesSpec.plain.varTypes Tryz.prog).any (Tryz.prog.ifacesRec ·)) = true := by kernel_rfl
theorem stateSames_j15 : (Rows.stateSamesRow.mapsOut == Tryz.prog.mapsAmong Tryz.f3.resultTypes.toList) = true := by kernel_rfl
theorem stateSames_j16 : (Rows.stateSamesRow.loops == (Tryz.f3.params.toList ++ Rows.stateSamesSpec.plain.varTypes Tryz.prog).any (Tryz.prog.loopsFrom ·)) = true := by kernel_rfl
theorem stateSames_j17 : (Rows.stateSamesRow.wideKeys == (Tryz.f3.params.toList ++ Rows.stateSamesSpec.plain.varTypes Tryz.prog ++ Tryz.f3.resultTypes.toList).any (Tryz.prog.wideKeysFrom ·)) = true := by kernel_rfl
theorem stateSames_j18 : Rows.stateSamesSpec.vars.all (Tryz.prog.varReadable ·) = true := by kernel_rfl
theorem stateSames_j19 : Tryz.f3.resultTypes.all (fun t => Tryz.prog.readableRec t && decide (t < Tryz.prog.types.size)) = true := by kernel_rfl
theorem stateSames_j20 : (Rows.stateSamesRow.ifacesOut == Tryz.f3.resultTypes.toList.any (Tryz.prog.ifacesRec ·)) = true := by kernel_rfl
theorem stateSames_j21 : (Rows.stateSamesRow.loopsOut == Tryz.f3.resultTypes.toList.any (Tryz.prog.loopsFrom ·)) = true := by kernel_rfl
theorem stateSames_j22 : (Rows.stateSamesRow.plainKeys == Tryz.prog.plainKeys) = true := by kernel_rfl
theorem stateSames_j23 : Rows.stateSamesRow.shortTexts.isNone = true := by kernel_rfl
theorem stateSames_j24 : Tryz.prog.stopsHeard = true := by kernel_rfl
theorem stateSames_j25 : Tryz.prog.mayEnter = true := by kernel_rfl
theorem stateSames_j26 : (Rows.stateSamesRow.lifted == Tryz.prog.liftsFinal) = true := by kernel_rfl
theorem stateSames_j27 : (Tryz.prog.make == some Rows.stateSamesRow.make) = true := by kernel_rfl
theorem stateSames_j28 : (Rows.stateSamesRow.kinds == (if Rows.stateSamesRow.domain.isEmpty then [] else Tryz.f3.params.toList.map fun t => match Tryz.prog.underlying t with | some (.int k) => some k | _ => none)) = true := by kernel_rfl
theorem stateSames_j29 : (Rows.stateSamesRow.pinned == Rows.stateSamesRow.pinnedBy) = true := by kernel_rfl
theorem stateSames_j30 : (Rows.stateSamesRow.veiled == (Tryz.f3.params.toList ++ Rows.stateSamesSpec.plain.varTypes Tryz.prog ++ Tryz.f3.resultTypes.toList).any (Tryz.prog.veiledRec ·)) = true := by kernel_rfl
theorem stateSames_j31 : Rows.stateSamesRow.veiledFits Tryz.prog Tryz.f3.params.toList (Tryz.f3.params.toList ++ Rows.stateSamesSpec.plain.varTypes Tryz.prog ++ Tryz.f3.resultTypes.toList) = true := by kernel_rfl
end Go.Proofs.YtpiogibkleaaaaaGreatDoor
