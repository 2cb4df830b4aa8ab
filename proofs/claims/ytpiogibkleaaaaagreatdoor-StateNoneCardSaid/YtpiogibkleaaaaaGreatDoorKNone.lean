/- the closed facts of the row stateNone -/
import Derived.Test.YtpiogibkleaaaaaGreatDoorChecked
import Derived.Test.YtpiogibkleaaaaaGreatDoorRows
import Derived.ProofKit
namespace Go.Proofs.YtpiogibkleaaaaaGreatDoor
open Go.RowKit

theorem and_tt {a b : Bool} (ha : a = true) (hb : b = true) : (a && b) = true := by rw [ha, hb]; rfl
theorem stateNone_j0 : Rows.stateNoneRow.wf (OpenSpec.ofChange Rows.stateNoneSpec) = true := by kernel_rfl
theorem stateNone_j1 : laidOutB Tryz.prog = true := by kernel_rfl
theorem stateNone_j2 : mapsRowed Tryz.prog = true := by kernel_rfl
theorem stateNone_j3 : Tryz.f4.params.all (Tryz.prog.readableRec ·) = true := by kernel_rfl
theorem stateNone_j4 : namedTie Tryz.prog Rows.stateNoneRow.named Rows.stateNoneSpec.vars = true := by kernel_rfl
theorem stateNone_j5 : (Rows.stateNoneRow.stops == []) = true := by kernel_rfl
theorem stateNone_j6 : (Tryz.prog.stops == []) = true := by kernel_rfl
theorem stateNone_j7 : (Rows.stateNoneRow.knobs == []) = true := by kernel_rfl
theorem stateNone_j8 : (Tryz.prog.stopKnobs == []) = true := by kernel_rfl
theorem stateNone_j9 : (Rows.stateNoneRow.inPlace == Tryz.prog.inPlace 4) = true := by kernel_rfl
theorem stateNone_j10 : (Rows.stateNoneRow.unfollowed == Tryz.prog.unfollowed 4) = true := by kernel_rfl
theorem stateNone_j11 : (Rows.stateNoneRow.recurses == Tryz.prog.recurses 4) = true := by kernel_rfl
theorem stateNone_j12 : (Rows.stateNoneRow.named == Tryz.prog.varsNamed 4) = true := by kernel_rfl
theorem stateNone_j13 : (Rows.stateNoneRow.maps == (Tryz.f4.params.toList ++ Rows.stateNoneSpec.plain.varTypes Tryz.prog).any (Tryz.prog.mapsRec ·)) = true := by kernel_rfl
theorem stateNone_j14 : (Rows.stateNoneRow.ifaces == (Tryz.f4.params.toList ++ Rows.stateNoneSpec.plain.varTypes Tryz.prog).any (Tryz.prog.ifacesRec ·)) = true := by kernel_rfl
theorem stateNone_j15 : (Rows.stateNoneRow.mapsOut == Tryz.prog.mapsAmong Tryz.f4.resultTypes.toList) = true := by kernel_rfl
theorem stateNone_j16 : (Rows.stateNoneRow.loops == (Tryz.f4.params.toList ++ Rows.stateNoneSpec.plain.varTypes Tryz.prog).any (Tryz.prog.loopsFrom ·)) = true := by kernel_rfl
theorem stateNone_j17 : (Rows.stateNoneRow.wideKeys == (Tryz.f4.params.toList ++ Rows.stateNoneSpec.plain.varTypes Tryz.prog ++ Tryz.f4.resultTypes.toList).any (Tryz.prog.wideKeysFrom ·)) = true := by kernel_rfl
theorem stateNone_j18 : Rows.stateNoneSpec.vars.all (Tryz.prog.varReadable ·) = true := by kernel_rfl
theorem stateNone_j19 : Tryz.f4.resultTypes.all (fun t => Tryz.prog.readableRec t && decide (t < Tryz.prog.types.size)) = true := by kernel_rfl
theorem stateNone_j20 : (Rows.stateNoneRow.ifacesOut == Tryz.f4.resultTypes.toList.any (Tryz.prog.ifacesRec ·)) = true := by kernel_rfl
theorem stateNone_j21 : (Rows.stateNoneRow.loopsOut == Tryz.f4.resultTypes.toList.any (Tryz.prog.loopsFrom ·)) = true := by kernel_rfl
theorem stateNone_j22 : (Rows.stateNoneRow.plainKeys == Tryz.prog.plainKeys) = true := by kernel_rfl
theorem stateNone_j23 : Rows.stateNoneRow.shortTexts.isNone = true := by kernel_rfl
theorem stateNone_j24 : Tryz.prog.stopsHeard = true := by kernel_rfl
theorem stateNone_j25 : Tryz.prog.mayEnter = true := by kernel_rfl
theorem stateNone_j26 : (Rows.stateNoneRow.lifted == Tryz.prog.liftsFinal) = true := by kernel_rfl
theorem stateNone_j27 : (Tryz.prog.make == some Rows.stateNoneRow.make) = true := by kernel_rfl
theorem stateNone_j28 : (Rows.stateNoneRow.kinds == (if Rows.stateNoneRow.domain.isEmpty then [] else Tryz.f4.params.toList.map fun t => match Tryz.prog.underlying t with | some (.int k) => some k | _ => none)) = true := by kernel_rfl
theorem stateNone_j29 : (Rows.stateNoneRow.pinned == Rows.stateNoneRow.pinnedBy) = true := by kernel_rfl
theorem stateNone_j30 : (Rows.stateNoneRow.veiled == (Tryz.f4.params.toList ++ Rows.stateNoneSpec.plain.varTypes Tryz.prog ++ Tryz.f4.resultTypes.toList).any (Tryz.prog.veiledRec ·)) = true := by kernel_rfl
theorem stateNone_j31 : Rows.stateNoneRow.veiledFits Tryz.prog Tryz.f4.params.toList (Tryz.f4.params.toList ++ Rows.stateNoneSpec.plain.varTypes Tryz.prog ++ Tryz.f4.resultTypes.toList) = true := by kernel_rfl
end Go.Proofs.YtpiogibkleaaaaaGreatDoor
