/- the closed facts of the row stateOnce -/
import Derived.Test.YtajbooppoohplaaGreatDoorMac
import Derived.Test.YtajbooppoohplaaGreatDoorChecked
import Derived.Test.YtajbooppoohplaaGreatDoorRows
import Derived.ProofKit
namespace Go.Proofs.YtajbooppoohplaaGreatDoor
open Go.RowKit

theorem and_tt {a b : Bool} (ha : a = true) (hb : b = true) : (a && b) = true := by rw [ha, hb]; rfl
theorem stateOnce_j0 : Rows.stateOnceRow.wf (OpenSpec.ofChange Rows.stateOnceSpec) = true := by kernel_rfl
theorem stateOnce_j1 : laidOutB Tryz.prog = true := by kernel_rfl
theorem stateOnce_j2 : mapsRowed Tryz.prog = true := by kernel_rfl
theorem stateOnce_j3 : Tryz.f3.params.all (Tryz.prog.readableRec ·) = true := by kernel_rfl
theorem stateOnce_j4 : namedTie Tryz.prog Rows.stateOnceRow.named Rows.stateOnceSpec.vars = true := by kernel_rfl
theorem stateOnce_j5 : (Rows.stateOnceRow.stops == []) = true := by kernel_rfl
theorem stateOnce_j6 : (Tryz.prog.stops == []) = true := by kernel_rfl
theorem stateOnce_j7 : (Rows.stateOnceRow.knobs == []) = true := by kernel_rfl
theorem stateOnce_j8 : (Tryz.prog.stopKnobs == []) = true := by kernel_rfl
theorem stateOnce_j9 : (Rows.stateOnceRow.inPlace == Tryz.prog.inPlace 3) = true := by kernel_rfl
theorem stateOnce_j10 : (Rows.stateOnceRow.unfollowed == Tryz.prog.unfollowed 3) = true := by kernel_rfl
theorem stateOnce_j11 : (Rows.stateOnceRow.recurses == Tryz.prog.recurses 3) = true := by kernel_rfl
theorem stateOnce_j12 : (Rows.stateOnceRow.named == Tryz.prog.varsNamed 3) = true := by kernel_rfl
theorem stateOnce_j13 : (Rows.stateOnceRow.maps == (Tryz.f3.params.toList ++ Rows.stateOnceSpec.plain.varTypes Tryz.prog).any (Tryz.prog.mapsRec ·)) = true := by kernel_rfl
theorem stateOnce_j14 : (Rows.stateOnceRow.ifaces == (Tryz.f3.params.toList ++ Rows.stateOnceSpec.plain.varTypes Tryz.prog).any (Tryz.prog.ifacesRec ·)) = true := by kernel_rfl
theorem stateOnce_j15 : (Rows.stateOnceRow.mapsOut == Tryz.prog.mapsAmong Tryz.f3.resultTypes.toList) = true := by kernel_rfl
theorem stateOnce_j16 : (Rows.stateOnceRow.loops == (Tryz.f3.params.toList ++ Rows.stateOnceSpec.plain.varTypes Tryz.prog).any (Tryz.prog.loopsFrom ·)) = true := by kernel_rfl
theorem stateOnce_j17 : (Rows.stateOnceRow.wideKeys == (Tryz.f3.params.toList ++ Rows.stateOnceSpec.plain.varTypes Tryz.prog ++ Tryz.f3.resultTypes.toList).any (Tryz.prog.wideKeysFrom ·)) = true := by kernel_rfl
theorem stateOnce_j18 : Rows.stateOnceSpec.vars.all (Tryz.prog.varReadable ·) = true := by kernel_rfl
theorem stateOnce_j19 : Tryz.f3.resultTypes.all (fun t => Tryz.prog.readableRec t && decide (t < Tryz.prog.types.size)) = true := by kernel_rfl
theorem stateOnce_j20 : (Rows.stateOnceRow.ifacesOut == Tryz.f3.resultTypes.toList.any (Tryz.prog.ifacesRec ·)) = true := by kernel_rfl
theorem stateOnce_j21 : (Rows.stateOnceRow.loopsOut == Tryz.f3.resultTypes.toList.any (Tryz.prog.loopsFrom ·)) = true := by kernel_rfl
theorem stateOnce_j22 : (Rows.stateOnceRow.plainKeys == Tryz.prog.plainKeys) = true := by kernel_rfl
theorem stateOnce_j23 : Rows.stateOnceRow.shortTexts.isNone = true := by kernel_rfl
theorem stateOnce_j24 : Tryz.prog.stopsHeard = true := by kernel_rfl
theorem stateOnce_j25 : Tryz.prog.mayEnter = true := by kernel_rfl
theorem stateOnce_j26 : (Rows.stateOnceRow.lifted == Tryz.prog.liftsFinal) = true := by kernel_rfl
theorem stateOnce_j27 : (Tryz.prog.make == some Rows.stateOnceRow.make) = true := by kernel_rfl
theorem stateOnce_j28 : (Rows.stateOnceRow.kinds == (if Rows.stateOnceRow.domain.isEmpty then [] else Tryz.f3.params.toList.map fun t => match Tryz.prog.underlying t with | some (.int k) => some k | _ => none)) = true := by kernel_rfl
theorem stateOnce_j29 : (Rows.stateOnceRow.pinned == Rows.stateOnceRow.pinnedBy) = true := by kernel_rfl
theorem stateOnce_j30 : (Rows.stateOnceRow.veiled == (Tryz.f3.params.toList ++ Rows.stateOnceSpec.plain.varTypes Tryz.prog ++ Tryz.f3.resultTypes.toList).any (Tryz.prog.veiledRec ·)) = true := by kernel_rfl
theorem stateOnce_j31 : Rows.stateOnceRow.veiledFits Tryz.prog Tryz.f3.params.toList (Tryz.f3.params.toList ++ Rows.stateOnceSpec.plain.varTypes Tryz.prog ++ Tryz.f3.resultTypes.toList) = true := by kernel_rfl
end Go.Proofs.YtajbooppoohplaaGreatDoor
