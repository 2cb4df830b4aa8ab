/- the closed facts of the row imageNone -/
import Derived.Test.YtdbhbdlljgaleaaGreatDoorChecked
import Derived.Test.YtdbhbdlljgaleaaGreatDoorRows
import Derived.ProofKit
namespace Go.Proofs.YtdbhbdlljgaleaaGreatDoor
open Go.RowKit

theorem and_tt {a b : Bool} (ha : a = true) (hb : b = true) : (a && b) = true := by rw [ha, hb]; rfl
theorem imageNone_j0 : Rows.imageNoneRow.wf (OpenSpec.ofChange Rows.imageNoneSpec) = true := by kernel_rfl
theorem imageNone_j1 : laidOutB Tryz.prog = true := by kernel_rfl
theorem imageNone_j2 : mapsRowed Tryz.prog = true := by kernel_rfl
theorem imageNone_j3 : Tryz.f3.params.all (Tryz.prog.readableRec ·) = true := by kernel_rfl
theorem imageNone_j4 : namedTie Tryz.prog Rows.imageNoneRow.named Rows.imageNoneSpec.vars = true := by kernel_rfl
theorem imageNone_j5 : (Rows.imageNoneRow.stops == []) = true := by kernel_rfl
theorem imageNone_j6 : (Tryz.prog.stops == []) = true := by kernel_rfl
theorem imageNone_j7 : (Rows.imageNoneRow.knobs == []) = true := by kernel_rfl
theorem imageNone_j8 : (Tryz.prog.stopKnobs == []) = true := by kernel_rfl
theorem imageNone_j9 : (Rows.imageNoneRow.inPlace == Tryz.prog.inPlace 3) = true := by kernel_rfl
theorem imageNone_j10 : (Rows.imageNoneRow.unfollowed == Tryz.prog.unfollowed 3) = true := by kernel_rfl
theorem imageNone_j11 : (Rows.imageNoneRow.recurses == Tryz.prog.recurses 3) = true := by kernel_rfl
theorem imageNone_j12 : (Rows.imageNoneRow.named == Tryz.prog.varsNamed 3) = true := by kernel_rfl
theorem imageNone_j13 : (Rows.imageNoneRow.maps == (Tryz.f3.params.toList ++ Rows.imageNoneSpec.plain.varTypes Tryz.prog).any (Tryz.prog.mapsRec ·)) = true := by kernel_rfl
theorem imageNone_j14 : (Rows.imageNoneRow.ifaces == (Tryz.f3.params.toList ++ Rows.imageNoneSpec.plain.varTypes Tryz.prog).any (Tryz.prog.ifacesRec ·)) = true := by kernel_rfl
theorem imageNone_j15 : (Rows.imageNoneRow.mapsOut == Tryz.prog.mapsAmong Tryz.f3.resultTypes.toList) = true := by kernel_rfl
theorem imageNone_j16 : (Rows.imageNoneRow.loops == (Tryz.f3.params.toList ++ Rows.imageNoneSpec.plain.varTypes Tryz.prog).any (Tryz.prog.loopsFrom ·)) = true := by kernel_rfl
theorem imageNone_j17 : (Rows.imageNoneRow.wideKeys == (Tryz.f3.params.toList ++ Rows.imageNoneSpec.plain.varTypes Tryz.prog ++ Tryz.f3.resultTypes.toList).any (Tryz.prog.wideKeysFrom ·)) = true := by kernel_rfl
theorem imageNone_j18 : Rows.imageNoneSpec.vars.all (Tryz.prog.varReadable ·) = true := by kernel_rfl
theorem imageNone_j19 : Tryz.f3.resultTypes.all (fun t => Tryz.prog.readableRec t && decide (t < Tryz.prog.types.size)) = true := by kernel_rfl
theorem imageNone_j20 : (Rows.imageNoneRow.ifacesOut == Tryz.f3.resultTypes.toList.any (Tryz.prog.ifacesRec ·)) = true := by kernel_rfl
theorem imageNone_j21 : (Rows.imageNoneRow.loopsOut == Tryz.f3.resultTypes.toList.any (Tryz.prog.loopsFrom ·)) = true := by kernel_rfl
theorem imageNone_j22 : (Rows.imageNoneRow.plainKeys == Tryz.prog.plainKeys) = true := by kernel_rfl
theorem imageNone_j23 : Rows.imageNoneRow.shortTexts.isNone = true := by kernel_rfl
theorem imageNone_j24 : Tryz.prog.stopsHeard = true := by kernel_rfl
theorem imageNone_j25 : Tryz.prog.mayEnter = true := by kernel_rfl
theorem imageNone_j26 : (Rows.imageNoneRow.lifted == Tryz.prog.liftsFinal) = true := by kernel_rfl
theorem imageNone_j27 : (Tryz.prog.make == some Rows.imageNoneRow.make) = true := by kernel_rfl
theorem imageNone_j28 : (Rows.imageNoneRow.kinds == (if Rows.imageNoneRow.domain.isEmpty then [] else Tryz.f3.params.toList.map fun t => match Tryz.prog.underlying t with | some (.int k) => some k | _ => none)) = true := by kernel_rfl
theorem imageNone_j29 : (Rows.imageNoneRow.pinned == Rows.imageNoneRow.pinnedBy) = true := by kernel_rfl
theorem imageNone_j30 : (Rows.imageNoneRow.veiled == (Tryz.f3.params.toList ++ Rows.imageNoneSpec.plain.varTypes Tryz.prog ++ Tryz.f3.resultTypes.toList).any (Tryz.prog.veiledRec ·)) = true := by kernel_rfl
theorem imageNone_j31 : Rows.imageNoneRow.veiledFits Tryz.prog Tryz.f3.params.toList (Tryz.f3.params.toList ++ Rows.imageNoneSpec.plain.varTypes Tryz.prog ++ Tryz.f3.resultTypes.toList) = true := by kernel_rfl
end Go.Proofs.YtdbhbdlljgaleaaGreatDoor
