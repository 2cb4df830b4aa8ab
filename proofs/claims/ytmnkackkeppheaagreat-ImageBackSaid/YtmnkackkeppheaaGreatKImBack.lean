/- the closed facts of the row imageBack -/
import Derived.Test.YtmnkackkeppheaaGreatChecked
import Derived.Test.YtmnkackkeppheaaGreatRows
import Derived.ProofKit
namespace Go.Proofs.YtmnkackkeppheaaGreat
open Go.RowKit

theorem and_tt {a b : Bool} (ha : a = true) (hb : b = true) : (a && b) = true := by rw [ha, hb]; rfl
theorem imageBack_j0 : Rows.imageBackRow.wf (OpenSpec.ofChange Rows.imageBackSpec) = true := by kernel_rfl
theorem imageBack_j1 : laidOutB Tryz.prog = true := by kernel_rfl
theorem imageBack_j2 : mapsRowed Tryz.prog = true := by kernel_rfl
theorem imageBack_j3 : Tryz.f4.params.all (Tryz.prog.readableRec ·) = true := by kernel_rfl
theorem imageBack_j4 : namedTie Tryz.prog Rows.imageBackRow.named Rows.imageBackSpec.vars = true := by kernel_rfl
theorem imageBack_j5 : (Rows.imageBackRow.stops == []) = true := by kernel_rfl
theorem imageBack_j6 : (Tryz.prog.stops == []) = true := by kernel_rfl
theorem imageBack_j7 : (Rows.imageBackRow.knobs == []) = true := by kernel_rfl
theorem imageBack_j8 : (Tryz.prog.stopKnobs == []) = true := by kernel_rfl
theorem imageBack_j9 : (Rows.imageBackRow.inPlace == Tryz.prog.inPlace 4) = true := by kernel_rfl
theorem imageBack_j10 : (Rows.imageBackRow.unfollowed == Tryz.prog.unfollowed 4) = true := by kernel_rfl
theorem imageBack_j11 : (Rows.imageBackRow.recurses == Tryz.prog.recurses 4) = true := by kernel_rfl
theorem imageBack_j12 : (Rows.imageBackRow.named == Tryz.prog.varsNamed 4) = true := by kernel_rfl
theorem imageBack_j13 : (Rows.imageBackRow.maps == (Tryz.f4.params.toList ++ Rows.imageBackSpec.plain.varTypes Tryz.prog).any (Tryz.prog.mapsRec ·)) = true := by kernel_rfl
theorem imageBack_j14 : (Rows.imageBackRow.ifaces == (Tryz.f4.params.toList ++ Rows.imageBackSpec.plain.varTypes Tryz.prog).any (Tryz.prog.ifacesRec ·)) = true := by kernel_rfl
theorem imageBack_j15 : (Rows.imageBackRow.mapsOut == Tryz.prog.mapsAmong Tryz.f4.resultTypes.toList) = true := by kernel_rfl
theorem imageBack_j16 : (Rows.imageBackRow.loops == (Tryz.f4.params.toList ++ Rows.imageBackSpec.plain.varTypes Tryz.prog).any (Tryz.prog.loopsFrom ·)) = true := by kernel_rfl
theorem imageBack_j17 : (Rows.imageBackRow.wideKeys == (Tryz.f4.params.toList ++ Rows.imageBackSpec.plain.varTypes Tryz.prog ++ Tryz.f4.resultTypes.toList).any (Tryz.prog.wideKeysFrom ·)) = true := by kernel_rfl
theorem imageBack_j18 : Rows.imageBackSpec.vars.all (Tryz.prog.varReadable ·) = true := by kernel_rfl
theorem imageBack_j19 : Tryz.f4.resultTypes.all (fun t => Tryz.prog.readableRec t && decide (t < Tryz.prog.types.size)) = true := by kernel_rfl
theorem imageBack_j20 : (Rows.imageBackRow.ifacesOut == Tryz.f4.resultTypes.toList.any (Tryz.prog.ifacesRec ·)) = true := by kernel_rfl
theorem imageBack_j21 : (Rows.imageBackRow.loopsOut == Tryz.f4.resultTypes.toList.any (Tryz.prog.loopsFrom ·)) = true := by kernel_rfl
theorem imageBack_j22 : (Rows.imageBackRow.plainKeys == Tryz.prog.plainKeys) = true := by kernel_rfl
theorem imageBack_j23 : Rows.imageBackRow.shortTexts.isNone = true := by kernel_rfl
theorem imageBack_j24 : Tryz.prog.stopsHeard = true := by kernel_rfl
theorem imageBack_j25 : Tryz.prog.mayEnter = true := by kernel_rfl
theorem imageBack_j26 : (Rows.imageBackRow.lifted == Tryz.prog.liftsFinal) = true := by kernel_rfl
theorem imageBack_j27 : (Tryz.prog.make == some Rows.imageBackRow.make) = true := by kernel_rfl
theorem imageBack_j28 : (Rows.imageBackRow.kinds == (if Rows.imageBackRow.domain.isEmpty then [] else Tryz.f4.params.toList.map fun t => match Tryz.prog.underlying t with | some (.int k) => some k | _ => none)) = true := by kernel_rfl
theorem imageBack_j29 : (Rows.imageBackRow.pinned == Rows.imageBackRow.pinnedBy) = true := by kernel_rfl
theorem imageBack_j30 : (Rows.imageBackRow.veiled == (Tryz.f4.params.toList ++ Rows.imageBackSpec.plain.varTypes Tryz.prog ++ Tryz.f4.resultTypes.toList).any (Tryz.prog.veiledRec ·)) = true := by kernel_rfl
theorem imageBack_j31 : Rows.imageBackRow.veiledFits Tryz.prog Tryz.f4.params.toList (Tryz.f4.params.toList ++ Rows.imageBackSpec.plain.varTypes Tryz.prog ++ Tryz.f4.resultTypes.toList) = true := by kernel_rfl
end Go.Proofs.YtmnkackkeppheaaGreat
