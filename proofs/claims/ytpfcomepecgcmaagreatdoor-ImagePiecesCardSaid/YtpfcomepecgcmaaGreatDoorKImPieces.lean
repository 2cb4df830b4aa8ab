/- the closed facts of the row imagePieces -/
import Derived.Test.YtpfcomepecgcmaaGreatDoorChecked
import Derived.Test.YtpfcomepecgcmaaGreatDoorRows
import Derived.ProofKit
namespace Go.Proofs.YtpfcomepecgcmaaGreatDoor
open Go.RowKit

theorem and_tt {a b : Bool} (ha : a = true) (hb : b = true) : (a && b) = true := by rw [ha, hb]; rfl
theorem imagePieces_j0 : Rows.imagePiecesRow.wf (OpenSpec.ofChange Rows.imagePiecesSpec) = true := by kernel_rfl
theorem imagePieces_j1 : laidOutB Tryz.prog = true := by kernel_rfl
theorem imagePieces_j2 : mapsRowed Tryz.prog = true := by kernel_rfl
theorem imagePieces_j3 : Tryz.f3.params.all (Tryz.prog.readableRec ·) = true := by kernel_rfl
theorem imagePieces_j4 : namedTie Tryz.prog Rows.imagePiecesRow.named Rows.imagePiecesSpec.vars = true := by kernel_rfl
theorem imagePieces_j5 : (Rows.imagePiecesRow.stops == []) = true := by kernel_rfl
theorem imagePieces_j6 : (Tryz.prog.stops == []) = true := by kernel_rfl
theorem imagePieces_j7 : (Rows.imagePiecesRow.knobs == []) = true := by kernel_rfl
theorem imagePieces_j8 : (Tryz.prog.stopKnobs == []) = true := by kernel_rfl
theorem imagePieces_j9 : (Rows.imagePiecesRow.inPlace == Tryz.prog.inPlace 3) = true := by kernel_rfl
theorem imagePieces_j10 : (Rows.imagePiecesRow.unfollowed == Tryz.prog.unfollowed 3) = true := by kernel_rfl
theorem imagePieces_j11 : (Rows.imagePiecesRow.recurses == Tryz.prog.recurses 3) = true := by kernel_rfl
theorem imagePieces_j12 : (Rows.imagePiecesRow.named == Tryz.prog.varsNamed 3) = true := by kernel_rfl
theorem imagePieces_j13 : (Rows.imagePiecesRow.maps == (Tryz.f3.params.toList ++ Rows.imagePiecesSpec.plain.varTypes Tryz.prog).any (Tryz.prog.mapsRec ·)) = true := by kernel_rfl
theorem imagePieces_j14 : (Rows.imagePiecesRow.ifaces == (Tryz.f3.params.toList ++ Rows.imagePiecesSpec.plain.varTypes Tryz.prog).any (Tryz.prog.ifacesRec ·)) = true := by kernel_rfl
theorem imagePieces_j15 : (Rows.imagePiecesRow.mapsOut == Tryz.prog.mapsAmong Tryz.f3.resultTypes.toList) = true := by kernel_rfl
theorem imagePieces_j16 : (Rows.imagePiecesRow.loops == (Tryz.f3.params.toList ++ Rows.imagePiecesSpec.plain.varTypes Tryz.prog).any (Tryz.prog.loopsFrom ·)) = true := by kernel_rfl
theorem imagePieces_j17 : (Rows.imagePiecesRow.wideKeys == (Tryz.f3.params.toList ++ Rows.imagePiecesSpec.plain.varTypes Tryz.prog ++ Tryz.f3.resultTypes.toList).any (Tryz.prog.wideKeysFrom ·)) = true := by kernel_rfl
theorem imagePieces_j18 : Rows.imagePiecesSpec.vars.all (Tryz.prog.varReadable ·) = true := by kernel_rfl
theorem imagePieces_j19 : Tryz.f3.resultTypes.all (fun t => Tryz.prog.readableRec t && decide (t < Tryz.prog.types.size)) = true := by kernel_rfl
theorem imagePieces_j20 : (Rows.imagePiecesRow.ifacesOut == Tryz.f3.resultTypes.toList.any (Tryz.prog.ifacesRec ·)) = true := by kernel_rfl
theorem imagePieces_j21 : (Rows.imagePiecesRow.loopsOut == Tryz.f3.resultTypes.toList.any (Tryz.prog.loopsFrom ·)) = true := by kernel_rfl
theorem imagePieces_j22 : (Rows.imagePiecesRow.plainKeys == Tryz.prog.plainKeys) = true := by kernel_rfl
theorem imagePieces_j23 : Rows.imagePiecesRow.shortTexts.isNone = true := by kernel_rfl
theorem imagePieces_j24 : Tryz.prog.stopsHeard = true := by kernel_rfl
theorem imagePieces_j25 : Tryz.prog.mayEnter = true := by kernel_rfl
theorem imagePieces_j26 : (Rows.imagePiecesRow.lifted == Tryz.prog.liftsFinal) = true := by kernel_rfl
theorem imagePieces_j27 : (Tryz.prog.make == some Rows.imagePiecesRow.make) = true := by kernel_rfl
theorem imagePieces_j28 : (Rows.imagePiecesRow.kinds == (if Rows.imagePiecesRow.domain.isEmpty then [] else Tryz.f3.params.toList.map fun t => match Tryz.prog.underlying t with | some (.int k) => some k | _ => none)) = true := by kernel_rfl
theorem imagePieces_j29 : (Rows.imagePiecesRow.pinned == Rows.imagePiecesRow.pinnedBy) = true := by kernel_rfl
theorem imagePieces_j30 : (Rows.imagePiecesRow.veiled == (Tryz.f3.params.toList ++ Rows.imagePiecesSpec.plain.varTypes Tryz.prog ++ Tryz.f3.resultTypes.toList).any (Tryz.prog.veiledRec ·)) = true := by kernel_rfl
theorem imagePieces_j31 : Rows.imagePiecesRow.veiledFits Tryz.prog Tryz.f3.params.toList (Tryz.f3.params.toList ++ Rows.imagePiecesSpec.plain.varTypes Tryz.prog ++ Tryz.f3.resultTypes.toList) = true := by kernel_rfl
end Go.Proofs.YtpfcomepecgcmaaGreatDoor
