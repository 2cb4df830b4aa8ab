/-
  DERIVED. GIVEN WITH THE SEED: THE CARDS: each row of YtpjkimdmbgkpcaaGreatDoorRows.lean that lists a variable, with what it lists TIED to the program's text (the seventh form; the later family's looks); each row that meets fmt, with fmt's text TOLD by the authors' own Lean function (tested against real Go, not proved from fmt's source: count such statements apart). THE CARD IS WHAT COUNTS. Prove the row's statement (the work); the ties are given (YtpjkimdmbgkpcaaGreatDoorTie.lean); close each card by the builder's one call (the guide's Derived/Test/ToyasCard.lean, 'card_holds'). Laid BY PROGRAM, IN A SANDBOX (cutbox-door.mjs). By AI agents, Wed Nov 11 2026. No macro, syntax, notation, axiom, sorry.
-/
import Derived.Test.YtpjkimdmbgkpcaaGreatDoorRows
import GoSem.ClaimSeven
namespace Go.Proofs.YtpjkimdmbgkpcaaGreatDoor
namespace Rows

/-- THE TIED CARD OF 'escheatlaw25.StateSames'. -/
def stateSamesCard : Claim7 := { stood := { row := stateSamesRow, standIns := [], harness := (true, "2a74713b51849bb1510c08fcd908d64d16844c1c6d3ca96a3db72006de3f63e5"), looks := true }, kinds := [], alts := [], laidByText := true, laidKinds := [.data], laidTests := true, laidLooks := .later }
def StateSamesCardSaid : Prop := Claim7.holds Tryz.pinned (.plain (OpenSpec.ofChange stateSamesSpec)) stateSamesCard

/-- THE TIED CARD OF 'escheatlaw25.StateOpens'. -/
def stateOpensCard : Claim7 := { stood := { row := stateOpensRow, standIns := [], harness := (true, "2a74713b51849bb1510c08fcd908d64d16844c1c6d3ca96a3db72006de3f63e5"), looks := true }, kinds := [], alts := [], laidByText := true, laidKinds := [.data], laidTests := true, laidLooks := .later }
def StateOpensCardSaid : Prop := Claim7.holds Tryz.pinned (.plain (OpenSpec.ofChange stateOpensSpec)) stateOpensCard

/-- THE TIED CARD OF 'escheatlaw26.ImageNone'. -/
def imageNoneCard : Claim7 := { stood := { row := imageNoneRow, standIns := [], harness := (true, "2a74713b51849bb1510c08fcd908d64d16844c1c6d3ca96a3db72006de3f63e5"), looks := true }, kinds := [], alts := [], laidByText := true, laidKinds := [.data], laidTests := true, laidLooks := .later }
def ImageNoneCardSaid : Prop := Claim7.holds Tryz.pinned (.plain (OpenSpec.ofChange imageNoneSpec)) imageNoneCard

/-- THE TIED CARD OF 'escheatlaw26.ImagePieces'. -/
def imagePiecesCard : Claim7 := { stood := { row := imagePiecesRow, standIns := [], harness := (true, "2a74713b51849bb1510c08fcd908d64d16844c1c6d3ca96a3db72006de3f63e5"), looks := true }, kinds := [], alts := [], laidByText := true, laidKinds := [.data], laidTests := true, laidLooks := .later }
def ImagePiecesCardSaid : Prop := Claim7.holds Tryz.pinned (.plain (OpenSpec.ofChange imagePiecesSpec)) imagePiecesCard

/-- THE TIED CARD OF 'escheatlaw26.ImageJoins'. -/
def imageJoinsCard : Claim7 := { stood := { row := imageJoinsRow, standIns := [], harness := (true, "2a74713b51849bb1510c08fcd908d64d16844c1c6d3ca96a3db72006de3f63e5"), looks := true }, kinds := [], alts := [], laidByText := true, laidKinds := [.data], laidTests := true, laidLooks := .later }
def ImageJoinsCardSaid : Prop := Claim7.holds Tryz.pinned (.plain (OpenSpec.ofChange imageJoinsSpec)) imageJoinsCard

/-- THE TIED CARD OF 'escheatlaw25.StateNone'. -/
def stateNoneCard : Claim7 := { stood := { row := stateNoneRow, standIns := [], harness := (true, "2a74713b51849bb1510c08fcd908d64d16844c1c6d3ca96a3db72006de3f63e5"), looks := true }, kinds := [], alts := [], laidByText := true, laidKinds := [.data], laidTests := true, laidLooks := .later }
def StateNoneCardSaid : Prop := Claim7.holds Tryz.pinned (.plain (OpenSpec.ofChange stateNoneSpec)) stateNoneCard

/-- THE SECOND FORM's CARD OF 'escheatlaw25.StateSames'. -/
def stateSamesUptoCard : Claim7 := { stood := { row := stateSamesUptoRow, standIns := [], harness := (true, "2a74713b51849bb1510c08fcd908d64d16844c1c6d3ca96a3db72006de3f63e5"), looks := true }, kinds := [], alts := [], laidByText := true, laidKinds := [.data], laidTests := true, laidLooks := .later }
def StateSamesUptoCardSaid : Prop := Claim7.holds Tryz.pinned (.plain (OpenSpec.upto stateSamesSpec)) stateSamesUptoCard

/-- THE SECOND FORM's CARD OF 'escheatlaw25.StateOpens'. -/
def stateOpensUptoCard : Claim7 := { stood := { row := stateOpensUptoRow, standIns := [], harness := (true, "2a74713b51849bb1510c08fcd908d64d16844c1c6d3ca96a3db72006de3f63e5"), looks := true }, kinds := [], alts := [], laidByText := true, laidKinds := [.data], laidTests := true, laidLooks := .later }
def StateOpensUptoCardSaid : Prop := Claim7.holds Tryz.pinned (.plain (OpenSpec.upto stateOpensSpec)) stateOpensUptoCard

/-- THE SECOND FORM's CARD OF 'escheatlaw26.ImageNone'. -/
def imageNoneUptoCard : Claim7 := { stood := { row := imageNoneUptoRow, standIns := [], harness := (true, "2a74713b51849bb1510c08fcd908d64d16844c1c6d3ca96a3db72006de3f63e5"), looks := true }, kinds := [], alts := [], laidByText := true, laidKinds := [.data], laidTests := true, laidLooks := .later }
def ImageNoneUptoCardSaid : Prop := Claim7.holds Tryz.pinned (.plain (OpenSpec.upto imageNoneSpec)) imageNoneUptoCard

/-- THE SECOND FORM's CARD OF 'escheatlaw26.ImagePieces'. -/
def imagePiecesUptoCard : Claim7 := { stood := { row := imagePiecesUptoRow, standIns := [], harness := (true, "2a74713b51849bb1510c08fcd908d64d16844c1c6d3ca96a3db72006de3f63e5"), looks := true }, kinds := [], alts := [], laidByText := true, laidKinds := [.data], laidTests := true, laidLooks := .later }
def ImagePiecesUptoCardSaid : Prop := Claim7.holds Tryz.pinned (.plain (OpenSpec.upto imagePiecesSpec)) imagePiecesUptoCard

/-- THE SECOND FORM's CARD OF 'escheatlaw26.ImageJoins'. -/
def imageJoinsUptoCard : Claim7 := { stood := { row := imageJoinsUptoRow, standIns := [], harness := (true, "2a74713b51849bb1510c08fcd908d64d16844c1c6d3ca96a3db72006de3f63e5"), looks := true }, kinds := [], alts := [], laidByText := true, laidKinds := [.data], laidTests := true, laidLooks := .later }
def ImageJoinsUptoCardSaid : Prop := Claim7.holds Tryz.pinned (.plain (OpenSpec.upto imageJoinsSpec)) imageJoinsUptoCard

/-- THE SECOND FORM's CARD OF 'escheatlaw25.StateNone'. -/
def stateNoneUptoCard : Claim7 := { stood := { row := stateNoneUptoRow, standIns := [], harness := (true, "2a74713b51849bb1510c08fcd908d64d16844c1c6d3ca96a3db72006de3f63e5"), looks := true }, kinds := [], alts := [], laidByText := true, laidKinds := [.data], laidTests := true, laidLooks := .later }
def StateNoneUptoCardSaid : Prop := Claim7.holds Tryz.pinned (.plain (OpenSpec.upto stateNoneSpec)) stateNoneUptoCard
end Rows
end Go.Proofs.YtpjkimdmbgkpcaaGreatDoor
