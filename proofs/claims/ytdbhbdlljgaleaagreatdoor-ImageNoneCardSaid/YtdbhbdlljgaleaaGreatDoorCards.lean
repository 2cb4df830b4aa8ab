/-
  DERIVED. GIVEN WITH THE SEED: THE CARDS: each row of YtdbhbdlljgaleaaGreatDoorRows.lean that lists a variable, with what it lists TIED to the program's text (the seventh form; the later family's looks); each row that meets fmt, with fmt's text TOLD by the authors' own Lean function (tested against real Go, not proved from fmt's source: count such statements apart). THE CARD IS WHAT COUNTS. Prove the row's statement (the work); the ties are given (YtdbhbdlljgaleaaGreatDoorTie.lean); close each card by the builder's one call (the guide's Derived/Test/ToyasCard.lean, 'card_holds'). Laid BY PROGRAM, IN A SANDBOX (cutbox-door.mjs). By AI agents, Wed Nov 11 2026. No macro, syntax, notation, axiom, sorry.
-/
import Derived.Test.YtdbhbdlljgaleaaGreatDoorRows
import GoSem.ClaimSeven
namespace Go.Proofs.YtdbhbdlljgaleaaGreatDoor
namespace Rows

/-- THE TIED CARD OF 'escheatlaw26.ImageNone'. -/
def imageNoneCard : Claim7 := { stood := { row := imageNoneRow, standIns := [], harness := (true, "455d5b011592c6ccd2e9d2d6001c47629e3bfea3b649e7bfd519049d40bb4e1b"), looks := true }, kinds := [], alts := [], laidByText := true, laidKinds := [.data], laidTests := true, laidLooks := .later }
def ImageNoneCardSaid : Prop := Claim7.holds Tryz.pinned (.plain (OpenSpec.ofChange imageNoneSpec)) imageNoneCard

/-- THE TIED CARD OF 'escheatlaw26.ImagePieces'. -/
def imagePiecesCard : Claim7 := { stood := { row := imagePiecesRow, standIns := [], harness := (true, "455d5b011592c6ccd2e9d2d6001c47629e3bfea3b649e7bfd519049d40bb4e1b"), looks := true }, kinds := [], alts := [], laidByText := true, laidKinds := [.data], laidTests := true, laidLooks := .later }
def ImagePiecesCardSaid : Prop := Claim7.holds Tryz.pinned (.plain (OpenSpec.ofChange imagePiecesSpec)) imagePiecesCard

/-- THE TIED CARD OF 'escheatlaw26.ImageJoins'. -/
def imageJoinsCard : Claim7 := { stood := { row := imageJoinsRow, standIns := [], harness := (true, "455d5b011592c6ccd2e9d2d6001c47629e3bfea3b649e7bfd519049d40bb4e1b"), looks := true }, kinds := [], alts := [], laidByText := true, laidKinds := [.data], laidTests := true, laidLooks := .later }
def ImageJoinsCardSaid : Prop := Claim7.holds Tryz.pinned (.plain (OpenSpec.ofChange imageJoinsSpec)) imageJoinsCard

/-- THE SECOND FORM's CARD OF 'escheatlaw26.ImageNone'. -/
def imageNoneUptoCard : Claim7 := { stood := { row := imageNoneUptoRow, standIns := [], harness := (true, "455d5b011592c6ccd2e9d2d6001c47629e3bfea3b649e7bfd519049d40bb4e1b"), looks := true }, kinds := [], alts := [], laidByText := true, laidKinds := [.data], laidTests := true, laidLooks := .later }
def ImageNoneUptoCardSaid : Prop := Claim7.holds Tryz.pinned (.plain (OpenSpec.upto imageNoneSpec)) imageNoneUptoCard

/-- THE SECOND FORM's CARD OF 'escheatlaw26.ImagePieces'. -/
def imagePiecesUptoCard : Claim7 := { stood := { row := imagePiecesUptoRow, standIns := [], harness := (true, "455d5b011592c6ccd2e9d2d6001c47629e3bfea3b649e7bfd519049d40bb4e1b"), looks := true }, kinds := [], alts := [], laidByText := true, laidKinds := [.data], laidTests := true, laidLooks := .later }
def ImagePiecesUptoCardSaid : Prop := Claim7.holds Tryz.pinned (.plain (OpenSpec.upto imagePiecesSpec)) imagePiecesUptoCard

/-- THE SECOND FORM's CARD OF 'escheatlaw26.ImageJoins'. -/
def imageJoinsUptoCard : Claim7 := { stood := { row := imageJoinsUptoRow, standIns := [], harness := (true, "455d5b011592c6ccd2e9d2d6001c47629e3bfea3b649e7bfd519049d40bb4e1b"), looks := true }, kinds := [], alts := [], laidByText := true, laidKinds := [.data], laidTests := true, laidLooks := .later }
def ImageJoinsUptoCardSaid : Prop := Claim7.holds Tryz.pinned (.plain (OpenSpec.upto imageJoinsSpec)) imageJoinsUptoCard
end Rows
end Go.Proofs.YtdbhbdlljgaleaaGreatDoor
