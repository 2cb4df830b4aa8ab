/-
  DERIVED. GIVEN WITH THE SEED: THE CARDS: each row of YtpfcomepecgcmaaGreatDoorRows.lean that lists a variable, with what it lists TIED to the program's text (the seventh form; the later family's looks); each row that meets fmt, with fmt's text TOLD by the authors' own Lean function (tested against real Go, not proved from fmt's source: count such statements apart). THE CARD IS WHAT COUNTS. Prove the row's statement (the work); the ties are given (YtpfcomepecgcmaaGreatDoorTie.lean); close each card by the builder's one call (the guide's Derived/Test/ToyasCard.lean, 'card_holds'). Laid BY PROGRAM, IN A SANDBOX (cutbox-door.mjs). By AI agents, Wed Nov 11 2026. No macro, syntax, notation, axiom, sorry.
-/
import Derived.Test.YtpfcomepecgcmaaGreatDoorRows
import GoSem.ClaimSeven
namespace Go.Proofs.YtpfcomepecgcmaaGreatDoor
namespace Rows

/-- THE TIED CARD OF 'escheatlaw26.ImagePieces'. -/
def imagePiecesCard : Claim7 := { stood := { row := imagePiecesRow, standIns := [], harness := (true, "ea313fd0955d2b0a9dd6f7558fa7369ce8c3f3562d26ce71a29ccecc4857c907"), looks := true }, kinds := [], alts := [], laidByText := true, laidKinds := [.data], laidTests := true, laidLooks := .later }
def ImagePiecesCardSaid : Prop := Claim7.holds Tryz.pinned (.plain (OpenSpec.ofChange imagePiecesSpec)) imagePiecesCard

/-- THE TIED CARD OF 'escheatlaw26.ImageJoins'. -/
def imageJoinsCard : Claim7 := { stood := { row := imageJoinsRow, standIns := [], harness := (true, "ea313fd0955d2b0a9dd6f7558fa7369ce8c3f3562d26ce71a29ccecc4857c907"), looks := true }, kinds := [], alts := [], laidByText := true, laidKinds := [.data], laidTests := true, laidLooks := .later }
def ImageJoinsCardSaid : Prop := Claim7.holds Tryz.pinned (.plain (OpenSpec.ofChange imageJoinsSpec)) imageJoinsCard

/-- THE SECOND FORM's CARD OF 'escheatlaw26.ImagePieces'. -/
def imagePiecesUptoCard : Claim7 := { stood := { row := imagePiecesUptoRow, standIns := [], harness := (true, "ea313fd0955d2b0a9dd6f7558fa7369ce8c3f3562d26ce71a29ccecc4857c907"), looks := true }, kinds := [], alts := [], laidByText := true, laidKinds := [.data], laidTests := true, laidLooks := .later }
def ImagePiecesUptoCardSaid : Prop := Claim7.holds Tryz.pinned (.plain (OpenSpec.upto imagePiecesSpec)) imagePiecesUptoCard

/-- THE SECOND FORM's CARD OF 'escheatlaw26.ImageJoins'. -/
def imageJoinsUptoCard : Claim7 := { stood := { row := imageJoinsUptoRow, standIns := [], harness := (true, "ea313fd0955d2b0a9dd6f7558fa7369ce8c3f3562d26ce71a29ccecc4857c907"), looks := true }, kinds := [], alts := [], laidByText := true, laidKinds := [.data], laidTests := true, laidLooks := .later }
def ImageJoinsUptoCardSaid : Prop := Claim7.holds Tryz.pinned (.plain (OpenSpec.upto imageJoinsSpec)) imageJoinsUptoCard
end Rows
end Go.Proofs.YtpfcomepecgcmaaGreatDoor
