/-
  DERIVED. GIVEN WITH THE SEED: THE CARDS: each row of YtpiogibkleaaaaaGreatDoorRows.lean that lists a variable, with what it lists TIED to the program's text (the seventh form; the later family's looks); each row that meets fmt, with fmt's text TOLD by the authors' own Lean function (tested against real Go, not proved from fmt's source: count such statements apart). THE CARD IS WHAT COUNTS. Prove the row's statement (the work); the ties are given (YtpiogibkleaaaaaGreatDoorTie.lean); close each card by the builder's one call (the guide's Derived/Test/ToyasCard.lean, 'card_holds'). Laid BY PROGRAM, IN A SANDBOX (cutbox-door.mjs). By AI agents, Wed Nov 11 2026. No macro, syntax, notation, axiom, sorry.
-/
import Derived.Test.YtpiogibkleaaaaaGreatDoorRows
import GoSem.ClaimSeven
namespace Go.Proofs.YtpiogibkleaaaaaGreatDoor
namespace Rows

/-- THE TIED CARD OF 'escheatlaw25.StateSames'. -/
def stateSamesCard : Claim7 := { stood := { row := stateSamesRow, standIns := [], harness := (true, "72ff8ed873b85d99bb8ede3644749de92f89dc54997f5c3b62997ad343e4ab37"), looks := true }, kinds := [], alts := [], laidByText := true, laidKinds := [.data], laidTests := true, laidLooks := .later }
def StateSamesCardSaid : Prop := Claim7.holds Tryz.pinned (.plain (OpenSpec.ofChange stateSamesSpec)) stateSamesCard

/-- THE TIED CARD OF 'escheatlaw25.StateNone'. -/
def stateNoneCard : Claim7 := { stood := { row := stateNoneRow, standIns := [], harness := (true, "72ff8ed873b85d99bb8ede3644749de92f89dc54997f5c3b62997ad343e4ab37"), looks := true }, kinds := [], alts := [], laidByText := true, laidKinds := [.data], laidTests := true, laidLooks := .later }
def StateNoneCardSaid : Prop := Claim7.holds Tryz.pinned (.plain (OpenSpec.ofChange stateNoneSpec)) stateNoneCard

/-- THE SECOND FORM's CARD OF 'escheatlaw25.StateSames'. -/
def stateSamesUptoCard : Claim7 := { stood := { row := stateSamesUptoRow, standIns := [], harness := (true, "72ff8ed873b85d99bb8ede3644749de92f89dc54997f5c3b62997ad343e4ab37"), looks := true }, kinds := [], alts := [], laidByText := true, laidKinds := [.data], laidTests := true, laidLooks := .later }
def StateSamesUptoCardSaid : Prop := Claim7.holds Tryz.pinned (.plain (OpenSpec.upto stateSamesSpec)) stateSamesUptoCard

/-- THE SECOND FORM's CARD OF 'escheatlaw25.StateNone'. -/
def stateNoneUptoCard : Claim7 := { stood := { row := stateNoneUptoRow, standIns := [], harness := (true, "72ff8ed873b85d99bb8ede3644749de92f89dc54997f5c3b62997ad343e4ab37"), looks := true }, kinds := [], alts := [], laidByText := true, laidKinds := [.data], laidTests := true, laidLooks := .later }
def StateNoneUptoCardSaid : Prop := Claim7.holds Tryz.pinned (.plain (OpenSpec.upto stateNoneSpec)) stateNoneUptoCard
end Rows
end Go.Proofs.YtpiogibkleaaaaaGreatDoor
