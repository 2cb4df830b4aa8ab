/-
  DERIVED. GIVEN WITH THE SEED: THE CARDS: each row of YtajbooppoohplaaGreatDoorRows.lean that lists a variable, with what it lists TIED to the program's text (the seventh form; the later family's looks); each row that meets fmt, with fmt's text TOLD by the authors' own Lean function (tested against real Go, not proved from fmt's source: count such statements apart). THE CARD IS WHAT COUNTS. Prove the row's statement (the work); the ties are given (YtajbooppoohplaaGreatDoorTie.lean); close each card by the builder's one call (the guide's Derived/Test/ToyasCard.lean, 'card_holds'). Laid BY PROGRAM, IN A SANDBOX (cutbox-door.mjs). By AI agents, Wed Nov 11 2026. No macro, syntax, notation, axiom, sorry.
-/
import Derived.Test.YtajbooppoohplaaGreatDoorRows
import GoSem.ClaimSeven
namespace Go.Proofs.YtajbooppoohplaaGreatDoor
namespace Rows

/-- THE TIED CARD OF 'escheatlaw25.StateOnce'. -/
def stateOnceCard : Claim7 := { stood := { row := stateOnceRow, standIns := [], harness := (true, "4151ca48d7694e2e290298277ce53c197d77b3e575c2422d03ffb69bd42e3407"), looks := true }, kinds := [], alts := [], laidByText := true, laidKinds := [.data], laidTests := true, laidLooks := .later }
def StateOnceCardSaid : Prop := Claim7.holds Tryz.pinned (.plain (OpenSpec.ofChange stateOnceSpec)) stateOnceCard

/-- THE TIED CARD OF 'escheatlaw25.StateHangs'. -/
def stateHangsCard : Claim7 := { stood := { row := stateHangsRow, standIns := [], harness := (true, "4151ca48d7694e2e290298277ce53c197d77b3e575c2422d03ffb69bd42e3407"), looks := true }, kinds := [], alts := [], laidByText := true, laidKinds := [.data], laidTests := true, laidLooks := .later }
def StateHangsCardSaid : Prop := Claim7.holds Tryz.pinned (.plain (OpenSpec.ofChange stateHangsSpec)) stateHangsCard

/-- THE TIED CARD OF 'escheatlaw25.StateTwins'. -/
def stateTwinsCard : Claim7 := { stood := { row := stateTwinsRow, standIns := [], harness := (true, "4151ca48d7694e2e290298277ce53c197d77b3e575c2422d03ffb69bd42e3407"), looks := true }, kinds := [], alts := [], laidByText := true, laidKinds := [.data], laidTests := true, laidLooks := .later }
def StateTwinsCardSaid : Prop := Claim7.holds Tryz.pinned (.plain (OpenSpec.ofChange stateTwinsSpec)) stateTwinsCard

/-- THE SECOND FORM's CARD OF 'escheatlaw25.StateOnce'. -/
def stateOnceUptoCard : Claim7 := { stood := { row := stateOnceUptoRow, standIns := [], harness := (true, "4151ca48d7694e2e290298277ce53c197d77b3e575c2422d03ffb69bd42e3407"), looks := true }, kinds := [], alts := [], laidByText := true, laidKinds := [.data], laidTests := true, laidLooks := .later }
def StateOnceUptoCardSaid : Prop := Claim7.holds Tryz.pinned (.plain (OpenSpec.upto stateOnceSpec)) stateOnceUptoCard

/-- THE SECOND FORM's CARD OF 'escheatlaw25.StateHangs'. -/
def stateHangsUptoCard : Claim7 := { stood := { row := stateHangsUptoRow, standIns := [], harness := (true, "4151ca48d7694e2e290298277ce53c197d77b3e575c2422d03ffb69bd42e3407"), looks := true }, kinds := [], alts := [], laidByText := true, laidKinds := [.data], laidTests := true, laidLooks := .later }
def StateHangsUptoCardSaid : Prop := Claim7.holds Tryz.pinned (.plain (OpenSpec.upto stateHangsSpec)) stateHangsUptoCard

/-- THE SECOND FORM's CARD OF 'escheatlaw25.StateTwins'. -/
def stateTwinsUptoCard : Claim7 := { stood := { row := stateTwinsUptoRow, standIns := [], harness := (true, "4151ca48d7694e2e290298277ce53c197d77b3e575c2422d03ffb69bd42e3407"), looks := true }, kinds := [], alts := [], laidByText := true, laidKinds := [.data], laidTests := true, laidLooks := .later }
def StateTwinsUptoCardSaid : Prop := Claim7.holds Tryz.pinned (.plain (OpenSpec.upto stateTwinsSpec)) stateTwinsUptoCard
end Rows
end Go.Proofs.YtajbooppoohplaaGreatDoor
