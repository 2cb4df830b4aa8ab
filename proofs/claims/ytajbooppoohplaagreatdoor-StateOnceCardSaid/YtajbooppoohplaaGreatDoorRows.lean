/-
  NARROWER THAN 'FOR EVERY INPUT', by the rows' own cells (each row's printed sentence says how): StateOnce: laid · StateHangs: laid · StateTwins: laid.
  DERIVED. THE GIVEN ROWS OF THIS SEAT. 3 by the template 'for every input the law returns true; each argument reads behind the call as it read before'; 0 by the template 'total and deterministic' (their statements: YtajbooppoohplaaGreatDoorTotals.lean).
  GIVEN WITH THE SEED: the statements are not yours to turn. If you find one false, say at which input.
  Laid BY PROGRAM, IN A SANDBOX (cutbox-rows.mjs): the forced cells as the released guide's own fill.sh prints them over the translation f4af4108eaf7a649… (all of the seat's roots in one cut). By AI agents, Wed Nov 11 2026. No macro, syntax, notation, axiom, sorry.
-/
import Derived.Test.YtajbooppoohplaaGreatDoorChecked
import GoSem.Claim
import GoSem.ClaimJoined
import GoSem.ClaimMapViews
import Derived.JoinedTies
import Derived.KernelRfl
namespace Go.Proofs.YtajbooppoohplaaGreatDoor
/- THE CELL 'sum', in the pinned program and in every row, IS THE sha256 OF THE DUMP (.gsa) THAT YtajbooppoohplaaGreatDoorProg.lean LOADS. Nothing in Lean hashes anything: it is a label: what it is worth is what the hold of that sum in a sandbox is worth. -/
noncomputable def Tryz.pinned : Pinned := { name := "ytajbooppoohplaagreatdoor", sum := "f4af4108eaf7a649ddc0484354d3a5c72d6ceed32048cfa71f9f0c54217c33ca", checked := Tryz.checked }
namespace Rows
def none {H : Type} : Left H := { results := [], args := [] }

/- WHAT THE LISTED PACKAGE-LEVEL VARIABLES READ AS WHEN THE CALL BEGINS. Each datum BY PROGRAM (the guide's laid-datum.mjs) off the statement by which the dump's own 'gosem.cut.vars' lays the variable. In a bare row this is a premise. The card (YtajbooppoohplaaGreatDoorCards.lean) ties it to the program's text. -/
def laid_escheat_op_fields {H : Type} : DataW H := .agg [.lit (.string []), .lit (.string [112]), .lit (.string [112]), .lit (.string [112]), .lit (.string [112, 116]), .lit (.string [112]), .lit (.string [112, 116]), .lit (.string [112, 115]), .lit (.string [112]), .lit (.string [104]), .lit (.string [104, 111, 100]), .lit (.string [107]), .lit (.string [107]), .lit (.string [105, 109, 100]), .lit (.string [100, 115, 111])]

/-- 'escheatlaw25.StateOnce': WHATEVER THE INPUT: true; the input reads as it did. -/
def stateOnceSpec : ChangeSpec := { name := "stateOnce", fn := fun _ => fun
  | [d1, d2] => { results := [.lit (.bool true)], args := [d1, d2] }
  | _ => none }
def stateOnceRow : OpenClaim := { program := "ytajbooppoohplaagreatdoor", sum := "f4af4108eaf7a649ddc0484354d3a5c72d6ceed32048cfa71f9f0c54217c33ca", func := "escheat/escheatlaw25.StateOnce", spec := "stateOnce", inPlace := ["internal/bytealg.IndexByteString", "internal/abi.NoEscape", "internal/bytealg.MakeNoZero"], unfollowed := true, recurses := true, named := ["escheat/op.fields"], plainKeys := false, apart := false, laid := [("escheat/op.fields", laid_escheat_op_fields)] }
def StateOnceSaid : Prop := stateOnceRow.holds Tryz.pinned (OpenSpec.ofChange stateOnceSpec)

/-- ITS FALSE NEIGHBOUR: 'it returns false'. Refute it at one input. -/
def stateOnceWrong : ChangeSpec := { name := "stateOnce", fn := fun _ => fun
  | [d1, d2] => { results := [.lit (.bool false)], args := [d1, d2] }
  | _ => none }
def StateOnceWrongFalsely : Prop := stateOnceRow.holds Tryz.pinned (OpenSpec.ofChange stateOnceWrong)

/-- 'escheatlaw25.StateHangs': WHATEVER THE INPUT: true; the input reads as it did. -/
def stateHangsSpec : ChangeSpec := { name := "stateHangs", fn := fun _ => fun
  | [d] => { results := [.lit (.bool true)], args := [d] }
  | _ => none }
def stateHangsRow : OpenClaim := { program := "ytajbooppoohplaagreatdoor", sum := "f4af4108eaf7a649ddc0484354d3a5c72d6ceed32048cfa71f9f0c54217c33ca", func := "escheat/escheatlaw25.StateHangs", spec := "stateHangs", inPlace := ["internal/bytealg.IndexByteString", "internal/abi.NoEscape", "internal/bytealg.MakeNoZero"], unfollowed := true, recurses := true, named := ["escheat/op.fields"], plainKeys := false, apart := false, laid := [("escheat/op.fields", laid_escheat_op_fields)] }
def StateHangsSaid : Prop := stateHangsRow.holds Tryz.pinned (OpenSpec.ofChange stateHangsSpec)

/-- ITS FALSE NEIGHBOUR: 'it returns false'. Refute it at one input. -/
def stateHangsWrong : ChangeSpec := { name := "stateHangs", fn := fun _ => fun
  | [d] => { results := [.lit (.bool false)], args := [d] }
  | _ => none }
def StateHangsWrongFalsely : Prop := stateHangsRow.holds Tryz.pinned (OpenSpec.ofChange stateHangsWrong)

/-- 'escheatlaw25.StateTwins': WHATEVER THE INPUT: true; the input reads as it did. -/
def stateTwinsSpec : ChangeSpec := { name := "stateTwins", fn := fun _ => fun
  | [d1, d2] => { results := [.lit (.bool true)], args := [d1, d2] }
  | _ => none }
def stateTwinsRow : OpenClaim := { program := "ytajbooppoohplaagreatdoor", sum := "f4af4108eaf7a649ddc0484354d3a5c72d6ceed32048cfa71f9f0c54217c33ca", func := "escheat/escheatlaw25.StateTwins", spec := "stateTwins", inPlace := ["internal/bytealg.IndexByteString", "internal/abi.NoEscape", "internal/bytealg.MakeNoZero"], unfollowed := true, recurses := true, named := ["escheat/op.fields"], plainKeys := false, apart := false, laid := [("escheat/op.fields", laid_escheat_op_fields)] }
def StateTwinsSaid : Prop := stateTwinsRow.holds Tryz.pinned (OpenSpec.ofChange stateTwinsSpec)

/-- ITS FALSE NEIGHBOUR: 'it returns false'. Refute it at one input. -/
def stateTwinsWrong : ChangeSpec := { name := "stateTwins", fn := fun _ => fun
  | [d1, d2] => { results := [.lit (.bool false)], args := [d1, d2] }
  | _ => none }
def StateTwinsWrongFalsely : Prop := stateTwinsRow.holds Tryz.pinned (OpenSpec.ofChange stateTwinsWrong)

/- THE SECOND FORM. 'bulk': how many values and letters a reading holds, each counted each time it is reached (what is shared counts as often as it is met; a slice's spare places count too). A statement '..UptoSaid' is the law's where the arguments, and the package variables that the reading takes, are together of bulk at most 1048576: NARROWER than '..Said'. Prove '..Said' where nothing that the law and all that it calls make is longer than what came in: it says more and counts as full. Else prove '..UptoSaid'. A law counts once. -/
mutual
def uptoBulk {H : Type} : DataW H → Nat
  | .lit (.string bytes) => bytes.length + 1
  | .lit _ => 1
  | .nil => 1
  | .ptr d => uptoBulk d + 1
  | .slice elems spare => uptoBulkAll elems + uptoBulkAll spare + 1
  | .agg parts => uptoBulkAll parts + 1
  | .iface _ d => uptoBulk d + 1
  | .map entries => uptoBulkEntries entries + 1
  | .held _ => 1
def uptoBulkAll {H : Type} : List (DataW H) → Nat
  | [] => 0
  | d :: r => uptoBulk d + uptoBulkAll r
def uptoBulkEntries {H : Type} : List (Lit × DataW H) → Nat
  | [] => 0
  | x :: r => uptoBulkEntry x + uptoBulkEntries r
def uptoBulkEntry {H : Type} : Lit × DataW H → Nat
  | (.string bytes, d) => bytes.length + uptoBulk d + 1
  | (_, d) => uptoBulk d + 1
 end
def uptoSmall : (H : Type) → List (DataW H) → Bool := fun _ ds => decide (uptoBulkAll ds ≤ 1048576)
def OpenSpec.upto (s : _root_.Go.ChangeSpec) : _root_.Go.OpenSpec := { _root_.Go.OpenSpec.ofChange s with cond := some uptoSmall }

/-- 'escheatlaw25.StateOnce', WHERE WHAT IT READS IS OF BULK AT MOST 1048576: true; the input reads as it did. -/
def stateOnceUptoRow : OpenClaim := { program := "ytajbooppoohplaagreatdoor", sum := "f4af4108eaf7a649ddc0484354d3a5c72d6ceed32048cfa71f9f0c54217c33ca", func := "escheat/escheatlaw25.StateOnce", spec := "stateOnce", inPlace := ["internal/bytealg.IndexByteString", "internal/abi.NoEscape", "internal/bytealg.MakeNoZero"], unfollowed := true, recurses := true, named := ["escheat/op.fields"], plainKeys := false, apart := false, laid := [("escheat/op.fields", laid_escheat_op_fields)], narrowed := true }
def StateOnceUptoSaid : Prop := stateOnceUptoRow.holds Tryz.pinned (OpenSpec.upto stateOnceSpec)

/-- 'escheatlaw25.StateHangs', WHERE WHAT IT READS IS OF BULK AT MOST 1048576: true; the input reads as it did. -/
def stateHangsUptoRow : OpenClaim := { program := "ytajbooppoohplaagreatdoor", sum := "f4af4108eaf7a649ddc0484354d3a5c72d6ceed32048cfa71f9f0c54217c33ca", func := "escheat/escheatlaw25.StateHangs", spec := "stateHangs", inPlace := ["internal/bytealg.IndexByteString", "internal/abi.NoEscape", "internal/bytealg.MakeNoZero"], unfollowed := true, recurses := true, named := ["escheat/op.fields"], plainKeys := false, apart := false, laid := [("escheat/op.fields", laid_escheat_op_fields)], narrowed := true }
def StateHangsUptoSaid : Prop := stateHangsUptoRow.holds Tryz.pinned (OpenSpec.upto stateHangsSpec)

/-- 'escheatlaw25.StateTwins', WHERE WHAT IT READS IS OF BULK AT MOST 1048576: true; the input reads as it did. -/
def stateTwinsUptoRow : OpenClaim := { program := "ytajbooppoohplaagreatdoor", sum := "f4af4108eaf7a649ddc0484354d3a5c72d6ceed32048cfa71f9f0c54217c33ca", func := "escheat/escheatlaw25.StateTwins", spec := "stateTwins", inPlace := ["internal/bytealg.IndexByteString", "internal/abi.NoEscape", "internal/bytealg.MakeNoZero"], unfollowed := true, recurses := true, named := ["escheat/op.fields"], plainKeys := false, apart := false, laid := [("escheat/op.fields", laid_escheat_op_fields)], narrowed := true }
def StateTwinsUptoSaid : Prop := stateTwinsUptoRow.holds Tryz.pinned (OpenSpec.upto stateTwinsSpec)

end Rows
end Go.Proofs.YtajbooppoohplaaGreatDoor
