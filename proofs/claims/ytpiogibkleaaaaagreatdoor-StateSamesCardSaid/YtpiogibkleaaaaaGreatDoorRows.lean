/-
  NARROWER THAN 'FOR EVERY INPUT', by the rows' own cells (each row's printed sentence says how): StateSames: laid · StateNone: laid.
  DERIVED. THE GIVEN ROWS OF THIS SEAT. 2 by the template 'for every input the law returns true; each argument reads behind the call as it read before'; 0 by the template 'total and deterministic' (their statements: YtpiogibkleaaaaaGreatDoorTotals.lean).
  GIVEN WITH THE SEED: the statements are not yours to turn. If you find one false, say at which input.
  Laid BY PROGRAM, IN A SANDBOX (cutbox-rows.mjs): the forced cells as the released guide's own fill.sh prints them over the translation 4954ede569f032da… (all of the seat's roots in one cut). By AI agents, Wed Nov 11 2026. No macro, syntax, notation, axiom, sorry.
-/
import Derived.Test.YtpiogibkleaaaaaGreatDoorChecked
import GoSem.Claim
import GoSem.ClaimJoined
import GoSem.ClaimMapViews
import Derived.JoinedTies
import Derived.KernelRfl
namespace Go.Proofs.YtpiogibkleaaaaaGreatDoor
/- THE CELL 'sum', in the pinned program and in every row, IS THE sha256 OF THE DUMP (.gsa) THAT YtpiogibkleaaaaaGreatDoorProg.lean LOADS. Nothing in Lean hashes anything: it is a label: what it is worth is what the hold of that sum in a sandbox is worth. -/
noncomputable def Tryz.pinned : Pinned := { name := "ytpiogibkleaaaaagreatdoor", sum := "4954ede569f032da6b12dd1a2a8da0d5ca06a68139588cf7c75bf062e2c7cab2", checked := Tryz.checked }
namespace Rows
def none {H : Type} : Left H := { results := [], args := [] }

/- WHAT THE LISTED PACKAGE-LEVEL VARIABLES READ AS WHEN THE CALL BEGINS. Each datum BY PROGRAM (the guide's laid-datum.mjs) off the statement by which the dump's own 'gosem.cut.vars' lays the variable. In a bare row this is a premise. The card (YtpiogibkleaaaaaGreatDoorCards.lean) ties it to the program's text. -/
def laid_escheat_op_fields {H : Type} : DataW H := .agg [.lit (.string []), .lit (.string [112]), .lit (.string [112]), .lit (.string [112]), .lit (.string [112, 116]), .lit (.string [112]), .lit (.string [112, 116]), .lit (.string [112, 115]), .lit (.string [112]), .lit (.string [104]), .lit (.string [104, 111, 100]), .lit (.string [107]), .lit (.string [107]), .lit (.string [105, 109, 100]), .lit (.string [100, 115, 111])]

/-- 'escheatlaw25.StateSames': WHATEVER THE INPUT: true; the input reads as it did. -/
def stateSamesSpec : ChangeSpec := { name := "stateSames", fn := fun _ => fun
  | [d1, d2] => { results := [.lit (.bool true)], args := [d1, d2] }
  | _ => none }
def stateSamesRow : OpenClaim := { program := "ytpiogibkleaaaaagreatdoor", sum := "4954ede569f032da6b12dd1a2a8da0d5ca06a68139588cf7c75bf062e2c7cab2", func := "escheat/escheatlaw25.StateSames", spec := "stateSames", inPlace := ["internal/bytealg.IndexByteString", "internal/abi.NoEscape", "internal/bytealg.MakeNoZero"], unfollowed := true, recurses := true, named := ["escheat/op.fields"], plainKeys := false, apart := false, laid := [("escheat/op.fields", laid_escheat_op_fields)] }
def StateSamesSaid : Prop := stateSamesRow.holds Tryz.pinned (OpenSpec.ofChange stateSamesSpec)

/-- ITS FALSE NEIGHBOUR: 'it returns false'. Refute it at one input. -/
def stateSamesWrong : ChangeSpec := { name := "stateSames", fn := fun _ => fun
  | [d1, d2] => { results := [.lit (.bool false)], args := [d1, d2] }
  | _ => none }
def StateSamesWrongFalsely : Prop := stateSamesRow.holds Tryz.pinned (OpenSpec.ofChange stateSamesWrong)

/-- 'escheatlaw25.StateNone': WHATEVER THE INPUT: true; the input reads as it did. -/
def stateNoneSpec : ChangeSpec := { name := "stateNone", fn := fun _ => fun
  | [d1, d2] => { results := [.lit (.bool true)], args := [d1, d2] }
  | _ => none }
def stateNoneRow : OpenClaim := { program := "ytpiogibkleaaaaagreatdoor", sum := "4954ede569f032da6b12dd1a2a8da0d5ca06a68139588cf7c75bf062e2c7cab2", func := "escheat/escheatlaw25.StateNone", spec := "stateNone", inPlace := ["internal/bytealg.IndexByteString", "internal/abi.NoEscape", "internal/bytealg.MakeNoZero"], unfollowed := true, recurses := true, named := ["escheat/op.fields"], plainKeys := false, apart := false, laid := [("escheat/op.fields", laid_escheat_op_fields)] }
def StateNoneSaid : Prop := stateNoneRow.holds Tryz.pinned (OpenSpec.ofChange stateNoneSpec)

/-- ITS FALSE NEIGHBOUR: 'it returns false'. Refute it at one input. -/
def stateNoneWrong : ChangeSpec := { name := "stateNone", fn := fun _ => fun
  | [d1, d2] => { results := [.lit (.bool false)], args := [d1, d2] }
  | _ => none }
def StateNoneWrongFalsely : Prop := stateNoneRow.holds Tryz.pinned (OpenSpec.ofChange stateNoneWrong)

/- THE SECOND FORM. 'bulk': how many values and letters a reading holds, each counted each time it is reached (what is shared counts as often as it is met; a slice's spare places count too). A statement '..UptoSaid' is the law's where the arguments, and the package variables that the reading takes, are together of bulk at most 1048576: NARROWER than '..Said'. Prove '..Said' where nothing that the law and all that it calls make is longer than what came in: it says more and counts as full. Else prove '..UptoSaid'. A law counts once. -/
mutual
def uptoBulk {H : Type} : DataW H → Nat
  | .lit (.string bytes) => bytes.length + 1
  | .lit _ => 1
  | .nil => 1
  | .ptr d => uptoBulk d + 1
  | .slice elems spare => uptoBulkAll elems + uptoBulkAll spare + 1
  | .agg parts => uptoBulkAll parts + 1
  | .iface _ d => uptoBulk d + 1
  | .map entries => uptoBulkEntries entries + 1
  | .held _ => 1
def uptoBulkAll {H : Type} : List (DataW H) → Nat
  | [] => 0
  | d :: r => uptoBulk d + uptoBulkAll r
def uptoBulkEntries {H : Type} : List (Lit × DataW H) → Nat
  | [] => 0
  | x :: r => uptoBulkEntry x + uptoBulkEntries r
def uptoBulkEntry {H : Type} : Lit × DataW H → Nat
  | (.string bytes, d) => bytes.length + uptoBulk d + 1
  | (_, d) => uptoBulk d + 1
 end
def uptoSmall : (H : Type) → List (DataW H) → Bool := fun _ ds => decide (uptoBulkAll ds ≤ 1048576)
def OpenSpec.upto (s : _root_.Go.ChangeSpec) : _root_.Go.OpenSpec := { _root_.Go.OpenSpec.ofChange s with cond := some uptoSmall }

/-- 'escheatlaw25.StateSames', WHERE WHAT IT READS IS OF BULK AT MOST 1048576: true; the input reads as it did. -/
def stateSamesUptoRow : OpenClaim := { program := "ytpiogibkleaaaaagreatdoor", sum := "4954ede569f032da6b12dd1a2a8da0d5ca06a68139588cf7c75bf062e2c7cab2", func := "escheat/escheatlaw25.StateSames", spec := "stateSames", inPlace := ["internal/bytealg.IndexByteString", "internal/abi.NoEscape", "internal/bytealg.MakeNoZero"], unfollowed := true, recurses := true, named := ["escheat/op.fields"], plainKeys := false, apart := false, laid := [("escheat/op.fields", laid_escheat_op_fields)], narrowed := true }
def StateSamesUptoSaid : Prop := stateSamesUptoRow.holds Tryz.pinned (OpenSpec.upto stateSamesSpec)

/-- 'escheatlaw25.StateNone', WHERE WHAT IT READS IS OF BULK AT MOST 1048576: true; the input reads as it did. -/
def stateNoneUptoRow : OpenClaim := { program := "ytpiogibkleaaaaagreatdoor", sum := "4954ede569f032da6b12dd1a2a8da0d5ca06a68139588cf7c75bf062e2c7cab2", func := "escheat/escheatlaw25.StateNone", spec := "stateNone", inPlace := ["internal/bytealg.IndexByteString", "internal/abi.NoEscape", "internal/bytealg.MakeNoZero"], unfollowed := true, recurses := true, named := ["escheat/op.fields"], plainKeys := false, apart := false, laid := [("escheat/op.fields", laid_escheat_op_fields)], narrowed := true }
def StateNoneUptoSaid : Prop := stateNoneUptoRow.holds Tryz.pinned (OpenSpec.upto stateNoneSpec)

end Rows
end Go.Proofs.YtpiogibkleaaaaaGreatDoor
