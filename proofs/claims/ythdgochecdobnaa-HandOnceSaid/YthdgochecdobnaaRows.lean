/-
  No cell of these rows narrows 'for every input' (looked for: loops, veiled, ifaces, maps, wideKeys, modest, calm, conditions, laid).
  DERIVED. THE GIVEN ROWS OF THIS SEAT. 3 by the template 'for every input the law returns true; each argument reads behind the call as it read before'; 0 by the template 'total and deterministic' (their statements: YthdgochecdobnaaTotals.lean).
  GIVEN WITH THE SEED: the statements are not yours to turn. If you find one false, say at which input.
  Laid BY PROGRAM, IN A SANDBOX (cutbox-rows.mjs): the forced cells as the released guide's own fill.sh prints them over the translation 41151bf20df13dec… (all of the seat's roots in one cut). By AI agents, Wed Nov 11 2026. No macro, syntax, notation, axiom, sorry.
-/
import Derived.Test.YthdgochecdobnaaChecked
import GoSem.Claim
import GoSem.ClaimJoined
import GoSem.ClaimMapViews
import Derived.JoinedTies
import Derived.KernelRfl
namespace Go.Proofs.Ythdgochecdobnaa
/- THE CELL 'sum', in the pinned program and in every row, IS THE sha256 OF THE DUMP (.gsa) THAT YthdgochecdobnaaProg.lean LOADS. Nothing in Lean hashes anything: it is a label: what it is worth is what the hold of that sum in a sandbox is worth. -/
noncomputable def Try.pinned : Pinned := { name := "ythdgochecdobnaa", sum := "41151bf20df13dec0db21de14290b3d2de86db4a66f86bee0bff3961796f183f", checked := Try.checked }
namespace Rows
def none {H : Type} : Left H := { results := [], args := [] }

/-- 'escheatlaw14.HandOnce': WHATEVER THE INPUT: true; the input reads as it did. -/
def handOnceSpec : ChangeSpec := { name := "handOnce", fn := fun _ => fun
  | [d1, d2] => { results := [.lit (.bool true)], args := [d1, d2] }
  | _ => none }
def handOnceRow : OpenClaim := { program := "ythdgochecdobnaa", sum := "41151bf20df13dec0db21de14290b3d2de86db4a66f86bee0bff3961796f183f", func := "escheat/escheatlaw14.HandOnce", spec := "handOnce", unfollowed := true, recurses := true, plainKeys := false, apart := false }
def HandOnceSaid : Prop := handOnceRow.holds Try.pinned (OpenSpec.ofChange handOnceSpec)

/-- ITS FALSE NEIGHBOUR: 'it returns false'. Refute it at one input. -/
def handOnceWrong : ChangeSpec := { name := "handOnce", fn := fun _ => fun
  | [d1, d2] => { results := [.lit (.bool false)], args := [d1, d2] }
  | _ => none }
def HandOnceWrongFalsely : Prop := handOnceRow.holds Try.pinned (OpenSpec.ofChange handOnceWrong)

/-- 'escheatlaw14.HandMost': WHATEVER THE INPUT: true; the input reads as it did. -/
def handMostSpec : ChangeSpec := { name := "handMost", fn := fun _ => fun
  | [d] => { results := [.lit (.bool true)], args := [d] }
  | _ => none }
def handMostRow : OpenClaim := { program := "ythdgochecdobnaa", sum := "41151bf20df13dec0db21de14290b3d2de86db4a66f86bee0bff3961796f183f", func := "escheat/escheatlaw14.HandMost", spec := "handMost", unfollowed := true, recurses := true, plainKeys := false, apart := false }
def HandMostSaid : Prop := handMostRow.holds Try.pinned (OpenSpec.ofChange handMostSpec)

/-- ITS FALSE NEIGHBOUR: 'it returns false'. Refute it at one input. -/
def handMostWrong : ChangeSpec := { name := "handMost", fn := fun _ => fun
  | [d] => { results := [.lit (.bool false)], args := [d] }
  | _ => none }
def HandMostWrongFalsely : Prop := handMostRow.holds Try.pinned (OpenSpec.ofChange handMostWrong)

/-- 'escheatlaw14.HandNone': WHATEVER THE INPUT: true; the input reads as it did. -/
def handNoneSpec : ChangeSpec := { name := "handNone", fn := fun _ => fun
  | [d1, d2] => { results := [.lit (.bool true)], args := [d1, d2] }
  | _ => none }
def handNoneRow : OpenClaim := { program := "ythdgochecdobnaa", sum := "41151bf20df13dec0db21de14290b3d2de86db4a66f86bee0bff3961796f183f", func := "escheat/escheatlaw14.HandNone", spec := "handNone", unfollowed := true, recurses := true, plainKeys := false, apart := false }
def HandNoneSaid : Prop := handNoneRow.holds Try.pinned (OpenSpec.ofChange handNoneSpec)

/-- ITS FALSE NEIGHBOUR: 'it returns false'. Refute it at one input. -/
def handNoneWrong : ChangeSpec := { name := "handNone", fn := fun _ => fun
  | [d1, d2] => { results := [.lit (.bool false)], args := [d1, d2] }
  | _ => none }
def HandNoneWrongFalsely : Prop := handNoneRow.holds Try.pinned (OpenSpec.ofChange handNoneWrong)

/- THE SECOND FORM. 'bulk': how many values and letters a reading holds, each counted each time it is reached (what is shared counts as often as it is met; a slice's spare places count too). A statement '..UptoSaid' is the law's where the arguments, and the package variables that the reading takes, are together of bulk at most 1048576: NARROWER than '..Said'. Prove '..Said' where nothing that the law and all that it calls make is longer than what came in: it says more and counts as full. Else prove '..UptoSaid'. A law counts once. -/
mutual
def uptoBulk {H : Type} : DataW H → Nat
  | .lit (.string bytes) => bytes.length + 1
  | .lit _ => 1
  | .nil => 1
  | .ptr d => uptoBulk d + 1
  | .slice elems spare => uptoBulkAll elems + uptoBulkAll spare + 1
  | .agg parts => uptoBulkAll parts + 1
  | .iface _ d => uptoBulk d + 1
  | .map entries => uptoBulkEntries entries + 1
  | .held _ => 1
def uptoBulkAll {H : Type} : List (DataW H) → Nat
  | [] => 0
  | d :: r => uptoBulk d + uptoBulkAll r
def uptoBulkEntries {H : Type} : List (Lit × DataW H) → Nat
  | [] => 0
  | x :: r => uptoBulkEntry x + uptoBulkEntries r
def uptoBulkEntry {H : Type} : Lit × DataW H → Nat
  | (.string bytes, d) => bytes.length + uptoBulk d + 1
  | (_, d) => uptoBulk d + 1
 end
def uptoSmall : (H : Type) → List (DataW H) → Bool := fun _ ds => decide (uptoBulkAll ds ≤ 1048576)
def OpenSpec.upto (s : _root_.Go.ChangeSpec) : _root_.Go.OpenSpec := { _root_.Go.OpenSpec.ofChange s with cond := some uptoSmall }

/-- 'escheatlaw14.HandOnce', WHERE WHAT IT READS IS OF BULK AT MOST 1048576: true; the input reads as it did. -/
def handOnceUptoRow : OpenClaim := { program := "ythdgochecdobnaa", sum := "41151bf20df13dec0db21de14290b3d2de86db4a66f86bee0bff3961796f183f", func := "escheat/escheatlaw14.HandOnce", spec := "handOnce", unfollowed := true, recurses := true, plainKeys := false, apart := false, narrowed := true }
def HandOnceUptoSaid : Prop := handOnceUptoRow.holds Try.pinned (OpenSpec.upto handOnceSpec)

/-- 'escheatlaw14.HandMost', WHERE WHAT IT READS IS OF BULK AT MOST 1048576: true; the input reads as it did. -/
def handMostUptoRow : OpenClaim := { program := "ythdgochecdobnaa", sum := "41151bf20df13dec0db21de14290b3d2de86db4a66f86bee0bff3961796f183f", func := "escheat/escheatlaw14.HandMost", spec := "handMost", unfollowed := true, recurses := true, plainKeys := false, apart := false, narrowed := true }
def HandMostUptoSaid : Prop := handMostUptoRow.holds Try.pinned (OpenSpec.upto handMostSpec)

/-- 'escheatlaw14.HandNone', WHERE WHAT IT READS IS OF BULK AT MOST 1048576: true; the input reads as it did. -/
def handNoneUptoRow : OpenClaim := { program := "ythdgochecdobnaa", sum := "41151bf20df13dec0db21de14290b3d2de86db4a66f86bee0bff3961796f183f", func := "escheat/escheatlaw14.HandNone", spec := "handNone", unfollowed := true, recurses := true, plainKeys := false, apart := false, narrowed := true }
def HandNoneUptoSaid : Prop := handNoneUptoRow.holds Try.pinned (OpenSpec.upto handNoneSpec)

end Rows
end Go.Proofs.Ythdgochecdobnaa
