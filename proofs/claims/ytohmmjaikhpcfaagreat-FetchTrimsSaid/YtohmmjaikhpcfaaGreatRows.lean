/-
  No cell of these rows narrows 'for every input' (looked for: loops, veiled, ifaces, maps, wideKeys, modest, calm, conditions, laid).
  DERIVED. THE GIVEN ROWS OF THIS SEAT. 8 by the template 'for every input the law returns true; each argument reads behind the call as it read before'; 0 by the template 'total and deterministic' (their statements: YtohmmjaikhpcfaaGreatTotals.lean).
  GIVEN WITH THE SEED: the statements are not yours to turn. If you find one false, say at which input.
  Laid BY PROGRAM, IN A SANDBOX (cutbox-rows.mjs): the forced cells as the released guide's own fill.sh prints them over the translation 133df51e55ccce2b… (all of the seat's roots in one cut). By AI agents, Wed Nov 11 2026. No macro, syntax, notation, axiom, sorry.
-/
import Derived.Test.YtohmmjaikhpcfaaGreatChecked
import GoSem.Claim
import GoSem.ClaimJoined
import GoSem.ClaimMapViews
import Derived.JoinedTies
import Derived.KernelRfl
namespace Go.Proofs.YtohmmjaikhpcfaaGreat
/- THE CELL 'sum', in the pinned program and in every row, IS THE sha256 OF THE DUMP (.gsa) THAT YtohmmjaikhpcfaaGreatProg.lean LOADS. Nothing in Lean hashes anything: it is a label: what it is worth is what the hold of that sum in a sandbox is worth. -/
noncomputable def Tryz.pinned : Pinned := { name := "ytohmmjaikhpcfaagreat", sum := "133df51e55ccce2be4d7d864f1b8ab824534f56e3a1eda97eae1bed45de08c49", checked := Tryz.checked }
namespace Rows
def none {H : Type} : Left H := { results := [], args := [] }

/-- 'escheatlaw15.AppendOrder': WHATEVER THE INPUT: true; the input reads as it did. -/
def appendOrderSpec : ChangeSpec := { name := "appendOrder", fn := fun _ => fun
  | [d1, d2] => { results := [.lit (.bool true)], args := [d1, d2] }
  | _ => none }
def appendOrderRow : OpenClaim := { program := "ytohmmjaikhpcfaagreat", sum := "133df51e55ccce2be4d7d864f1b8ab824534f56e3a1eda97eae1bed45de08c49", func := "escheat/escheatlaw15.AppendOrder", spec := "appendOrder", unfollowed := true, recurses := true, plainKeys := false, apart := false }
def AppendOrderSaid : Prop := appendOrderRow.holds Tryz.pinned (OpenSpec.ofChange appendOrderSpec)

/-- ITS FALSE NEIGHBOUR: 'it returns false'. Refute it at one input. -/
def appendOrderWrong : ChangeSpec := { name := "appendOrder", fn := fun _ => fun
  | [d1, d2] => { results := [.lit (.bool false)], args := [d1, d2] }
  | _ => none }
def AppendOrderWrongFalsely : Prop := appendOrderRow.holds Tryz.pinned (OpenSpec.ofChange appendOrderWrong)

/-- 'escheatlaw15.AppendFull': WHATEVER THE INPUT: true; the input reads as it did. -/
def appendFullSpec : ChangeSpec := { name := "appendFull", fn := fun _ => fun
  | [d1, d2] => { results := [.lit (.bool true)], args := [d1, d2] }
  | _ => none }
def appendFullRow : OpenClaim := { program := "ytohmmjaikhpcfaagreat", sum := "133df51e55ccce2be4d7d864f1b8ab824534f56e3a1eda97eae1bed45de08c49", func := "escheat/escheatlaw15.AppendFull", spec := "appendFull", unfollowed := true, recurses := true, plainKeys := false, apart := false }
def AppendFullSaid : Prop := appendFullRow.holds Tryz.pinned (OpenSpec.ofChange appendFullSpec)

/-- ITS FALSE NEIGHBOUR: 'it returns false'. Refute it at one input. -/
def appendFullWrong : ChangeSpec := { name := "appendFull", fn := fun _ => fun
  | [d1, d2] => { results := [.lit (.bool false)], args := [d1, d2] }
  | _ => none }
def AppendFullWrongFalsely : Prop := appendFullRow.holds Tryz.pinned (OpenSpec.ofChange appendFullWrong)

/-- 'escheatlaw15.AppendNone': WHATEVER THE INPUT: true; the input reads as it did. -/
def appendNoneSpec : ChangeSpec := { name := "appendNone", fn := fun _ => fun
  | [d1, d2] => { results := [.lit (.bool true)], args := [d1, d2] }
  | _ => none }
def appendNoneRow : OpenClaim := { program := "ytohmmjaikhpcfaagreat", sum := "133df51e55ccce2be4d7d864f1b8ab824534f56e3a1eda97eae1bed45de08c49", func := "escheat/escheatlaw15.AppendNone", spec := "appendNone", unfollowed := true, recurses := true, plainKeys := false, apart := false }
def AppendNoneSaid : Prop := appendNoneRow.holds Tryz.pinned (OpenSpec.ofChange appendNoneSpec)

/-- ITS FALSE NEIGHBOUR: 'it returns false'. Refute it at one input. -/
def appendNoneWrong : ChangeSpec := { name := "appendNone", fn := fun _ => fun
  | [d1, d2] => { results := [.lit (.bool false)], args := [d1, d2] }
  | _ => none }
def AppendNoneWrongFalsely : Prop := appendNoneRow.holds Tryz.pinned (OpenSpec.ofChange appendNoneWrong)

/-- 'escheatlaw16.FetchMends': WHATEVER THE INPUT: true; the input reads as it did. -/
def fetchMendsSpec : ChangeSpec := { name := "fetchMends", fn := fun _ => fun
  | [d1, d2, d3] => { results := [.lit (.bool true)], args := [d1, d2, d3] }
  | _ => none }
def fetchMendsRow : OpenClaim := { program := "ytohmmjaikhpcfaagreat", sum := "133df51e55ccce2be4d7d864f1b8ab824534f56e3a1eda97eae1bed45de08c49", func := "escheat/escheatlaw16.FetchMends", spec := "fetchMends", unfollowed := true, recurses := true, plainKeys := false, apart := false }
def FetchMendsSaid : Prop := fetchMendsRow.holds Tryz.pinned (OpenSpec.ofChange fetchMendsSpec)

/-- ITS FALSE NEIGHBOUR: 'it returns false'. Refute it at one input. -/
def fetchMendsWrong : ChangeSpec := { name := "fetchMends", fn := fun _ => fun
  | [d1, d2, d3] => { results := [.lit (.bool false)], args := [d1, d2, d3] }
  | _ => none }
def FetchMendsWrongFalsely : Prop := fetchMendsRow.holds Tryz.pinned (OpenSpec.ofChange fetchMendsWrong)

/-- 'escheatlaw16.FetchAgrees': WHATEVER THE INPUT: true; the input reads as it did. -/
def fetchAgreesSpec : ChangeSpec := { name := "fetchAgrees", fn := fun _ => fun
  | [d1, d2, d3] => { results := [.lit (.bool true)], args := [d1, d2, d3] }
  | _ => none }
def fetchAgreesRow : OpenClaim := { program := "ytohmmjaikhpcfaagreat", sum := "133df51e55ccce2be4d7d864f1b8ab824534f56e3a1eda97eae1bed45de08c49", func := "escheat/escheatlaw16.FetchAgrees", spec := "fetchAgrees", unfollowed := true, recurses := true, plainKeys := false, apart := false }
def FetchAgreesSaid : Prop := fetchAgreesRow.holds Tryz.pinned (OpenSpec.ofChange fetchAgreesSpec)

/-- ITS FALSE NEIGHBOUR: 'it returns false'. Refute it at one input. -/
def fetchAgreesWrong : ChangeSpec := { name := "fetchAgrees", fn := fun _ => fun
  | [d1, d2, d3] => { results := [.lit (.bool false)], args := [d1, d2, d3] }
  | _ => none }
def FetchAgreesWrongFalsely : Prop := fetchAgreesRow.holds Tryz.pinned (OpenSpec.ofChange fetchAgreesWrong)

/-- 'escheatlaw16.FetchTrims': WHATEVER THE INPUT: true; the input reads as it did. -/
def fetchTrimsSpec : ChangeSpec := { name := "fetchTrims", fn := fun _ => fun
  | [d1, d2, d3] => { results := [.lit (.bool true)], args := [d1, d2, d3] }
  | _ => none }
def fetchTrimsRow : OpenClaim := { program := "ytohmmjaikhpcfaagreat", sum := "133df51e55ccce2be4d7d864f1b8ab824534f56e3a1eda97eae1bed45de08c49", func := "escheat/escheatlaw16.FetchTrims", spec := "fetchTrims", unfollowed := true, recurses := true, plainKeys := false, apart := false }
def FetchTrimsSaid : Prop := fetchTrimsRow.holds Tryz.pinned (OpenSpec.ofChange fetchTrimsSpec)

/-- ITS FALSE NEIGHBOUR: 'it returns false'. Refute it at one input. -/
def fetchTrimsWrong : ChangeSpec := { name := "fetchTrims", fn := fun _ => fun
  | [d1, d2, d3] => { results := [.lit (.bool false)], args := [d1, d2, d3] }
  | _ => none }
def FetchTrimsWrongFalsely : Prop := fetchTrimsRow.holds Tryz.pinned (OpenSpec.ofChange fetchTrimsWrong)

/-- 'escheatlaw16.FetchNone': WHATEVER THE INPUT: true; the input reads as it did. -/
def fetchNoneSpec : ChangeSpec := { name := "fetchNone", fn := fun _ => fun
  | [d1, d2, d3] => { results := [.lit (.bool true)], args := [d1, d2, d3] }
  | _ => none }
def fetchNoneRow : OpenClaim := { program := "ytohmmjaikhpcfaagreat", sum := "133df51e55ccce2be4d7d864f1b8ab824534f56e3a1eda97eae1bed45de08c49", func := "escheat/escheatlaw16.FetchNone", spec := "fetchNone", unfollowed := true, recurses := true, plainKeys := false, apart := false }
def FetchNoneSaid : Prop := fetchNoneRow.holds Tryz.pinned (OpenSpec.ofChange fetchNoneSpec)

/-- ITS FALSE NEIGHBOUR: 'it returns false'. Refute it at one input. -/
def fetchNoneWrong : ChangeSpec := { name := "fetchNone", fn := fun _ => fun
  | [d1, d2, d3] => { results := [.lit (.bool false)], args := [d1, d2, d3] }
  | _ => none }
def FetchNoneWrongFalsely : Prop := fetchNoneRow.holds Tryz.pinned (OpenSpec.ofChange fetchNoneWrong)

/-- 'escheatlaw15.AppendEnds': WHATEVER THE INPUT: true; the input reads as it did. -/
def appendEndsSpec : ChangeSpec := { name := "appendEnds", fn := fun _ => fun
  | [d1, d2, d3] => { results := [.lit (.bool true)], args := [d1, d2, d3] }
  | _ => none }
def appendEndsRow : OpenClaim := { program := "ytohmmjaikhpcfaagreat", sum := "133df51e55ccce2be4d7d864f1b8ab824534f56e3a1eda97eae1bed45de08c49", func := "escheat/escheatlaw15.AppendEnds", spec := "appendEnds", unfollowed := true, recurses := true, plainKeys := false, apart := false }
def AppendEndsSaid : Prop := appendEndsRow.holds Tryz.pinned (OpenSpec.ofChange appendEndsSpec)

/-- ITS FALSE NEIGHBOUR: 'it returns false'. Refute it at one input. -/
def appendEndsWrong : ChangeSpec := { name := "appendEnds", fn := fun _ => fun
  | [d1, d2, d3] => { results := [.lit (.bool false)], args := [d1, d2, d3] }
  | _ => none }
def AppendEndsWrongFalsely : Prop := appendEndsRow.holds Tryz.pinned (OpenSpec.ofChange appendEndsWrong)

/- THE SECOND FORM. 'bulk': how many values and letters a reading holds, each counted each time it is reached (what is shared counts as often as it is met; a slice's spare places count too). A statement '..UptoSaid' is the law's where the arguments, and the package variables that the reading takes, are together of bulk at most 1048576: NARROWER than '..Said'. Prove '..Said' where nothing that the law and all that it calls make is longer than what came in: it says more and counts as full. Else prove '..UptoSaid'. A law counts once. -/
mutual
def uptoBulk {H : Type} : DataW H → Nat
  | .lit (.string bytes) => bytes.length + 1
  | .lit _ => 1
  | .nil => 1
  | .ptr d => uptoBulk d + 1
  | .slice elems spare => uptoBulkAll elems + uptoBulkAll spare + 1
  | .agg parts => uptoBulkAll parts + 1
  | .iface _ d => uptoBulk d + 1
  | .map entries => uptoBulkEntries entries + 1
  | .held _ => 1
def uptoBulkAll {H : Type} : List (DataW H) → Nat
  | [] => 0
  | d :: r => uptoBulk d + uptoBulkAll r
def uptoBulkEntries {H : Type} : List (Lit × DataW H) → Nat
  | [] => 0
  | x :: r => uptoBulkEntry x + uptoBulkEntries r
def uptoBulkEntry {H : Type} : Lit × DataW H → Nat
  | (.string bytes, d) => bytes.length + uptoBulk d + 1
  | (_, d) => uptoBulk d + 1
 end
def uptoSmall : (H : Type) → List (DataW H) → Bool := fun _ ds => decide (uptoBulkAll ds ≤ 1048576)
def OpenSpec.upto (s : _root_.Go.ChangeSpec) : _root_.Go.OpenSpec := { _root_.Go.OpenSpec.ofChange s with cond := some uptoSmall }

/-- 'escheatlaw15.AppendOrder', WHERE WHAT IT READS IS OF BULK AT MOST 1048576: true; the input reads as it did. -/
def appendOrderUptoRow : OpenClaim := { program := "ytohmmjaikhpcfaagreat", sum := "133df51e55ccce2be4d7d864f1b8ab824534f56e3a1eda97eae1bed45de08c49", func := "escheat/escheatlaw15.AppendOrder", spec := "appendOrder", unfollowed := true, recurses := true, plainKeys := false, apart := false, narrowed := true }
def AppendOrderUptoSaid : Prop := appendOrderUptoRow.holds Tryz.pinned (OpenSpec.upto appendOrderSpec)

/-- 'escheatlaw15.AppendFull', WHERE WHAT IT READS IS OF BULK AT MOST 1048576: true; the input reads as it did. -/
def appendFullUptoRow : OpenClaim := { program := "ytohmmjaikhpcfaagreat", sum := "133df51e55ccce2be4d7d864f1b8ab824534f56e3a1eda97eae1bed45de08c49", func := "escheat/escheatlaw15.AppendFull", spec := "appendFull", unfollowed := true, recurses := true, plainKeys := false, apart := false, narrowed := true }
def AppendFullUptoSaid : Prop := appendFullUptoRow.holds Tryz.pinned (OpenSpec.upto appendFullSpec)

/-- 'escheatlaw15.AppendNone', WHERE WHAT IT READS IS OF BULK AT MOST 1048576: true; the input reads as it did. -/
def appendNoneUptoRow : OpenClaim := { program := "ytohmmjaikhpcfaagreat", sum := "133df51e55ccce2be4d7d864f1b8ab824534f56e3a1eda97eae1bed45de08c49", func := "escheat/escheatlaw15.AppendNone", spec := "appendNone", unfollowed := true, recurses := true, plainKeys := false, apart := false, narrowed := true }
def AppendNoneUptoSaid : Prop := appendNoneUptoRow.holds Tryz.pinned (OpenSpec.upto appendNoneSpec)

/-- 'escheatlaw16.FetchMends', WHERE WHAT IT READS IS OF BULK AT MOST 1048576: true; the input reads as it did. -/
def fetchMendsUptoRow : OpenClaim := { program := "ytohmmjaikhpcfaagreat", sum := "133df51e55ccce2be4d7d864f1b8ab824534f56e3a1eda97eae1bed45de08c49", func := "escheat/escheatlaw16.FetchMends", spec := "fetchMends", unfollowed := true, recurses := true, plainKeys := false, apart := false, narrowed := true }
def FetchMendsUptoSaid : Prop := fetchMendsUptoRow.holds Tryz.pinned (OpenSpec.upto fetchMendsSpec)

/-- 'escheatlaw16.FetchAgrees', WHERE WHAT IT READS IS OF BULK AT MOST 1048576: true; the input reads as it did. -/
def fetchAgreesUptoRow : OpenClaim := { program := "ytohmmjaikhpcfaagreat", sum := "133df51e55ccce2be4d7d864f1b8ab824534f56e3a1eda97eae1bed45de08c49", func := "escheat/escheatlaw16.FetchAgrees", spec := "fetchAgrees", unfollowed := true, recurses := true, plainKeys := false, apart := false, narrowed := true }
def FetchAgreesUptoSaid : Prop := fetchAgreesUptoRow.holds Tryz.pinned (OpenSpec.upto fetchAgreesSpec)

/-- 'escheatlaw16.FetchTrims', WHERE WHAT IT READS IS OF BULK AT MOST 1048576: true; the input reads as it did. -/
def fetchTrimsUptoRow : OpenClaim := { program := "ytohmmjaikhpcfaagreat", sum := "133df51e55ccce2be4d7d864f1b8ab824534f56e3a1eda97eae1bed45de08c49", func := "escheat/escheatlaw16.FetchTrims", spec := "fetchTrims", unfollowed := true, recurses := true, plainKeys := false, apart := false, narrowed := true }
def FetchTrimsUptoSaid : Prop := fetchTrimsUptoRow.holds Tryz.pinned (OpenSpec.upto fetchTrimsSpec)

/-- 'escheatlaw16.FetchNone', WHERE WHAT IT READS IS OF BULK AT MOST 1048576: true; the input reads as it did. -/
def fetchNoneUptoRow : OpenClaim := { program := "ytohmmjaikhpcfaagreat", sum := "133df51e55ccce2be4d7d864f1b8ab824534f56e3a1eda97eae1bed45de08c49", func := "escheat/escheatlaw16.FetchNone", spec := "fetchNone", unfollowed := true, recurses := true, plainKeys := false, apart := false, narrowed := true }
def FetchNoneUptoSaid : Prop := fetchNoneUptoRow.holds Tryz.pinned (OpenSpec.upto fetchNoneSpec)

/-- 'escheatlaw15.AppendEnds', WHERE WHAT IT READS IS OF BULK AT MOST 1048576: true; the input reads as it did. -/
def appendEndsUptoRow : OpenClaim := { program := "ytohmmjaikhpcfaagreat", sum := "133df51e55ccce2be4d7d864f1b8ab824534f56e3a1eda97eae1bed45de08c49", func := "escheat/escheatlaw15.AppendEnds", spec := "appendEnds", unfollowed := true, recurses := true, plainKeys := false, apart := false, narrowed := true }
def AppendEndsUptoSaid : Prop := appendEndsUptoRow.holds Tryz.pinned (OpenSpec.upto appendEndsSpec)

end Rows
end Go.Proofs.YtohmmjaikhpcfaaGreat
