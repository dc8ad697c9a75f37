/-
  No cell of these rows narrows 'for every input' (looked for: loops, veiled, ifaces, maps, wideKeys, modest, calm, conditions, laid).
  DERIVED. THE GIVEN ROWS OF THIS SEAT. 7 by the template 'for every input the law returns true; each argument reads behind the call as it read before'; 0 by the template 'total and deterministic' (their statements: YtlooinhdehkcdaaTotals.lean).
  GIVEN WITH THE SEED: the statements are not yours to turn. If you find one false, say at which input.
  Laid BY PROGRAM, IN A SANDBOX (cutbox-rows.mjs): the forced cells as the released guide's own fill.sh prints them over the translation 74486d1b429359b6… (all of the seat's roots in one cut). By AI agents, Wed Nov 11 2026. No macro, syntax, notation, axiom, sorry.
-/
import Derived.Test.YtlooinhdehkcdaaChecked
import GoSem.Claim
import GoSem.ClaimJoined
import GoSem.ClaimMapViews
import Derived.JoinedTies
import Derived.KernelRfl
namespace Go.Proofs.Ytlooinhdehkcdaa
/- THE CELL 'sum', in the pinned program and in every row, IS THE sha256 OF THE DUMP (.gsa) THAT YtlooinhdehkcdaaProg.lean LOADS. Nothing in Lean hashes anything: it is a label: what it is worth is what the hold of that sum in a sandbox is worth. -/
noncomputable def Try.pinned : Pinned := { name := "ytlooinhdehkcdaa", sum := "74486d1b429359b65256feb2aa4078cd593022bde9c8a0aeb836a98bab0acaa7", checked := Try.checked }
namespace Rows
def none {H : Type} : Left H := { results := [], args := [] }

/-- 'laws.FnExactUnionOf': WHATEVER THE INPUT: true; the input reads as it did. -/
def fnExactUnionOfSpec : ChangeSpec := { name := "fnExactUnionOf", fn := fun _ => fun
  | [d1, d2] => { results := [.lit (.bool true)], args := [d1, d2] }
  | _ => none }
def fnExactUnionOfRow : OpenClaim := { program := "ytlooinhdehkcdaa", sum := "74486d1b429359b65256feb2aa4078cd593022bde9c8a0aeb836a98bab0acaa7", func := "loop.example/g01084/laws.FnExactUnionOf", spec := "fnExactUnionOf", unfollowed := true, recurses := true, plainKeys := false, apart := false }
def FnExactUnionOfSaid : Prop := fnExactUnionOfRow.holds Try.pinned (OpenSpec.ofChange fnExactUnionOfSpec)

/-- ITS FALSE NEIGHBOUR: 'it returns false'. Refute it at one input. -/
def fnExactUnionOfWrong : ChangeSpec := { name := "fnExactUnionOf", fn := fun _ => fun
  | [d1, d2] => { results := [.lit (.bool false)], args := [d1, d2] }
  | _ => none }
def FnExactUnionOfWrongFalsely : Prop := fnExactUnionOfRow.holds Try.pinned (OpenSpec.ofChange fnExactUnionOfWrong)

/-- 'laws.FnExactDoubleCover': WHATEVER THE INPUT: true; the input reads as it did. -/
def fnExactDoubleCoverSpec : ChangeSpec := { name := "fnExactDoubleCover", fn := fun _ => fun
  | [d] => { results := [.lit (.bool true)], args := [d] }
  | _ => none }
def fnExactDoubleCoverRow : OpenClaim := { program := "ytlooinhdehkcdaa", sum := "74486d1b429359b65256feb2aa4078cd593022bde9c8a0aeb836a98bab0acaa7", func := "loop.example/g01084/laws.FnExactDoubleCover", spec := "fnExactDoubleCover", unfollowed := true, recurses := true, plainKeys := false, apart := false }
def FnExactDoubleCoverSaid : Prop := fnExactDoubleCoverRow.holds Try.pinned (OpenSpec.ofChange fnExactDoubleCoverSpec)

/-- ITS FALSE NEIGHBOUR: 'it returns false'. Refute it at one input. -/
def fnExactDoubleCoverWrong : ChangeSpec := { name := "fnExactDoubleCover", fn := fun _ => fun
  | [d] => { results := [.lit (.bool false)], args := [d] }
  | _ => none }
def FnExactDoubleCoverWrongFalsely : Prop := fnExactDoubleCoverRow.holds Try.pinned (OpenSpec.ofChange fnExactDoubleCoverWrong)

/-- 'laws.FnExactRegularTree': WHATEVER THE INPUT: true; the input reads as it did. -/
def fnExactRegularTreeSpec : ChangeSpec := { name := "fnExactRegularTree", fn := fun _ => fun
  | [d1, d2] => { results := [.lit (.bool true)], args := [d1, d2] }
  | _ => none }
def fnExactRegularTreeRow : OpenClaim := { program := "ytlooinhdehkcdaa", sum := "74486d1b429359b65256feb2aa4078cd593022bde9c8a0aeb836a98bab0acaa7", func := "loop.example/g01084/laws.FnExactRegularTree", spec := "fnExactRegularTree", plainKeys := false, apart := false }
def FnExactRegularTreeSaid : Prop := fnExactRegularTreeRow.holds Try.pinned (OpenSpec.ofChange fnExactRegularTreeSpec)

/-- ITS FALSE NEIGHBOUR: 'it returns false'. Refute it at one input. -/
def fnExactRegularTreeWrong : ChangeSpec := { name := "fnExactRegularTree", fn := fun _ => fun
  | [d1, d2] => { results := [.lit (.bool false)], args := [d1, d2] }
  | _ => none }
def FnExactRegularTreeWrongFalsely : Prop := fnExactRegularTreeRow.holds Try.pinned (OpenSpec.ofChange fnExactRegularTreeWrong)

/-- 'laws.FnExactRemoveEdge': WHATEVER THE INPUT: true; the input reads as it did. -/
def fnExactRemoveEdgeSpec : ChangeSpec := { name := "fnExactRemoveEdge", fn := fun _ => fun
  | [d1, d2, d3] => { results := [.lit (.bool true)], args := [d1, d2, d3] }
  | _ => none }
def fnExactRemoveEdgeRow : OpenClaim := { program := "ytlooinhdehkcdaa", sum := "74486d1b429359b65256feb2aa4078cd593022bde9c8a0aeb836a98bab0acaa7", func := "loop.example/g01084/laws.FnExactRemoveEdge", spec := "fnExactRemoveEdge", unfollowed := true, recurses := true, plainKeys := false, apart := false }
def FnExactRemoveEdgeSaid : Prop := fnExactRemoveEdgeRow.holds Try.pinned (OpenSpec.ofChange fnExactRemoveEdgeSpec)

/-- ITS FALSE NEIGHBOUR: 'it returns false'. Refute it at one input. -/
def fnExactRemoveEdgeWrong : ChangeSpec := { name := "fnExactRemoveEdge", fn := fun _ => fun
  | [d1, d2, d3] => { results := [.lit (.bool false)], args := [d1, d2, d3] }
  | _ => none }
def FnExactRemoveEdgeWrongFalsely : Prop := fnExactRemoveEdgeRow.holds Try.pinned (OpenSpec.ofChange fnExactRemoveEdgeWrong)

/-- 'laws.FnExactKeepNodes': WHATEVER THE INPUT: true; the input reads as it did. -/
def fnExactKeepNodesSpec : ChangeSpec := { name := "fnExactKeepNodes", fn := fun _ => fun
  | [d1, d2] => { results := [.lit (.bool true)], args := [d1, d2] }
  | _ => none }
def fnExactKeepNodesRow : OpenClaim := { program := "ytlooinhdehkcdaa", sum := "74486d1b429359b65256feb2aa4078cd593022bde9c8a0aeb836a98bab0acaa7", func := "loop.example/g01084/laws.FnExactKeepNodes", spec := "fnExactKeepNodes", unfollowed := true, recurses := true, plainKeys := false, apart := false }
def FnExactKeepNodesSaid : Prop := fnExactKeepNodesRow.holds Try.pinned (OpenSpec.ofChange fnExactKeepNodesSpec)

/-- ITS FALSE NEIGHBOUR: 'it returns false'. Refute it at one input. -/
def fnExactKeepNodesWrong : ChangeSpec := { name := "fnExactKeepNodes", fn := fun _ => fun
  | [d1, d2] => { results := [.lit (.bool false)], args := [d1, d2] }
  | _ => none }
def FnExactKeepNodesWrongFalsely : Prop := fnExactKeepNodesRow.holds Try.pinned (OpenSpec.ofChange fnExactKeepNodesWrong)

/-- 'laws.FnExactStableDepth': WHATEVER THE INPUT: true; the input reads as it did. -/
def fnExactStableDepthSpec : ChangeSpec := { name := "fnExactStableDepth", fn := fun _ => fun
  | [d] => { results := [.lit (.bool true)], args := [d] }
  | _ => none }
def fnExactStableDepthRow : OpenClaim := { program := "ytlooinhdehkcdaa", sum := "74486d1b429359b65256feb2aa4078cd593022bde9c8a0aeb836a98bab0acaa7", func := "loop.example/g01084/laws.FnExactStableDepth", spec := "fnExactStableDepth", unfollowed := true, recurses := true, plainKeys := false, apart := false }
def FnExactStableDepthSaid : Prop := fnExactStableDepthRow.holds Try.pinned (OpenSpec.ofChange fnExactStableDepthSpec)

/-- ITS FALSE NEIGHBOUR: 'it returns false'. Refute it at one input. -/
def fnExactStableDepthWrong : ChangeSpec := { name := "fnExactStableDepth", fn := fun _ => fun
  | [d] => { results := [.lit (.bool false)], args := [d] }
  | _ => none }
def FnExactStableDepthWrongFalsely : Prop := fnExactStableDepthRow.holds Try.pinned (OpenSpec.ofChange fnExactStableDepthWrong)

/-- 'laws.FnExactViewClasses': WHATEVER THE INPUT: true; the input reads as it did. -/
def fnExactViewClassesSpec : ChangeSpec := { name := "fnExactViewClasses", fn := fun _ => fun
  | [d1, d2] => { results := [.lit (.bool true)], args := [d1, d2] }
  | _ => none }
def fnExactViewClassesRow : OpenClaim := { program := "ytlooinhdehkcdaa", sum := "74486d1b429359b65256feb2aa4078cd593022bde9c8a0aeb836a98bab0acaa7", func := "loop.example/g01084/laws.FnExactViewClasses", spec := "fnExactViewClasses", unfollowed := true, recurses := true, plainKeys := false, apart := false }
def FnExactViewClassesSaid : Prop := fnExactViewClassesRow.holds Try.pinned (OpenSpec.ofChange fnExactViewClassesSpec)

/-- ITS FALSE NEIGHBOUR: 'it returns false'. Refute it at one input. -/
def fnExactViewClassesWrong : ChangeSpec := { name := "fnExactViewClasses", fn := fun _ => fun
  | [d1, d2] => { results := [.lit (.bool false)], args := [d1, d2] }
  | _ => none }
def FnExactViewClassesWrongFalsely : Prop := fnExactViewClassesRow.holds Try.pinned (OpenSpec.ofChange fnExactViewClassesWrong)

/- THE SECOND FORM. 'bulk': how many values and letters a reading holds, each counted each time it is reached (what is shared counts as often as it is met; a slice's spare places count too). A statement '..UptoSaid' is the law's where the arguments, and the package variables that the reading takes, are together of bulk at most 1048576: NARROWER than '..Said'. Prove '..Said' where nothing that the law and all that it calls make is longer than what came in: it says more and counts as full. Else prove '..UptoSaid'. A law counts once. -/
mutual
def uptoBulk {H : Type} : DataW H → Nat
  | .lit (.string bytes) => bytes.length + 1
  | .lit _ => 1
  | .nil => 1
  | .ptr d => uptoBulk d + 1
  | .slice elems spare => uptoBulkAll elems + uptoBulkAll spare + 1
  | .agg parts => uptoBulkAll parts + 1
  | .iface _ d => uptoBulk d + 1
  | .map entries => uptoBulkEntries entries + 1
  | .held _ => 1
def uptoBulkAll {H : Type} : List (DataW H) → Nat
  | [] => 0
  | d :: r => uptoBulk d + uptoBulkAll r
def uptoBulkEntries {H : Type} : List (Lit × DataW H) → Nat
  | [] => 0
  | x :: r => uptoBulkEntry x + uptoBulkEntries r
def uptoBulkEntry {H : Type} : Lit × DataW H → Nat
  | (.string bytes, d) => bytes.length + uptoBulk d + 1
  | (_, d) => uptoBulk d + 1
 end
def uptoSmall : (H : Type) → List (DataW H) → Bool := fun _ ds => decide (uptoBulkAll ds ≤ 1048576)
def OpenSpec.upto (s : _root_.Go.ChangeSpec) : _root_.Go.OpenSpec := { _root_.Go.OpenSpec.ofChange s with cond := some uptoSmall }

/-- 'laws.FnExactUnionOf', WHERE WHAT IT READS IS OF BULK AT MOST 1048576: true; the input reads as it did. -/
def fnExactUnionOfUptoRow : OpenClaim := { program := "ytlooinhdehkcdaa", sum := "74486d1b429359b65256feb2aa4078cd593022bde9c8a0aeb836a98bab0acaa7", func := "loop.example/g01084/laws.FnExactUnionOf", spec := "fnExactUnionOf", unfollowed := true, recurses := true, plainKeys := false, apart := false, narrowed := true }
def FnExactUnionOfUptoSaid : Prop := fnExactUnionOfUptoRow.holds Try.pinned (OpenSpec.upto fnExactUnionOfSpec)

/-- 'laws.FnExactDoubleCover', WHERE WHAT IT READS IS OF BULK AT MOST 1048576: true; the input reads as it did. -/
def fnExactDoubleCoverUptoRow : OpenClaim := { program := "ytlooinhdehkcdaa", sum := "74486d1b429359b65256feb2aa4078cd593022bde9c8a0aeb836a98bab0acaa7", func := "loop.example/g01084/laws.FnExactDoubleCover", spec := "fnExactDoubleCover", unfollowed := true, recurses := true, plainKeys := false, apart := false, narrowed := true }
def FnExactDoubleCoverUptoSaid : Prop := fnExactDoubleCoverUptoRow.holds Try.pinned (OpenSpec.upto fnExactDoubleCoverSpec)

/-- 'laws.FnExactRegularTree', WHERE WHAT IT READS IS OF BULK AT MOST 1048576: true; the input reads as it did. -/
def fnExactRegularTreeUptoRow : OpenClaim := { program := "ytlooinhdehkcdaa", sum := "74486d1b429359b65256feb2aa4078cd593022bde9c8a0aeb836a98bab0acaa7", func := "loop.example/g01084/laws.FnExactRegularTree", spec := "fnExactRegularTree", plainKeys := false, apart := false, narrowed := true }
def FnExactRegularTreeUptoSaid : Prop := fnExactRegularTreeUptoRow.holds Try.pinned (OpenSpec.upto fnExactRegularTreeSpec)

/-- 'laws.FnExactRemoveEdge', WHERE WHAT IT READS IS OF BULK AT MOST 1048576: true; the input reads as it did. -/
def fnExactRemoveEdgeUptoRow : OpenClaim := { program := "ytlooinhdehkcdaa", sum := "74486d1b429359b65256feb2aa4078cd593022bde9c8a0aeb836a98bab0acaa7", func := "loop.example/g01084/laws.FnExactRemoveEdge", spec := "fnExactRemoveEdge", unfollowed := true, recurses := true, plainKeys := false, apart := false, narrowed := true }
def FnExactRemoveEdgeUptoSaid : Prop := fnExactRemoveEdgeUptoRow.holds Try.pinned (OpenSpec.upto fnExactRemoveEdgeSpec)

/-- 'laws.FnExactKeepNodes', WHERE WHAT IT READS IS OF BULK AT MOST 1048576: true; the input reads as it did. -/
def fnExactKeepNodesUptoRow : OpenClaim := { program := "ytlooinhdehkcdaa", sum := "74486d1b429359b65256feb2aa4078cd593022bde9c8a0aeb836a98bab0acaa7", func := "loop.example/g01084/laws.FnExactKeepNodes", spec := "fnExactKeepNodes", unfollowed := true, recurses := true, plainKeys := false, apart := false, narrowed := true }
def FnExactKeepNodesUptoSaid : Prop := fnExactKeepNodesUptoRow.holds Try.pinned (OpenSpec.upto fnExactKeepNodesSpec)

/-- 'laws.FnExactStableDepth', WHERE WHAT IT READS IS OF BULK AT MOST 1048576: true; the input reads as it did. -/
def fnExactStableDepthUptoRow : OpenClaim := { program := "ytlooinhdehkcdaa", sum := "74486d1b429359b65256feb2aa4078cd593022bde9c8a0aeb836a98bab0acaa7", func := "loop.example/g01084/laws.FnExactStableDepth", spec := "fnExactStableDepth", unfollowed := true, recurses := true, plainKeys := false, apart := false, narrowed := true }
def FnExactStableDepthUptoSaid : Prop := fnExactStableDepthUptoRow.holds Try.pinned (OpenSpec.upto fnExactStableDepthSpec)

/-- 'laws.FnExactViewClasses', WHERE WHAT IT READS IS OF BULK AT MOST 1048576: true; the input reads as it did. -/
def fnExactViewClassesUptoRow : OpenClaim := { program := "ytlooinhdehkcdaa", sum := "74486d1b429359b65256feb2aa4078cd593022bde9c8a0aeb836a98bab0acaa7", func := "loop.example/g01084/laws.FnExactViewClasses", spec := "fnExactViewClasses", unfollowed := true, recurses := true, plainKeys := false, apart := false, narrowed := true }
def FnExactViewClassesUptoSaid : Prop := fnExactViewClassesUptoRow.holds Try.pinned (OpenSpec.upto fnExactViewClassesSpec)

end Rows
end Go.Proofs.Ytlooinhdehkcdaa
