/-
  No cell of these rows narrows 'for every input' (looked for: loops, veiled, ifaces, maps, wideKeys, modest, calm, conditions, laid).
  DERIVED. THE GIVEN ROWS OF THIS SEAT. 12 by the template 'for every input the law returns true; each argument reads behind the call as it read before'; 0 by the template 'total and deterministic' (their statements: YtdchomjdimbenaaTotals.lean).
  GIVEN WITH THE SEED: the statements are not yours to turn. If you find one false, say at which input.
  Laid BY PROGRAM, IN A SANDBOX (cutbox-rows.mjs): the forced cells as the released guide's own fill.sh prints them over the translation 07cae7b65f720d70… (all of the seat's roots in one cut). By AI agents, Wed Nov 11 2026. No macro, syntax, notation, axiom, sorry.
-/
import Derived.Test.YtdchomjdimbenaaChecked
import GoSem.Claim
import GoSem.ClaimJoined
import GoSem.ClaimMapViews
import Derived.JoinedTies
import Derived.KernelRfl
namespace Go.Proofs.Ytdchomjdimbenaa
/- THE CELL 'sum', in the pinned program and in every row, IS THE sha256 OF THE DUMP (.gsa) THAT YtdchomjdimbenaaProg.lean LOADS. Nothing in Lean hashes anything: it is a label: what it is worth is what the hold of that sum in a sandbox is worth. -/
noncomputable def Try.pinned : Pinned := { name := "ytdchomjdimbenaa", sum := "07cae7b65f720d70cbcb5aa7af8ac70d0164a4261a05b15e8c9e7ed0dff3545b", checked := Try.checked }
namespace Rows
def none {H : Type} : Left H := { results := [], args := [] }

/-- 'laws.FnExactCompleteNetwork': WHATEVER THE INPUT: true; the input reads as it did. -/
def fnExactCompleteNetworkSpec : ChangeSpec := { name := "fnExactCompleteNetwork", fn := fun _ => fun
  | [d] => { results := [.lit (.bool true)], args := [d] }
  | _ => none }
def fnExactCompleteNetworkRow : OpenClaim := { program := "ytdchomjdimbenaa", sum := "07cae7b65f720d70cbcb5aa7af8ac70d0164a4261a05b15e8c9e7ed0dff3545b", func := "loop.example/g01084/laws.FnExactCompleteNetwork", spec := "fnExactCompleteNetwork", unfollowed := true, recurses := true, plainKeys := false, apart := false }
def FnExactCompleteNetworkSaid : Prop := fnExactCompleteNetworkRow.holds Try.pinned (OpenSpec.ofChange fnExactCompleteNetworkSpec)

/-- ITS FALSE NEIGHBOUR: 'it returns false'. Refute it at one input. -/
def fnExactCompleteNetworkWrong : ChangeSpec := { name := "fnExactCompleteNetwork", fn := fun _ => fun
  | [d] => { results := [.lit (.bool false)], args := [d] }
  | _ => none }
def FnExactCompleteNetworkWrongFalsely : Prop := fnExactCompleteNetworkRow.holds Try.pinned (OpenSpec.ofChange fnExactCompleteNetworkWrong)

/-- 'laws.FnExactTorusNetwork': WHATEVER THE INPUT: true; the input reads as it did. -/
def fnExactTorusNetworkSpec : ChangeSpec := { name := "fnExactTorusNetwork", fn := fun _ => fun
  | [d1, d2] => { results := [.lit (.bool true)], args := [d1, d2] }
  | _ => none }
def fnExactTorusNetworkRow : OpenClaim := { program := "ytdchomjdimbenaa", sum := "07cae7b65f720d70cbcb5aa7af8ac70d0164a4261a05b15e8c9e7ed0dff3545b", func := "loop.example/g01084/laws.FnExactTorusNetwork", spec := "fnExactTorusNetwork", unfollowed := true, recurses := true, plainKeys := false, apart := false }
def FnExactTorusNetworkSaid : Prop := fnExactTorusNetworkRow.holds Try.pinned (OpenSpec.ofChange fnExactTorusNetworkSpec)

/-- ITS FALSE NEIGHBOUR: 'it returns false'. Refute it at one input. -/
def fnExactTorusNetworkWrong : ChangeSpec := { name := "fnExactTorusNetwork", fn := fun _ => fun
  | [d1, d2] => { results := [.lit (.bool false)], args := [d1, d2] }
  | _ => none }
def FnExactTorusNetworkWrongFalsely : Prop := fnExactTorusNetworkRow.holds Try.pinned (OpenSpec.ofChange fnExactTorusNetworkWrong)

/-- 'laws.FnExactHypercubeNetwork': WHATEVER THE INPUT: true; the input reads as it did. -/
def fnExactHypercubeNetworkSpec : ChangeSpec := { name := "fnExactHypercubeNetwork", fn := fun _ => fun
  | [d] => { results := [.lit (.bool true)], args := [d] }
  | _ => none }
def fnExactHypercubeNetworkRow : OpenClaim := { program := "ytdchomjdimbenaa", sum := "07cae7b65f720d70cbcb5aa7af8ac70d0164a4261a05b15e8c9e7ed0dff3545b", func := "loop.example/g01084/laws.FnExactHypercubeNetwork", spec := "fnExactHypercubeNetwork", unfollowed := true, recurses := true, plainKeys := false, apart := false }
def FnExactHypercubeNetworkSaid : Prop := fnExactHypercubeNetworkRow.holds Try.pinned (OpenSpec.ofChange fnExactHypercubeNetworkSpec)

/-- ITS FALSE NEIGHBOUR: 'it returns false'. Refute it at one input. -/
def fnExactHypercubeNetworkWrong : ChangeSpec := { name := "fnExactHypercubeNetwork", fn := fun _ => fun
  | [d] => { results := [.lit (.bool false)], args := [d] }
  | _ => none }
def FnExactHypercubeNetworkWrongFalsely : Prop := fnExactHypercubeNetworkRow.holds Try.pinned (OpenSpec.ofChange fnExactHypercubeNetworkWrong)

/-- 'laws.FnExactBouquetNetwork': WHATEVER THE INPUT: true; the input reads as it did. -/
def fnExactBouquetNetworkSpec : ChangeSpec := { name := "fnExactBouquetNetwork", fn := fun _ => fun
  | [d1, d2] => { results := [.lit (.bool true)], args := [d1, d2] }
  | _ => none }
def fnExactBouquetNetworkRow : OpenClaim := { program := "ytdchomjdimbenaa", sum := "07cae7b65f720d70cbcb5aa7af8ac70d0164a4261a05b15e8c9e7ed0dff3545b", func := "loop.example/g01084/laws.FnExactBouquetNetwork", spec := "fnExactBouquetNetwork", unfollowed := true, recurses := true, plainKeys := false, apart := false }
def FnExactBouquetNetworkSaid : Prop := fnExactBouquetNetworkRow.holds Try.pinned (OpenSpec.ofChange fnExactBouquetNetworkSpec)

/-- ITS FALSE NEIGHBOUR: 'it returns false'. Refute it at one input. -/
def fnExactBouquetNetworkWrong : ChangeSpec := { name := "fnExactBouquetNetwork", fn := fun _ => fun
  | [d1, d2] => { results := [.lit (.bool false)], args := [d1, d2] }
  | _ => none }
def FnExactBouquetNetworkWrongFalsely : Prop := fnExactBouquetNetworkRow.holds Try.pinned (OpenSpec.ofChange fnExactBouquetNetworkWrong)

/-- 'laws.FnExactCirculantNetwork': WHATEVER THE INPUT: true; the input reads as it did. -/
def fnExactCirculantNetworkSpec : ChangeSpec := { name := "fnExactCirculantNetwork", fn := fun _ => fun
  | [d1, d2] => { results := [.lit (.bool true)], args := [d1, d2] }
  | _ => none }
def fnExactCirculantNetworkRow : OpenClaim := { program := "ytdchomjdimbenaa", sum := "07cae7b65f720d70cbcb5aa7af8ac70d0164a4261a05b15e8c9e7ed0dff3545b", func := "loop.example/g01084/laws.FnExactCirculantNetwork", spec := "fnExactCirculantNetwork", unfollowed := true, recurses := true, plainKeys := false, apart := false }
def FnExactCirculantNetworkSaid : Prop := fnExactCirculantNetworkRow.holds Try.pinned (OpenSpec.ofChange fnExactCirculantNetworkSpec)

/-- ITS FALSE NEIGHBOUR: 'it returns false'. Refute it at one input. -/
def fnExactCirculantNetworkWrong : ChangeSpec := { name := "fnExactCirculantNetwork", fn := fun _ => fun
  | [d1, d2] => { results := [.lit (.bool false)], args := [d1, d2] }
  | _ => none }
def FnExactCirculantNetworkWrongFalsely : Prop := fnExactCirculantNetworkRow.holds Try.pinned (OpenSpec.ofChange fnExactCirculantNetworkWrong)

/-- 'laws.FnExactUnionOf': WHATEVER THE INPUT: true; the input reads as it did. -/
def fnExactUnionOfSpec : ChangeSpec := { name := "fnExactUnionOf", fn := fun _ => fun
  | [d1, d2] => { results := [.lit (.bool true)], args := [d1, d2] }
  | _ => none }
def fnExactUnionOfRow : OpenClaim := { program := "ytdchomjdimbenaa", sum := "07cae7b65f720d70cbcb5aa7af8ac70d0164a4261a05b15e8c9e7ed0dff3545b", func := "loop.example/g01084/laws.FnExactUnionOf", spec := "fnExactUnionOf", unfollowed := true, recurses := true, plainKeys := false, apart := false }
def FnExactUnionOfSaid : Prop := fnExactUnionOfRow.holds Try.pinned (OpenSpec.ofChange fnExactUnionOfSpec)

/-- ITS FALSE NEIGHBOUR: 'it returns false'. Refute it at one input. -/
def fnExactUnionOfWrong : ChangeSpec := { name := "fnExactUnionOf", fn := fun _ => fun
  | [d1, d2] => { results := [.lit (.bool false)], args := [d1, d2] }
  | _ => none }
def FnExactUnionOfWrongFalsely : Prop := fnExactUnionOfRow.holds Try.pinned (OpenSpec.ofChange fnExactUnionOfWrong)

/-- 'laws.FnExactDoubleCover': WHATEVER THE INPUT: true; the input reads as it did. -/
def fnExactDoubleCoverSpec : ChangeSpec := { name := "fnExactDoubleCover", fn := fun _ => fun
  | [d] => { results := [.lit (.bool true)], args := [d] }
  | _ => none }
def fnExactDoubleCoverRow : OpenClaim := { program := "ytdchomjdimbenaa", sum := "07cae7b65f720d70cbcb5aa7af8ac70d0164a4261a05b15e8c9e7ed0dff3545b", func := "loop.example/g01084/laws.FnExactDoubleCover", spec := "fnExactDoubleCover", unfollowed := true, recurses := true, plainKeys := false, apart := false }
def FnExactDoubleCoverSaid : Prop := fnExactDoubleCoverRow.holds Try.pinned (OpenSpec.ofChange fnExactDoubleCoverSpec)

/-- ITS FALSE NEIGHBOUR: 'it returns false'. Refute it at one input. -/
def fnExactDoubleCoverWrong : ChangeSpec := { name := "fnExactDoubleCover", fn := fun _ => fun
  | [d] => { results := [.lit (.bool false)], args := [d] }
  | _ => none }
def FnExactDoubleCoverWrongFalsely : Prop := fnExactDoubleCoverRow.holds Try.pinned (OpenSpec.ofChange fnExactDoubleCoverWrong)

/-- 'laws.FnExactPermutePorts': WHATEVER THE INPUT: true; the input reads as it did. -/
def fnExactPermutePortsSpec : ChangeSpec := { name := "fnExactPermutePorts", fn := fun _ => fun
  | [d1, d2, d3] => { results := [.lit (.bool true)], args := [d1, d2, d3] }
  | _ => none }
def fnExactPermutePortsRow : OpenClaim := { program := "ytdchomjdimbenaa", sum := "07cae7b65f720d70cbcb5aa7af8ac70d0164a4261a05b15e8c9e7ed0dff3545b", func := "loop.example/g01084/laws.FnExactPermutePorts", spec := "fnExactPermutePorts", unfollowed := true, recurses := true, plainKeys := false, apart := false }
def FnExactPermutePortsSaid : Prop := fnExactPermutePortsRow.holds Try.pinned (OpenSpec.ofChange fnExactPermutePortsSpec)

/-- ITS FALSE NEIGHBOUR: 'it returns false'. Refute it at one input. -/
def fnExactPermutePortsWrong : ChangeSpec := { name := "fnExactPermutePorts", fn := fun _ => fun
  | [d1, d2, d3] => { results := [.lit (.bool false)], args := [d1, d2, d3] }
  | _ => none }
def FnExactPermutePortsWrongFalsely : Prop := fnExactPermutePortsRow.holds Try.pinned (OpenSpec.ofChange fnExactPermutePortsWrong)

/-- 'laws.FnExactRenumberNodes': WHATEVER THE INPUT: true; the input reads as it did. -/
def fnExactRenumberNodesSpec : ChangeSpec := { name := "fnExactRenumberNodes", fn := fun _ => fun
  | [d1, d2] => { results := [.lit (.bool true)], args := [d1, d2] }
  | _ => none }
def fnExactRenumberNodesRow : OpenClaim := { program := "ytdchomjdimbenaa", sum := "07cae7b65f720d70cbcb5aa7af8ac70d0164a4261a05b15e8c9e7ed0dff3545b", func := "loop.example/g01084/laws.FnExactRenumberNodes", spec := "fnExactRenumberNodes", unfollowed := true, recurses := true, plainKeys := false, apart := false }
def FnExactRenumberNodesSaid : Prop := fnExactRenumberNodesRow.holds Try.pinned (OpenSpec.ofChange fnExactRenumberNodesSpec)

/-- ITS FALSE NEIGHBOUR: 'it returns false'. Refute it at one input. -/
def fnExactRenumberNodesWrong : ChangeSpec := { name := "fnExactRenumberNodes", fn := fun _ => fun
  | [d1, d2] => { results := [.lit (.bool false)], args := [d1, d2] }
  | _ => none }
def FnExactRenumberNodesWrongFalsely : Prop := fnExactRenumberNodesRow.holds Try.pinned (OpenSpec.ofChange fnExactRenumberNodesWrong)

/-- 'laws.FnExactRemoveEdge': WHATEVER THE INPUT: true; the input reads as it did. -/
def fnExactRemoveEdgeSpec : ChangeSpec := { name := "fnExactRemoveEdge", fn := fun _ => fun
  | [d1, d2, d3] => { results := [.lit (.bool true)], args := [d1, d2, d3] }
  | _ => none }
def fnExactRemoveEdgeRow : OpenClaim := { program := "ytdchomjdimbenaa", sum := "07cae7b65f720d70cbcb5aa7af8ac70d0164a4261a05b15e8c9e7ed0dff3545b", func := "loop.example/g01084/laws.FnExactRemoveEdge", spec := "fnExactRemoveEdge", unfollowed := true, recurses := true, plainKeys := false, apart := false }
def FnExactRemoveEdgeSaid : Prop := fnExactRemoveEdgeRow.holds Try.pinned (OpenSpec.ofChange fnExactRemoveEdgeSpec)

/-- ITS FALSE NEIGHBOUR: 'it returns false'. Refute it at one input. -/
def fnExactRemoveEdgeWrong : ChangeSpec := { name := "fnExactRemoveEdge", fn := fun _ => fun
  | [d1, d2, d3] => { results := [.lit (.bool false)], args := [d1, d2, d3] }
  | _ => none }
def FnExactRemoveEdgeWrongFalsely : Prop := fnExactRemoveEdgeRow.holds Try.pinned (OpenSpec.ofChange fnExactRemoveEdgeWrong)

/-- 'laws.FnExactSubdivideEdges': WHATEVER THE INPUT: true; the input reads as it did. -/
def fnExactSubdivideEdgesSpec : ChangeSpec := { name := "fnExactSubdivideEdges", fn := fun _ => fun
  | [d] => { results := [.lit (.bool true)], args := [d] }
  | _ => none }
def fnExactSubdivideEdgesRow : OpenClaim := { program := "ytdchomjdimbenaa", sum := "07cae7b65f720d70cbcb5aa7af8ac70d0164a4261a05b15e8c9e7ed0dff3545b", func := "loop.example/g01084/laws.FnExactSubdivideEdges", spec := "fnExactSubdivideEdges", unfollowed := true, recurses := true, plainKeys := false, apart := false }
def FnExactSubdivideEdgesSaid : Prop := fnExactSubdivideEdgesRow.holds Try.pinned (OpenSpec.ofChange fnExactSubdivideEdgesSpec)

/-- ITS FALSE NEIGHBOUR: 'it returns false'. Refute it at one input. -/
def fnExactSubdivideEdgesWrong : ChangeSpec := { name := "fnExactSubdivideEdges", fn := fun _ => fun
  | [d] => { results := [.lit (.bool false)], args := [d] }
  | _ => none }
def FnExactSubdivideEdgesWrongFalsely : Prop := fnExactSubdivideEdgesRow.holds Try.pinned (OpenSpec.ofChange fnExactSubdivideEdgesWrong)

/-- 'laws.FnExactRegularTree': WHATEVER THE INPUT: true; the input reads as it did. -/
def fnExactRegularTreeSpec : ChangeSpec := { name := "fnExactRegularTree", fn := fun _ => fun
  | [d1, d2] => { results := [.lit (.bool true)], args := [d1, d2] }
  | _ => none }
def fnExactRegularTreeRow : OpenClaim := { program := "ytdchomjdimbenaa", sum := "07cae7b65f720d70cbcb5aa7af8ac70d0164a4261a05b15e8c9e7ed0dff3545b", func := "loop.example/g01084/laws.FnExactRegularTree", spec := "fnExactRegularTree", plainKeys := false, apart := false }
def FnExactRegularTreeSaid : Prop := fnExactRegularTreeRow.holds Try.pinned (OpenSpec.ofChange fnExactRegularTreeSpec)

/-- ITS FALSE NEIGHBOUR: 'it returns false'. Refute it at one input. -/
def fnExactRegularTreeWrong : ChangeSpec := { name := "fnExactRegularTree", fn := fun _ => fun
  | [d1, d2] => { results := [.lit (.bool false)], args := [d1, d2] }
  | _ => none }
def FnExactRegularTreeWrongFalsely : Prop := fnExactRegularTreeRow.holds Try.pinned (OpenSpec.ofChange fnExactRegularTreeWrong)

/- THE SECOND FORM. 'bulk': how many values and letters a reading holds, each counted each time it is reached (what is shared counts as often as it is met; a slice's spare places count too). A statement '..UptoSaid' is the law's where the arguments, and the package variables that the reading takes, are together of bulk at most 1048576: NARROWER than '..Said'. Prove '..Said' where nothing that the law and all that it calls make is longer than what came in: it says more and counts as full. Else prove '..UptoSaid'. A law counts once. -/
mutual
def uptoBulk {H : Type} : DataW H → Nat
  | .lit (.string bytes) => bytes.length + 1
  | .lit _ => 1
  | .nil => 1
  | .ptr d => uptoBulk d + 1
  | .slice elems spare => uptoBulkAll elems + uptoBulkAll spare + 1
  | .agg parts => uptoBulkAll parts + 1
  | .iface _ d => uptoBulk d + 1
  | .map entries => uptoBulkEntries entries + 1
  | .held _ => 1
def uptoBulkAll {H : Type} : List (DataW H) → Nat
  | [] => 0
  | d :: r => uptoBulk d + uptoBulkAll r
def uptoBulkEntries {H : Type} : List (Lit × DataW H) → Nat
  | [] => 0
  | x :: r => uptoBulkEntry x + uptoBulkEntries r
def uptoBulkEntry {H : Type} : Lit × DataW H → Nat
  | (.string bytes, d) => bytes.length + uptoBulk d + 1
  | (_, d) => uptoBulk d + 1
 end
def uptoSmall : (H : Type) → List (DataW H) → Bool := fun _ ds => decide (uptoBulkAll ds ≤ 1048576)
def OpenSpec.upto (s : _root_.Go.ChangeSpec) : _root_.Go.OpenSpec := { _root_.Go.OpenSpec.ofChange s with cond := some uptoSmall }

/-- 'laws.FnExactCompleteNetwork', WHERE WHAT IT READS IS OF BULK AT MOST 1048576: true; the input reads as it did. -/
def fnExactCompleteNetworkUptoRow : OpenClaim := { program := "ytdchomjdimbenaa", sum := "07cae7b65f720d70cbcb5aa7af8ac70d0164a4261a05b15e8c9e7ed0dff3545b", func := "loop.example/g01084/laws.FnExactCompleteNetwork", spec := "fnExactCompleteNetwork", unfollowed := true, recurses := true, plainKeys := false, apart := false, narrowed := true }
def FnExactCompleteNetworkUptoSaid : Prop := fnExactCompleteNetworkUptoRow.holds Try.pinned (OpenSpec.upto fnExactCompleteNetworkSpec)

/-- 'laws.FnExactTorusNetwork', WHERE WHAT IT READS IS OF BULK AT MOST 1048576: true; the input reads as it did. -/
def fnExactTorusNetworkUptoRow : OpenClaim := { program := "ytdchomjdimbenaa", sum := "07cae7b65f720d70cbcb5aa7af8ac70d0164a4261a05b15e8c9e7ed0dff3545b", func := "loop.example/g01084/laws.FnExactTorusNetwork", spec := "fnExactTorusNetwork", unfollowed := true, recurses := true, plainKeys := false, apart := false, narrowed := true }
def FnExactTorusNetworkUptoSaid : Prop := fnExactTorusNetworkUptoRow.holds Try.pinned (OpenSpec.upto fnExactTorusNetworkSpec)

/-- 'laws.FnExactHypercubeNetwork', WHERE WHAT IT READS IS OF BULK AT MOST 1048576: true; the input reads as it did. -/
def fnExactHypercubeNetworkUptoRow : OpenClaim := { program := "ytdchomjdimbenaa", sum := "07cae7b65f720d70cbcb5aa7af8ac70d0164a4261a05b15e8c9e7ed0dff3545b", func := "loop.example/g01084/laws.FnExactHypercubeNetwork", spec := "fnExactHypercubeNetwork", unfollowed := true, recurses := true, plainKeys := false, apart := false, narrowed := true }
def FnExactHypercubeNetworkUptoSaid : Prop := fnExactHypercubeNetworkUptoRow.holds Try.pinned (OpenSpec.upto fnExactHypercubeNetworkSpec)

/-- 'laws.FnExactBouquetNetwork', WHERE WHAT IT READS IS OF BULK AT MOST 1048576: true; the input reads as it did. -/
def fnExactBouquetNetworkUptoRow : OpenClaim := { program := "ytdchomjdimbenaa", sum := "07cae7b65f720d70cbcb5aa7af8ac70d0164a4261a05b15e8c9e7ed0dff3545b", func := "loop.example/g01084/laws.FnExactBouquetNetwork", spec := "fnExactBouquetNetwork", unfollowed := true, recurses := true, plainKeys := false, apart := false, narrowed := true }
def FnExactBouquetNetworkUptoSaid : Prop := fnExactBouquetNetworkUptoRow.holds Try.pinned (OpenSpec.upto fnExactBouquetNetworkSpec)

/-- 'laws.FnExactCirculantNetwork', WHERE WHAT IT READS IS OF BULK AT MOST 1048576: true; the input reads as it did. -/
def fnExactCirculantNetworkUptoRow : OpenClaim := { program := "ytdchomjdimbenaa", sum := "07cae7b65f720d70cbcb5aa7af8ac70d0164a4261a05b15e8c9e7ed0dff3545b", func := "loop.example/g01084/laws.FnExactCirculantNetwork", spec := "fnExactCirculantNetwork", unfollowed := true, recurses := true, plainKeys := false, apart := false, narrowed := true }
def FnExactCirculantNetworkUptoSaid : Prop := fnExactCirculantNetworkUptoRow.holds Try.pinned (OpenSpec.upto fnExactCirculantNetworkSpec)

/-- 'laws.FnExactUnionOf', WHERE WHAT IT READS IS OF BULK AT MOST 1048576: true; the input reads as it did. -/
def fnExactUnionOfUptoRow : OpenClaim := { program := "ytdchomjdimbenaa", sum := "07cae7b65f720d70cbcb5aa7af8ac70d0164a4261a05b15e8c9e7ed0dff3545b", func := "loop.example/g01084/laws.FnExactUnionOf", spec := "fnExactUnionOf", unfollowed := true, recurses := true, plainKeys := false, apart := false, narrowed := true }
def FnExactUnionOfUptoSaid : Prop := fnExactUnionOfUptoRow.holds Try.pinned (OpenSpec.upto fnExactUnionOfSpec)

/-- 'laws.FnExactDoubleCover', WHERE WHAT IT READS IS OF BULK AT MOST 1048576: true; the input reads as it did. -/
def fnExactDoubleCoverUptoRow : OpenClaim := { program := "ytdchomjdimbenaa", sum := "07cae7b65f720d70cbcb5aa7af8ac70d0164a4261a05b15e8c9e7ed0dff3545b", func := "loop.example/g01084/laws.FnExactDoubleCover", spec := "fnExactDoubleCover", unfollowed := true, recurses := true, plainKeys := false, apart := false, narrowed := true }
def FnExactDoubleCoverUptoSaid : Prop := fnExactDoubleCoverUptoRow.holds Try.pinned (OpenSpec.upto fnExactDoubleCoverSpec)

/-- 'laws.FnExactPermutePorts', WHERE WHAT IT READS IS OF BULK AT MOST 1048576: true; the input reads as it did. -/
def fnExactPermutePortsUptoRow : OpenClaim := { program := "ytdchomjdimbenaa", sum := "07cae7b65f720d70cbcb5aa7af8ac70d0164a4261a05b15e8c9e7ed0dff3545b", func := "loop.example/g01084/laws.FnExactPermutePorts", spec := "fnExactPermutePorts", unfollowed := true, recurses := true, plainKeys := false, apart := false, narrowed := true }
def FnExactPermutePortsUptoSaid : Prop := fnExactPermutePortsUptoRow.holds Try.pinned (OpenSpec.upto fnExactPermutePortsSpec)

/-- 'laws.FnExactRenumberNodes', WHERE WHAT IT READS IS OF BULK AT MOST 1048576: true; the input reads as it did. -/
def fnExactRenumberNodesUptoRow : OpenClaim := { program := "ytdchomjdimbenaa", sum := "07cae7b65f720d70cbcb5aa7af8ac70d0164a4261a05b15e8c9e7ed0dff3545b", func := "loop.example/g01084/laws.FnExactRenumberNodes", spec := "fnExactRenumberNodes", unfollowed := true, recurses := true, plainKeys := false, apart := false, narrowed := true }
def FnExactRenumberNodesUptoSaid : Prop := fnExactRenumberNodesUptoRow.holds Try.pinned (OpenSpec.upto fnExactRenumberNodesSpec)

/-- 'laws.FnExactRemoveEdge', WHERE WHAT IT READS IS OF BULK AT MOST 1048576: true; the input reads as it did. -/
def fnExactRemoveEdgeUptoRow : OpenClaim := { program := "ytdchomjdimbenaa", sum := "07cae7b65f720d70cbcb5aa7af8ac70d0164a4261a05b15e8c9e7ed0dff3545b", func := "loop.example/g01084/laws.FnExactRemoveEdge", spec := "fnExactRemoveEdge", unfollowed := true, recurses := true, plainKeys := false, apart := false, narrowed := true }
def FnExactRemoveEdgeUptoSaid : Prop := fnExactRemoveEdgeUptoRow.holds Try.pinned (OpenSpec.upto fnExactRemoveEdgeSpec)

/-- 'laws.FnExactSubdivideEdges', WHERE WHAT IT READS IS OF BULK AT MOST 1048576: true; the input reads as it did. -/
def fnExactSubdivideEdgesUptoRow : OpenClaim := { program := "ytdchomjdimbenaa", sum := "07cae7b65f720d70cbcb5aa7af8ac70d0164a4261a05b15e8c9e7ed0dff3545b", func := "loop.example/g01084/laws.FnExactSubdivideEdges", spec := "fnExactSubdivideEdges", unfollowed := true, recurses := true, plainKeys := false, apart := false, narrowed := true }
def FnExactSubdivideEdgesUptoSaid : Prop := fnExactSubdivideEdgesUptoRow.holds Try.pinned (OpenSpec.upto fnExactSubdivideEdgesSpec)

/-- 'laws.FnExactRegularTree', WHERE WHAT IT READS IS OF BULK AT MOST 1048576: true; the input reads as it did. -/
def fnExactRegularTreeUptoRow : OpenClaim := { program := "ytdchomjdimbenaa", sum := "07cae7b65f720d70cbcb5aa7af8ac70d0164a4261a05b15e8c9e7ed0dff3545b", func := "loop.example/g01084/laws.FnExactRegularTree", spec := "fnExactRegularTree", plainKeys := false, apart := false, narrowed := true }
def FnExactRegularTreeUptoSaid : Prop := fnExactRegularTreeUptoRow.holds Try.pinned (OpenSpec.upto fnExactRegularTreeSpec)

end Rows
end Go.Proofs.Ytdchomjdimbenaa
