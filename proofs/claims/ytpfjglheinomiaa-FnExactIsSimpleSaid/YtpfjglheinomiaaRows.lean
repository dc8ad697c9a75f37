/-
  No cell of these rows narrows 'for every input' (looked for: loops, veiled, ifaces, maps, wideKeys, modest, calm, conditions, laid).
  DERIVED. THE GIVEN ROWS OF THIS SEAT. 12 by the template 'for every input the law returns true; each argument reads behind the call as it read before'; 0 by the template 'total and deterministic' (their statements: YtpfjglheinomiaaTotals.lean).
  GIVEN WITH THE SEED: the statements are not yours to turn. If you find one false, say at which input.
  Laid BY PROGRAM, IN A SANDBOX (cutbox-rows.mjs): the forced cells as the released guide's own fill.sh prints them over the translation 7640d54e59c568d2… (all of the seat's roots in one cut). By AI agents, Wed Nov 11 2026. No macro, syntax, notation, axiom, sorry.
-/
import Derived.Test.YtpfjglheinomiaaChecked
import GoSem.Claim
import GoSem.ClaimJoined
import GoSem.ClaimMapViews
import Derived.JoinedTies
import Derived.KernelRfl
namespace Go.Proofs.Ytpfjglheinomiaa
/- THE CELL 'sum', in the pinned program and in every row, IS THE sha256 OF THE DUMP (.gsa) THAT YtpfjglheinomiaaProg.lean LOADS. Nothing in Lean hashes anything: it is a label: what it is worth is what the hold of that sum in a sandbox is worth. -/
noncomputable def Try.pinned : Pinned := { name := "ytpfjglheinomiaa", sum := "7640d54e59c568d2d736e8140a01ac085d18014ccd88b13590480281a2bb7069", checked := Try.checked }
namespace Rows
def none {H : Type} : Left H := { results := [], args := [] }

/-- 'laws.FnExactDegreesOf': WHATEVER THE INPUT: true; the input reads as it did. -/
def fnExactDegreesOfSpec : ChangeSpec := { name := "fnExactDegreesOf", fn := fun _ => fun
  | [d] => { results := [.lit (.bool true)], args := [d] }
  | _ => none }
def fnExactDegreesOfRow : OpenClaim := { program := "ytpfjglheinomiaa", sum := "7640d54e59c568d2d736e8140a01ac085d18014ccd88b13590480281a2bb7069", func := "loop.example/g01084/laws.FnExactDegreesOf", spec := "fnExactDegreesOf", unfollowed := true, recurses := true, apart := false }
def FnExactDegreesOfSaid : Prop := fnExactDegreesOfRow.holds Try.pinned (OpenSpec.ofChange fnExactDegreesOfSpec)

/-- ITS FALSE NEIGHBOUR: 'it returns false'. Refute it at one input. -/
def fnExactDegreesOfWrong : ChangeSpec := { name := "fnExactDegreesOf", fn := fun _ => fun
  | [d] => { results := [.lit (.bool false)], args := [d] }
  | _ => none }
def FnExactDegreesOfWrongFalsely : Prop := fnExactDegreesOfRow.holds Try.pinned (OpenSpec.ofChange fnExactDegreesOfWrong)

/-- 'laws.FnExactNeighboursOf': WHATEVER THE INPUT: true; the input reads as it did. -/
def fnExactNeighboursOfSpec : ChangeSpec := { name := "fnExactNeighboursOf", fn := fun _ => fun
  | [d1, d2] => { results := [.lit (.bool true)], args := [d1, d2] }
  | _ => none }
def fnExactNeighboursOfRow : OpenClaim := { program := "ytpfjglheinomiaa", sum := "7640d54e59c568d2d736e8140a01ac085d18014ccd88b13590480281a2bb7069", func := "loop.example/g01084/laws.FnExactNeighboursOf", spec := "fnExactNeighboursOf", unfollowed := true, recurses := true, apart := false }
def FnExactNeighboursOfSaid : Prop := fnExactNeighboursOfRow.holds Try.pinned (OpenSpec.ofChange fnExactNeighboursOfSpec)

/-- ITS FALSE NEIGHBOUR: 'it returns false'. Refute it at one input. -/
def fnExactNeighboursOfWrong : ChangeSpec := { name := "fnExactNeighboursOf", fn := fun _ => fun
  | [d1, d2] => { results := [.lit (.bool false)], args := [d1, d2] }
  | _ => none }
def FnExactNeighboursOfWrongFalsely : Prop := fnExactNeighboursOfRow.holds Try.pinned (OpenSpec.ofChange fnExactNeighboursOfWrong)

/-- 'laws.FnExactIsSimple': WHATEVER THE INPUT: true; the input reads as it did. -/
def fnExactIsSimpleSpec : ChangeSpec := { name := "fnExactIsSimple", fn := fun _ => fun
  | [d] => { results := [.lit (.bool true)], args := [d] }
  | _ => none }
def fnExactIsSimpleRow : OpenClaim := { program := "ytpfjglheinomiaa", sum := "7640d54e59c568d2d736e8140a01ac085d18014ccd88b13590480281a2bb7069", func := "loop.example/g01084/laws.FnExactIsSimple", spec := "fnExactIsSimple", unfollowed := true, recurses := true, apart := false }
def FnExactIsSimpleSaid : Prop := fnExactIsSimpleRow.holds Try.pinned (OpenSpec.ofChange fnExactIsSimpleSpec)

/-- ITS FALSE NEIGHBOUR: 'it returns false'. Refute it at one input. -/
def fnExactIsSimpleWrong : ChangeSpec := { name := "fnExactIsSimple", fn := fun _ => fun
  | [d] => { results := [.lit (.bool false)], args := [d] }
  | _ => none }
def FnExactIsSimpleWrongFalsely : Prop := fnExactIsSimpleRow.holds Try.pinned (OpenSpec.ofChange fnExactIsSimpleWrong)

/-- 'laws.FnExactEdgesOf': WHATEVER THE INPUT: true; the input reads as it did. -/
def fnExactEdgesOfSpec : ChangeSpec := { name := "fnExactEdgesOf", fn := fun _ => fun
  | [d] => { results := [.lit (.bool true)], args := [d] }
  | _ => none }
def fnExactEdgesOfRow : OpenClaim := { program := "ytpfjglheinomiaa", sum := "7640d54e59c568d2d736e8140a01ac085d18014ccd88b13590480281a2bb7069", func := "loop.example/g01084/laws.FnExactEdgesOf", spec := "fnExactEdgesOf", unfollowed := true, recurses := true, apart := false }
def FnExactEdgesOfSaid : Prop := fnExactEdgesOfRow.holds Try.pinned (OpenSpec.ofChange fnExactEdgesOfSpec)

/-- ITS FALSE NEIGHBOUR: 'it returns false'. Refute it at one input. -/
def fnExactEdgesOfWrong : ChangeSpec := { name := "fnExactEdgesOf", fn := fun _ => fun
  | [d] => { results := [.lit (.bool false)], args := [d] }
  | _ => none }
def FnExactEdgesOfWrongFalsely : Prop := fnExactEdgesOfRow.holds Try.pinned (OpenSpec.ofChange fnExactEdgesOfWrong)

/-- 'laws.FnExactWithIds': WHATEVER THE INPUT: true; the input reads as it did. -/
def fnExactWithIdsSpec : ChangeSpec := { name := "fnExactWithIds", fn := fun _ => fun
  | [d1, d2] => { results := [.lit (.bool true)], args := [d1, d2] }
  | _ => none }
def fnExactWithIdsRow : OpenClaim := { program := "ytpfjglheinomiaa", sum := "7640d54e59c568d2d736e8140a01ac085d18014ccd88b13590480281a2bb7069", func := "loop.example/g01084/laws.FnExactWithIds", spec := "fnExactWithIds", unfollowed := true, recurses := true, apart := false }
def FnExactWithIdsSaid : Prop := fnExactWithIdsRow.holds Try.pinned (OpenSpec.ofChange fnExactWithIdsSpec)

/-- ITS FALSE NEIGHBOUR: 'it returns false'. Refute it at one input. -/
def fnExactWithIdsWrong : ChangeSpec := { name := "fnExactWithIds", fn := fun _ => fun
  | [d1, d2] => { results := [.lit (.bool false)], args := [d1, d2] }
  | _ => none }
def FnExactWithIdsWrongFalsely : Prop := fnExactWithIdsRow.holds Try.pinned (OpenSpec.ofChange fnExactWithIdsWrong)

/-- 'laws.FnExactWithInputs': WHATEVER THE INPUT: true; the input reads as it did. -/
def fnExactWithInputsSpec : ChangeSpec := { name := "fnExactWithInputs", fn := fun _ => fun
  | [d1, d2] => { results := [.lit (.bool true)], args := [d1, d2] }
  | _ => none }
def fnExactWithInputsRow : OpenClaim := { program := "ytpfjglheinomiaa", sum := "7640d54e59c568d2d736e8140a01ac085d18014ccd88b13590480281a2bb7069", func := "loop.example/g01084/laws.FnExactWithInputs", spec := "fnExactWithInputs", unfollowed := true, recurses := true, apart := false }
def FnExactWithInputsSaid : Prop := fnExactWithInputsRow.holds Try.pinned (OpenSpec.ofChange fnExactWithInputsSpec)

/-- ITS FALSE NEIGHBOUR: 'it returns false'. Refute it at one input. -/
def fnExactWithInputsWrong : ChangeSpec := { name := "fnExactWithInputs", fn := fun _ => fun
  | [d1, d2] => { results := [.lit (.bool false)], args := [d1, d2] }
  | _ => none }
def FnExactWithInputsWrongFalsely : Prop := fnExactWithInputsRow.holds Try.pinned (OpenSpec.ofChange fnExactWithInputsWrong)

/-- 'laws.FnExactPathNetwork': WHATEVER THE INPUT: true; the input reads as it did. -/
def fnExactPathNetworkSpec : ChangeSpec := { name := "fnExactPathNetwork", fn := fun _ => fun
  | [d] => { results := [.lit (.bool true)], args := [d] }
  | _ => none }
def fnExactPathNetworkRow : OpenClaim := { program := "ytpfjglheinomiaa", sum := "7640d54e59c568d2d736e8140a01ac085d18014ccd88b13590480281a2bb7069", func := "loop.example/g01084/laws.FnExactPathNetwork", spec := "fnExactPathNetwork", apart := false }
def FnExactPathNetworkSaid : Prop := fnExactPathNetworkRow.holds Try.pinned (OpenSpec.ofChange fnExactPathNetworkSpec)

/-- ITS FALSE NEIGHBOUR: 'it returns false'. Refute it at one input. -/
def fnExactPathNetworkWrong : ChangeSpec := { name := "fnExactPathNetwork", fn := fun _ => fun
  | [d] => { results := [.lit (.bool false)], args := [d] }
  | _ => none }
def FnExactPathNetworkWrongFalsely : Prop := fnExactPathNetworkRow.holds Try.pinned (OpenSpec.ofChange fnExactPathNetworkWrong)

/-- 'laws.FnExactStarNetwork': WHATEVER THE INPUT: true; the input reads as it did. -/
def fnExactStarNetworkSpec : ChangeSpec := { name := "fnExactStarNetwork", fn := fun _ => fun
  | [d] => { results := [.lit (.bool true)], args := [d] }
  | _ => none }
def fnExactStarNetworkRow : OpenClaim := { program := "ytpfjglheinomiaa", sum := "7640d54e59c568d2d736e8140a01ac085d18014ccd88b13590480281a2bb7069", func := "loop.example/g01084/laws.FnExactStarNetwork", spec := "fnExactStarNetwork", unfollowed := true, recurses := true, apart := false }
def FnExactStarNetworkSaid : Prop := fnExactStarNetworkRow.holds Try.pinned (OpenSpec.ofChange fnExactStarNetworkSpec)

/-- ITS FALSE NEIGHBOUR: 'it returns false'. Refute it at one input. -/
def fnExactStarNetworkWrong : ChangeSpec := { name := "fnExactStarNetwork", fn := fun _ => fun
  | [d] => { results := [.lit (.bool false)], args := [d] }
  | _ => none }
def FnExactStarNetworkWrongFalsely : Prop := fnExactStarNetworkRow.holds Try.pinned (OpenSpec.ofChange fnExactStarNetworkWrong)

/-- 'laws.FnExactGridNetwork': WHATEVER THE INPUT: true; the input reads as it did. -/
def fnExactGridNetworkSpec : ChangeSpec := { name := "fnExactGridNetwork", fn := fun _ => fun
  | [d1, d2] => { results := [.lit (.bool true)], args := [d1, d2] }
  | _ => none }
def fnExactGridNetworkRow : OpenClaim := { program := "ytpfjglheinomiaa", sum := "7640d54e59c568d2d736e8140a01ac085d18014ccd88b13590480281a2bb7069", func := "loop.example/g01084/laws.FnExactGridNetwork", spec := "fnExactGridNetwork", apart := false }
def FnExactGridNetworkSaid : Prop := fnExactGridNetworkRow.holds Try.pinned (OpenSpec.ofChange fnExactGridNetworkSpec)

/-- ITS FALSE NEIGHBOUR: 'it returns false'. Refute it at one input. -/
def fnExactGridNetworkWrong : ChangeSpec := { name := "fnExactGridNetwork", fn := fun _ => fun
  | [d1, d2] => { results := [.lit (.bool false)], args := [d1, d2] }
  | _ => none }
def FnExactGridNetworkWrongFalsely : Prop := fnExactGridNetworkRow.holds Try.pinned (OpenSpec.ofChange fnExactGridNetworkWrong)

/-- 'laws.FnExactAddStub': WHATEVER THE INPUT: true; the input reads as it did. -/
def fnExactAddStubSpec : ChangeSpec := { name := "fnExactAddStub", fn := fun _ => fun
  | [d1, d2] => { results := [.lit (.bool true)], args := [d1, d2] }
  | _ => none }
def fnExactAddStubRow : OpenClaim := { program := "ytpfjglheinomiaa", sum := "7640d54e59c568d2d736e8140a01ac085d18014ccd88b13590480281a2bb7069", func := "loop.example/g01084/laws.FnExactAddStub", spec := "fnExactAddStub", unfollowed := true, recurses := true, apart := false }
def FnExactAddStubSaid : Prop := fnExactAddStubRow.holds Try.pinned (OpenSpec.ofChange fnExactAddStubSpec)

/-- ITS FALSE NEIGHBOUR: 'it returns false'. Refute it at one input. -/
def fnExactAddStubWrong : ChangeSpec := { name := "fnExactAddStub", fn := fun _ => fun
  | [d1, d2] => { results := [.lit (.bool false)], args := [d1, d2] }
  | _ => none }
def FnExactAddStubWrongFalsely : Prop := fnExactAddStubRow.holds Try.pinned (OpenSpec.ofChange fnExactAddStubWrong)

/-- 'laws.FnExactAddEdge': WHATEVER THE INPUT: true; the input reads as it did. -/
def fnExactAddEdgeSpec : ChangeSpec := { name := "fnExactAddEdge", fn := fun _ => fun
  | [d1, d2, d3] => { results := [.lit (.bool true)], args := [d1, d2, d3] }
  | _ => none }
def fnExactAddEdgeRow : OpenClaim := { program := "ytpfjglheinomiaa", sum := "7640d54e59c568d2d736e8140a01ac085d18014ccd88b13590480281a2bb7069", func := "loop.example/g01084/laws.FnExactAddEdge", spec := "fnExactAddEdge", unfollowed := true, recurses := true, apart := false }
def FnExactAddEdgeSaid : Prop := fnExactAddEdgeRow.holds Try.pinned (OpenSpec.ofChange fnExactAddEdgeSpec)

/-- ITS FALSE NEIGHBOUR: 'it returns false'. Refute it at one input. -/
def fnExactAddEdgeWrong : ChangeSpec := { name := "fnExactAddEdge", fn := fun _ => fun
  | [d1, d2, d3] => { results := [.lit (.bool false)], args := [d1, d2, d3] }
  | _ => none }
def FnExactAddEdgeWrongFalsely : Prop := fnExactAddEdgeRow.holds Try.pinned (OpenSpec.ofChange fnExactAddEdgeWrong)

/-- 'laws.FnExactCycleNetwork': WHATEVER THE INPUT: true; the input reads as it did. -/
def fnExactCycleNetworkSpec : ChangeSpec := { name := "fnExactCycleNetwork", fn := fun _ => fun
  | [d] => { results := [.lit (.bool true)], args := [d] }
  | _ => none }
def fnExactCycleNetworkRow : OpenClaim := { program := "ytpfjglheinomiaa", sum := "7640d54e59c568d2d736e8140a01ac085d18014ccd88b13590480281a2bb7069", func := "loop.example/g01084/laws.FnExactCycleNetwork", spec := "fnExactCycleNetwork", unfollowed := true, recurses := true, apart := false }
def FnExactCycleNetworkSaid : Prop := fnExactCycleNetworkRow.holds Try.pinned (OpenSpec.ofChange fnExactCycleNetworkSpec)

/-- ITS FALSE NEIGHBOUR: 'it returns false'. Refute it at one input. -/
def fnExactCycleNetworkWrong : ChangeSpec := { name := "fnExactCycleNetwork", fn := fun _ => fun
  | [d] => { results := [.lit (.bool false)], args := [d] }
  | _ => none }
def FnExactCycleNetworkWrongFalsely : Prop := fnExactCycleNetworkRow.holds Try.pinned (OpenSpec.ofChange fnExactCycleNetworkWrong)

/- THE SECOND FORM. 'bulk': how many values and letters a reading holds, each counted each time it is reached (what is shared counts as often as it is met; a slice's spare places count too). A statement '..UptoSaid' is the law's where the arguments, and the package variables that the reading takes, are together of bulk at most 1048576: NARROWER than '..Said'. Prove '..Said' where nothing that the law and all that it calls make is longer than what came in: it says more and counts as full. Else prove '..UptoSaid'. A law counts once. -/
mutual
def uptoBulk {H : Type} : DataW H → Nat
  | .lit (.string bytes) => bytes.length + 1
  | .lit _ => 1
  | .nil => 1
  | .ptr d => uptoBulk d + 1
  | .slice elems spare => uptoBulkAll elems + uptoBulkAll spare + 1
  | .agg parts => uptoBulkAll parts + 1
  | .iface _ d => uptoBulk d + 1
  | .map entries => uptoBulkEntries entries + 1
  | .held _ => 1
def uptoBulkAll {H : Type} : List (DataW H) → Nat
  | [] => 0
  | d :: r => uptoBulk d + uptoBulkAll r
def uptoBulkEntries {H : Type} : List (Lit × DataW H) → Nat
  | [] => 0
  | x :: r => uptoBulkEntry x + uptoBulkEntries r
def uptoBulkEntry {H : Type} : Lit × DataW H → Nat
  | (.string bytes, d) => bytes.length + uptoBulk d + 1
  | (_, d) => uptoBulk d + 1
 end
def uptoSmall : (H : Type) → List (DataW H) → Bool := fun _ ds => decide (uptoBulkAll ds ≤ 1048576)
def OpenSpec.upto (s : _root_.Go.ChangeSpec) : _root_.Go.OpenSpec := { _root_.Go.OpenSpec.ofChange s with cond := some uptoSmall }

/-- 'laws.FnExactDegreesOf', WHERE WHAT IT READS IS OF BULK AT MOST 1048576: true; the input reads as it did. -/
def fnExactDegreesOfUptoRow : OpenClaim := { program := "ytpfjglheinomiaa", sum := "7640d54e59c568d2d736e8140a01ac085d18014ccd88b13590480281a2bb7069", func := "loop.example/g01084/laws.FnExactDegreesOf", spec := "fnExactDegreesOf", unfollowed := true, recurses := true, apart := false, narrowed := true }
def FnExactDegreesOfUptoSaid : Prop := fnExactDegreesOfUptoRow.holds Try.pinned (OpenSpec.upto fnExactDegreesOfSpec)

/-- 'laws.FnExactNeighboursOf', WHERE WHAT IT READS IS OF BULK AT MOST 1048576: true; the input reads as it did. -/
def fnExactNeighboursOfUptoRow : OpenClaim := { program := "ytpfjglheinomiaa", sum := "7640d54e59c568d2d736e8140a01ac085d18014ccd88b13590480281a2bb7069", func := "loop.example/g01084/laws.FnExactNeighboursOf", spec := "fnExactNeighboursOf", unfollowed := true, recurses := true, apart := false, narrowed := true }
def FnExactNeighboursOfUptoSaid : Prop := fnExactNeighboursOfUptoRow.holds Try.pinned (OpenSpec.upto fnExactNeighboursOfSpec)

/-- 'laws.FnExactIsSimple', WHERE WHAT IT READS IS OF BULK AT MOST 1048576: true; the input reads as it did. -/
def fnExactIsSimpleUptoRow : OpenClaim := { program := "ytpfjglheinomiaa", sum := "7640d54e59c568d2d736e8140a01ac085d18014ccd88b13590480281a2bb7069", func := "loop.example/g01084/laws.FnExactIsSimple", spec := "fnExactIsSimple", unfollowed := true, recurses := true, apart := false, narrowed := true }
def FnExactIsSimpleUptoSaid : Prop := fnExactIsSimpleUptoRow.holds Try.pinned (OpenSpec.upto fnExactIsSimpleSpec)

/-- 'laws.FnExactEdgesOf', WHERE WHAT IT READS IS OF BULK AT MOST 1048576: true; the input reads as it did. -/
def fnExactEdgesOfUptoRow : OpenClaim := { program := "ytpfjglheinomiaa", sum := "7640d54e59c568d2d736e8140a01ac085d18014ccd88b13590480281a2bb7069", func := "loop.example/g01084/laws.FnExactEdgesOf", spec := "fnExactEdgesOf", unfollowed := true, recurses := true, apart := false, narrowed := true }
def FnExactEdgesOfUptoSaid : Prop := fnExactEdgesOfUptoRow.holds Try.pinned (OpenSpec.upto fnExactEdgesOfSpec)

/-- 'laws.FnExactWithIds', WHERE WHAT IT READS IS OF BULK AT MOST 1048576: true; the input reads as it did. -/
def fnExactWithIdsUptoRow : OpenClaim := { program := "ytpfjglheinomiaa", sum := "7640d54e59c568d2d736e8140a01ac085d18014ccd88b13590480281a2bb7069", func := "loop.example/g01084/laws.FnExactWithIds", spec := "fnExactWithIds", unfollowed := true, recurses := true, apart := false, narrowed := true }
def FnExactWithIdsUptoSaid : Prop := fnExactWithIdsUptoRow.holds Try.pinned (OpenSpec.upto fnExactWithIdsSpec)

/-- 'laws.FnExactWithInputs', WHERE WHAT IT READS IS OF BULK AT MOST 1048576: true; the input reads as it did. -/
def fnExactWithInputsUptoRow : OpenClaim := { program := "ytpfjglheinomiaa", sum := "7640d54e59c568d2d736e8140a01ac085d18014ccd88b13590480281a2bb7069", func := "loop.example/g01084/laws.FnExactWithInputs", spec := "fnExactWithInputs", unfollowed := true, recurses := true, apart := false, narrowed := true }
def FnExactWithInputsUptoSaid : Prop := fnExactWithInputsUptoRow.holds Try.pinned (OpenSpec.upto fnExactWithInputsSpec)

/-- 'laws.FnExactPathNetwork', WHERE WHAT IT READS IS OF BULK AT MOST 1048576: true; the input reads as it did. -/
def fnExactPathNetworkUptoRow : OpenClaim := { program := "ytpfjglheinomiaa", sum := "7640d54e59c568d2d736e8140a01ac085d18014ccd88b13590480281a2bb7069", func := "loop.example/g01084/laws.FnExactPathNetwork", spec := "fnExactPathNetwork", apart := false, narrowed := true }
def FnExactPathNetworkUptoSaid : Prop := fnExactPathNetworkUptoRow.holds Try.pinned (OpenSpec.upto fnExactPathNetworkSpec)

/-- 'laws.FnExactStarNetwork', WHERE WHAT IT READS IS OF BULK AT MOST 1048576: true; the input reads as it did. -/
def fnExactStarNetworkUptoRow : OpenClaim := { program := "ytpfjglheinomiaa", sum := "7640d54e59c568d2d736e8140a01ac085d18014ccd88b13590480281a2bb7069", func := "loop.example/g01084/laws.FnExactStarNetwork", spec := "fnExactStarNetwork", unfollowed := true, recurses := true, apart := false, narrowed := true }
def FnExactStarNetworkUptoSaid : Prop := fnExactStarNetworkUptoRow.holds Try.pinned (OpenSpec.upto fnExactStarNetworkSpec)

/-- 'laws.FnExactGridNetwork', WHERE WHAT IT READS IS OF BULK AT MOST 1048576: true; the input reads as it did. -/
def fnExactGridNetworkUptoRow : OpenClaim := { program := "ytpfjglheinomiaa", sum := "7640d54e59c568d2d736e8140a01ac085d18014ccd88b13590480281a2bb7069", func := "loop.example/g01084/laws.FnExactGridNetwork", spec := "fnExactGridNetwork", apart := false, narrowed := true }
def FnExactGridNetworkUptoSaid : Prop := fnExactGridNetworkUptoRow.holds Try.pinned (OpenSpec.upto fnExactGridNetworkSpec)

/-- 'laws.FnExactAddStub', WHERE WHAT IT READS IS OF BULK AT MOST 1048576: true; the input reads as it did. -/
def fnExactAddStubUptoRow : OpenClaim := { program := "ytpfjglheinomiaa", sum := "7640d54e59c568d2d736e8140a01ac085d18014ccd88b13590480281a2bb7069", func := "loop.example/g01084/laws.FnExactAddStub", spec := "fnExactAddStub", unfollowed := true, recurses := true, apart := false, narrowed := true }
def FnExactAddStubUptoSaid : Prop := fnExactAddStubUptoRow.holds Try.pinned (OpenSpec.upto fnExactAddStubSpec)

/-- 'laws.FnExactAddEdge', WHERE WHAT IT READS IS OF BULK AT MOST 1048576: true; the input reads as it did. -/
def fnExactAddEdgeUptoRow : OpenClaim := { program := "ytpfjglheinomiaa", sum := "7640d54e59c568d2d736e8140a01ac085d18014ccd88b13590480281a2bb7069", func := "loop.example/g01084/laws.FnExactAddEdge", spec := "fnExactAddEdge", unfollowed := true, recurses := true, apart := false, narrowed := true }
def FnExactAddEdgeUptoSaid : Prop := fnExactAddEdgeUptoRow.holds Try.pinned (OpenSpec.upto fnExactAddEdgeSpec)

/-- 'laws.FnExactCycleNetwork', WHERE WHAT IT READS IS OF BULK AT MOST 1048576: true; the input reads as it did. -/
def fnExactCycleNetworkUptoRow : OpenClaim := { program := "ytpfjglheinomiaa", sum := "7640d54e59c568d2d736e8140a01ac085d18014ccd88b13590480281a2bb7069", func := "loop.example/g01084/laws.FnExactCycleNetwork", spec := "fnExactCycleNetwork", unfollowed := true, recurses := true, apart := false, narrowed := true }
def FnExactCycleNetworkUptoSaid : Prop := fnExactCycleNetworkUptoRow.holds Try.pinned (OpenSpec.upto fnExactCycleNetworkSpec)

end Rows
end Go.Proofs.Ytpfjglheinomiaa
