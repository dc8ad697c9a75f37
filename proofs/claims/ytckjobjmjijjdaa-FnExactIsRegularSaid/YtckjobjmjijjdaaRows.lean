/-
  No cell of these rows narrows 'for every input' (looked for: loops, veiled, ifaces, maps, wideKeys, modest, calm, conditions, laid).
  DERIVED. THE GIVEN ROWS OF THIS SEAT. 12 by the template 'for every input the law returns true; each argument reads behind the call as it read before'; 0 by the template 'total and deterministic' (their statements: YtckjobjmjijjdaaTotals.lean).
  GIVEN WITH THE SEED: the statements are not yours to turn. If you find one false, say at which input.
  Laid BY PROGRAM, IN A SANDBOX (cutbox-rows.mjs): the forced cells as the released guide's own fill.sh prints them over the translation 29604d1c06d24956… (all of the seat's roots in one cut). By AI agents, Wed Nov 11 2026. No macro, syntax, notation, axiom, sorry.
-/
import Derived.Test.YtckjobjmjijjdaaChecked
import GoSem.Claim
import GoSem.ClaimJoined
import GoSem.ClaimMapViews
import Derived.JoinedTies
import Derived.KernelRfl
namespace Go.Proofs.Ytckjobjmjijjdaa
/- THE CELL 'sum', in the pinned program and in every row, IS THE sha256 OF THE DUMP (.gsa) THAT YtckjobjmjijjdaaProg.lean LOADS. Nothing in Lean hashes anything: it is a label: what it is worth is what the hold of that sum in a sandbox is worth. -/
noncomputable def Try.pinned : Pinned := { name := "ytckjobjmjijjdaa", sum := "29604d1c06d24956dbe8974e8fabe228dcf9d14f003595e06fba0ef5baddbaa1", checked := Try.checked }
namespace Rows
def none {H : Type} : Left H := { results := [], args := [] }

/-- 'laws.FnExactSubsetRank': WHATEVER THE INPUT: true; the input reads as it did. -/
def fnExactSubsetRankSpec : ChangeSpec := { name := "fnExactSubsetRank", fn := fun _ => fun
  | [d1, d2] => { results := [.lit (.bool true)], args := [d1, d2] }
  | _ => none }
def fnExactSubsetRankRow : OpenClaim := { program := "ytckjobjmjijjdaa", sum := "29604d1c06d24956dbe8974e8fabe228dcf9d14f003595e06fba0ef5baddbaa1", func := "loop.example/g01084/laws.FnExactSubsetRank", spec := "fnExactSubsetRank", apart := false }
def FnExactSubsetRankSaid : Prop := fnExactSubsetRankRow.holds Try.pinned (OpenSpec.ofChange fnExactSubsetRankSpec)

/-- ITS FALSE NEIGHBOUR: 'it returns false'. Refute it at one input. -/
def fnExactSubsetRankWrong : ChangeSpec := { name := "fnExactSubsetRank", fn := fun _ => fun
  | [d1, d2] => { results := [.lit (.bool false)], args := [d1, d2] }
  | _ => none }
def FnExactSubsetRankWrongFalsely : Prop := fnExactSubsetRankRow.holds Try.pinned (OpenSpec.ofChange fnExactSubsetRankWrong)

/-- 'laws.FnExactPolynomialAt': WHATEVER THE INPUT: true; the input reads as it did. -/
def fnExactPolynomialAtSpec : ChangeSpec := { name := "fnExactPolynomialAt", fn := fun _ => fun
  | [d1, d2, d3] => { results := [.lit (.bool true)], args := [d1, d2, d3] }
  | _ => none }
def fnExactPolynomialAtRow : OpenClaim := { program := "ytckjobjmjijjdaa", sum := "29604d1c06d24956dbe8974e8fabe228dcf9d14f003595e06fba0ef5baddbaa1", func := "loop.example/g01084/laws.FnExactPolynomialAt", spec := "fnExactPolynomialAt", unfollowed := true, recurses := true, apart := false }
def FnExactPolynomialAtSaid : Prop := fnExactPolynomialAtRow.holds Try.pinned (OpenSpec.ofChange fnExactPolynomialAtSpec)

/-- ITS FALSE NEIGHBOUR: 'it returns false'. Refute it at one input. -/
def fnExactPolynomialAtWrong : ChangeSpec := { name := "fnExactPolynomialAt", fn := fun _ => fun
  | [d1, d2, d3] => { results := [.lit (.bool false)], args := [d1, d2, d3] }
  | _ => none }
def FnExactPolynomialAtWrongFalsely : Prop := fnExactPolynomialAtRow.holds Try.pinned (OpenSpec.ofChange fnExactPolynomialAtWrong)

/-- 'laws.FnExactSubsetAt': WHATEVER THE INPUT: true; the input reads as it did. -/
def fnExactSubsetAtSpec : ChangeSpec := { name := "fnExactSubsetAt", fn := fun _ => fun
  | [d1, d2, d3] => { results := [.lit (.bool true)], args := [d1, d2, d3] }
  | _ => none }
def fnExactSubsetAtRow : OpenClaim := { program := "ytckjobjmjijjdaa", sum := "29604d1c06d24956dbe8974e8fabe228dcf9d14f003595e06fba0ef5baddbaa1", func := "loop.example/g01084/laws.FnExactSubsetAt", spec := "fnExactSubsetAt", apart := false }
def FnExactSubsetAtSaid : Prop := fnExactSubsetAtRow.holds Try.pinned (OpenSpec.ofChange fnExactSubsetAtSpec)

/-- ITS FALSE NEIGHBOUR: 'it returns false'. Refute it at one input. -/
def fnExactSubsetAtWrong : ChangeSpec := { name := "fnExactSubsetAt", fn := fun _ => fun
  | [d1, d2, d3] => { results := [.lit (.bool false)], args := [d1, d2, d3] }
  | _ => none }
def FnExactSubsetAtWrongFalsely : Prop := fnExactSubsetAtRow.holds Try.pinned (OpenSpec.ofChange fnExactSubsetAtWrong)

/-- 'laws.FnExactSumsTo': WHATEVER THE INPUT: true; the input reads as it did. -/
def fnExactSumsToSpec : ChangeSpec := { name := "fnExactSumsTo", fn := fun _ => fun
  | [d1, d2] => { results := [.lit (.bool true)], args := [d1, d2] }
  | _ => none }
def fnExactSumsToRow : OpenClaim := { program := "ytckjobjmjijjdaa", sum := "29604d1c06d24956dbe8974e8fabe228dcf9d14f003595e06fba0ef5baddbaa1", func := "loop.example/g01084/laws.FnExactSumsTo", spec := "fnExactSumsTo", apart := false }
def FnExactSumsToSaid : Prop := fnExactSumsToRow.holds Try.pinned (OpenSpec.ofChange fnExactSumsToSpec)

/-- ITS FALSE NEIGHBOUR: 'it returns false'. Refute it at one input. -/
def fnExactSumsToWrong : ChangeSpec := { name := "fnExactSumsTo", fn := fun _ => fun
  | [d1, d2] => { results := [.lit (.bool false)], args := [d1, d2] }
  | _ => none }
def FnExactSumsToWrongFalsely : Prop := fnExactSumsToRow.holds Try.pinned (OpenSpec.ofChange fnExactSumsToWrong)

/-- 'laws.FnExactConductorOf': WHATEVER THE INPUT: true; the input reads as it did. -/
def fnExactConductorOfSpec : ChangeSpec := { name := "fnExactConductorOf", fn := fun _ => fun
  | [d] => { results := [.lit (.bool true)], args := [d] }
  | _ => none }
def fnExactConductorOfRow : OpenClaim := { program := "ytckjobjmjijjdaa", sum := "29604d1c06d24956dbe8974e8fabe228dcf9d14f003595e06fba0ef5baddbaa1", func := "loop.example/g01084/laws.FnExactConductorOf", spec := "fnExactConductorOf", apart := false }
def FnExactConductorOfSaid : Prop := fnExactConductorOfRow.holds Try.pinned (OpenSpec.ofChange fnExactConductorOfSpec)

/-- ITS FALSE NEIGHBOUR: 'it returns false'. Refute it at one input. -/
def fnExactConductorOfWrong : ChangeSpec := { name := "fnExactConductorOf", fn := fun _ => fun
  | [d] => { results := [.lit (.bool false)], args := [d] }
  | _ => none }
def FnExactConductorOfWrongFalsely : Prop := fnExactConductorOfRow.holds Try.pinned (OpenSpec.ofChange fnExactConductorOfWrong)

/-- 'laws.FnExactSubsetsOf': WHATEVER THE INPUT: true; the input reads as it did. -/
def fnExactSubsetsOfSpec : ChangeSpec := { name := "fnExactSubsetsOf", fn := fun _ => fun
  | [d1, d2] => { results := [.lit (.bool true)], args := [d1, d2] }
  | _ => none }
def fnExactSubsetsOfRow : OpenClaim := { program := "ytckjobjmjijjdaa", sum := "29604d1c06d24956dbe8974e8fabe228dcf9d14f003595e06fba0ef5baddbaa1", func := "loop.example/g01084/laws.FnExactSubsetsOf", spec := "fnExactSubsetsOf", apart := false }
def FnExactSubsetsOfSaid : Prop := fnExactSubsetsOfRow.holds Try.pinned (OpenSpec.ofChange fnExactSubsetsOfSpec)

/-- ITS FALSE NEIGHBOUR: 'it returns false'. Refute it at one input. -/
def fnExactSubsetsOfWrong : ChangeSpec := { name := "fnExactSubsetsOf", fn := fun _ => fun
  | [d1, d2] => { results := [.lit (.bool false)], args := [d1, d2] }
  | _ => none }
def FnExactSubsetsOfWrongFalsely : Prop := fnExactSubsetsOfRow.holds Try.pinned (OpenSpec.ofChange fnExactSubsetsOfWrong)

/-- 'laws.FnExactPathNetwork': WHATEVER THE INPUT: true; the input reads as it did. -/
def fnExactPathNetworkSpec : ChangeSpec := { name := "fnExactPathNetwork", fn := fun _ => fun
  | [d] => { results := [.lit (.bool true)], args := [d] }
  | _ => none }
def fnExactPathNetworkRow : OpenClaim := { program := "ytckjobjmjijjdaa", sum := "29604d1c06d24956dbe8974e8fabe228dcf9d14f003595e06fba0ef5baddbaa1", func := "loop.example/g01084/laws.FnExactPathNetwork", spec := "fnExactPathNetwork", apart := false }
def FnExactPathNetworkSaid : Prop := fnExactPathNetworkRow.holds Try.pinned (OpenSpec.ofChange fnExactPathNetworkSpec)

/-- ITS FALSE NEIGHBOUR: 'it returns false'. Refute it at one input. -/
def fnExactPathNetworkWrong : ChangeSpec := { name := "fnExactPathNetwork", fn := fun _ => fun
  | [d] => { results := [.lit (.bool false)], args := [d] }
  | _ => none }
def FnExactPathNetworkWrongFalsely : Prop := fnExactPathNetworkRow.holds Try.pinned (OpenSpec.ofChange fnExactPathNetworkWrong)

/-- 'laws.FnExactRegularTree': WHATEVER THE INPUT: true; the input reads as it did. -/
def fnExactRegularTreeSpec : ChangeSpec := { name := "fnExactRegularTree", fn := fun _ => fun
  | [d1, d2] => { results := [.lit (.bool true)], args := [d1, d2] }
  | _ => none }
def fnExactRegularTreeRow : OpenClaim := { program := "ytckjobjmjijjdaa", sum := "29604d1c06d24956dbe8974e8fabe228dcf9d14f003595e06fba0ef5baddbaa1", func := "loop.example/g01084/laws.FnExactRegularTree", spec := "fnExactRegularTree", apart := false }
def FnExactRegularTreeSaid : Prop := fnExactRegularTreeRow.holds Try.pinned (OpenSpec.ofChange fnExactRegularTreeSpec)

/-- ITS FALSE NEIGHBOUR: 'it returns false'. Refute it at one input. -/
def fnExactRegularTreeWrong : ChangeSpec := { name := "fnExactRegularTree", fn := fun _ => fun
  | [d1, d2] => { results := [.lit (.bool false)], args := [d1, d2] }
  | _ => none }
def FnExactRegularTreeWrongFalsely : Prop := fnExactRegularTreeRow.holds Try.pinned (OpenSpec.ofChange fnExactRegularTreeWrong)

/-- 'laws.FnExactGridNetwork': WHATEVER THE INPUT: true; the input reads as it did. -/
def fnExactGridNetworkSpec : ChangeSpec := { name := "fnExactGridNetwork", fn := fun _ => fun
  | [d1, d2] => { results := [.lit (.bool true)], args := [d1, d2] }
  | _ => none }
def fnExactGridNetworkRow : OpenClaim := { program := "ytckjobjmjijjdaa", sum := "29604d1c06d24956dbe8974e8fabe228dcf9d14f003595e06fba0ef5baddbaa1", func := "loop.example/g01084/laws.FnExactGridNetwork", spec := "fnExactGridNetwork", apart := false }
def FnExactGridNetworkSaid : Prop := fnExactGridNetworkRow.holds Try.pinned (OpenSpec.ofChange fnExactGridNetworkSpec)

/-- ITS FALSE NEIGHBOUR: 'it returns false'. Refute it at one input. -/
def fnExactGridNetworkWrong : ChangeSpec := { name := "fnExactGridNetwork", fn := fun _ => fun
  | [d1, d2] => { results := [.lit (.bool false)], args := [d1, d2] }
  | _ => none }
def FnExactGridNetworkWrongFalsely : Prop := fnExactGridNetworkRow.holds Try.pinned (OpenSpec.ofChange fnExactGridNetworkWrong)

/-- 'laws.FnExactIsNetwork': WHATEVER THE INPUT: true; the input reads as it did. -/
def fnExactIsNetworkSpec : ChangeSpec := { name := "fnExactIsNetwork", fn := fun _ => fun
  | [d] => { results := [.lit (.bool true)], args := [d] }
  | _ => none }
def fnExactIsNetworkRow : OpenClaim := { program := "ytckjobjmjijjdaa", sum := "29604d1c06d24956dbe8974e8fabe228dcf9d14f003595e06fba0ef5baddbaa1", func := "loop.example/g01084/laws.FnExactIsNetwork", spec := "fnExactIsNetwork", unfollowed := true, recurses := true, apart := false }
def FnExactIsNetworkSaid : Prop := fnExactIsNetworkRow.holds Try.pinned (OpenSpec.ofChange fnExactIsNetworkSpec)

/-- ITS FALSE NEIGHBOUR: 'it returns false'. Refute it at one input. -/
def fnExactIsNetworkWrong : ChangeSpec := { name := "fnExactIsNetwork", fn := fun _ => fun
  | [d] => { results := [.lit (.bool false)], args := [d] }
  | _ => none }
def FnExactIsNetworkWrongFalsely : Prop := fnExactIsNetworkRow.holds Try.pinned (OpenSpec.ofChange fnExactIsNetworkWrong)

/-- 'laws.FnExactOtherEnd': WHATEVER THE INPUT: true; the input reads as it did. -/
def fnExactOtherEndSpec : ChangeSpec := { name := "fnExactOtherEnd", fn := fun _ => fun
  | [d1, d2, d3] => { results := [.lit (.bool true)], args := [d1, d2, d3] }
  | _ => none }
def fnExactOtherEndRow : OpenClaim := { program := "ytckjobjmjijjdaa", sum := "29604d1c06d24956dbe8974e8fabe228dcf9d14f003595e06fba0ef5baddbaa1", func := "loop.example/g01084/laws.FnExactOtherEnd", spec := "fnExactOtherEnd", unfollowed := true, recurses := true, apart := false }
def FnExactOtherEndSaid : Prop := fnExactOtherEndRow.holds Try.pinned (OpenSpec.ofChange fnExactOtherEndSpec)

/-- ITS FALSE NEIGHBOUR: 'it returns false'. Refute it at one input. -/
def fnExactOtherEndWrong : ChangeSpec := { name := "fnExactOtherEnd", fn := fun _ => fun
  | [d1, d2, d3] => { results := [.lit (.bool false)], args := [d1, d2, d3] }
  | _ => none }
def FnExactOtherEndWrongFalsely : Prop := fnExactOtherEndRow.holds Try.pinned (OpenSpec.ofChange fnExactOtherEndWrong)

/-- 'laws.FnExactIsRegular': WHATEVER THE INPUT: true; the input reads as it did. -/
def fnExactIsRegularSpec : ChangeSpec := { name := "fnExactIsRegular", fn := fun _ => fun
  | [d1, d2] => { results := [.lit (.bool true)], args := [d1, d2] }
  | _ => none }
def fnExactIsRegularRow : OpenClaim := { program := "ytckjobjmjijjdaa", sum := "29604d1c06d24956dbe8974e8fabe228dcf9d14f003595e06fba0ef5baddbaa1", func := "loop.example/g01084/laws.FnExactIsRegular", spec := "fnExactIsRegular", unfollowed := true, recurses := true, apart := false }
def FnExactIsRegularSaid : Prop := fnExactIsRegularRow.holds Try.pinned (OpenSpec.ofChange fnExactIsRegularSpec)

/-- ITS FALSE NEIGHBOUR: 'it returns false'. Refute it at one input. -/
def fnExactIsRegularWrong : ChangeSpec := { name := "fnExactIsRegular", fn := fun _ => fun
  | [d1, d2] => { results := [.lit (.bool false)], args := [d1, d2] }
  | _ => none }
def FnExactIsRegularWrongFalsely : Prop := fnExactIsRegularRow.holds Try.pinned (OpenSpec.ofChange fnExactIsRegularWrong)

/- THE SECOND FORM. 'bulk': how many values and letters a reading holds, each counted each time it is reached (what is shared counts as often as it is met; a slice's spare places count too). A statement '..UptoSaid' is the law's where the arguments, and the package variables that the reading takes, are together of bulk at most 1048576: NARROWER than '..Said'. Prove '..Said' where nothing that the law and all that it calls make is longer than what came in: it says more and counts as full. Else prove '..UptoSaid'. A law counts once. -/
mutual
def uptoBulk {H : Type} : DataW H → Nat
  | .lit (.string bytes) => bytes.length + 1
  | .lit _ => 1
  | .nil => 1
  | .ptr d => uptoBulk d + 1
  | .slice elems spare => uptoBulkAll elems + uptoBulkAll spare + 1
  | .agg parts => uptoBulkAll parts + 1
  | .iface _ d => uptoBulk d + 1
  | .map entries => uptoBulkEntries entries + 1
  | .held _ => 1
def uptoBulkAll {H : Type} : List (DataW H) → Nat
  | [] => 0
  | d :: r => uptoBulk d + uptoBulkAll r
def uptoBulkEntries {H : Type} : List (Lit × DataW H) → Nat
  | [] => 0
  | x :: r => uptoBulkEntry x + uptoBulkEntries r
def uptoBulkEntry {H : Type} : Lit × DataW H → Nat
  | (.string bytes, d) => bytes.length + uptoBulk d + 1
  | (_, d) => uptoBulk d + 1
 end
def uptoSmall : (H : Type) → List (DataW H) → Bool := fun _ ds => decide (uptoBulkAll ds ≤ 1048576)
def OpenSpec.upto (s : _root_.Go.ChangeSpec) : _root_.Go.OpenSpec := { _root_.Go.OpenSpec.ofChange s with cond := some uptoSmall }

/-- 'laws.FnExactSubsetRank', WHERE WHAT IT READS IS OF BULK AT MOST 1048576: true; the input reads as it did. -/
def fnExactSubsetRankUptoRow : OpenClaim := { program := "ytckjobjmjijjdaa", sum := "29604d1c06d24956dbe8974e8fabe228dcf9d14f003595e06fba0ef5baddbaa1", func := "loop.example/g01084/laws.FnExactSubsetRank", spec := "fnExactSubsetRank", apart := false, narrowed := true }
def FnExactSubsetRankUptoSaid : Prop := fnExactSubsetRankUptoRow.holds Try.pinned (OpenSpec.upto fnExactSubsetRankSpec)

/-- 'laws.FnExactPolynomialAt', WHERE WHAT IT READS IS OF BULK AT MOST 1048576: true; the input reads as it did. -/
def fnExactPolynomialAtUptoRow : OpenClaim := { program := "ytckjobjmjijjdaa", sum := "29604d1c06d24956dbe8974e8fabe228dcf9d14f003595e06fba0ef5baddbaa1", func := "loop.example/g01084/laws.FnExactPolynomialAt", spec := "fnExactPolynomialAt", unfollowed := true, recurses := true, apart := false, narrowed := true }
def FnExactPolynomialAtUptoSaid : Prop := fnExactPolynomialAtUptoRow.holds Try.pinned (OpenSpec.upto fnExactPolynomialAtSpec)

/-- 'laws.FnExactSubsetAt', WHERE WHAT IT READS IS OF BULK AT MOST 1048576: true; the input reads as it did. -/
def fnExactSubsetAtUptoRow : OpenClaim := { program := "ytckjobjmjijjdaa", sum := "29604d1c06d24956dbe8974e8fabe228dcf9d14f003595e06fba0ef5baddbaa1", func := "loop.example/g01084/laws.FnExactSubsetAt", spec := "fnExactSubsetAt", apart := false, narrowed := true }
def FnExactSubsetAtUptoSaid : Prop := fnExactSubsetAtUptoRow.holds Try.pinned (OpenSpec.upto fnExactSubsetAtSpec)

/-- 'laws.FnExactSumsTo', WHERE WHAT IT READS IS OF BULK AT MOST 1048576: true; the input reads as it did. -/
def fnExactSumsToUptoRow : OpenClaim := { program := "ytckjobjmjijjdaa", sum := "29604d1c06d24956dbe8974e8fabe228dcf9d14f003595e06fba0ef5baddbaa1", func := "loop.example/g01084/laws.FnExactSumsTo", spec := "fnExactSumsTo", apart := false, narrowed := true }
def FnExactSumsToUptoSaid : Prop := fnExactSumsToUptoRow.holds Try.pinned (OpenSpec.upto fnExactSumsToSpec)

/-- 'laws.FnExactConductorOf', WHERE WHAT IT READS IS OF BULK AT MOST 1048576: true; the input reads as it did. -/
def fnExactConductorOfUptoRow : OpenClaim := { program := "ytckjobjmjijjdaa", sum := "29604d1c06d24956dbe8974e8fabe228dcf9d14f003595e06fba0ef5baddbaa1", func := "loop.example/g01084/laws.FnExactConductorOf", spec := "fnExactConductorOf", apart := false, narrowed := true }
def FnExactConductorOfUptoSaid : Prop := fnExactConductorOfUptoRow.holds Try.pinned (OpenSpec.upto fnExactConductorOfSpec)

/-- 'laws.FnExactSubsetsOf', WHERE WHAT IT READS IS OF BULK AT MOST 1048576: true; the input reads as it did. -/
def fnExactSubsetsOfUptoRow : OpenClaim := { program := "ytckjobjmjijjdaa", sum := "29604d1c06d24956dbe8974e8fabe228dcf9d14f003595e06fba0ef5baddbaa1", func := "loop.example/g01084/laws.FnExactSubsetsOf", spec := "fnExactSubsetsOf", apart := false, narrowed := true }
def FnExactSubsetsOfUptoSaid : Prop := fnExactSubsetsOfUptoRow.holds Try.pinned (OpenSpec.upto fnExactSubsetsOfSpec)

/-- 'laws.FnExactPathNetwork', WHERE WHAT IT READS IS OF BULK AT MOST 1048576: true; the input reads as it did. -/
def fnExactPathNetworkUptoRow : OpenClaim := { program := "ytckjobjmjijjdaa", sum := "29604d1c06d24956dbe8974e8fabe228dcf9d14f003595e06fba0ef5baddbaa1", func := "loop.example/g01084/laws.FnExactPathNetwork", spec := "fnExactPathNetwork", apart := false, narrowed := true }
def FnExactPathNetworkUptoSaid : Prop := fnExactPathNetworkUptoRow.holds Try.pinned (OpenSpec.upto fnExactPathNetworkSpec)

/-- 'laws.FnExactRegularTree', WHERE WHAT IT READS IS OF BULK AT MOST 1048576: true; the input reads as it did. -/
def fnExactRegularTreeUptoRow : OpenClaim := { program := "ytckjobjmjijjdaa", sum := "29604d1c06d24956dbe8974e8fabe228dcf9d14f003595e06fba0ef5baddbaa1", func := "loop.example/g01084/laws.FnExactRegularTree", spec := "fnExactRegularTree", apart := false, narrowed := true }
def FnExactRegularTreeUptoSaid : Prop := fnExactRegularTreeUptoRow.holds Try.pinned (OpenSpec.upto fnExactRegularTreeSpec)

/-- 'laws.FnExactGridNetwork', WHERE WHAT IT READS IS OF BULK AT MOST 1048576: true; the input reads as it did. -/
def fnExactGridNetworkUptoRow : OpenClaim := { program := "ytckjobjmjijjdaa", sum := "29604d1c06d24956dbe8974e8fabe228dcf9d14f003595e06fba0ef5baddbaa1", func := "loop.example/g01084/laws.FnExactGridNetwork", spec := "fnExactGridNetwork", apart := false, narrowed := true }
def FnExactGridNetworkUptoSaid : Prop := fnExactGridNetworkUptoRow.holds Try.pinned (OpenSpec.upto fnExactGridNetworkSpec)

/-- 'laws.FnExactIsNetwork', WHERE WHAT IT READS IS OF BULK AT MOST 1048576: true; the input reads as it did. -/
def fnExactIsNetworkUptoRow : OpenClaim := { program := "ytckjobjmjijjdaa", sum := "29604d1c06d24956dbe8974e8fabe228dcf9d14f003595e06fba0ef5baddbaa1", func := "loop.example/g01084/laws.FnExactIsNetwork", spec := "fnExactIsNetwork", unfollowed := true, recurses := true, apart := false, narrowed := true }
def FnExactIsNetworkUptoSaid : Prop := fnExactIsNetworkUptoRow.holds Try.pinned (OpenSpec.upto fnExactIsNetworkSpec)

/-- 'laws.FnExactOtherEnd', WHERE WHAT IT READS IS OF BULK AT MOST 1048576: true; the input reads as it did. -/
def fnExactOtherEndUptoRow : OpenClaim := { program := "ytckjobjmjijjdaa", sum := "29604d1c06d24956dbe8974e8fabe228dcf9d14f003595e06fba0ef5baddbaa1", func := "loop.example/g01084/laws.FnExactOtherEnd", spec := "fnExactOtherEnd", unfollowed := true, recurses := true, apart := false, narrowed := true }
def FnExactOtherEndUptoSaid : Prop := fnExactOtherEndUptoRow.holds Try.pinned (OpenSpec.upto fnExactOtherEndSpec)

/-- 'laws.FnExactIsRegular', WHERE WHAT IT READS IS OF BULK AT MOST 1048576: true; the input reads as it did. -/
def fnExactIsRegularUptoRow : OpenClaim := { program := "ytckjobjmjijjdaa", sum := "29604d1c06d24956dbe8974e8fabe228dcf9d14f003595e06fba0ef5baddbaa1", func := "loop.example/g01084/laws.FnExactIsRegular", spec := "fnExactIsRegular", unfollowed := true, recurses := true, apart := false, narrowed := true }
def FnExactIsRegularUptoSaid : Prop := fnExactIsRegularUptoRow.holds Try.pinned (OpenSpec.upto fnExactIsRegularSpec)

end Rows
end Go.Proofs.Ytckjobjmjijjdaa
