/-
  No cell of these rows narrows 'for every input' (looked for: loops, veiled, ifaces, maps, wideKeys, modest, calm, conditions, laid).
  DERIVED. THE GIVEN ROWS OF THIS SEAT. 11 by the template 'for every input the law returns true; each argument reads behind the call as it read before'; 0 by the template 'total and deterministic' (their statements: YtghdfbgglkkkpaaTotals.lean).
  GIVEN WITH THE SEED: the statements are not yours to turn. If you find one false, say at which input.
  Laid BY PROGRAM, IN A SANDBOX (cutbox-rows.mjs): the forced cells as the released guide's own fill.sh prints them over the translation 3aef73ba66dd2a17… (all of the seat's roots in one cut). By AI agents, Wed Nov 11 2026. No macro, syntax, notation, axiom, sorry.
-/
import Derived.Test.YtghdfbgglkkkpaaChecked
import GoSem.Claim
import GoSem.ClaimJoined
import GoSem.ClaimMapViews
import Derived.JoinedTies
import Derived.KernelRfl
namespace Go.Proofs.Ytghdfbgglkkkpaa
/- THE CELL 'sum', in the pinned program and in every row, IS THE sha256 OF THE DUMP (.gsa) THAT YtghdfbgglkkkpaaProg.lean LOADS. Nothing in Lean hashes anything: it is a label: what it is worth is what the hold of that sum in a sandbox is worth. -/
noncomputable def Try.pinned : Pinned := { name := "ytghdfbgglkkkpaa", sum := "3aef73ba66dd2a17de9f6d47e5bee24008d3549db7c4cb49fc5e87642ee83727", checked := Try.checked }
namespace Rows
def none {H : Type} : Left H := { results := [], args := [] }

/-- 'laws.FnExactConstants': WHATEVER THE INPUT: true; the input reads as it did. -/
def fnExactConstantsSpec : ChangeSpec := { name := "fnExactConstants", fn := fun _ => fun
  | [] => { results := [.lit (.bool true)], args := [] }
  | _ => none }
def fnExactConstantsRow : OpenClaim := { program := "ytghdfbgglkkkpaa", sum := "3aef73ba66dd2a17de9f6d47e5bee24008d3549db7c4cb49fc5e87642ee83727", func := "loop.example/g01084/laws.FnExactConstants", spec := "fnExactConstants", apart := false }
def FnExactConstantsSaid : Prop := fnExactConstantsRow.holds Try.pinned (OpenSpec.ofChange fnExactConstantsSpec)

/-- ITS FALSE NEIGHBOUR: 'it returns false'. Refute it at one input. -/
def fnExactConstantsWrong : ChangeSpec := { name := "fnExactConstants", fn := fun _ => fun
  | [] => { results := [.lit (.bool false)], args := [] }
  | _ => none }
def FnExactConstantsWrongFalsely : Prop := fnExactConstantsRow.holds Try.pinned (OpenSpec.ofChange fnExactConstantsWrong)

/-- 'laws.FnExactFaultName': WHATEVER THE INPUT: true; the input reads as it did. -/
def fnExactFaultNameSpec : ChangeSpec := { name := "fnExactFaultName", fn := fun _ => fun
  | [d] => { results := [.lit (.bool true)], args := [d] }
  | _ => none }
def fnExactFaultNameRow : OpenClaim := { program := "ytghdfbgglkkkpaa", sum := "3aef73ba66dd2a17de9f6d47e5bee24008d3549db7c4cb49fc5e87642ee83727", func := "loop.example/g01084/laws.FnExactFaultName", spec := "fnExactFaultName", apart := false }
def FnExactFaultNameSaid : Prop := fnExactFaultNameRow.holds Try.pinned (OpenSpec.ofChange fnExactFaultNameSpec)

/-- ITS FALSE NEIGHBOUR: 'it returns false'. Refute it at one input. -/
def fnExactFaultNameWrong : ChangeSpec := { name := "fnExactFaultName", fn := fun _ => fun
  | [d] => { results := [.lit (.bool false)], args := [d] }
  | _ => none }
def FnExactFaultNameWrongFalsely : Prop := fnExactFaultNameRow.holds Try.pinned (OpenSpec.ofChange fnExactFaultNameWrong)

/-- 'laws.FnExactIsPrime': WHATEVER THE INPUT: true; the input reads as it did. -/
def fnExactIsPrimeSpec : ChangeSpec := { name := "fnExactIsPrime", fn := fun _ => fun
  | [d] => { results := [.lit (.bool true)], args := [d] }
  | _ => none }
def fnExactIsPrimeRow : OpenClaim := { program := "ytghdfbgglkkkpaa", sum := "3aef73ba66dd2a17de9f6d47e5bee24008d3549db7c4cb49fc5e87642ee83727", func := "loop.example/g01084/laws.FnExactIsPrime", spec := "fnExactIsPrime", apart := false }
def FnExactIsPrimeSaid : Prop := fnExactIsPrimeRow.holds Try.pinned (OpenSpec.ofChange fnExactIsPrimeSpec)

/-- ITS FALSE NEIGHBOUR: 'it returns false'. Refute it at one input. -/
def fnExactIsPrimeWrong : ChangeSpec := { name := "fnExactIsPrime", fn := fun _ => fun
  | [d] => { results := [.lit (.bool false)], args := [d] }
  | _ => none }
def FnExactIsPrimeWrongFalsely : Prop := fnExactIsPrimeRow.holds Try.pinned (OpenSpec.ofChange fnExactIsPrimeWrong)

/-- 'laws.FnExactBitAt': WHATEVER THE INPUT: true; the input reads as it did. -/
def fnExactBitAtSpec : ChangeSpec := { name := "fnExactBitAt", fn := fun _ => fun
  | [d1, d2] => { results := [.lit (.bool true)], args := [d1, d2] }
  | _ => none }
def fnExactBitAtRow : OpenClaim := { program := "ytghdfbgglkkkpaa", sum := "3aef73ba66dd2a17de9f6d47e5bee24008d3549db7c4cb49fc5e87642ee83727", func := "loop.example/g01084/laws.FnExactBitAt", spec := "fnExactBitAt", apart := false }
def FnExactBitAtSaid : Prop := fnExactBitAtRow.holds Try.pinned (OpenSpec.ofChange fnExactBitAtSpec)

/-- ITS FALSE NEIGHBOUR: 'it returns false'. Refute it at one input. -/
def fnExactBitAtWrong : ChangeSpec := { name := "fnExactBitAt", fn := fun _ => fun
  | [d1, d2] => { results := [.lit (.bool false)], args := [d1, d2] }
  | _ => none }
def FnExactBitAtWrongFalsely : Prop := fnExactBitAtRow.holds Try.pinned (OpenSpec.ofChange fnExactBitAtWrong)

/-- 'laws.FnExactBitLength': WHATEVER THE INPUT: true; the input reads as it did. -/
def fnExactBitLengthSpec : ChangeSpec := { name := "fnExactBitLength", fn := fun _ => fun
  | [d] => { results := [.lit (.bool true)], args := [d] }
  | _ => none }
def fnExactBitLengthRow : OpenClaim := { program := "ytghdfbgglkkkpaa", sum := "3aef73ba66dd2a17de9f6d47e5bee24008d3549db7c4cb49fc5e87642ee83727", func := "loop.example/g01084/laws.FnExactBitLength", spec := "fnExactBitLength", apart := false }
def FnExactBitLengthSaid : Prop := fnExactBitLengthRow.holds Try.pinned (OpenSpec.ofChange fnExactBitLengthSpec)

/-- ITS FALSE NEIGHBOUR: 'it returns false'. Refute it at one input. -/
def fnExactBitLengthWrong : ChangeSpec := { name := "fnExactBitLength", fn := fun _ => fun
  | [d] => { results := [.lit (.bool false)], args := [d] }
  | _ => none }
def FnExactBitLengthWrongFalsely : Prop := fnExactBitLengthRow.holds Try.pinned (OpenSpec.ofChange fnExactBitLengthWrong)

/-- 'laws.FnExactNextPrime': WHATEVER THE INPUT: true; the input reads as it did. -/
def fnExactNextPrimeSpec : ChangeSpec := { name := "fnExactNextPrime", fn := fun _ => fun
  | [d] => { results := [.lit (.bool true)], args := [d] }
  | _ => none }
def fnExactNextPrimeRow : OpenClaim := { program := "ytghdfbgglkkkpaa", sum := "3aef73ba66dd2a17de9f6d47e5bee24008d3549db7c4cb49fc5e87642ee83727", func := "loop.example/g01084/laws.FnExactNextPrime", spec := "fnExactNextPrime", apart := false }
def FnExactNextPrimeSaid : Prop := fnExactNextPrimeRow.holds Try.pinned (OpenSpec.ofChange fnExactNextPrimeSpec)

/-- ITS FALSE NEIGHBOUR: 'it returns false'. Refute it at one input. -/
def fnExactNextPrimeWrong : ChangeSpec := { name := "fnExactNextPrime", fn := fun _ => fun
  | [d] => { results := [.lit (.bool false)], args := [d] }
  | _ => none }
def FnExactNextPrimeWrongFalsely : Prop := fnExactNextPrimeRow.holds Try.pinned (OpenSpec.ofChange fnExactNextPrimeWrong)

/-- 'laws.FnExactBinomial': WHATEVER THE INPUT: true; the input reads as it did. -/
def fnExactBinomialSpec : ChangeSpec := { name := "fnExactBinomial", fn := fun _ => fun
  | [d1, d2] => { results := [.lit (.bool true)], args := [d1, d2] }
  | _ => none }
def fnExactBinomialRow : OpenClaim := { program := "ytghdfbgglkkkpaa", sum := "3aef73ba66dd2a17de9f6d47e5bee24008d3549db7c4cb49fc5e87642ee83727", func := "loop.example/g01084/laws.FnExactBinomial", spec := "fnExactBinomial", apart := false }
def FnExactBinomialSaid : Prop := fnExactBinomialRow.holds Try.pinned (OpenSpec.ofChange fnExactBinomialSpec)

/-- ITS FALSE NEIGHBOUR: 'it returns false'. Refute it at one input. -/
def fnExactBinomialWrong : ChangeSpec := { name := "fnExactBinomial", fn := fun _ => fun
  | [d1, d2] => { results := [.lit (.bool false)], args := [d1, d2] }
  | _ => none }
def FnExactBinomialWrongFalsely : Prop := fnExactBinomialRow.holds Try.pinned (OpenSpec.ofChange fnExactBinomialWrong)

/-- 'laws.FnExactLogStar': WHATEVER THE INPUT: true; the input reads as it did. -/
def fnExactLogStarSpec : ChangeSpec := { name := "fnExactLogStar", fn := fun _ => fun
  | [d] => { results := [.lit (.bool true)], args := [d] }
  | _ => none }
def fnExactLogStarRow : OpenClaim := { program := "ytghdfbgglkkkpaa", sum := "3aef73ba66dd2a17de9f6d47e5bee24008d3549db7c4cb49fc5e87642ee83727", func := "loop.example/g01084/laws.FnExactLogStar", spec := "fnExactLogStar", apart := false }
def FnExactLogStarSaid : Prop := fnExactLogStarRow.holds Try.pinned (OpenSpec.ofChange fnExactLogStarSpec)

/-- ITS FALSE NEIGHBOUR: 'it returns false'. Refute it at one input. -/
def fnExactLogStarWrong : ChangeSpec := { name := "fnExactLogStar", fn := fun _ => fun
  | [d] => { results := [.lit (.bool false)], args := [d] }
  | _ => none }
def FnExactLogStarWrongFalsely : Prop := fnExactLogStarRow.holds Try.pinned (OpenSpec.ofChange fnExactLogStarWrong)

/-- 'laws.FnExactDigitsOf': WHATEVER THE INPUT: true; the input reads as it did. -/
def fnExactDigitsOfSpec : ChangeSpec := { name := "fnExactDigitsOf", fn := fun _ => fun
  | [d1, d2, d3] => { results := [.lit (.bool true)], args := [d1, d2, d3] }
  | _ => none }
def fnExactDigitsOfRow : OpenClaim := { program := "ytghdfbgglkkkpaa", sum := "3aef73ba66dd2a17de9f6d47e5bee24008d3549db7c4cb49fc5e87642ee83727", func := "loop.example/g01084/laws.FnExactDigitsOf", spec := "fnExactDigitsOf", apart := false }
def FnExactDigitsOfSaid : Prop := fnExactDigitsOfRow.holds Try.pinned (OpenSpec.ofChange fnExactDigitsOfSpec)

/-- ITS FALSE NEIGHBOUR: 'it returns false'. Refute it at one input. -/
def fnExactDigitsOfWrong : ChangeSpec := { name := "fnExactDigitsOf", fn := fun _ => fun
  | [d1, d2, d3] => { results := [.lit (.bool false)], args := [d1, d2, d3] }
  | _ => none }
def FnExactDigitsOfWrongFalsely : Prop := fnExactDigitsOfRow.holds Try.pinned (OpenSpec.ofChange fnExactDigitsOfWrong)

/-- 'laws.FnExactGcdOf': WHATEVER THE INPUT: true; the input reads as it did. -/
def fnExactGcdOfSpec : ChangeSpec := { name := "fnExactGcdOf", fn := fun _ => fun
  | [d] => { results := [.lit (.bool true)], args := [d] }
  | _ => none }
def fnExactGcdOfRow : OpenClaim := { program := "ytghdfbgglkkkpaa", sum := "3aef73ba66dd2a17de9f6d47e5bee24008d3549db7c4cb49fc5e87642ee83727", func := "loop.example/g01084/laws.FnExactGcdOf", spec := "fnExactGcdOf", apart := false }
def FnExactGcdOfSaid : Prop := fnExactGcdOfRow.holds Try.pinned (OpenSpec.ofChange fnExactGcdOfSpec)

/-- ITS FALSE NEIGHBOUR: 'it returns false'. Refute it at one input. -/
def fnExactGcdOfWrong : ChangeSpec := { name := "fnExactGcdOf", fn := fun _ => fun
  | [d] => { results := [.lit (.bool false)], args := [d] }
  | _ => none }
def FnExactGcdOfWrongFalsely : Prop := fnExactGcdOfRow.holds Try.pinned (OpenSpec.ofChange fnExactGcdOfWrong)

/-- 'laws.FnExactFromDigits': WHATEVER THE INPUT: true; the input reads as it did. -/
def fnExactFromDigitsSpec : ChangeSpec := { name := "fnExactFromDigits", fn := fun _ => fun
  | [d1, d2] => { results := [.lit (.bool true)], args := [d1, d2] }
  | _ => none }
def fnExactFromDigitsRow : OpenClaim := { program := "ytghdfbgglkkkpaa", sum := "3aef73ba66dd2a17de9f6d47e5bee24008d3549db7c4cb49fc5e87642ee83727", func := "loop.example/g01084/laws.FnExactFromDigits", spec := "fnExactFromDigits", unfollowed := true, recurses := true, apart := false }
def FnExactFromDigitsSaid : Prop := fnExactFromDigitsRow.holds Try.pinned (OpenSpec.ofChange fnExactFromDigitsSpec)

/-- ITS FALSE NEIGHBOUR: 'it returns false'. Refute it at one input. -/
def fnExactFromDigitsWrong : ChangeSpec := { name := "fnExactFromDigits", fn := fun _ => fun
  | [d1, d2] => { results := [.lit (.bool false)], args := [d1, d2] }
  | _ => none }
def FnExactFromDigitsWrongFalsely : Prop := fnExactFromDigitsRow.holds Try.pinned (OpenSpec.ofChange fnExactFromDigitsWrong)

/- THE SECOND FORM. 'bulk': how many values and letters a reading holds, each counted each time it is reached (what is shared counts as often as it is met; a slice's spare places count too). A statement '..UptoSaid' is the law's where the arguments, and the package variables that the reading takes, are together of bulk at most 1048576: NARROWER than '..Said'. Prove '..Said' where nothing that the law and all that it calls make is longer than what came in: it says more and counts as full. Else prove '..UptoSaid'. A law counts once. -/
mutual
def uptoBulk {H : Type} : DataW H → Nat
  | .lit (.string bytes) => bytes.length + 1
  | .lit _ => 1
  | .nil => 1
  | .ptr d => uptoBulk d + 1
  | .slice elems spare => uptoBulkAll elems + uptoBulkAll spare + 1
  | .agg parts => uptoBulkAll parts + 1
  | .iface _ d => uptoBulk d + 1
  | .map entries => uptoBulkEntries entries + 1
  | .held _ => 1
def uptoBulkAll {H : Type} : List (DataW H) → Nat
  | [] => 0
  | d :: r => uptoBulk d + uptoBulkAll r
def uptoBulkEntries {H : Type} : List (Lit × DataW H) → Nat
  | [] => 0
  | x :: r => uptoBulkEntry x + uptoBulkEntries r
def uptoBulkEntry {H : Type} : Lit × DataW H → Nat
  | (.string bytes, d) => bytes.length + uptoBulk d + 1
  | (_, d) => uptoBulk d + 1
 end
def uptoSmall : (H : Type) → List (DataW H) → Bool := fun _ ds => decide (uptoBulkAll ds ≤ 1048576)
def OpenSpec.upto (s : _root_.Go.ChangeSpec) : _root_.Go.OpenSpec := { _root_.Go.OpenSpec.ofChange s with cond := some uptoSmall }

/-- 'laws.FnExactConstants', WHERE WHAT IT READS IS OF BULK AT MOST 1048576: true; the input reads as it did. -/
def fnExactConstantsUptoRow : OpenClaim := { program := "ytghdfbgglkkkpaa", sum := "3aef73ba66dd2a17de9f6d47e5bee24008d3549db7c4cb49fc5e87642ee83727", func := "loop.example/g01084/laws.FnExactConstants", spec := "fnExactConstants", apart := false, narrowed := true }
def FnExactConstantsUptoSaid : Prop := fnExactConstantsUptoRow.holds Try.pinned (OpenSpec.upto fnExactConstantsSpec)

/-- 'laws.FnExactFaultName', WHERE WHAT IT READS IS OF BULK AT MOST 1048576: true; the input reads as it did. -/
def fnExactFaultNameUptoRow : OpenClaim := { program := "ytghdfbgglkkkpaa", sum := "3aef73ba66dd2a17de9f6d47e5bee24008d3549db7c4cb49fc5e87642ee83727", func := "loop.example/g01084/laws.FnExactFaultName", spec := "fnExactFaultName", apart := false, narrowed := true }
def FnExactFaultNameUptoSaid : Prop := fnExactFaultNameUptoRow.holds Try.pinned (OpenSpec.upto fnExactFaultNameSpec)

/-- 'laws.FnExactIsPrime', WHERE WHAT IT READS IS OF BULK AT MOST 1048576: true; the input reads as it did. -/
def fnExactIsPrimeUptoRow : OpenClaim := { program := "ytghdfbgglkkkpaa", sum := "3aef73ba66dd2a17de9f6d47e5bee24008d3549db7c4cb49fc5e87642ee83727", func := "loop.example/g01084/laws.FnExactIsPrime", spec := "fnExactIsPrime", apart := false, narrowed := true }
def FnExactIsPrimeUptoSaid : Prop := fnExactIsPrimeUptoRow.holds Try.pinned (OpenSpec.upto fnExactIsPrimeSpec)

/-- 'laws.FnExactBitAt', WHERE WHAT IT READS IS OF BULK AT MOST 1048576: true; the input reads as it did. -/
def fnExactBitAtUptoRow : OpenClaim := { program := "ytghdfbgglkkkpaa", sum := "3aef73ba66dd2a17de9f6d47e5bee24008d3549db7c4cb49fc5e87642ee83727", func := "loop.example/g01084/laws.FnExactBitAt", spec := "fnExactBitAt", apart := false, narrowed := true }
def FnExactBitAtUptoSaid : Prop := fnExactBitAtUptoRow.holds Try.pinned (OpenSpec.upto fnExactBitAtSpec)

/-- 'laws.FnExactBitLength', WHERE WHAT IT READS IS OF BULK AT MOST 1048576: true; the input reads as it did. -/
def fnExactBitLengthUptoRow : OpenClaim := { program := "ytghdfbgglkkkpaa", sum := "3aef73ba66dd2a17de9f6d47e5bee24008d3549db7c4cb49fc5e87642ee83727", func := "loop.example/g01084/laws.FnExactBitLength", spec := "fnExactBitLength", apart := false, narrowed := true }
def FnExactBitLengthUptoSaid : Prop := fnExactBitLengthUptoRow.holds Try.pinned (OpenSpec.upto fnExactBitLengthSpec)

/-- 'laws.FnExactNextPrime', WHERE WHAT IT READS IS OF BULK AT MOST 1048576: true; the input reads as it did. -/
def fnExactNextPrimeUptoRow : OpenClaim := { program := "ytghdfbgglkkkpaa", sum := "3aef73ba66dd2a17de9f6d47e5bee24008d3549db7c4cb49fc5e87642ee83727", func := "loop.example/g01084/laws.FnExactNextPrime", spec := "fnExactNextPrime", apart := false, narrowed := true }
def FnExactNextPrimeUptoSaid : Prop := fnExactNextPrimeUptoRow.holds Try.pinned (OpenSpec.upto fnExactNextPrimeSpec)

/-- 'laws.FnExactBinomial', WHERE WHAT IT READS IS OF BULK AT MOST 1048576: true; the input reads as it did. -/
def fnExactBinomialUptoRow : OpenClaim := { program := "ytghdfbgglkkkpaa", sum := "3aef73ba66dd2a17de9f6d47e5bee24008d3549db7c4cb49fc5e87642ee83727", func := "loop.example/g01084/laws.FnExactBinomial", spec := "fnExactBinomial", apart := false, narrowed := true }
def FnExactBinomialUptoSaid : Prop := fnExactBinomialUptoRow.holds Try.pinned (OpenSpec.upto fnExactBinomialSpec)

/-- 'laws.FnExactLogStar', WHERE WHAT IT READS IS OF BULK AT MOST 1048576: true; the input reads as it did. -/
def fnExactLogStarUptoRow : OpenClaim := { program := "ytghdfbgglkkkpaa", sum := "3aef73ba66dd2a17de9f6d47e5bee24008d3549db7c4cb49fc5e87642ee83727", func := "loop.example/g01084/laws.FnExactLogStar", spec := "fnExactLogStar", apart := false, narrowed := true }
def FnExactLogStarUptoSaid : Prop := fnExactLogStarUptoRow.holds Try.pinned (OpenSpec.upto fnExactLogStarSpec)

/-- 'laws.FnExactDigitsOf', WHERE WHAT IT READS IS OF BULK AT MOST 1048576: true; the input reads as it did. -/
def fnExactDigitsOfUptoRow : OpenClaim := { program := "ytghdfbgglkkkpaa", sum := "3aef73ba66dd2a17de9f6d47e5bee24008d3549db7c4cb49fc5e87642ee83727", func := "loop.example/g01084/laws.FnExactDigitsOf", spec := "fnExactDigitsOf", apart := false, narrowed := true }
def FnExactDigitsOfUptoSaid : Prop := fnExactDigitsOfUptoRow.holds Try.pinned (OpenSpec.upto fnExactDigitsOfSpec)

/-- 'laws.FnExactGcdOf', WHERE WHAT IT READS IS OF BULK AT MOST 1048576: true; the input reads as it did. -/
def fnExactGcdOfUptoRow : OpenClaim := { program := "ytghdfbgglkkkpaa", sum := "3aef73ba66dd2a17de9f6d47e5bee24008d3549db7c4cb49fc5e87642ee83727", func := "loop.example/g01084/laws.FnExactGcdOf", spec := "fnExactGcdOf", apart := false, narrowed := true }
def FnExactGcdOfUptoSaid : Prop := fnExactGcdOfUptoRow.holds Try.pinned (OpenSpec.upto fnExactGcdOfSpec)

/-- 'laws.FnExactFromDigits', WHERE WHAT IT READS IS OF BULK AT MOST 1048576: true; the input reads as it did. -/
def fnExactFromDigitsUptoRow : OpenClaim := { program := "ytghdfbgglkkkpaa", sum := "3aef73ba66dd2a17de9f6d47e5bee24008d3549db7c4cb49fc5e87642ee83727", func := "loop.example/g01084/laws.FnExactFromDigits", spec := "fnExactFromDigits", unfollowed := true, recurses := true, apart := false, narrowed := true }
def FnExactFromDigitsUptoSaid : Prop := fnExactFromDigitsUptoRow.holds Try.pinned (OpenSpec.upto fnExactFromDigitsSpec)

end Rows
end Go.Proofs.Ytghdfbgglkkkpaa
