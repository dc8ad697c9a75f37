/-
  No cell of these rows narrows 'for every input' (looked for: loops, veiled, ifaces, maps, wideKeys, modest, calm, conditions, laid).
  DERIVED. THE GIVEN ROWS OF THIS SEAT. 3 by the template 'for every input the law returns true; each argument reads behind the call as it read before'; 0 by the template 'total and deterministic' (their statements: YtkbhopcgjjipcaaTotals.lean).
  GIVEN WITH THE SEED: the statements are not yours to turn. If you find one false, say at which input.
  Laid BY PROGRAM, IN A SANDBOX (cutbox-rows.mjs): the forced cells as the released guide's own fill.sh prints them over the translation 8c75a86544d5dc81… (all of the seat's roots in one cut). By AI agents, Wed Nov 11 2026. No macro, syntax, notation, axiom, sorry.
-/
import Derived.Test.YtkbhopcgjjipcaaChecked
import GoSem.Claim
import GoSem.ClaimJoined
import GoSem.ClaimMapViews
import Derived.JoinedTies
import Derived.KernelRfl
namespace Go.Proofs.Ytkbhopcgjjipcaa
/- THE CELL 'sum', in the pinned program and in every row, IS THE sha256 OF THE DUMP (.gsa) THAT YtkbhopcgjjipcaaProg.lean LOADS. Nothing in Lean hashes anything: it is a label: what it is worth is what the hold of that sum in a sandbox is worth. -/
noncomputable def Try.pinned : Pinned := { name := "ytkbhopcgjjipcaa", sum := "8c75a86544d5dc8197932ee71ca23f29c29f27fc76476f03c47e8081fedf19f6", checked := Try.checked }
namespace Rows
def none {H : Type} : Left H := { results := [], args := [] }

/-- 'laws.FnExactPlaceOf': WHATEVER THE INPUT: true; the input reads as it did. -/
def fnExactPlaceOfSpec : ChangeSpec := { name := "fnExactPlaceOf", fn := fun _ => fun
  | [d1, d2] => { results := [.lit (.bool true)], args := [d1, d2] }
  | _ => none }
def fnExactPlaceOfRow : OpenClaim := { program := "ytkbhopcgjjipcaa", sum := "8c75a86544d5dc8197932ee71ca23f29c29f27fc76476f03c47e8081fedf19f6", func := "loop.example/g01084/laws.FnExactPlaceOf", spec := "fnExactPlaceOf", inPlace := ["internal/bytealg.CountString", "internal/bytealg.IndexByteString", "internal/bytealg.IndexString"], named := ["internal/bytealg.MaxLen"], apart := false }
def FnExactPlaceOfSaid : Prop := fnExactPlaceOfRow.holds Try.pinned (OpenSpec.ofChange fnExactPlaceOfSpec)

/-- ITS FALSE NEIGHBOUR: 'it returns false'. Refute it at one input. -/
def fnExactPlaceOfWrong : ChangeSpec := { name := "fnExactPlaceOf", fn := fun _ => fun
  | [d1, d2] => { results := [.lit (.bool false)], args := [d1, d2] }
  | _ => none }
def FnExactPlaceOfWrongFalsely : Prop := fnExactPlaceOfRow.holds Try.pinned (OpenSpec.ofChange fnExactPlaceOfWrong)

/-- 'laws.FnExactPolynomialAt': WHATEVER THE INPUT: true; the input reads as it did. -/
def fnExactPolynomialAtSpec : ChangeSpec := { name := "fnExactPolynomialAt", fn := fun _ => fun
  | [d1, d2, d3] => { results := [.lit (.bool true)], args := [d1, d2, d3] }
  | _ => none }
def fnExactPolynomialAtRow : OpenClaim := { program := "ytkbhopcgjjipcaa", sum := "8c75a86544d5dc8197932ee71ca23f29c29f27fc76476f03c47e8081fedf19f6", func := "loop.example/g01084/laws.FnExactPolynomialAt", spec := "fnExactPolynomialAt", unfollowed := true, recurses := true, apart := false }
def FnExactPolynomialAtSaid : Prop := fnExactPolynomialAtRow.holds Try.pinned (OpenSpec.ofChange fnExactPolynomialAtSpec)

/-- ITS FALSE NEIGHBOUR: 'it returns false'. Refute it at one input. -/
def fnExactPolynomialAtWrong : ChangeSpec := { name := "fnExactPolynomialAt", fn := fun _ => fun
  | [d1, d2, d3] => { results := [.lit (.bool false)], args := [d1, d2, d3] }
  | _ => none }
def FnExactPolynomialAtWrongFalsely : Prop := fnExactPolynomialAtRow.holds Try.pinned (OpenSpec.ofChange fnExactPolynomialAtWrong)

/-- 'laws.FnExactFromDigits': WHATEVER THE INPUT: true; the input reads as it did. -/
def fnExactFromDigitsSpec : ChangeSpec := { name := "fnExactFromDigits", fn := fun _ => fun
  | [d1, d2] => { results := [.lit (.bool true)], args := [d1, d2] }
  | _ => none }
def fnExactFromDigitsRow : OpenClaim := { program := "ytkbhopcgjjipcaa", sum := "8c75a86544d5dc8197932ee71ca23f29c29f27fc76476f03c47e8081fedf19f6", func := "loop.example/g01084/laws.FnExactFromDigits", spec := "fnExactFromDigits", unfollowed := true, recurses := true, apart := false }
def FnExactFromDigitsSaid : Prop := fnExactFromDigitsRow.holds Try.pinned (OpenSpec.ofChange fnExactFromDigitsSpec)

/-- ITS FALSE NEIGHBOUR: 'it returns false'. Refute it at one input. -/
def fnExactFromDigitsWrong : ChangeSpec := { name := "fnExactFromDigits", fn := fun _ => fun
  | [d1, d2] => { results := [.lit (.bool false)], args := [d1, d2] }
  | _ => none }
def FnExactFromDigitsWrongFalsely : Prop := fnExactFromDigitsRow.holds Try.pinned (OpenSpec.ofChange fnExactFromDigitsWrong)

/- THE SECOND FORM. 'bulk': how many values and letters a reading holds, each counted each time it is reached (what is shared counts as often as it is met; a slice's spare places count too). A statement '..UptoSaid' is the law's where the arguments, and the package variables that the reading takes, are together of bulk at most 1048576: NARROWER than '..Said'. Prove '..Said' where nothing that the law and all that it calls make is longer than what came in: it says more and counts as full. Else prove '..UptoSaid'. A law counts once. -/
mutual
def uptoBulk {H : Type} : DataW H → Nat
  | .lit (.string bytes) => bytes.length + 1
  | .lit _ => 1
  | .nil => 1
  | .ptr d => uptoBulk d + 1
  | .slice elems spare => uptoBulkAll elems + uptoBulkAll spare + 1
  | .agg parts => uptoBulkAll parts + 1
  | .iface _ d => uptoBulk d + 1
  | .map entries => uptoBulkEntries entries + 1
  | .held _ => 1
def uptoBulkAll {H : Type} : List (DataW H) → Nat
  | [] => 0
  | d :: r => uptoBulk d + uptoBulkAll r
def uptoBulkEntries {H : Type} : List (Lit × DataW H) → Nat
  | [] => 0
  | x :: r => uptoBulkEntry x + uptoBulkEntries r
def uptoBulkEntry {H : Type} : Lit × DataW H → Nat
  | (.string bytes, d) => bytes.length + uptoBulk d + 1
  | (_, d) => uptoBulk d + 1
 end
def uptoSmall : (H : Type) → List (DataW H) → Bool := fun _ ds => decide (uptoBulkAll ds ≤ 1048576)
def OpenSpec.upto (s : _root_.Go.ChangeSpec) : _root_.Go.OpenSpec := { _root_.Go.OpenSpec.ofChange s with cond := some uptoSmall }

/-- 'laws.FnExactPlaceOf', WHERE WHAT IT READS IS OF BULK AT MOST 1048576: true; the input reads as it did. -/
def fnExactPlaceOfUptoRow : OpenClaim := { program := "ytkbhopcgjjipcaa", sum := "8c75a86544d5dc8197932ee71ca23f29c29f27fc76476f03c47e8081fedf19f6", func := "loop.example/g01084/laws.FnExactPlaceOf", spec := "fnExactPlaceOf", inPlace := ["internal/bytealg.CountString", "internal/bytealg.IndexByteString", "internal/bytealg.IndexString"], named := ["internal/bytealg.MaxLen"], apart := false, narrowed := true }
def FnExactPlaceOfUptoSaid : Prop := fnExactPlaceOfUptoRow.holds Try.pinned (OpenSpec.upto fnExactPlaceOfSpec)

/-- 'laws.FnExactPolynomialAt', WHERE WHAT IT READS IS OF BULK AT MOST 1048576: true; the input reads as it did. -/
def fnExactPolynomialAtUptoRow : OpenClaim := { program := "ytkbhopcgjjipcaa", sum := "8c75a86544d5dc8197932ee71ca23f29c29f27fc76476f03c47e8081fedf19f6", func := "loop.example/g01084/laws.FnExactPolynomialAt", spec := "fnExactPolynomialAt", unfollowed := true, recurses := true, apart := false, narrowed := true }
def FnExactPolynomialAtUptoSaid : Prop := fnExactPolynomialAtUptoRow.holds Try.pinned (OpenSpec.upto fnExactPolynomialAtSpec)

/-- 'laws.FnExactFromDigits', WHERE WHAT IT READS IS OF BULK AT MOST 1048576: true; the input reads as it did. -/
def fnExactFromDigitsUptoRow : OpenClaim := { program := "ytkbhopcgjjipcaa", sum := "8c75a86544d5dc8197932ee71ca23f29c29f27fc76476f03c47e8081fedf19f6", func := "loop.example/g01084/laws.FnExactFromDigits", spec := "fnExactFromDigits", unfollowed := true, recurses := true, apart := false, narrowed := true }
def FnExactFromDigitsUptoSaid : Prop := fnExactFromDigitsUptoRow.holds Try.pinned (OpenSpec.upto fnExactFromDigitsSpec)

end Rows
end Go.Proofs.Ytkbhopcgjjipcaa
