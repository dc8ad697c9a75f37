/- Permutations: spec's nePerm, impl's isPermutation. -/
import Derived.Test.YtlooinhdehkcdaaNeGood
import Derived.Test.YtlooinhdehkcdaaEmpty
namespace Go.Proofs.Ytlooinhdehkcdaa
open Go.RowKit
set_option linter.unusedVariables false
set_option linter.unusedSimpArgs false
def permP (l : List Int) (n j : Nat) : Prop := inR (nth l j) 0 ((n : Int) - 1) = true ∧ hasB (l.take j) (nth l j) = false
instance (l : List Int) (n j : Nat) : Decidable (permP l n j) := by unfold permP; infer_instance
/-- the numbers 0 to n-1 in any order -/
def permB (l : List Int) (n : Nat) : Bool := decide (l.length = n ∧ ∀ j, j < l.length → permP l n j)
theorem permB_f0 {l : List Int} {n : Nat} (h : ¬ l.length = n) : false = permB l n := (decide_eq_false fun hh => h hh.1).symm
theorem permB_f1 {l : List Int} {n k : Nat} (hk : k < l.length) (h : ¬ permP l n k) : false = permB l n := (decide_eq_false fun hh => h (hh.2 k hk)).symm
theorem permB_t {l : List Int} {n : Nat} (h0 : l.length = n) (h : ∀ j, j < l.length → permP l n j) : true = permB l n := (decide_eq_true ⟨h0, h⟩).symm
end Go.Proofs.Ytlooinhdehkcdaa
