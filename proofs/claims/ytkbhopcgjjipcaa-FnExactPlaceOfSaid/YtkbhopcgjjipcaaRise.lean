/- Contracts: increasing, l1Rising, l1All: lists of ints that are read. -/
import Derived.Test.YtkbhopcgjjipcaaNumA
import Derived.Test.YtkbhopcgjjipcaaInts
namespace Go.Proofs.Ytkbhopcgjjipcaa
open Go.RowKit
set_option linter.unusedVariables false
def RisAt (l : List Int) (lo hi : Int) (j : Nat) : Prop := lo ≤ nth l j ∧ nth l j ≤ hi ∧ (0 < j → nth l (j - 1) < nth l j)
def Ris (l : List Int) (lo hi : Int) : Prop := ∀ j, j < l.length → RisAt l lo hi j
instance (l : List Int) (lo hi : Int) (j : Nat) : Decidable (RisAt l lo hi j) := by unfold RisAt; infer_instance
instance (l : List Int) (lo hi : Int) : Decidable (Ris l lo hi) := by unfold Ris; infer_instance
def risB (l : List Int) (lo hi : Int) : Bool := decide (Ris l lo hi)
theorem risB_t {l : List Int} {lo hi : Int} (h : ∀ j, j < l.length → RisAt l lo hi j) : true = risB l lo hi := by symm; exact decide_eq_true h
theorem risB_f {l : List Int} {lo hi : Int} {k : Nat} (hk : k < l.length) (h : ¬ RisAt l lo hi k) : false = risB l lo hi := by symm; exact decide_eq_false fun hr => h (hr k hk)

end Go.Proofs.Ytkbhopcgjjipcaa
