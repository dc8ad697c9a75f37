/- The sizes that the laws bound: szEndS, szEndSS, szIntS, szNetwork. -/
import Derived.Test.YtmjmgggfmccjmaaGreatDoorNet
namespace Go.Proofs.YtmjmgggfmccjmaaGreatDoor
open Go.RowKit
set_option linter.unusedVariables false
def szL (n left : Nat) : Int := if n ≤ left then ((left - n : Nat) : Int) else -1
theorem szL_yes {n left : Nat} (h : n ≤ left) : szL n left = ((left - n : Nat) : Int) := if_pos h
theorem szL_no {n left : Nat} (h : ¬ n ≤ left) : szL n left = -1 := if_neg h
end Go.Proofs.YtmjmgggfmccjmaaGreatDoor
