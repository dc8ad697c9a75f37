/- NeighboursOf: contracts. -/
import Derived.Test.YtlooinhdehkcdaaNeGood
import Derived.Test.YtlooinhdehkcdaaApp
namespace Go.Proofs.Ytlooinhdehkcdaa
open Go.RowKit
set_option linter.unusedVariables false
set_option linter.unusedSimpArgs false
/-- the nodes at the other sides of a row of ends -/
def fsts (es : List (Int × Int)) : List Int := es.map Prod.fst
theorem fsts_length (es : List (Int × Int)) : (fsts es).length = es.length := by simp [fsts]
theorem fsts_nth (es : List (Int × Int)) (j : Nat) (hj : j < es.length) : nth (fsts es) j = (nthE es j).1 := by
  rw [nth_eq_getElem _ _ (by rw [fsts_length]; exact hj)]
  simp [fsts, nthE, List.getD, hj]
theorem fsts_take (es : List (Int × Int)) (k : Nat) (h : k < es.length) : (fsts es).take (k + 1) = (fsts es).take k ++ [(nthE es k).1] := by
  rw [take_snoc_nth _ _ (by rw [fsts_length]; exact h), fsts_nth _ _ h]
def ndB (N : Net) (v : Int) : Bool := netB N && hasN N.ends v
def nrR (N : Net) (v : Int) : List Int := if ndB N v then fsts (rowOf N.ends v.toNat) else []
theorem nrR_t {N : Net} {v : Int} (h : ndB N v = true) : nrR N v = fsts (rowOf N.ends v.toNat) := by rw [nrR, h]; rfl
theorem nrR_f {N : Net} {v : Int} (h : ndB N v = false) : nrR N v = [] := by rw [nrR, h]; rfl
theorem ndB_f0 {N : Net} {v : Int} (h : netB N = false) : ndB N v = false := by rw [ndB, h]; rfl
theorem ndB_n {N : Net} {v : Int} (h : netB N = true) : ndB N v = hasN N.ends v := by rw [ndB, h]; rfl
theorem nrR_le {N : Net} {v : Int} (h : NetSmall N) : (nrR N v).length ≤ 1048576 := by
  cases hn : ndB N v with
  | false => rw [nrR_f hn]; exact Nat.zero_le _
  | true =>
    rw [nrR_t hn, fsts_length]
    rw [ndB, Bool.and_eq_true] at hn
    obtain ⟨p, rfl, hp⟩ := hasN_nat hn.2
    exact h.row _ (by simpa using hp)
end Go.Proofs.Ytlooinhdehkcdaa
