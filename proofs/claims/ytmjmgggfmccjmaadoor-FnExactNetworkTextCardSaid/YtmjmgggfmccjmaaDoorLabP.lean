/- LabelingText: the plain law. -/
import Derived.Test.YtmjmgggfmccjmaaDoorStrs
import Derived.Test.YtmjmgggfmccjmaaDoorAll
import Derived.Test.YtmjmgggfmccjmaaDoorIntM
namespace Go.Proofs.YtmjmgggfmccjmaaDoor
open Go.RowKit
set_option linter.unusedVariables false
set_option linter.unusedSimpArgs false
def numT (n : Int) : List UInt8 := Lib.decDigits n.toNat
def labNs (r : List Int) : List (List UInt8) := r.map numT
def labRow (r : List Int) : List UInt8 := Lib.join (labNs r) [44]
def labRows (rows : List (List Int)) : List (List UInt8) := rows.map labRow
def labT (rows : List (List Int)) : List UInt8 := if rows.length = 0 then [45] else Lib.join (labRows rows) [124]
def labOne (r : List Int) : Bool := decide (r.length ≤ 6) && allB r 0 99
def labAll (rows : List (List Int)) : Bool := decide (∀ j, j < rows.length → labOne (rowOf rows j) = true)
def labOk (rows : List (List Int)) : Bool := decide (rows.length ≤ 40) && labAll rows
def labR (rows : List (List Int)) : ByteArray := if labOk rows then bs (labT rows) else ByteArray.empty
theorem labR_t {rows : List (List Int)} (h : labOk rows = true) : labR rows = bs (labT rows) := by rw [labR, h]; rfl
theorem labR_f {rows : List (List Int)} (h : labOk rows = false) : labR rows = ByteArray.empty := by rw [labR, h]; rfl
theorem labAll_f {rows : List (List Int)} {j : Nat} (hj : j < rows.length) (h : labOne (rowOf rows j) = false) : labAll rows = false := decide_eq_false fun hh => by rw [hh j hj] at h; cases h
theorem labOk_at {rows : List (List Int)} (h : labOk rows = true) : rows.length ≤ 40 ∧ ∀ j, j < rows.length → (rowOf rows j).length ≤ 6 ∧ allB (rowOf rows j) 0 99 = true := by
  unfold labOk at h
  rw [Bool.and_eq_true] at h
  refine ⟨of_decide_eq_true h.1, fun j hj => ?_⟩
  have h2 := of_decide_eq_true h.2 j hj
  unfold labOne at h2
  rw [Bool.and_eq_true] at h2
  exact ⟨of_decide_eq_true h2.1, h2.2⟩
theorem labB_at {r : List Int} {lo hi : Int} (h : allB r lo hi = true) {j : Nat} (hj : j < r.length) : lo ≤ nth r j ∧ nth r j ≤ hi := of_decide_eq_true h j hj
theorem numT_len {n : Int} (h : n ≤ 99) : (numT n).length ≤ 2 := by
  unfold numT
  have h2 : n.toNat < 100 := by omega
  generalize n.toNat = m at h2
  by_cases h3 : m < 10
  · rw [Lib.decDigits_one h3]; simp
  · rw [Lib.decDigits_two h3 h2]; simp
theorem numT_nat (m : Nat) : numT (m : Int) = Lib.decDigits m := rfl
theorem labNs_length (r : List Int) : (labNs r).length = r.length := List.length_map ..
theorem labNs_at {r : List Int} {j : Nat} (hj : j < r.length) : nthS (labNs r) j = numT (nth r j) := by
  rw [nthS_eq_getElem _ _ (by rw [labNs_length]; exact hj), nth_eq_getElem _ _ hj]; simp [labNs]
theorem labNs_le {r : List Int} (h : allB r 0 99 = true) : ∀ j, j < (labNs r).length → (nthS (labNs r) j).length + ([44] : List UInt8).length ≤ 3 := fun j hj => by
  rw [labNs_length] at hj
  rw [labNs_at hj]
  have := numT_len (labB_at h hj).2
  simp; omega
theorem labRow_len {r : List Int} (h6 : r.length ≤ 6) (h : allB r 0 99 = true) : (labRow r).length ≤ 18 := by
  have := join_len [44] (labNs r) 3 (labNs_le h)
  rw [labNs_length] at this
  unfold labRow
  omega
theorem labRows_length (rows : List (List Int)) : (labRows rows).length = rows.length := List.length_map ..
theorem labRows_at {rows : List (List Int)} {j : Nat} (hj : j < rows.length) : nthS (labRows rows) j = labRow (rowOf rows j) := by
  rw [nthS_eq_getElem _ _ (by rw [labRows_length]; exact hj), rowOf_eq_getElem _ _ hj]; simp [labRows]
theorem labRows_le {rows : List (List Int)} (h : labOk rows = true) : ∀ j, j < (labRows rows).length → (nthS (labRows rows) j).length + ([124] : List UInt8).length ≤ 19 := fun j hj => by
  rw [labRows_length] at hj
  rw [labRows_at hj]
  have h2 := (labOk_at h).2 j hj
  have := labRow_len h2.1 h2.2
  simp; omega
theorem labT_len {rows : List (List Int)} (h : labOk rows = true) : (Lib.join (labRows rows) [124]).length ≤ 760 := by
  have := join_len [124] (labRows rows) 19 (labRows_le h)
  rw [labRows_length] at this
  have := (labOk_at h).1
  omega
end Go.Proofs.YtmjmgggfmccjmaaDoor
