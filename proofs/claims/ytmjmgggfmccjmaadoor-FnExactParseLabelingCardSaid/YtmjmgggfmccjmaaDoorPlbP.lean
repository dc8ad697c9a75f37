/- ParseLabeling: the plain law. -/
import Derived.Test.YtmjmgggfmccjmaaDoorLabP
import Derived.Test.YtmjmgggfmccjmaaDoorRdP
namespace Go.Proofs.YtmjmgggfmccjmaaDoor
open Go.RowKit
set_option linter.unusedVariables false
set_option linter.unusedSimpArgs false
theorem join_spl (c : UInt8) : ∀ l : List UInt8, Lib.join (spl c l) [c] = l
  | [] => by rw [spl]; exact Lib.join_one _ _
  | b :: l => by
    have ih := join_spl c l
    rw [spl]
    cases hs : spl c l with
    | nil => exact absurd hs (spl_ne c l)
    | cons h t =>
      rw [hs, Lib.join_cons] at ih
      by_cases hb : b = c
      · rw [if_pos hb, Lib.join_cons, hb, ← ih]
        simp [Lib.joinTail]
      · rw [if_neg hb]
        simp only
        rw [Lib.join_cons, List.cons_append, ih]
/-- the numbers of a part -/
def rdRow (p : List UInt8) : List Int := if p = [] then [] else (spl 44 p).map readL
def rdRows (l : List UInt8) : List (List Int) := (spl 124 l).map rdRow
def plOk (l : List UInt8) : Bool := if l = [45] then true else labOk (rdRows l)
def plR (l : List UInt8) : List (List Int) := if l = [45] then [] else if labOk (rdRows l) = true then rdRows l else []
theorem plOk_dash {l : List UInt8} (h : l = [45]) : plOk l = true := by rw [plOk, if_pos h]
theorem plR_dash {l : List UInt8} (h : l = [45]) : plR l = [] := by rw [plR, if_pos h]
theorem plOk_of {l : List UInt8} (h : l ≠ [45]) : plOk l = labOk (rdRows l) := by rw [plOk, if_neg h]
theorem plR_f {l : List UInt8} (h : l ≠ [45]) (hf : labOk (rdRows l) = false) : plR l = [] := by rw [plR, if_neg h, hf]; rfl
theorem plR_t {l : List UInt8} (h : l ≠ [45]) (ht : labOk (rdRows l) = true) : plR l = rdRows l := by rw [plR, if_neg h, if_pos ht]
theorem rdRows_length (l : List UInt8) : (rdRows l).length = (spl 124 l).length := List.length_map ..
theorem rdRows_at {l : List UInt8} {j : Nat} (h : j < (spl 124 l).length) : rowOf (rdRows l) j = rdRow (nthS (spl 124 l) j) := by
  rw [rowOf_eq_getElem _ _ (by rw [rdRows_length]; exact h), nthS_eq_getElem _ _ h]
  simp [rdRows]
theorem rdRow_nil : rdRow [] = [] := rfl
theorem rdRow_of {p : List UInt8} (h : p ≠ []) : rdRow p = (spl 44 p).map readL := by rw [rdRow, if_neg h]
theorem rdRow_length {p : List UInt8} (h : p ≠ []) : (rdRow p).length = (spl 44 p).length := by rw [rdRow_of h, List.length_map]
theorem rdRow_at {p : List UInt8} (h : p ≠ []) {j : Nat} (hj : j < (spl 44 p).length) : nth (rdRow p) j = readL (nthS (spl 44 p) j) := by
  rw [rdRow_of h, nth_eq_getElem _ _ (by rw [List.length_map]; exact hj), nthS_eq_getElem _ _ hj]
  simp
/-- a bad word: no labeling -/
theorem plb_bad {l : List UInt8} {k i : Nat} (hk : k < (spl 124 l).length) (hp : nthS (spl 124 l) k ≠ []) (hi : i < (spl 44 (nthS (spl 124 l) k)).length) (hb : readL (nthS (spl 44 (nthS (spl 124 l) k)) i) = -1) : labOk (rdRows l) = false := by
  cases h : labOk (rdRows l)
  · rfl
  · have h1 := (labOk_at h).2 k (by rw [rdRows_length]; exact hk)
    rw [rdRows_at hk] at h1
    have h2 := labB_at h1.2 (j := i) (by rw [rdRow_length hp]; exact hi)
    rw [rdRow_at hp hi, hb] at h2
    omega
/-- all words of a part are numbers -/
def rowGood (p : List UInt8) : Prop := p ≠ [] → ∀ i, i < (spl 44 p).length → 0 ≤ readL (nthS (spl 44 p) i)
theorem labRow_good {p : List UInt8} (h : rowGood p) : labRow (rdRow p) = p := by
  by_cases hp : p = []
  · subst hp; rfl
  · have h2 := h hp
    rw [rdRow_of hp, labRow, labNs, List.map_map]
    have e : (spl 44 p).map (numT ∘ readL) = spl 44 p := by
      refine List.ext_getElem (by simp) fun i h3 h4 => ?_
      have h5 := h2 i h4
      rw [nthS_eq_getElem _ _ h4] at h5
      have h6 := (itoa_readL h5).2
      rw [Lib.itoa, if_neg (by omega)] at h6
      simpa [numT] using h6
    rw [e]
    exact join_spl 44 p
theorem labT_good {l : List UInt8} (h : ∀ k, k < (spl 124 l).length → rowGood (nthS (spl 124 l) k)) : labT (rdRows l) = l := by
  have hne : (rdRows l).length ≠ 0 := by
    rw [rdRows_length]
    intro h0
    exact spl_ne 124 l (List.length_eq_zero_iff.1 h0)
  rw [labT, if_neg hne]
  have e : labRows (rdRows l) = spl 124 l := by
    unfold labRows rdRows
    rw [List.map_map]
    refine List.ext_getElem (by simp) fun i h3 h4 => ?_
    have h5 := h i h4
    rw [nthS_eq_getElem _ _ h4] at h5
    simpa using labRow_good h5
  rw [e]
  exact join_spl 124 l
theorem spl_count (c : UInt8) : ∀ l : List UInt8, (spl c l).length ≤ l.length + 1
  | [] => Nat.le_refl _
  | b :: l => by
    have ih := spl_count c l
    rw [spl]
    split
    · rw [List.length_cons, List.length_cons]; omega
    · cases hs : spl c l with
      | nil => simp
      | cons h t => rw [hs] at ih; simp at ih ⊢; omega
end Go.Proofs.YtmjmgggfmccjmaaDoor
