/- NetworkText: the plain law. -/
import Derived.Test.YtmjmgggfmccjmaaDoorNetS
import Derived.Test.YtmjmgggfmccjmaaDoorStrs
import Derived.Test.YtmjmgggfmccjmaaDoorLabP
import Derived.Test.YtmjmgggfmccjmaaDoorTxtE
import Derived.Test.YtmjmgggfmccjmaaDoorTxtP
namespace Go.Proofs.YtmjmgggfmccjmaaDoor
open Go.RowKit
set_option linter.unusedVariables false
set_option linter.unusedSimpArgs false
def ntId (m : Nat) : List UInt8 := [35] ++ Lib.decDigits m
def ntIn (m : Nat) : List UInt8 := [47] ++ Lib.decDigits m
def ntE (x y : Nat) : List UInt8 := Lib.decDigits x ++ [46] ++ Lib.decDigits y
theorem endT_bs (x y : Nat) : endT x y = bs (ntE x y) := by
  rw [endT, decB_bs, decB_bs, ntE]
  apply ByteArray.ext
  simp [bs]
def ntPre (N : Net) (v : Nat) : List (List UInt8) := (if 0 < N.ids.length then [ntId (nth N.ids v).toNat] else []) ++ (if nth N.inputs v ≠ 0 then [ntIn (nth N.inputs v).toNat] else [])
/-- the words of a node -/
def ntW (N : Net) (v : Nat) : List (List UInt8) := ntPre N v ++ (rowOf N.ends v).map fun e => ntE e.1.toNat e.2.toNat
/-- the lines of the first k nodes -/
def ntT (N : Net) : Nat → List UInt8
  | 0 => []
  | k + 1 => ntT N k ++ (Lib.join (ntW N k) [32] ++ [10])
def ntR (N : Net) : ByteArray := if netB N then bs (ntT N N.ends.length) else ByteArray.empty
theorem ntR_f {N : Net} (h : netB N = false) : ntR N = ByteArray.empty := by rw [ntR, h]; rfl
theorem ntR_t {N : Net} (h : netB N = true) : ntR N = bs (ntT N N.ends.length) := by rw [ntR, h]; rfl
theorem ids_at {N : Net} (h : netB N = true) {v : Nat} (hv : v < N.ends.length) (hi : 0 < N.ids.length) : N.ids.length = N.ends.length ∧ ∃ m : Nat, nth N.ids v = (m : Int) ∧ m < 1000000 := by
  unfold netB at h
  simp only [Bool.and_eq_true] at h
  have h2 := of_decide_eq_true h.1.1.2
  have hl : N.ids.length = N.ends.length := by have := h2.2.2; omega
  have h3 := h2.1 v (by omega)
  obtain ⟨m, hm⟩ := Int.eq_ofNat_of_zero_le (show 0 ≤ nth N.ids v by omega)
  exact ⟨hl, m, hm, by omega⟩
theorem inp_at {N : Net} (h : netB N = true) {v : Nat} (hv : v < N.ends.length) : N.inputs.length = N.ends.length ∧ ∃ m : Nat, nth N.inputs v = (m : Int) ∧ m < 10 := by
  unfold netB at h
  simp only [Bool.and_eq_true] at h
  have h2 := h.1.2
  unfold inpB at h2
  rw [Bool.and_eq_true] at h2
  have hl := of_decide_eq_true h2.1
  have h3 := of_decide_eq_true h2.2 v (by omega)
  obtain ⟨m, hm⟩ := Int.eq_ofNat_of_zero_le (show 0 ≤ nth N.inputs v by omega)
  exact ⟨hl, m, hm, by omega⟩
theorem dec_len (m : Nat) : (Lib.decDigits m).length ≤ m + 1 := decB_size m
theorem ntPre_len (N : Net) (v : Nat) : (ntPre N v).length ≤ 2 := by
  unfold ntPre
  rw [List.length_append]
  split <;> split <;> simp
theorem ntPre_00 {N : Net} {v : Nat} (h : ¬ 0 < N.ids.length) (h2 : nth N.inputs v = 0) : ntPre N v = [] := by rw [ntPre, if_neg h, if_neg (by simp [h2])]; rfl
theorem ntPre_01 {N : Net} {v m : Nat} (h : ¬ 0 < N.ids.length) (h2 : nth N.inputs v ≠ 0) (h3 : nth N.inputs v = (m : Int)) : ntPre N v = [ntIn m] := by rw [ntPre, if_neg h, if_pos h2, h3]; rfl
theorem ntPre_10 {N : Net} {v m : Nat} (h : 0 < N.ids.length) (h1 : nth N.ids v = (m : Int)) (h2 : nth N.inputs v = 0) : ntPre N v = [ntId m] := by rw [ntPre, if_pos h, if_neg (by simp [h2]), h1]; rfl
theorem ntPre_11 {N : Net} {v m m2 : Nat} (h : 0 < N.ids.length) (h1 : nth N.ids v = (m : Int)) (h2 : nth N.inputs v ≠ 0) (h3 : nth N.inputs v = (m2 : Int)) : ntPre N v = [ntId m, ntIn m2] := by rw [ntPre, if_pos h, if_pos h2, h1, h3]; rfl
theorem ntW_length {N : Net} {v : Nat} : (ntW N v).length = (ntPre N v).length + (rowOf N.ends v).length := by rw [ntW, List.length_append, List.length_map]
theorem ntW_pre {N : Net} {v j : Nat} (h : j < (ntPre N v).length) : nthS (ntW N v) j = nthS (ntPre N v) j := by rw [ntW, nthS_append_left _ _ _ h]
theorem ntW_end {N : Net} {v i x y : Nat} (h : i < (rowOf N.ends v).length) (he : nthE (rowOf N.ends v) i = ((x : Int), (y : Int))) : nthS (ntW N v) ((ntPre N v).length + i) = ntE x y := by
  rw [ntW, nthS_append_right _ _ _ (by omega), show (ntPre N v).length + i - (ntPre N v).length = i by omega, nthS_eq_getElem _ _ (by rw [List.length_map]; exact h)]
  have e : (rowOf N.ends v)[i] = ((x : Int), (y : Int)) := by
    rw [← he]
    unfold nthE
    rw [List.getD_eq_getElem?_getD, List.getElem?_eq_getElem h]; rfl
  simp [e]
theorem ntE_len {x y : Nat} (hx : x < 40) (hy : y < 40) : (ntE x y).length ≤ 100 := by
  have := dec_len x
  have := dec_len y
  rw [ntE]; simp; omega
/-- words are short -/
theorem ntW_short {N : Net} (h : netB N = true) {v : Nat} (hv : v < N.ends.length) : ∀ j, j < (ntW N v).length → (nthS (ntW N v) j).length + ([32] : List UInt8).length ≤ 1000100 := by
  intro j hj
  rw [ntW_length] at hj
  by_cases hlt : j < (ntPre N v).length
  · rw [ntW_pre hlt]
    have hmem : nthS (ntPre N v) j ∈ ntPre N v := by rw [nthS_eq_getElem _ _ hlt]; exact List.getElem_mem hlt
    generalize nthS (ntPre N v) j = l at hmem
    unfold ntPre at hmem
    rw [List.mem_append] at hmem
    rcases hmem with hm | hm
    · split at hm
      · rename_i hi
        obtain ⟨_, m, e, hm2⟩ := ids_at h hv hi
        rw [e] at hm
        obtain rfl := List.mem_singleton.1 hm
        have := dec_len m
        rw [ntId]; simp; omega
      · cases hm
    · split at hm
      · obtain ⟨_, m, e, hm2⟩ := inp_at h hv
        rw [e] at hm
        obtain rfl := List.mem_singleton.1 hm
        have := dec_len m
        rw [ntIn]; simp; omega
      · cases hm
  · obtain ⟨i, rfl⟩ : ∃ i, j = (ntPre N v).length + i := ⟨j - (ntPre N v).length, by omega⟩
    have hi : i < (rowOf N.ends v).length := by omega
    obtain ⟨p, q, e, hp, hq, _⟩ := net_back h hv hi
    rw [ntW_end hi e]
    have h6 := net_row h hp
    have := ntE_len (show p < 40 by have := (netB_small h).1; omega) (show q < 40 by omega)
    simp; omega
theorem ntW_count {N : Net} (h : netB N = true) {v : Nat} (hv : v < N.ends.length) : (ntW N v).length ≤ 8 := by
  rw [ntW_length]
  have := ntPre_len N v
  have := net_row h hv
  omega
theorem ntJoin_len {N : Net} (h : netB N = true) {v : Nat} (hv : v < N.ends.length) (k : Nat) (hk : k ≤ (ntW N v).length) : (joinP [32] (ntW N v) k).length ≤ 8000800 := by
  have h1 := joinP_len [32] (ntW N v) 1000100 (ntW_short h hv) k hk
  have h2 := ntW_count h hv
  have h3 : k * 1000100 ≤ 8 * 1000100 := Nat.mul_le_mul_right _ (by omega)
  omega
theorem ntT_len {N : Net} (h : netB N = true) : ∀ k, k ≤ N.ends.length → (ntT N k).length ≤ k * 8000801
  | 0, _ => Nat.zero_le _
  | k + 1, hk => by
    have ih := ntT_len h k (by omega)
    have h1 := ntJoin_len h (show k < N.ends.length by omega) _ (Nat.le_refl _)
    rw [joinP_all] at h1
    rw [ntT, List.length_append, List.length_append, Nat.add_mul]
    simp
    omega
theorem ntT_le {N : Net} (h : netB N = true) {k : Nat} (hk : k ≤ N.ends.length) : (ntT N k).length ≤ 320032040 := by
  have h1 := ntT_len h k hk
  have h2 := (netB_small h).1
  have h3 : k * 8000801 ≤ 40 * 8000801 := Nat.mul_le_mul_right _ (by omega)
  omega
/-- the text with the first i words of node k -/
def ntU (N : Net) (k i : Nat) : List UInt8 := ntT N k ++ joinP [32] (ntW N k) i
theorem ntU_zero (N : Net) (k : Nat) : ntU N k 0 = ntT N k := by rw [ntU, joinP_zero, List.append_nil]
theorem ntU_first {N : Net} {k : Nat} (h : 0 < (ntW N k).length) : ntU N k 1 = ntU N k 0 ++ nthS (ntW N k) 0 := by rw [ntU, ntU, joinP_first _ _ h, List.append_assoc]
theorem ntU_next {N : Net} {k i : Nat} (h : i < (ntW N k).length) (h0 : 0 < i) : ntU N k (i + 1) = ntU N k i ++ [32] ++ nthS (ntW N k) i := by rw [ntU, ntU, joinP_next _ _ _ h h0]; simp
theorem ntU_all (N : Net) (k : Nat) : ntT N (k + 1) = ntU N k (ntW N k).length ++ [10] := by rw [ntT, ntU, joinP_all]; simp
theorem ntU_len {N : Net} (h : netB N = true) {k : Nat} (hk : k < N.ends.length) (i : Nat) (hi : i ≤ (ntW N k).length) : (ntU N k i).length ≤ 340000000 := by
  have h1 := ntT_le h (show k ≤ N.ends.length by omega)
  have h2 := ntJoin_len h hk i hi
  rw [ntU, List.length_append]; omega
end Go.Proofs.YtmjmgggfmccjmaaDoor
