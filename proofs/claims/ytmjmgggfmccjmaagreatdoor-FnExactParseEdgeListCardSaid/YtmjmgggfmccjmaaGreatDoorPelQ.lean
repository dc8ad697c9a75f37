/- ParseEdgeList: the plain law, from the text. -/
import Derived.Test.YtmjmgggfmccjmaaGreatDoorPelP
namespace Go.Proofs.YtmjmgggfmccjmaaGreatDoor
open Go.RowKit
set_option linter.unusedVariables false
set_option linter.unusedSimpArgs false
theorem spl_end (c : UInt8) : ∀ a : List UInt8, spl c (a ++ [c]) = spl c a ++ [[]]
  | [] => by simp [spl]
  | b :: a => by
    have ih := spl_end c a
    rw [List.cons_append, spl, spl, ih]
    by_cases hb : b = c
    · rw [if_pos hb, if_pos hb]; rfl
    · rw [if_neg hb, if_neg hb]
      cases hs : spl c a with
      | nil => exact absurd hs (spl_ne c a)
      | cons h t => rfl
theorem spl_more (c b : UInt8) (hb : b ≠ c) : ∀ a : List UInt8, ∃ i l, spl c (a ++ [b]) = i ++ [l ++ [b]]
  | [] => ⟨[], [], by simp [spl, hb]⟩
  | x :: a => by
    obtain ⟨i, l, h⟩ := spl_more c b hb a
    rw [List.cons_append, spl, h]
    by_cases hx : x = c
    · rw [if_pos hx]
      exact ⟨[] :: i, l, rfl⟩
    · rw [if_neg hx]
      cases i with
      | nil => exact ⟨[], x :: l, rfl⟩
      | cons y t => exact ⟨(x :: y) :: t, l, rfl⟩
/-- a text that ends with the byte, and what lies ahead of it -/
theorem ended (c : UInt8) (L : List UInt8) : (∃ a, L = a ++ [c]) ∨ (∀ a, L ≠ a ++ [c]) := by
  by_cases h : ∃ a, L = a ++ [c]
  · exact .inl h
  · exact .inr fun a e => h ⟨a, e⟩
theorem not_ended {c : UInt8} {L : List UInt8} (h : ∀ a, L ≠ a ++ [c]) : (spl c L).length < 2 ∨ ∃ i l, spl c L = i ++ [l] ∧ l ≠ [] := by
  rcases List.eq_nil_or_concat L with rfl | ⟨a, b, rfl⟩
  · exact .inl (by simp [spl])
  · rw [List.concat_eq_append] at h ⊢
    have hb : b ≠ c := fun e => h a (by rw [e])
    obtain ⟨i, l, e⟩ := spl_more c b hb a
    exact .inr ⟨i, l ++ [b], e, by simp⟩
def pelLs (a : List UInt8) : List (List UInt8) := (spl 10 a).drop 1
def pelHd (a : List UInt8) : Int := readL ((spl 10 a).getD 0 [])
def pelK (a : List UInt8) : Nat := (pelHd a).toNat
/-- all lines are lines of the list, and no node has too many ends -/
def pelAll (a : List UInt8) : Bool := decide (∀ k, k < (pelLs a).length → (pelOp (pelK a) ((pelLs a).getD k [])).isSome = true) && degB (pelN (pelK a) (pelLs a) (pelLs a).length).ends
def pelGood (a : List UInt8) : Bool := inR (pelHd a) 1 40 && pelAll a
def pelBody (L : List UInt8) : List UInt8 := L.dropLast
def pelOk (L : List UInt8) : Bool := (decide (L.length ≤ 6000) && decide (L = pelBody L ++ [10])) && pelGood (pelBody L)
def pelR (L : List UInt8) : Net := ifN (pelOk L) (pelN (pelK (pelBody L)) (pelLs (pelBody L)) (pelLs (pelBody L)).length)
theorem pelOk_long {L : List UInt8} (h : ¬ L.length ≤ 6000) : pelOk L = false := by rw [pelOk, decide_eq_false h]; rfl
theorem pelOk_open {L : List UInt8} (h : ∀ a, L ≠ a ++ [10]) : pelOk L = false := by rw [pelOk, decide_eq_false (h _), Bool.and_false]; rfl
theorem pelBody_eq (a : List UInt8) : pelBody (a ++ [10]) = a := by simp [pelBody]
theorem pelOk_of {a : List UInt8} (h : (a ++ [10]).length ≤ 6000) : pelOk (a ++ [10]) = pelGood a := by
  rw [pelOk, pelBody_eq, decide_eq_true h, decide_eq_true rfl]; rfl
theorem pelR_of (a : List UInt8) : pelR (a ++ [10]) = ifN (pelOk (a ++ [10])) (pelN (pelK a) (pelLs a) (pelLs a).length) := by rw [pelR, pelBody_eq]
theorem pelR_f {L : List UInt8} (h : pelOk L = false) : pelR L = nilN := by rw [pelR, h]; rfl
theorem pelGood_hd {a : List UInt8} (h : inR (pelHd a) 1 40 = false) : pelGood a = false := by rw [pelGood, h]; rfl
theorem pelGood_of {a : List UInt8} (h : inR (pelHd a) 1 40 = true) : pelGood a = pelAll a := by rw [pelGood, h]; rfl
theorem pelAll_op {a : List UInt8} {k : Nat} (hk : k < (pelLs a).length) (h : pelOp (pelK a) ((pelLs a).getD k []) = none) : pelAll a = false := by
  rw [pelAll, decide_eq_false (fun hh => by have := hh k hk; rw [h] at this; cases this)]; rfl
theorem pelAll_deg {a : List UInt8} {k : Nat} (hk : k ≤ (pelLs a).length) (h : degB (pelN (pelK a) (pelLs a) k).ends = false) : pelAll a = false := by
  rw [pelAll]
  cases hd : degB (pelN (pelK a) (pelLs a) (pelLs a).length).ends with
  | false => rw [Bool.and_false]
  | true => rw [deg_all (pelK a) (pelLs a) hd k hk] at h; cases h
theorem pelAll_end {a : List UInt8} (h : ∀ k, k < (pelLs a).length → (pelOp (pelK a) ((pelLs a).getD k [])).isSome = true) : pelAll a = degB (pelN (pelK a) (pelLs a) (pelLs a).length).ends := by
  rw [pelAll, decide_eq_true h]; rfl
theorem pelK_bd {a : List UInt8} (h : inR (pelHd a) 1 40 = true) : 1 ≤ pelK a ∧ pelK a ≤ 40 ∧ pelHd a = (pelK a : Int) := by
  have := inR_iff.1 h
  unfold pelK
  omega
theorem spl_cnt (c : UInt8) : ∀ l : List UInt8, (spl c l).length ≤ l.length + 1
  | [] => Nat.le_refl _
  | b :: l => by
    have ih := spl_cnt c l
    rw [spl]
    split
    · rw [List.length_cons, List.length_cons]; omega
    · cases hs : spl c l with
      | nil => simp
      | cons h t => rw [hs] at ih; simp at ih ⊢; omega
theorem pelLs_len (a : List UInt8) : (pelLs a).length + 1 = (spl 10 a).length := by
  unfold pelLs
  rw [List.length_drop]
  have : (spl 10 a).length ≠ 0 := fun h => spl_ne 10 a (List.length_eq_zero_iff.1 h)
  omega
theorem pelLs_at (a : List UInt8) (k : Nat) : (pelLs a).getD k [] = (spl 10 a).getD (1 + k) [] := by
  unfold pelLs
  rw [List.getD_eq_getElem?_getD, List.getD_eq_getElem?_getD, List.getElem?_drop]
/-! ### a line -/
theorem pelOp_one {n : Nat} {l a : List UInt8} (h : spl 32 l = [a]) : pelOp n l = if pelNode n a = true then some ((readL a).toNat, none) else none := by rw [pelOp, h]
theorem pelOp_two {n : Nat} {l a b : List UInt8} (h : spl 32 l = [a, b]) : pelOp n l = if pelNode n a = true ∧ pelNode n b = true then some ((readL a).toNat, some (readL b).toNat) else none := by rw [pelOp, h]
theorem pelOp_many {n : Nat} {l : List UInt8} (h : 2 < (spl 32 l).length) : pelOp n l = none := by
  unfold pelOp
  split
  · rename_i e; rw [e] at h; simp at h
  · rename_i e; rw [e] at h; simp at h
  · rfl
/-- by the first blank -/
theorem pelOp_cut (n : Nat) (l : List UInt8) : pelOp n l = if pelNode n (Lib.cut l [32]).1 = true then (if (Lib.cut l [32]).2.2 = true then (if pelNode n (Lib.cut l [32]).2.1 = true then some ((readL (Lib.cut l [32]).1).toNat, some (readL (Lib.cut l [32]).2.1).toNat) else none) else some ((readL (Lib.cut l [32]).1).toNat, none)) else none := by
  rcases byte_cut 32 l with h | ⟨a, r, rfl, h⟩
  · rw [cut_one_none h, pelOp_one (spl_last _ _ h)]
    rfl
  · rw [cut_one_some h]
    simp only [↓reduceIte]
    rcases byte_cut 32 r with h2 | ⟨a2, r2, rfl, h2⟩
    · rw [pelOp_two (a := a) (b := r) (by rw [spl_cut _ _ _ h, spl_last _ _ h2])]
      by_cases c1 : pelNode n a = true
      · by_cases c2 : pelNode n r = true
        · rw [if_pos ⟨c1, c2⟩, if_pos c1, if_pos c2]
        · rw [if_neg (fun hh => c2 hh.2), if_pos c1, if_neg c2]
      · rw [if_neg (fun hh => c1 hh.1), if_neg c1]
    · have hb : readL (a2 ++ 32 :: r2) = -1 := readL_bad (c := 32) (by simp) (by decide)
      have hn : pelNode n (a2 ++ 32 :: r2) = false := by rw [pelNode, hb]; exact inR_f (by omega)
      have hm : 2 < (spl 32 (a ++ 32 :: (a2 ++ 32 :: r2))).length := by
        rw [spl_cut _ _ _ h, spl_cut _ _ _ h2]
        have : (spl 32 r2).length ≠ 0 := fun h => spl_ne 32 r2 (List.length_eq_zero_iff.1 h)
        simp; omega
      rw [pelOp_many hm, hn]
      split <;> rfl
end Go.Proofs.YtmjmgggfmccjmaaGreatDoor
