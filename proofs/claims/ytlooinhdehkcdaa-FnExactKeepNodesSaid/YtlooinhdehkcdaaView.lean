/- ViewSize: the plain law and the walks. -/
import Derived.Test.YtlooinhdehkcdaaRenP
import Derived.Test.YtlooinhdehkcdaaEmpty
namespace Go.Proofs.Ytlooinhdehkcdaa
open Go.RowKit
set_option linter.unusedVariables false
set_option linter.unusedSimpArgs false
theorem nth_rangeMapV (n : Nat) (f : Nat → Int) (j : Nat) (h : j < n) : nth ((List.range n).map f) j = f j := by
  rw [nth_eq_getElem _ _ (by simpa using h)]; simp
/-- the first k of n numbers are told by f, the others are 0 -/
def upF (f : Nat → Int) (n k : Nat) : List Int := (List.range n).map fun j => if j < k then f j else 0
theorem upF_length (f : Nat → Int) (n k : Nat) : (upF f n k).length = n := by simp [upF]
theorem upF_nth (f : Nat → Int) (n k j : Nat) (h : j < n) : nth (upF f n k) j = if j < k then f j else 0 := nth_rangeMapV _ _ _ h
theorem upF_zero (f : Nat → Int) (n : Nat) : upF f n 0 = List.replicate n 0 := by
  refine list_ext_nth (by rw [upF_length, List.length_replicate]) fun j hj => ?_
  rw [upF_length] at hj
  rw [upF_nth _ _ _ _ hj, if_neg (by omega), nth_replicate]
theorem upF_set (f : Nat → Int) (n k : Nat) (h : k < n) : (upF f n k).set k (f k) = upF f n (k + 1) := by
  refine list_ext_nth (by rw [List.length_set, upF_length, upF_length]) fun j hj => ?_
  rw [List.length_set, upF_length] at hj
  rw [nth_set _ _ _ _ (by rw [upF_length]; exact h), upF_nth _ _ _ _ hj, upF_nth _ _ _ _ hj]
  by_cases c : j = k
  · subst c; rw [if_pos rfl, if_pos (by omega)]
  · rw [if_neg c]
    by_cases c2 : j < k
    · rw [if_pos c2, if_pos (by omega)]
    · rw [if_neg c2, if_neg (by omega)]
/-- the sum of the amounts at the first j ends -/
def vsSum (am : List Int) (es : List (Int × Int)) : Nat → Int
  | 0 => 0
  | j + 1 => vsSum am es j + nth am (nthE es j).1.toNat
def vsCap (x : Int) : Int := min x 1000001
def vsF (rows : Rows2) (am : List Int) (u : Nat) : Int := vsCap (1 + vsSum am (rowOf rows u) (rowOf rows u).length)
def vsT (rows : Rows2) : Nat → List Int
  | 0 => upF (fun _ => 1) rows.length rows.length
  | t + 1 => upF (vsF rows (vsT rows t)) rows.length rows.length
theorem vsT_length (rows : Rows2) (t : Nat) : (vsT rows t).length = rows.length := by cases t <;> exact upF_length ..
def vsB (am : List Int) : Prop := ∀ j, 0 ≤ nth am j ∧ nth am j ≤ 1000001
theorem nth_out (l : List Int) (j : Nat) (h : l.length ≤ j) : nth l j = 0 := by unfold nth; rw [List.getD_eq_getElem?_getD, List.getElem?_eq_none h]; rfl
theorem vsSum_bd {am : List Int} (h : vsB am) (es : List (Int × Int)) (j : Nat) : 0 ≤ vsSum am es j ∧ vsSum am es j ≤ 1000001 * (j : Int) := by
  induction j with
  | zero => exact ⟨Int.le_refl _, Int.le_refl _⟩
  | succ j ih =>
    have := h (nthE es j).1.toNat
    rw [vsSum]
    omega
theorem vsCap_bd {x : Int} (h : 0 ≤ x) : 0 ≤ vsCap x ∧ vsCap x ≤ 1000001 := by unfold vsCap; omega
theorem vsCap_add {x y : Int} (hy : 0 ≤ y) : vsCap (vsCap x + y) = vsCap (x + y) := by unfold vsCap; omega
theorem vsT_bd (rows : Rows2) (t : Nat) : vsB (vsT rows t) := by
  induction t with
  | zero =>
    intro j
    by_cases h : j < rows.length
    · rw [vsT, upF_nth _ _ _ _ h, if_pos h]; omega
    · rw [nth_out _ _ (by rw [vsT_length]; omega)]; omega
  | succ t ih =>
    intro j
    by_cases h : j < rows.length
    · rw [vsT, upF_nth _ _ _ _ h, if_pos h]
      have := (vsSum_bd ih (rowOf rows j) (rowOf rows j).length).1
      exact vsCap_bd (by omega)
    · rw [nth_out _ _ (by rw [vsT_length]; omega)]; omega
def vzN (N : Net) (v t : Int) : Int := nth (vsT N.ends t.toNat) v.toNat
def vzP (N : Net) (v t : Int) : Bool := (netB N && hasN N.ends v) && inR t 0 80
def vzOk (N : Net) (v t : Int) : Bool := vzP N v t && decide (vzN N v t ≤ 1000000)
def vzR (N : Net) (v t : Int) : Int := if vzOk N v t then vzN N v t else 0
theorem vzOk_f {N : Net} {v t : Int} (h : vzP N v t = false) : vzOk N v t = false := by rw [vzOk, h]; rfl
theorem vzR_f {N : Net} {v t : Int} (h : vzOk N v t = false) : vzR N v t = 0 := by rw [vzR, h]; rfl
theorem vzP_f0 {N : Net} {v t : Int} (h : netB N = false) : vzP N v t = false := by rw [vzP, h]; rfl
theorem vzP_f1 {N : Net} {v t : Int} (h : hasN N.ends v = false) : vzP N v t = false := by rw [vzP, h, Bool.and_false]; rfl
theorem vzP_f2 {N : Net} {v t : Int} (h : inR t 0 80 = false) : vzP N v t = false := by rw [vzP, h, Bool.and_false]
def PostV (R : Int) (ok : Bool) (w : World) (e : Ending) (w' : World) : Prop := e = .returned (.tuple #[.int .i64 R, .bool ok]) ∧ Below w.heap.size w w'
end Go.Proofs.Ytlooinhdehkcdaa
