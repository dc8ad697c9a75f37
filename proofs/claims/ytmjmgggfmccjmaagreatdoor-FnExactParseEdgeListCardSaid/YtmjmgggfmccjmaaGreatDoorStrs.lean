/- Texts as lists of bytes; rows of texts; texts joined: words and plain laws. -/
import Derived.Test.YtmjmgggfmccjmaaGreatDoorApp
import Derived.Test.YtmjmgggfmccjmaaGreatDoorTxt
import Derived.Lib.Join
namespace Go.Proofs.YtmjmgggfmccjmaaGreatDoor
open Go.RowKit
set_option linter.unusedVariables false
set_option linter.unusedSimpArgs false
def bs (l : List UInt8) : ByteArray := ⟨l.toArray⟩
theorem bs_data (l : List UInt8) : (bs l).data.toList = l := rfl
theorem bs_size (l : List UInt8) : (bs l).size = l.length := rfl
theorem bs_eta (s : ByteArray) : bs s.data.toList = s := rfl
theorem bs_add (a b : List UInt8) : bs a ++ bs b = bs (a ++ b) := by
  apply ByteArray.ext
  simp [bs]
theorem decB_bs (m : Nat) : decB m = bs (Lib.decDigits m) := rfl
theorem str_add {P : Program} (a b : List UInt8) (X : World) (h : a.length + b.length ≤ 1000000000) : (Op.stringOp .add (bs a) (bs b)).run P X = .ok (.string (bs (a ++ b))) X := by
  rw [run_string_add_sum X _ _ (by rw [bs_size, bs_size]; omega), bs_add]
/-! ### rows of texts -/
def nthS (ls : List (List UInt8)) (j : Nat) : List UInt8 := ls.getD j []
theorem nthS_eq_getElem (ls : List (List UInt8)) (j : Nat) (h : j < ls.length) : nthS ls j = ls[j] := by
  unfold nthS; rw [List.getD_eq_getElem?_getD, List.getElem?_eq_getElem h]; rfl
theorem nthS_append_left (xs ys : List (List UInt8)) (j : Nat) (h : j < xs.length) : nthS (xs ++ ys) j = nthS xs j := by
  unfold nthS; rw [List.getD_eq_getElem?_getD, List.getD_eq_getElem?_getD, List.getElem?_append_left h]
theorem nthS_append_right (xs ys : List (List UInt8)) (j : Nat) (h : xs.length ≤ j) : nthS (xs ++ ys) j = nthS ys (j - xs.length) := by
  unfold nthS; rw [List.getD_eq_getElem?_getD, List.getD_eq_getElem?_getD, List.getElem?_append_right h]
theorem nthS_getElem? {ls : List (List UInt8)} {j : Nat} (h : j < ls.length) : ls[j]? = some (nthS ls j) := by
  rw [nthS_eq_getElem _ _ h, List.getElem?_eq_getElem h]
theorem takeS_snoc (ls : List (List UInt8)) (k : Nat) (h : k < ls.length) : ls.take (k + 1) = ls.take k ++ [nthS ls k] := by
  rw [List.take_succ_eq_append_getElem h, nthS_eq_getElem _ _ h]
def cellS (ls : List (List UInt8)) (j : Nat) : Value := .string (bs (nthS ls j))
def OwS (w : World) (lo hi : Nat) (a : Option Addr) (cap : Nat) (ls : List (List UInt8)) : Prop := Ow w lo hi 9 1 a ls.length cap (cellS ls)
theorem OwS.snoc {w : World} {lo hi : Nat} {a : Option Addr} {cap : Nat} {ls : List (List UInt8)} {l : List UInt8} (h : Ow w lo hi 9 1 a (ls.length + 1) cap (app (cellS ls) (ls.length * 1) [.string (bs l)])) : OwS w lo hi a cap (ls ++ [l]) := by
  have hl : (ls ++ [l]).length = ls.length + 1 := by simp
  unfold OwS
  rw [hl]
  refine h.congr fun j hj => ?_
  unfold app cellS
  by_cases hlt : j < ls.length
  · rw [if_pos (by omega), nthS_append_left _ _ _ hlt]
  · rw [if_neg (by omega), nthS_append_right _ _ _ (by omega)]
    rw [show j - ls.length * 1 = 0 by omega, show j - ls.length = 0 by omega]; rfl
/-! ### texts joined -/
theorem join_snoc (sep : List UInt8) (ls : List (List UInt8)) (l : List UInt8) : Lib.join (ls ++ [l]) sep = Lib.join ls sep ++ (if 0 < ls.length then sep else []) ++ l := by
  cases ls with
  | nil => simp [Lib.join_nil, Lib.join_one]
  | cons x r =>
    rw [List.cons_append, Lib.join_cons, Lib.join_cons]
    simp [Lib.joinTail, List.append_assoc]
/-- the first k texts joined -/
def joinP (sep : List UInt8) (ls : List (List UInt8)) (k : Nat) : List UInt8 := Lib.join (ls.take k) sep
theorem joinP_zero (sep : List UInt8) (ls : List (List UInt8)) : joinP sep ls 0 = [] := by simp [joinP, Lib.join_nil]
theorem joinP_first (sep : List UInt8) (ls : List (List UInt8)) (h : 0 < ls.length) : joinP sep ls 1 = joinP sep ls 0 ++ nthS ls 0 := by
  rw [joinP, takeS_snoc _ _ h, join_snoc]; simp [joinP, Lib.join_nil]
theorem joinP_next (sep : List UInt8) (ls : List (List UInt8)) (k : Nat) (h : k < ls.length) (h0 : 0 < k) : joinP sep ls (k + 1) = joinP sep ls k ++ sep ++ nthS ls k := by
  rw [joinP, takeS_snoc _ _ h, join_snoc, if_pos (by simp; omega)]; rfl
theorem joinP_all (sep : List UInt8) (ls : List (List UInt8)) : joinP sep ls ls.length = Lib.join ls sep := by rw [joinP, List.take_length]
theorem joinP_len (sep : List UInt8) (ls : List (List UInt8)) (L : Nat) (h : ∀ j, j < ls.length → (nthS ls j).length + sep.length ≤ L) : ∀ k, k ≤ ls.length → (joinP sep ls k).length ≤ k * L
  | 0, _ => by rw [joinP_zero]; simp
  | k + 1, hk => by
    have h1 := joinP_len sep ls L h k (by omega)
    have h2 := h k (by omega)
    rw [Nat.succ_mul]
    by_cases h0 : 0 < k
    · rw [joinP_next _ _ _ (by omega) h0, List.length_append, List.length_append]; omega
    · obtain rfl : k = 0 := by omega
      rw [joinP_first _ _ (by omega), List.length_append]; omega
theorem join_len (sep : List UInt8) (ls : List (List UInt8)) (L : Nat) (h : ∀ j, j < ls.length → (nthS ls j).length + sep.length ≤ L) : (Lib.join ls sep).length ≤ ls.length * L := by
  rw [← joinP_all]; exact joinP_len sep ls L h _ (Nat.le_refl _)
end Go.Proofs.YtmjmgggfmccjmaaGreatDoor
