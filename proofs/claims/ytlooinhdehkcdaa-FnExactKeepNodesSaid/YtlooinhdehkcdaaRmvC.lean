/- RemoveEdge, KeepNodes: the lists that neCut makes. -/
import Derived.Test.YtlooinhdehkcdaaRmvB
import Derived.Test.YtlooinhdehkcdaaCutP
import Derived.Test.YtlooinhdehkcdaaDblP
import Derived.Test.YtlooinhdehkcdaaEmpty
namespace Go.Proofs.Ytlooinhdehkcdaa
open Go.RowKit
set_option linter.unusedVariables false
set_option linter.unusedSimpArgs false
theorem rowOf_repl {α : Type} (n j : Nat) : rowOf (List.replicate n ([] : List α)) j = [] := by
  unfold rowOf
  rw [List.getD_eq_getElem?_getD, List.getElem?_replicate]
  split
  · rfl
  · rfl
/-- the new numbers of the first i ports -/
def ctI (p : Nat → Bool) (i : Nat) : List Int := (List.range i).map fun j => (rkF p j : Int)
theorem ctI_length (p : Nat → Bool) (i : Nat) : (ctI p i).length = i := by simp [ctI]
theorem ctI_succ (p : Nat → Bool) (i : Nat) : ctI p (i + 1) = ctI p i ++ [(rkF p i : Int)] := by unfold ctI; rw [List.range_succ, List.map_append]; rfl
theorem ctI_nth {p : Nat → Bool} {i j : Nat} (h : j < i) : nth (ctI p i) j = (rkF p j : Int) := nth_rangeMap _ _ _ h
def toT (rows : Rows2) (kp : Nat → Nat → Bool) (v i : Nat) : List (List Int) := (List.range rows.length).map fun u => if u < v then ctI (kp u) (rowOf rows u).length else if u = v then ctI (kp u) i else []
theorem toT_length (rows : Rows2) (kp : Nat → Nat → Bool) (v i : Nat) : (toT rows kp v i).length = rows.length := by simp [toT]
theorem toT_row (rows : Rows2) (kp : Nat → Nat → Bool) (v i j : Nat) (h : j < rows.length) : rowOf (toT rows kp v i) j = if j < v then ctI (kp j) (rowOf rows j).length else if j = v then ctI (kp j) i else [] := rowOf_rangeMap _ _ _ h
theorem toT_zero (rows : Rows2) (kp : Nat → Nat → Bool) : toT rows kp 0 0 = List.replicate rows.length [] := by
  refine rows_ext (by rw [toT_length, List.length_replicate]) fun j hj => ?_
  rw [toT_length] at hj
  rw [toT_row _ _ _ _ _ hj, rowOf_repl, if_neg (by omega)]
  split
  · rfl
  · rfl
theorem toT_next (rows : Rows2) (kp : Nat → Nat → Bool) (v : Nat) : toT rows kp v (rowOf rows v).length = toT rows kp (v + 1) 0 := by
  refine rows_ext (by rw [toT_length, toT_length]) fun j hj => ?_
  rw [toT_length] at hj
  rw [toT_row _ _ _ _ _ hj, toT_row _ _ _ _ _ hj]
  by_cases h1 : j < v
  · rw [if_pos h1, if_pos (by omega)]
  · rw [if_neg h1]
    by_cases h2 : j = v
    · subst h2; rw [if_pos rfl, if_pos (by omega)]
    · rw [if_neg h2, if_neg (by omega)]; split
      · rfl
      · rfl
theorem toT_at {rows : Rows2} (kp : Nat → Nat → Bool) {v : Nat} (i : Nat) (h : v < rows.length) : rowOf (toT rows kp v i) v = ctI (kp v) i := by
  rw [toT_row _ _ _ _ _ h, if_neg (by omega), if_pos rfl]
theorem toT_all {rows : Rows2} (kp : Nat → Nat → Bool) {j : Nat} (h : j < rows.length) : rowOf (toT rows kp rows.length 0) j = ctI (kp j) (rowOf rows j).length := by
  rw [toT_row _ _ _ _ _ h, if_pos h]
theorem toT_add {rows : Rows2} (kp : Nat → Nat → Bool) {v : Nat} (i : Nat) (hv : v < rows.length) : (toT rows kp v i).set v (ctI (kp v) i ++ [(rkF (kp v) i : Int)]) = toT rows kp v (i + 1) := by
  refine rows_ext (by rw [List.length_set, toT_length, toT_length]) fun j hj => ?_
  rw [List.length_set, toT_length] at hj
  rw [rowOf_set _ _ _ _ (by rw [toT_length]; exact hv), toT_row _ _ _ _ _ hj, toT_row _ _ _ _ _ hj]
  by_cases c : j = v
  · subst c; rw [if_pos rfl, if_neg (by omega), if_pos rfl, ctI_succ]
  · rw [if_neg c, if_neg c, if_neg c]
theorem RowsI.empty {w : World} {lo hi g n : Nat} (h : w.rowIs g 23 n (fun _ => .slice none 0 0)) (hl : lo ≤ g) (hh : g < hi) (hn : n ≤ maxLen) : RowsI w lo hi (some ⟨g, 0, none⟩) n (List.replicate n []) (fun _ => (none, 0)) := by
  have hlen : (List.replicate n ([] : List Int)).length = n := List.length_replicate ..
  refine ⟨?_, fun j hj => ?_, fun i j _ _ _ => .inl rfl⟩
  · rw [hlen]
    refine Ow.of_row (by rw [Nat.mul_one]; exact h) hl hh (Nat.le_refl _) hn fun j hj => ?_
    show Value.slice none 0 0 = Value.slice none (rowOf (List.replicate n []) j).length 0
    rw [rowOf_repl]; rfl
  · rw [rowOf_repl]
    exact Ow.nil _ _ _ _ _ _ _
/-- rows of bools that are read -/
def RdBB (w : World) (B : Nat) (a : Option Addr) (ks : List (List Bool)) (vs : Nat → Option Addr × Nat) : Prop :=
  Rd w B a ks.length (fun j => .slice (vs j).1 (rowOf ks j).length (vs j).2) ∧ ∀ j, j < ks.length → Rd w B (vs j).1 (rowOf ks j).length (cellB (rowOf ks j))
theorem RdBB.below {w w' : World} {B : Nat} {a : Option Addr} {ks : List (List Bool)} {vs : Nat → Option Addr × Nat} (h : RdBB w B a ks vs) (hb : Below B w w') : RdBB w' B a ks vs := ⟨h.1.below hb, fun j hj => (h.2 j hj).below hb⟩
theorem RowsB.rdBB {w : World} {lo hi : Nat} {a : Option Addr} {cap : Nat} {ks : List (List Bool)} {vs : Nat → Option Addr × Nat} (h : RowsB w lo hi a cap ks vs) : RdBB w hi a ks vs := ⟨h.1.rd, fun j hj => (h.2.1 j hj).rd⟩
/-- the same shape -/
def sameB (rows : Rows2) (ks : List (List Bool)) : Prop := ks.length = rows.length ∧ ∀ v, v < rows.length → (rowOf ks v).length = (rowOf rows v).length
def kpOf (ks : List (List Bool)) (v i : Nat) : Bool := nthB (rowOf ks v) i
theorem cutN_len (N : Net) (kp : Nat → Nat → Bool) : (cutN N kp).ends.length = N.ends.length := by simp [cutN]
theorem cutN_row {N : Net} {v : Nat} (kp : Nat → Nat → Bool) (h : v < N.ends.length) : rowOf (cutN N kp).ends v = ctRow N.ends kp (fun x => x) v := rowOf_rangeMap _ _ _ h
theorem cutN_take {N : Net} {v : Nat} (kp : Nat → Nat → Bool) (h : v < N.ends.length) : (cutN N kp).ends.take (v + 1) = (cutN N kp).ends.take v ++ [ctRow N.ends kp (fun x => x) v] := by
  rw [takeR_snoc _ _ (by rw [cutN_len]; exact h), cutN_row kp h]
theorem total_le_of {α β : Type} {xs : List (List α)} {ys : List (List β)} (hl : xs.length ≤ ys.length) (h : ∀ j, j < xs.length → (rowOf xs j).length ≤ (rowOf ys j).length) : Total xs ≤ Total ys := by
  have key : ∀ k, k ≤ xs.length → Total (xs.take k) ≤ Total (ys.take k) := by
    intro k
    induction k with
    | zero => intro _; exact Nat.le_refl _
    | succ k ih =>
      intro hk
      have h1 := total_take xs k (by omega)
      have h2 := total_take ys k (by omega)
      have h3 := ih (by omega)
      have h4 := h k (by omega)
      omega
  have h1 := key xs.length (Nat.le_refl _)
  rw [List.take_length] at h1
  exact Nat.le_trans h1 (total_take_le ys _)
theorem ctRow_len (rows : Rows2) (kp : Nat → Nat → Bool) (pos : Int → Int) (v : Nat) : (ctRow rows kp pos v).length ≤ (rowOf rows v).length := by
  rw [ctRow, gRow_len]; exact rkF_le _ _
theorem cutN_small {N : Net} (kp : Nat → Nat → Bool) (h : NetSmall N) : NetSmall (cutN N kp) := by
  have h1 := total_le_of (xs := (cutN N kp).ends) (ys := N.ends) (by rw [cutN_len]; exact Nat.le_refl _) fun j hj => by
    rw [cutN_len] at hj
    rw [cutN_row kp hj]; exact ctRow_len _ _ _ _
  unfold NetSmall at h ⊢
  rw [cutN_len]
  show N.ends.length + Total (cutN N kp).ends + N.ids.length + N.inputs.length ≤ 1048576
  omega
end Go.Proofs.Ytlooinhdehkcdaa
