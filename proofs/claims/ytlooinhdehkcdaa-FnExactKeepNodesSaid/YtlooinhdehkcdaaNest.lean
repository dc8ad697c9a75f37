/- Rows of rows: slices of slices that are the call's own. -/
import Derived.Test.YtlooinhdehkcdaaInts
import Derived.Test.YtlooinhdehkcdaaApp
namespace Go.Proofs.Ytlooinhdehkcdaa
open Go.RowKit
set_option linter.unusedVariables false
section
variable {α : Type}
def rowOf (rows : List (List α)) (j : Nat) : List α := rows.getD j []
theorem rowOf_append_left (xs ys : List (List α)) (j : Nat) (h : j < xs.length) : rowOf (xs ++ ys) j = rowOf xs j := by
  unfold rowOf; rw [List.getD_eq_getElem?_getD, List.getD_eq_getElem?_getD, List.getElem?_append_left h]
theorem rowOf_append_right (xs ys : List (List α)) (j : Nat) (h : xs.length ≤ j) : rowOf (xs ++ ys) j = rowOf ys (j - xs.length) := by
  unfold rowOf; rw [List.getD_eq_getElem?_getD, List.getD_eq_getElem?_getD, List.getElem?_append_right h]
theorem rowOf_eq_getElem (xs : List (List α)) (j : Nat) (h : j < xs.length) : rowOf xs j = xs[j] := by
  unfold rowOf; rw [List.getD_eq_getElem?_getD, List.getElem?_eq_getElem h]; rfl
theorem rows_ext {xs ys : List (List α)} (hl : xs.length = ys.length) (h : ∀ j, j < xs.length → rowOf xs j = rowOf ys j) : xs = ys := by
  apply List.ext_getElem hl
  intro j h1 h2
  have := h j h1
  rwa [rowOf_eq_getElem _ _ h1, rowOf_eq_getElem _ _ h2] at this
theorem rowOf_set (xs : List (List α)) (i j : Nat) (r : List α) (hi : i < xs.length) : rowOf (xs.set i r) j = if j = i then r else rowOf xs j := by
  unfold rowOf
  rw [List.getD_eq_getElem?_getD, List.getElem?_set]
  by_cases e : j = i
  · subst e; simp [hi]
  · rw [if_neg (fun h => e h.symm), if_neg e, List.getD_eq_getElem?_getD]
/-- slices of slices: the outer row (element type t) and the inner rows (element type e, size cells each) lie in blocks from lo on and below hi, no two inner rows in one block -/
def RowsAt (cell : List α → Nat → Value) (size : Nat) (t e : TypeId) (w : World) (lo hi : Nat) (a : Option Addr) (cap : Nat) (rows : List (List α)) (vs : Nat → Option Addr × Nat) : Prop :=
  Ow w lo hi t 1 a rows.length cap (fun j => .slice (vs j).1 (rowOf rows j).length (vs j).2) ∧
  (∀ j, j < rows.length → Ow w lo hi e size (vs j).1 (rowOf rows j).length (vs j).2 (cell (rowOf rows j))) ∧
  (∀ i j, i < rows.length → j < rows.length → i ≠ j → blk (vs i).1 (vs i).2 = none ∨ blk (vs i).1 (vs i).2 ≠ blk (vs j).1 (vs j).2)
variable {cell : List α → Nat → Value} {size : Nat} {t e : TypeId} {w w' : World} {lo hi lo' hi' : Nat} {a : Option Addr} {cap : Nat} {rows : List (List α)} {vs : Nat → Option Addr × Nat} {C : Nat → Prop}
theorem RowsAt.fr (h : RowsAt cell size t e w lo hi a cap rows vs) (hf : Fr C w w') (hc : ∀ k, lo ≤ k → k < hi → ¬ C k) : RowsAt cell size t e w' lo hi a cap rows vs :=
  ⟨h.1.fr hf hc, fun j hj => (h.2.1 j hj).fr hf hc, h.2.2⟩
theorem RowsAt.new (h : RowsAt cell size t e w lo hi a cap rows vs) (hf : Below w.heap.size w w') : RowsAt cell size t e w' lo hi a cap rows vs :=
  ⟨h.1.new hf, fun j hj => (h.2.1 j hj).new hf, h.2.2⟩
theorem RowsAt.wide (h : RowsAt cell size t e w lo hi a cap rows vs) (h1 : lo' ≤ lo) (h2 : hi ≤ hi') : RowsAt cell size t e w lo' hi' a cap rows vs :=
  ⟨h.1.wide h1 h2, fun j hj => (h.2.1 j hj).wide h1 h2, h.2.2⟩
theorem RowsAt.top (h : RowsAt cell size t e w lo hi a cap rows vs) : RowsAt cell size t e w lo w.heap.size a cap rows vs :=
  ⟨h.1.top, fun j hj => (h.2.1 j hj).top, h.2.2⟩
theorem RowsAt.nil (w : World) (lo hi : Nat) (a : Option Addr) (vs : Nat → Option Addr × Nat) : RowsAt cell size t e w lo hi a 0 [] vs :=
  ⟨Ow.nil _ _ _ _ _ _ _, fun j hj => absurd hj (by simp), fun i j hi => absurd hi (by simp)⟩
/-- the outer row's block is no inner row's block -/
theorem Ow.ne_of_type {w : World} {lo hi lo' hi' : Nat} {t e : TypeId} {s s' : Nat} {a b : Option Addr} {n cap m cap' : Nat} {f g : Nat → Value} (h : Ow w lo hi t s a n cap f) (k : Ow w lo' hi' e s' b m cap' g) (hne : t ≠ e) : blk a cap = none ∨ blk a cap ≠ blk b cap' := by
  cases hb : blk a cap with
  | none => exact .inl rfl
  | some x =>
    refine .inr fun he => ?_
    obtain ⟨hc, y, rfl, rfl⟩ := blk_some hb
    obtain ⟨hc', y', rfl, hy⟩ := blk_some he.symm
    obtain ⟨g1, F1, e1, _, _, ⟨c1, hr1, _⟩, _⟩ := h.2.2 hc
    obtain ⟨g2, F2, e2, _, _, ⟨c2, hr2, _⟩, _⟩ := k.2.2 hc'
    injection e1 with e1
    injection e2 with e2
    subst e1 e2
    simp only at hy
    subst hy
    rw [hr1] at hr2
    injection hr2 with hr2
    injection hr2 with _ hr2
    exact hne hr2
theorem RowsAt.frB (h : RowsAt cell size t e w lo hi a cap rows vs) (hf : Fr C w w') (hc : ∀ k, blk a cap = some k → ¬ C k) (hc2 : ∀ j, j < rows.length → ∀ k, blk (vs j).1 (vs j).2 = some k → ¬ C k) : RowsAt cell size t e w' lo hi a cap rows vs :=
  ⟨h.1.frB hf hc, fun j hj => (h.2.1 j hj).frB hf (hc2 j hj), h.2.2⟩
theorem ne_of_or {x y : Option Nat} {k : Nat} (h : x = none ∨ x ≠ y) (hx : x = some k) : ¬ y = some k := fun hy => by
  rcases h with h | h
  · rw [hx] at h; cases h
  · exact h (hx.trans hy.symm)
/-- one inner row turned, in its own block -/
theorem RowsAt.upd {a : Option Addr} {cap : Nat} {rows : List (List α)} {vs : Nat → Option Addr × Nat} {j : Nat} {r : List α} (h : RowsAt cell size t e w lo hi a cap rows vs) (hj : j < rows.length) (hte : t ≠ e) (hl : r.length = (rowOf rows j).length)
    (hr : Ow w' lo hi e size (vs j).1 r.length (vs j).2 (cell r)) (hf : Fr (fun b => blk (vs j).1 (vs j).2 = some b) w w') : RowsAt cell size t e w' lo hi a cap (rows.set j r) vs := by
  have hlen : (rows.set j r).length = rows.length := List.length_set ..
  have keep : ∀ {b : Option Addr} {c : Nat} {lo2 hi2 : Nat} {t2 : TypeId} {s2 n2 : Nat} {f2 : Nat → Value}, Ow w lo2 hi2 t2 s2 b n2 c f2 → (blk b c = none ∨ blk b c ≠ blk (vs j).1 (vs j).2) → Ow w' lo2 hi2 t2 s2 b n2 c f2 := by
    intro b c lo2 hi2 t2 s2 n2 f2 ho hne
    refine ho.keep fun k _ _ h3 hb => hf.block k h3 fun he => ?_
    rcases hne with hne | hne
    · rw [hb] at hne; cases hne
    · rw [hb, he] at hne; exact hne rfl
  refine ⟨?_, fun i hi => ?_, fun i k hi hk => h.2.2 i k (by omega) (by omega)⟩
  · rw [hlen]
    refine (keep h.1 (h.1.ne_of_type (h.2.1 j hj) hte)).congr fun i hi => ?_
    rw [rowOf_set _ _ _ _ hj]
    by_cases e1 : i = j
    · subst e1; rw [if_pos rfl, hl]
    · rw [if_neg e1]
  · rw [hlen] at hi
    rw [rowOf_set _ _ _ _ hj]
    by_cases e1 : i = j
    · subst e1; rw [if_pos rfl]; exact hr
    · rw [if_neg e1]; exact keep (h.2.1 i hi) (h.2.2 i j hi hj e1)
end
section
variable {α : Type} {cell : List α → Nat → Value} {size : Nat} {t e : TypeId}
def setv {β : Type} (f : Nat → β) (k : Nat) (v : β) (j : Nat) : β := if j = k then v else f j
theorem setv_same {β : Type} (f : Nat → β) (k : Nat) (v : β) : setv f k v k = v := if_pos rfl
theorem setv_ne {β : Type} (f : Nat → β) (k : Nat) (v : β) {j : Nat} (h : j ≠ k) : setv f k v j = f j := if_neg h
/-- one row more behind an append of a new row -/
theorem RowsAt.snoc {w w' : World} {lo hi : Nat} {a : Option Addr} {cap : Nat} {rows : List (List α)} {vs : Nat → Option Addr × Nat} {r : List α} {b : Option Addr} {cb : Nat} {g' cap' : Nat}
    (h : RowsAt cell size t e w lo hi a cap rows vs) (hte : t ≠ e) (hr : Ow w hi w.heap.size e size b r.length cb (cell r)) (hlo : lo ≤ hi) (hhi : hi ≤ w.heap.size) (hg : w.grownBy w' (blk a cap))
    (ho : Ow w' lo w'.heap.size t 1 (some ⟨g', 0, none⟩) (rows.length + 1) cap' (app (fun j => .slice (vs j).1 (rowOf rows j).length (vs j).2) (rows.length * 1) [.slice b r.length cb])) :
    RowsAt cell size t e w' lo w'.heap.size (some ⟨g', 0, none⟩) cap' (rows ++ [r]) (setv vs rows.length (b, cb)) := by
  have hlen : (rows ++ [r]).length = rows.length + 1 := by simp
  have hsz := hg.size
  have hrow : ∀ j, j < rows.length + 1 → rowOf (rows ++ [r]) j = if j = rows.length then r else rowOf rows j := by
    intro j hj
    by_cases e1 : j = rows.length
    · rw [if_pos e1, e1, rowOf_append_right _ _ _ (Nat.le_refl _), Nat.sub_self]; rfl
    · rw [if_neg e1, rowOf_append_left _ _ _ (by omega)]
  refine ⟨?_, fun j hj => ?_, fun i j hi' hj hne => ?_⟩
  · rw [hlen]
    refine ho.congr fun j hj => ?_
    unfold app
    rw [hrow j (by omega)]
    by_cases e1 : j = rows.length
    · subst e1; rw [if_neg (by omega), if_pos rfl, setv_same, show rows.length - rows.length * 1 = 0 by omega]; rfl
    · rw [if_pos (by omega), if_neg e1, setv_ne _ _ _ e1]
  · rw [hlen] at hj
    rw [hrow j hj]
    by_cases e1 : j = rows.length
    · subst e1
      rw [if_pos rfl, setv_same]
      refine ((hr.grown hg ?_).wide hlo hsz)
      rcases h.1.ne_of_type hr hte with h1 | h1
      · rw [h1]; cases hb : blk b cb with
        | none => exact .inl rfl
        | some x => exact .inr (by simp)
      · exact .inr fun h2 => h1 h2.symm
    · rw [if_neg e1, setv_ne _ _ _ e1]
      have hj2 := h.2.1 j (by omega)
      refine ((hj2.grown hg ?_).wide (Nat.le_refl _) (by omega))
      rcases h.1.ne_of_type hj2 hte with h1 | h1
      · rw [h1]; cases hb : blk (vs j).1 (vs j).2 with
        | none => exact .inl rfl
        | some x => exact .inr (by simp)
      · exact .inr fun h2 => h1 h2.symm
  · rw [hlen] at hi' hj
    have sep : ∀ i, i < rows.length → blk (vs i).1 (vs i).2 = none ∨ blk (vs i).1 (vs i).2 ≠ blk b cb := by
      intro i hi2
      cases hb : blk (vs i).1 (vs i).2 with
      | none => exact .inl rfl
      | some x =>
        refine .inr fun h2 => ?_
        have h3 := (h.2.1 i hi2).blk_in hb
        have h4 := hr.blk_in h2.symm
        omega
    by_cases e1 : i = rows.length
    · have e2 : j ≠ rows.length := by omega
      subst e1
      rw [setv_same, setv_ne _ _ _ e2]
      cases hb : blk b cb with
      | none => exact .inl rfl
      | some x =>
        refine .inr fun h2 => ?_
        rcases sep j (by omega) with h3 | h3
        · rw [h3] at h2; cases h2
        · exact h3 (h2.symm.trans hb.symm)
    · by_cases e2 : j = rows.length
      · subst e2; rw [setv_same, setv_ne _ _ _ e1]; exact sep i (by omega)
      · rw [setv_ne _ _ _ e1, setv_ne _ _ _ e2]; exact h.2.2 i j (by omega) (by omega) hne
end
def cellI (zs : List Int) (x : Nat) : Value := .int .i64 (nth zs x)
def Total {α : Type} (rows : List (List α)) : Nat := (rows.map List.length).sum
theorem total_take {α : Type} (rows : List (List α)) (k : Nat) (h : k < rows.length) : Total (rows.take (k + 1)) = Total (rows.take k) + (rowOf rows k).length := by
  unfold Total
  rw [List.take_succ_eq_append_getElem h, List.map_append, List.sum_append_nat, rowOf_eq_getElem _ _ h]; simp
theorem total_take_le {α : Type} (rows : List (List α)) (k : Nat) : Total (rows.take k) ≤ Total rows := by
  have : Total rows = Total (rows.take k) + Total (rows.drop k) := by
    unfold Total
    rw [← List.sum_append_nat, ← List.map_append, List.take_append_drop]
  omega
theorem row_le_total {α : Type} (rows : List (List α)) (k : Nat) (h : k < rows.length) : (rowOf rows k).length ≤ Total rows := by
  have h1 := total_take rows k h
  have h2 := total_take_le rows (k + 1)
  omega
section
variable {α : Type}
/-- rows of which the first j have been marked: fr gives a marked row, mul is how many marks an element takes -/
def mkTo (fr : Nat → Nat → List α) (mul k : Nat) (rows : List (List α)) (j : Nat) : List (List α) :=
  (List.range rows.length).map fun i => if i < j then fr (k + mul * Total (rows.take i)) (rowOf rows i).length else rowOf rows i
theorem mkTo_length (fr : Nat → Nat → List α) (mul k : Nat) (rows : List (List α)) (j : Nat) : (mkTo fr mul k rows j).length = rows.length := by simp [mkTo]
theorem rowOf_mkTo (fr : Nat → Nat → List α) (mul k : Nat) (rows : List (List α)) (j i : Nat) (hi : i < rows.length) : rowOf (mkTo fr mul k rows j) i = if i < j then fr (k + mul * Total (rows.take i)) (rowOf rows i).length else rowOf rows i := by
  rw [rowOf_eq_getElem _ _ (by rw [mkTo_length]; exact hi)]; simp [mkTo]
theorem mkTo_zero (fr : Nat → Nat → List α) (mul k : Nat) (rows : List (List α)) : mkTo fr mul k rows 0 = rows := by
  apply rows_ext (mkTo_length ..)
  intro j hj
  rw [mkTo_length] at hj
  rw [rowOf_mkTo _ _ _ _ _ _ hj, if_neg (by omega)]
theorem mkTo_succ (fr : Nat → Nat → List α) (mul k : Nat) (rows : List (List α)) (j : Nat) (hj : j < rows.length) : mkTo fr mul k rows (j + 1) = (mkTo fr mul k rows j).set j (fr (k + mul * Total (rows.take j)) (rowOf rows j).length) := by
  apply rows_ext (by simp [mkTo_length])
  intro i hi
  rw [mkTo_length] at hi
  rw [rowOf_set _ _ _ _ (by rw [mkTo_length]; exact hj), rowOf_mkTo _ _ _ _ _ _ hi, rowOf_mkTo _ _ _ _ _ _ hi]
  by_cases e : i = j
  · subst e; rw [if_pos (by omega), if_pos rfl]
  · rw [if_neg e]
    by_cases h : i < j
    · rw [if_pos (by omega), if_pos h]
    · rw [if_neg (by omega), if_neg h]
/-- all rows marked -/
def marks (fr : Nat → Nat → List α) (mul k : Nat) (rows : List (List α)) : List (List α) := mkTo fr mul k rows rows.length
end
end Go.Proofs.Ytlooinhdehkcdaa
