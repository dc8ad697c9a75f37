/- Edges: the plain words; impl's edges and spec's neEdges. -/
import Derived.Test.YtlooinhdehkcdaaNeGood
import Derived.Test.YtlooinhdehkcdaaJoin
namespace Go.Proofs.Ytlooinhdehkcdaa
open Go.RowKit
set_option linter.unusedVariables false
set_option linter.unusedSimpArgs false
def RowsI (w : World) (lo hi : Nat) (a : Option Addr) (cap : Nat) (rows : List (List Int)) (vs : Nat → Option Addr × Nat) : Prop := RowsAt cellI 1 23 3 w lo hi a cap rows vs
/-- an edge: node, port, node, port -/
structure Q4 where
  a : Int
  b : Int
  c : Int
  d : Int
def Q4.list (q : Q4) : List Int := [q.a, q.b, q.c, q.d]
def nthQ (qs : List Q4) (j : Nat) : Q4 := qs.getD j ⟨0, 0, 0, 0⟩
theorem nthQ_append_left (xs ys : List Q4) (j : Nat) (h : j < xs.length) : nthQ (xs ++ ys) j = nthQ xs j := by
  unfold nthQ; rw [List.getD_eq_getElem?_getD, List.getD_eq_getElem?_getD, List.getElem?_append_left h]
theorem nthQ_append_right (xs ys : List Q4) (j : Nat) (h : xs.length ≤ j) : nthQ (xs ++ ys) j = nthQ ys (j - xs.length) := by
  unfold nthQ; rw [List.getD_eq_getElem?_getD, List.getD_eq_getElem?_getD, List.getElem?_append_right h]
theorem takeQ_snoc (qs : List Q4) (k : Nat) (h : k < qs.length) : qs.take (k + 1) = qs.take k ++ [nthQ qs k] := by
  rw [List.take_succ_eq_append_getElem h]
  unfold nthQ; rw [List.getD_eq_getElem?_getD, List.getElem?_eq_getElem h]; rfl
/-- how edges lie in cells -/
def cellQ (qs : List Q4) (x : Nat) : Value :=
  .int .i64 (if x % 4 = 0 then (nthQ qs (x / 4)).a else if x % 4 = 1 then (nthQ qs (x / 4)).b else if x % 4 = 2 then (nthQ qs (x / 4)).c else (nthQ qs (x / 4)).d)
theorem cellQ_0 (qs : List Q4) (j : Nat) : cellQ qs (j * 4) = .int .i64 (nthQ qs j).a := by
  unfold cellQ; rw [if_pos (by omega), show j * 4 / 4 = j by omega]
theorem cellQ_1 (qs : List Q4) (j : Nat) : cellQ qs (j * 4 + 1) = .int .i64 (nthQ qs j).b := by
  unfold cellQ; rw [if_neg (by omega), if_pos (by omega), show (j * 4 + 1) / 4 = j by omega]
theorem cellQ_2 (qs : List Q4) (j : Nat) : cellQ qs (j * 4 + 2) = .int .i64 (nthQ qs j).c := by
  unfold cellQ; rw [if_neg (by omega), if_neg (by omega), if_pos (by omega), show (j * 4 + 2) / 4 = j by omega]
theorem cellQ_3 (qs : List Q4) (j : Nat) : cellQ qs (j * 4 + 3) = .int .i64 (nthQ qs j).d := by
  unfold cellQ; rw [if_neg (by omega), if_neg (by omega), if_neg (by omega), show (j * 4 + 3) / 4 = j by omega]
theorem cellQ_snoc {w : World} {lo hi : Nat} {e : TypeId} {a : Option Addr} {cap : Nat} {qs : List Q4} {q : Q4} (h : Ow w lo hi e 4 a (qs.length + 1) cap (app (cellQ qs) (qs.length * 4) [.int .i64 q.a, .int .i64 q.b, .int .i64 q.c, .int .i64 q.d])) : Ow w lo hi e 4 a (qs ++ [q]).length cap (cellQ (qs ++ [q])) := by
  have hl : (qs ++ [q]).length = qs.length + 1 := by simp
  rw [hl]
  refine h.congr fun j hj => ?_
  unfold app
  obtain ⟨i, hi⟩ : ∃ i, j = i * 4 ∨ j = i * 4 + 1 ∨ j = i * 4 + 2 ∨ j = i * 4 + 3 := ⟨j / 4, by omega⟩
  by_cases hlt : i < qs.length
  · rw [if_pos (by omega)]
    rcases hi with rfl | rfl | rfl | rfl
    · rw [cellQ_0, cellQ_0, nthQ_append_left _ _ _ hlt]
    · rw [cellQ_1, cellQ_1, nthQ_append_left _ _ _ hlt]
    · rw [cellQ_2, cellQ_2, nthQ_append_left _ _ _ hlt]
    · rw [cellQ_3, cellQ_3, nthQ_append_left _ _ _ hlt]
  · obtain rfl : i = qs.length := by omega
    rw [if_neg (by omega)]
    have hq : nthQ (qs ++ [q]) qs.length = q := by rw [nthQ_append_right _ _ _ (Nat.le_refl _), Nat.sub_self]; rfl
    rcases hi with rfl | rfl | rfl | rfl
    · rw [cellQ_0, hq, Nat.sub_self]; rfl
    · rw [cellQ_1, hq, show qs.length * 4 + 1 - qs.length * 4 = 1 by omega]; rfl
    · rw [cellQ_2, hq, show qs.length * 4 + 2 - qs.length * 4 = 2 by omega]; rfl
    · rw [cellQ_3, hq, show qs.length * 4 + 3 - qs.length * 4 = 3 by omega]; rfl
theorem news4 (w : World) (t : TypeId) (x y z u : Value) : ∀ j v, [x, y, z, u][j]? = some v → (w.alloc (.cells #[x, y, z, u] t)).cell? (Addr.add ⟨w.heap.size, 0, none⟩ j) = some v := by
  intro j v hj
  have hB := Bx.made w t #[x, y, z, u]
  match j, hj with
  | 0, hj => rw [Addr.add_lit]; exact hB.cell 0 _ hj
  | 1, hj => rw [Addr.add_lit]; exact hB.cell 1 _ hj
  | 2, hj => rw [Addr.add_lit]; exact hB.cell 2 _ hj
  | 3, hj => rw [Addr.add_lit]; exact hB.cell 3 _ hj
/-- the edges of a network -/
def firstB (v i : Nat) (p q : Int) : Bool := decide ((v : Int) < p ∨ ((v : Int) = p ∧ (i : Int) ≤ q))
def rowTo (es : List (Int × Int)) (v : Nat) : Nat → List Q4
  | 0 => []
  | i + 1 => rowTo es v i ++ if firstB v i (nthE es i).1 (nthE es i).2 then [⟨v, i, (nthE es i).1, (nthE es i).2⟩] else []
def edTo (rows : Rows2) : Nat → List Q4
  | 0 => []
  | v + 1 => edTo rows v ++ rowTo (rowOf rows v) v (rowOf rows v).length
def edQ (rows : Rows2) : List Q4 := edTo rows rows.length
theorem rowTo_le (es : List (Int × Int)) (v i : Nat) : (rowTo es v i).length ≤ i := by
  induction i with
  | zero => exact Nat.le_refl _
  | succ i ih =>
    rw [rowTo, List.length_append]
    split
    · simp; exact ih
    · simp; omega
theorem edTo_le (rows : Rows2) (k : Nat) (hk : k ≤ rows.length) : (edTo rows k).length ≤ Total (rows.take k) := by
  induction k with
  | zero => exact Nat.zero_le _
  | succ k ih =>
    rw [edTo, List.length_append, total_take _ _ (by omega)]
    have := rowTo_le (rowOf rows k) k (rowOf rows k).length
    have := ih (by omega)
    omega
theorem ed_le (rows : Rows2) (k i : Nat) (hk : k < rows.length) (hi : i ≤ (rowOf rows k).length) : (edTo rows k ++ rowTo (rowOf rows k) k i).length ≤ Total rows := by
  rw [List.length_append]
  have h1 := edTo_le rows k (by omega)
  have h2 := rowTo_le (rowOf rows k) k i
  have h3 := total_take rows k hk
  have h4 := total_take_le rows (k + 1)
  omega
theorem rowTo_yes {es : List (Int × Int)} {v i : Nat} {p q : Int} (he : nthE es i = (p, q)) (h : firstB v i p q = true) : rowTo es v (i + 1) = rowTo es v i ++ [⟨v, i, p, q⟩] := by rw [rowTo, he]; simp [h]
theorem rowTo_no {es : List (Int × Int)} {v i : Nat} {p q : Int} (he : nthE es i = (p, q)) (h : firstB v i p q = false) : rowTo es v (i + 1) = rowTo es v i := by rw [rowTo, he]; simp [h]
theorem Ow.four {w : World} {lo hi b : Nat} {t : TypeId} {x y z u : Int} (h : Bx w b t #[.int .i64 x, .int .i64 y, .int .i64 z, .int .i64 u]) (hl : lo ≤ b) (hh : b < hi) : Ow w lo hi t 1 (some ⟨b, 0, none⟩) 4 4 (cellI [x, y, z, u]) := by
  refine Ow.of_row (F := cellI [x, y, z, u]) ⟨_, h, rfl, fun i hi => ?_⟩ hl hh (Nat.le_refl _) (by decide) fun j _ => rfl
  match i, hi with
  | 0, _ => rfl
  | 1, _ => rfl
  | 2, _ => rfl
  | 3, _ => rfl
def qL (qs : List Q4) : List (List Int) := qs.map Q4.list
theorem qL_length (qs : List Q4) : (qL qs).length = qs.length := List.length_map ..
theorem qL_snoc (qs : List Q4) (q : Q4) : qL (qs ++ [q]) = qL qs ++ [q.list] := List.map_append ..
theorem qL_row (qs : List Q4) (j : Nat) (hj : j < qs.length) : (rowOf (qL qs) j).length = 4 := by
  rw [rowOf_eq_getElem _ _ (by rw [qL_length]; exact hj)]
  simp [qL, Q4.list]
theorem qL_total (qs : List Q4) : Total (qL qs) = 4 * qs.length := by
  unfold Total qL
  induction qs with
  | nil => rfl
  | cons q qs ih => simp only [List.map_cons, List.sum_cons, ih, List.length_cons]; simp [Q4.list]; omega
def egR (N : Net) : List (List Int) := if netB N then qL (edQ N.ends) else []
theorem egR_t {N : Net} (h : netB N = true) : egR N = qL (edQ N.ends) := by rw [egR, h]; rfl
theorem egR_f {N : Net} (h : netB N = false) : egR N = [] := by rw [egR, h]; rfl
theorem edQ_le {N : Net} (h : NetSmall N) : (edQ N.ends).length ≤ 1048576 := by
  have h1 := edTo_le N.ends N.ends.length (Nat.le_refl _)
  have h2 := total_take_le N.ends N.ends.length
  unfold NetSmall at h
  unfold edQ
  omega
theorem RdQ.at {w : World} {lo hi : Nat} {e : TypeId} {a : Option Addr} {cap : Nat} {qs : List Q4} (h : Ow w lo hi e 4 a qs.length cap (cellQ qs)) {j : Nat} (hj : j < qs.length) :
    ∃ g, a = some ⟨g, 0, none⟩ ∧ w.cell? ⟨g, j * 4, none⟩ = some (.int .i64 (nthQ qs j).a) ∧ w.cell? ⟨g, j * 4 + 1, none⟩ = some (.int .i64 (nthQ qs j).b) ∧ w.cell? ⟨g, j * 4 + 2, none⟩ = some (.int .i64 (nthQ qs j).c) ∧ w.cell? ⟨g, j * 4 + 3, none⟩ = some (.int .i64 (nthQ qs j).d) := by
  obtain ⟨h1, h2, h3⟩ := h
  obtain ⟨g, F, ha, hl, hh, hr, hf⟩ := h3 (by omega)
  refine ⟨g, ha, ?_, ?_, ?_, ?_⟩
  · rw [hr.cell (by omega), hf _ (by omega), cellQ_0]
  · rw [hr.cell (by omega), hf _ (by omega), cellQ_1]
  · rw [hr.cell (by omega), hf _ (by omega), cellQ_2]
  · rw [hr.cell (by omega), hf _ (by omega), cellQ_3]
end Go.Proofs.Ytlooinhdehkcdaa
