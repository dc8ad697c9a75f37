/- RenumberNodes, PermutePorts: the plain law. -/
import Derived.Test.YtlooinhdehkcdaaRep
import Derived.Test.YtlooinhdehkcdaaPerm
import Derived.Test.YtlooinhdehkcdaaAddE
namespace Go.Proofs.Ytlooinhdehkcdaa
open Go.RowKit
set_option linter.unusedVariables false
set_option linter.unusedSimpArgs false
theorem rowOf_rangeMap {α : Type} (k : Nat) (f : Nat → List α) (j : Nat) (h : j < k) : rowOf ((List.range k).map f) j = f j := by
  rw [rowOf_eq_getElem _ _ (by simpa using h)]; simp
/-- an end leads back -/
theorem net_back {N : Net} (h : netB N = true) {v i : Nat} (hv : v < N.ends.length) (hi : i < (rowOf N.ends v).length) :
    ∃ p q : Nat, nthE (rowOf N.ends v) i = ((p : Int), (q : Int)) ∧ p < N.ends.length ∧ q < (rowOf N.ends p).length ∧ nthE (rowOf N.ends p) q = ((v : Int), (i : Int)) := by
  unfold netB at h
  simp only [Bool.and_eq_true] at h
  obtain ⟨_, h4⟩ := h
  have h5 := (of_decide_eq_true (of_decide_eq_true h4 v hv : rowB N.ends v = true)).2 i hi
  unfold portB at h5
  generalize hE : nthE (rowOf N.ends v) i = e at h5
  obtain ⟨x, y⟩ := e
  rw [Bool.and_eq_true] at h5
  obtain ⟨p, q, rfl, rfl, hp, hq⟩ := hasP_nat h5.1
  have h6 := of_decide_eq_true h5.2
  exact ⟨p, q, rfl, hp, hq, by simpa using h6⟩
theorem net_row {N : Net} (h : netB N = true) {v : Nat} (hv : v < N.ends.length) : (rowOf N.ends v).length ≤ 6 := by
  unfold netB at h
  simp only [Bool.and_eq_true] at h
  exact (of_decide_eq_true (of_decide_eq_true h.2 v hv : rowB N.ends v = true)).1
theorem permB_len {l : List Int} {n : Nat} (h : permB l n = true) : l.length = n := (of_decide_eq_true h).1
theorem permB_at {l : List Int} {n : Nat} (h : permB l n = true) {j : Nat} (hj : j < n) : ∃ p : Nat, nth l j = (p : Int) ∧ p < n := by
  have h2 := of_decide_eq_true h
  have h3 := inR_iff.1 (h2.2 j (by omega)).1
  obtain ⟨p, hp⟩ := Int.eq_ofNat_of_zero_le h3.1
  exact ⟨p, hp, by omega⟩
/-! ### RenumberNodes -/
def rnE (l : List Int) (e : Int × Int) : Int × Int := (nth l e.1.toNat, e.2)
def rnRow (l : List Int) (es : List (Int × Int)) : List (Int × Int) := es.map (rnE l)
theorem rnRow_length (l : List Int) (es : List (Int × Int)) : (rnRow l es).length = es.length := List.length_map ..
theorem rnRow_snoc (l : List Int) (es : List (Int × Int)) (i : Nat) (h : i < es.length) : rnRow l (es.take (i + 1)) = rnRow l (es.take i) ++ [rnE l (nthE es i)] := by
  rw [takeE_snoc _ _ h]; exact List.map_append ..
/-- the first i ends are renumbered -/
def rnTo (l : List Int) (es : List (Int × Int)) (i : Nat) : List (Int × Int) := rnRow l (es.take i) ++ es.drop i
theorem rnTo_zero (l : List Int) (es : List (Int × Int)) : rnTo l es 0 = es := by simp [rnTo, rnRow]
theorem rnTo_all (l : List Int) (es : List (Int × Int)) : rnTo l es es.length = rnRow l es := by simp [rnTo]
theorem rnTo_length (l : List Int) (es : List (Int × Int)) (i : Nat) : (rnTo l es i).length = es.length := by simp [rnTo, rnRow]; omega
theorem nthE_map (f : Int × Int → Int × Int) (es : List (Int × Int)) (j : Nat) (h : j < es.length) : nthE (es.map f) j = f (nthE es j) := by
  rw [nthE_eq_getElem _ _ (by simpa using h), nthE_eq_getElem _ _ h]; simp
theorem nthE_take (es : List (Int × Int)) (k j : Nat) (h : j < k) : nthE (es.take k) j = nthE es j := by
  unfold nthE; rw [List.getD_eq_getElem?_getD, List.getD_eq_getElem?_getD, List.getElem?_take_of_lt h]
theorem nthE_drop (es : List (Int × Int)) (k j : Nat) : nthE (es.drop k) j = nthE es (k + j) := by
  unfold nthE; rw [List.getD_eq_getElem?_getD, List.getD_eq_getElem?_getD, List.getElem?_drop]
theorem nthE_mapTo (f : Int × Int → Int × Int) (es : List (Int × Int)) (i j : Nat) (hi : i ≤ es.length) (h : j < es.length) : nthE ((es.take i).map f ++ es.drop i) j = if j < i then f (nthE es j) else nthE es j := by
  by_cases c : j < i
  · rw [if_pos c, nthE_append_left _ _ _ (by simp; omega), nthE_map _ _ _ (by simp; omega), nthE_take _ _ _ c]
  · rw [if_neg c, nthE_append_right _ _ _ (by simp; omega), nthE_drop]
    congr 1
    simp
    omega
theorem rnTo_at (l : List Int) (es : List (Int × Int)) (i : Nat) (hi : i < es.length) : nthE (rnTo l es i) i = nthE es i := by
  unfold rnTo rnRow
  rw [nthE_mapTo _ _ _ _ (by omega) hi, if_neg (by omega)]
theorem rnTo_set (l : List Int) (es : List (Int × Int)) (i : Nat) (hi : i < es.length) : (rnTo l es i).set i (rnE l (nthE es i)) = rnTo l es (i + 1) := by
  refine ends_ext (by rw [List.length_set, rnTo_length, rnTo_length]) fun j hj => ?_
  rw [List.length_set, rnTo_length] at hj
  rw [nthE_set _ _ _ _ (by rw [rnTo_length]; exact hi)]
  unfold rnTo rnRow
  rw [nthE_mapTo _ _ _ _ (by omega) hj, nthE_mapTo _ _ _ _ (by omega) hj]
  by_cases c : j = i
  · subst c; rw [if_pos rfl, if_pos (by omega)]
  · rw [if_neg c]
    by_cases c2 : j < i
    · rw [if_pos c2, if_pos (by omega)]
    · rw [if_neg c2, if_neg (by omega)]
/-- the first k nodes have come to their places -/
def rnT (N : Net) (l : List Int) : Nat → Net
  | 0 => N
  | k + 1 => { ends := (rnT N l k).ends.set (nth l k).toNat (rnRow l (rowOf N.ends k)),
               ids := if 0 < N.ids.length then (rnT N l k).ids.set (nth l k).toNat (nth N.ids k) else (rnT N l k).ids,
               inputs := (rnT N l k).inputs.set (nth l k).toNat (nth N.inputs k) }
theorem rnT_len (N : Net) (l : List Int) (k : Nat) : (rnT N l k).ends.length = N.ends.length ∧ (rnT N l k).ids.length = N.ids.length ∧ (rnT N l k).inputs.length = N.inputs.length := by
  induction k with
  | zero => exact ⟨rfl, rfl, rfl⟩
  | succ k ih =>
    obtain ⟨h1, h2, h3⟩ := ih
    refine ⟨?_, ?_, ?_⟩
    · show ((rnT N l k).ends.set _ _).length = _; rw [List.length_set, h1]
    · show (if 0 < N.ids.length then (rnT N l k).ids.set _ _ else (rnT N l k).ids).length = _
      split
      · rw [List.length_set, h2]
      · exact h2
    · show ((rnT N l k).inputs.set _ _).length = _; rw [List.length_set, h3]
def rnN (N : Net) (l : List Int) : Net := rnT N l N.ends.length
def rnB (N : Net) (l : List Int) : Bool := netB N && permB l N.ends.length
def rnR (N : Net) (l : List Int) : Net := ifN (rnB N l) (rnN N l)
theorem rnB_f0 {N : Net} {l : List Int} (h : netB N = false) : rnB N l = false := by rw [rnB, h]; rfl
theorem rnB_t {N : Net} {l : List Int} (h : netB N = true) : rnB N l = permB l N.ends.length := by rw [rnB, h]; rfl
theorem rnR_f {N : Net} {l : List Int} (h : rnB N l = false) : rnR N l = nilN := by rw [rnR, h]; rfl
theorem rnT_row {N : Net} {l : List Int} {m : Nat} (h : ∀ j, j < N.ends.length → (rowOf N.ends j).length ≤ m) (k : Nat) (hk : k ≤ N.ends.length) (hl : ∀ j, j < N.ends.length → (nth l j).toNat < N.ends.length) : ∀ j, j < N.ends.length → (rowOf (rnT N l k).ends j).length ≤ m := by
  induction k with
  | zero => exact h
  | succ k ih =>
    intro j hj
    show (rowOf ((rnT N l k).ends.set _ _) j).length ≤ m
    rw [rowOf_set _ _ _ _ (by rw [(rnT_len N l k).1]; exact hl k (by omega))]
    split
    · rw [rnRow_length]; exact h k (by omega)
    · exact ih (by omega) j hj
theorem rnT_small {N : Net} {l : List Int} (h : netB N = true) (hp : permB l N.ends.length = true) {k : Nat} (hk : k ≤ N.ends.length) : NetSmall (rnT N l k) := by
  have h1 := netB_small h
  have h2 := rnT_len N l k
  have h3 := total_le (rnT N l k).ends 6 (fun j hj => rnT_row (fun j hj => net_row h hj) k hk (fun j hj => by obtain ⟨p, hp1, hp2⟩ := permB_at hp hj; omega) j (by omega))
  unfold NetSmall
  omega
theorem rnR_sm {N : Net} {l : List Int} : NetSmall (rnR N l) := ifN_small fun h => by
  unfold rnB at h
  rw [Bool.and_eq_true] at h
  exact rnT_small h.1 h.2 (Nat.le_refl _)
/-! ### PermutePorts -/
/-- an end, moved -/
def mvE (v : Nat) (l : List Int) (e : Int × Int) : Int × Int := if e.1 = (v : Int) then (e.1, nth l e.2.toNat) else e
/-- the first k ports of the node itself, at their new places -/
def scat (v : Nat) (l : List Int) (es : List (Int × Int)) : Nat → List (Int × Int)
  | 0 => es
  | k + 1 => (scat v l es k).set (nth l k).toNat (mvE v l (nthE es k))
theorem scat_length (v : Nat) (l : List Int) (es : List (Int × Int)) (k : Nat) : (scat v l es k).length = es.length := by
  induction k with
  | zero => rfl
  | succ k ih => rw [scat, List.length_set, ih]
def mapTo (v : Nat) (l : List Int) (es : List (Int × Int)) (i : Nat) : List (Int × Int) := (es.take i).map (mvE v l) ++ es.drop i
theorem mapTo_length (v : Nat) (l : List Int) (es : List (Int × Int)) (i : Nat) : (mapTo v l es i).length = es.length := by simp [mapTo]; omega
theorem mapTo_zero (v : Nat) (l : List Int) (es : List (Int × Int)) : mapTo v l es 0 = es := by simp [mapTo]
theorem mapTo_set (v : Nat) (l : List Int) (es : List (Int × Int)) (i : Nat) (hi : i < es.length) : (mapTo v l es i).set i (mvE v l (nthE es i)) = mapTo v l es (i + 1) := by
  refine ends_ext (by rw [List.length_set, mapTo_length, mapTo_length]) fun j hj => ?_
  rw [List.length_set, mapTo_length] at hj
  rw [nthE_set _ _ _ _ (by rw [mapTo_length]; exact hi)]
  unfold mapTo
  rw [nthE_mapTo _ _ _ _ (by omega) hj, nthE_mapTo _ _ _ _ (by omega) hj]
  by_cases c : j = i
  · subst c; rw [if_pos rfl, if_pos (by omega)]
  · rw [if_neg c]
    by_cases c2 : j < i
    · rw [if_pos c2, if_pos (by omega)]
    · rw [if_neg c2, if_neg (by omega)]
def pmRowT (v : Nat) (l : List Int) (es : List (Int × Int)) (u i : Nat) : List (Int × Int) := if u = v then scat v l es i else mapTo v l es i
theorem pmRowT_length (v : Nat) (l : List Int) (es : List (Int × Int)) (u i : Nat) : (pmRowT v l es u i).length = es.length := by
  unfold pmRowT; split
  · exact scat_length ..
  · exact mapTo_length ..
theorem pmRowT_zero (v : Nat) (l : List Int) (es : List (Int × Int)) (u : Nat) : pmRowT v l es u 0 = es := by
  unfold pmRowT; split
  · rfl
  · exact mapTo_zero ..
/-- impl's: the nodes ahead of w are whole, i ports of w have been done -/
def pmT (rows : Rows2) (v : Nat) (l : List Int) (w i : Nat) : Rows2 := (List.range rows.length).map fun u => if u < w then pmRowT v l (rowOf rows u) u (rowOf rows u).length else if u = w then pmRowT v l (rowOf rows u) u i else rowOf rows u
theorem pmT_length (rows : Rows2) (v : Nat) (l : List Int) (w i : Nat) : (pmT rows v l w i).length = rows.length := by simp [pmT]
theorem pmT_row (rows : Rows2) (v : Nat) (l : List Int) (w i j : Nat) (h : j < rows.length) : rowOf (pmT rows v l w i) j = if j < w then pmRowT v l (rowOf rows j) j (rowOf rows j).length else if j = w then pmRowT v l (rowOf rows j) j i else rowOf rows j := rowOf_rangeMap _ _ _ h
theorem pmT_len (rows : Rows2) (v : Nat) (l : List Int) (w i j : Nat) (h : j < rows.length) : (rowOf (pmT rows v l w i) j).length = (rowOf rows j).length := by
  rw [pmT_row _ _ _ _ _ _ h]; split
  · exact pmRowT_length ..
  · split
    · exact pmRowT_length ..
    · rfl
theorem pmT_zero (rows : Rows2) (v : Nat) (l : List Int) : pmT rows v l 0 0 = rows := by
  refine rows_ext (pmT_length ..) fun j hj => ?_
  rw [pmT_length] at hj
  rw [pmT_row _ _ _ _ _ _ hj, if_neg (by omega)]
  split
  · exact pmRowT_zero ..
  · rfl
theorem pmT_next (rows : Rows2) (v : Nat) (l : List Int) (w : Nat) : pmT rows v l w (rowOf rows w).length = pmT rows v l (w + 1) 0 := by
  refine rows_ext (by rw [pmT_length, pmT_length]) fun j hj => ?_
  rw [pmT_length] at hj
  rw [pmT_row _ _ _ _ _ _ hj, pmT_row _ _ _ _ _ _ hj]
  by_cases h1 : j < w
  · rw [if_pos h1, if_pos (by omega)]
  · by_cases h2 : j = w
    · subst h2; rw [if_neg h1, if_pos rfl, if_pos (by omega)]
    · rw [if_neg h1, if_neg h2, if_neg (by omega)]
      split
      · rw [pmRowT_zero]
      · rfl
theorem pmT_set (rows : Rows2) (v : Nat) (l : List Int) (w i q : Nat) (hw : w < rows.length) (hi : i < (rowOf rows w).length) (hq : q = if w = v then (nth l i).toNat else i) :
    (pmT rows v l w i).set w ((rowOf (pmT rows v l w i) w).set q (mvE v l (nthE (rowOf rows w) i))) = pmT rows v l w (i + 1) := by
  refine rows_ext (by rw [List.length_set, pmT_length, pmT_length]) fun j hj => ?_
  rw [List.length_set, pmT_length] at hj
  rw [rowOf_set _ _ _ _ (by rw [pmT_length]; exact hw), pmT_row _ _ _ _ _ _ hj, pmT_row _ _ _ _ _ _ hj, pmT_row _ _ _ _ _ _ hw]
  by_cases h2 : j = w
  · subst h2
    rw [if_pos rfl, if_neg (by omega), if_pos rfl, if_neg (by omega), if_pos rfl]
    unfold pmRowT
    by_cases h3 : j = v
    · rw [if_pos h3, if_pos h3, scat, hq, if_pos h3]
    · rw [if_neg h3, if_neg h3, hq, if_neg h3, mapTo_set _ _ _ _ hi]
  · rw [if_neg h2]
    by_cases h1 : j < w
    · rw [if_pos h1, if_pos h1]
    · rw [if_neg h1, if_neg h1, if_neg h2, if_neg h2]
/-- spec's: i ports of v have been done -/
def psE (v : Nat) (l : List Int) (i : Nat) (e : Int × Int) : Int × Int := if e.1 = (v : Int) ∧ e.2 < (i : Int) then (e.1, nth l e.2.toNat) else e
def psT (rows : Rows2) (v : Nat) (l : List Int) (i : Nat) : Rows2 := (List.range rows.length).map fun u => if u = v then scat v l (rowOf rows v) i else (rowOf rows u).map (psE v l i)
theorem psT_length (rows : Rows2) (v : Nat) (l : List Int) (i : Nat) : (psT rows v l i).length = rows.length := by simp [psT]
theorem psT_row (rows : Rows2) (v : Nat) (l : List Int) (i j : Nat) (h : j < rows.length) : rowOf (psT rows v l i) j = if j = v then scat v l (rowOf rows v) i else (rowOf rows j).map (psE v l i) := rowOf_rangeMap _ _ _ h
theorem psT_len (rows : Rows2) (v : Nat) (l : List Int) (i j : Nat) (h : j < rows.length) : (rowOf (psT rows v l i) j).length = (rowOf rows j).length := by
  rw [psT_row _ _ _ _ _ h]; split
  · rename_i e; subst e; exact scat_length ..
  · exact List.length_map ..
theorem psT_zero {N : Net} (h : netB N = true) (v : Nat) (l : List Int) : psT N.ends v l 0 = N.ends := by
  refine rows_ext (psT_length ..) fun j hj => ?_
  rw [psT_length] at hj
  rw [psT_row _ _ _ _ _ hj]
  split
  · rename_i e; subst e; rfl
  · refine ends_ext (List.length_map ..) fun x hx => ?_
    rw [List.length_map] at hx
    rw [nthE_map _ _ _ hx]
    obtain ⟨p, q, e, _⟩ := net_back h hj hx
    rw [e, psE, if_neg (fun h9 => by have h8 : (q : Int) < ((0 : Nat) : Int) := h9.2; omega)]
theorem psT_all {N : Net} (h : netB N = true) (v : Nat) (hv : v < N.ends.length) (l : List Int) : psT N.ends v l (rowOf N.ends v).length = pmT N.ends v l N.ends.length 0 := by
  refine rows_ext (by rw [psT_length, pmT_length]) fun j hj => ?_
  rw [psT_length] at hj
  rw [psT_row _ _ _ _ _ hj, pmT_row _ _ _ _ _ _ hj, if_pos hj]
  unfold pmRowT
  by_cases e : j = v
  · rw [if_pos e, if_pos e, e]
  · rw [if_neg e, if_neg e]
    refine ends_ext (by rw [List.length_map, mapTo_length]) fun x hx => ?_
    rw [List.length_map] at hx
    unfold mapTo
    rw [nthE_map _ _ _ hx, nthE_mapTo _ _ _ _ (Nat.le_refl _) hx, if_pos hx]
    obtain ⟨p, q, e2, hp, hq, _⟩ := net_back h hj hx
    rw [e2]
    unfold psE mvE
    by_cases e3 : p = v
    · subst e3; rw [if_pos ⟨rfl, by omega⟩, if_pos rfl]
    · rw [if_neg (by simp; omega), if_neg (by simp; omega)]
/-- one port more: the end at the other side (if it is another node's), then the port itself -/
theorem psT_set {N : Net} (h : netB N = true) {v i p q pi : Nat} (hv : v < N.ends.length) (hi : i < (rowOf N.ends v).length) (l : List Int) (he : nthE (rowOf N.ends v) i = ((p : Int), (q : Int))) (hpi : nth l i = (pi : Int)) :
    (if p = v then psT N.ends v l i else (psT N.ends v l i).set p ((rowOf (psT N.ends v l i) p).set q ((v : Int), (pi : Int)))).set v ((rowOf (psT N.ends v l i) v).set pi (if p = v then ((p : Int), nth l q) else ((p : Int), (q : Int)))) = psT N.ends v l (i + 1) := by
  obtain ⟨p', q', e', hp, hq, hb⟩ := net_back h hv hi
  rw [he] at e'
  obtain ⟨rfl, rfl⟩ : p = p' ∧ q = q' := by simp only [Prod.mk.injEq] at e'; omega
  have hmv : (if p = v then ((p : Int), nth l q) else ((p : Int), (q : Int))) = mvE v l (nthE (rowOf N.ends v) i) := by
    rw [he, mvE]
    by_cases c : p = v
    · rw [if_pos c, if_pos (by simp [c])]; simp
    · rw [if_neg c, if_neg (by simp; omega)]
  have hlen : (if p = v then psT N.ends v l i else (psT N.ends v l i).set p ((rowOf (psT N.ends v l i) p).set q ((v : Int), (pi : Int)))).length = N.ends.length := by
    split
    · exact psT_length ..
    · rw [List.length_set, psT_length]
  rw [hmv]
  refine rows_ext (by rw [List.length_set, hlen, psT_length]) fun j hj => ?_
  rw [List.length_set, hlen] at hj
  rw [rowOf_set _ _ _ _ (by rw [hlen]; exact hv), psT_row _ _ _ _ _ hj]
  by_cases c : j = v
  · subst c
    rw [if_pos rfl, if_pos rfl, psT_row _ _ _ _ _ hj, if_pos rfl, scat, hpi]
    rfl
  · rw [if_neg c, if_neg c]
    -- the other rows: just the end at the other side turns
    have hrow : ∀ x, x < (rowOf N.ends j).length → nthE ((rowOf N.ends j).map (psE v l (i + 1))) x = if j = p ∧ x = q then ((v : Int), (pi : Int)) else psE v l i (nthE (rowOf N.ends j) x) := by
      intro x hx
      rw [nthE_map _ _ _ hx]
      obtain ⟨a, b, ea, ha, hb2, hback⟩ := net_back h hj hx
      by_cases d : j = p ∧ x = q
      · rw [if_pos d, d.1, d.2, hb, psE, if_pos ⟨rfl, by show (i : Int) < ((i + 1 : Nat) : Int); omega⟩]
        simp only [Int.toNat_natCast, hpi]
      · rw [if_neg d, ea]
        have hne : ¬ (a = v ∧ b = i) := by
          rintro ⟨rfl, rfl⟩
          rw [he] at hback
          simp only [Prod.mk.injEq] at hback
          exact d ⟨by omega, by omega⟩
        unfold psE
        by_cases d2 : a = v ∧ b < i
        · rw [if_pos ⟨by simp [d2.1], by simp; omega⟩, if_pos ⟨by simp [d2.1], by simp; omega⟩]
        · rw [if_neg (by simp; omega), if_neg (by simp; omega)]
    by_cases d : p = v
    · rw [if_pos d, psT_row _ _ _ _ _ hj, if_neg c]
      refine ends_ext (by rw [List.length_map, List.length_map]) fun x hx => ?_
      rw [List.length_map] at hx
      rw [hrow x hx, if_neg (by omega), nthE_map _ _ _ hx]
    · rw [if_neg d, rowOf_set _ _ _ _ (by rw [psT_length]; exact hp)]
      by_cases d2 : j = p
      · subst d2
        rw [if_pos rfl, psT_row _ _ _ _ _ hj, if_neg c]
        refine ends_ext (by rw [List.length_set, List.length_map, List.length_map]) fun x hx => ?_
        rw [List.length_set, List.length_map] at hx
        rw [hrow x hx, nthE_set _ _ _ _ (by rw [List.length_map]; exact hq)]
        by_cases d3 : x = q
        · rw [if_pos d3, if_pos ⟨rfl, d3⟩]
        · rw [if_neg d3, if_neg (by omega), nthE_map _ _ _ hx]
      · rw [if_neg d2, psT_row _ _ _ _ _ hj, if_neg c]
        refine ends_ext (by rw [List.length_map, List.length_map]) fun x hx => ?_
        rw [List.length_map] at hx
        rw [hrow x hx, if_neg (by omega), nthE_map _ _ _ hx]
def pmN (N : Net) (v : Nat) (l : List Int) (w i : Nat) : Net := { N with ends := pmT N.ends v l w i }
def psN (N : Net) (v : Nat) (l : List Int) (i : Nat) : Net := { N with ends := psT N.ends v l i }
def ppN (N : Net) (v : Int) (l : List Int) : Net := pmN N v.toNat l N.ends.length 0
def ppB (N : Net) (v : Int) (l : List Int) : Bool := netB N && hasN N.ends v && permB l (rowOf N.ends v.toNat).length
def ppR (N : Net) (v : Int) (l : List Int) : Net := ifN (ppB N v l) (ppN N v l)
theorem ppB_f0 {N : Net} {v : Int} {l : List Int} (h : netB N = false) : ppB N v l = false := by rw [ppB, h]; rfl
theorem ppB_f1 {N : Net} {v : Int} {l : List Int} (h : hasN N.ends v = false) : ppB N v l = false := by rw [ppB, h, Bool.and_false]; rfl
theorem ppB_t {N : Net} {v : Int} {l : List Int} (h : netB N = true) (h2 : hasN N.ends v = true) : ppB N v l = permB l (rowOf N.ends v.toNat).length := by rw [ppB, h, h2]; rfl
theorem ppR_f {N : Net} {v : Int} {l : List Int} (h : ppB N v l = false) : ppR N v l = nilN := by rw [ppR, h]; rfl
theorem rows_small {N : Net} {rows : Rows2} (h : netB N = true) (h1 : rows.length = N.ends.length) (h2 : ∀ j, j < N.ends.length → (rowOf rows j).length = (rowOf N.ends j).length) : NetSmall { N with ends := rows } := by
  have h3 := netB_small h
  have h4 := total_le rows 6 fun j hj => by rw [h2 j (by omega)]; exact net_row h (by omega)
  unfold NetSmall
  show rows.length + Total rows + N.ids.length + N.inputs.length ≤ 1048576
  omega
theorem pmN_small {N : Net} (h : netB N = true) (v : Nat) (l : List Int) (w i : Nat) : NetSmall (pmN N v l w i) := rows_small h (pmT_length ..) fun j hj => pmT_len _ _ _ _ _ _ hj
theorem psN_small {N : Net} (h : netB N = true) (v : Nat) (l : List Int) (i : Nat) : NetSmall (psN N v l i) := rows_small h (psT_length ..) fun j hj => psT_len _ _ _ _ _ hj
theorem ppR_sm {N : Net} {v : Int} {l : List Int} : NetSmall (ppR N v l) := ifN_small fun h => by
  unfold ppB at h
  simp only [Bool.and_eq_true] at h
  exact pmN_small h.1.1 _ _ _ _
end Go.Proofs.Ytlooinhdehkcdaa
