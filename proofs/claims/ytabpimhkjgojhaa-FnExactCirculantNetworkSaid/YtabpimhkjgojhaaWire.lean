/- wired: a network whose ends are told by a function. -/
import Derived.Test.YtabpimhkjgojhaaAddE
namespace Go.Proofs.Ytabpimhkjgojhaa
open Go.RowKit
set_option linter.unusedVariables false
set_option linter.unusedSimpArgs false


/-- the first i ends of node v -/
def rowW (E : Nat → Nat → Int × Int) (v i : Nat) : List (Int × Int) := (List.range i).map (E v)
/-- nodes ahead of v are whole, v has i ports -/
def wireT (k d : Nat) (E : Nat → Nat → Int × Int) (v i : Nat) : Rows2 := (List.range k).map fun u => if u < v then rowW E u d else if u = v then rowW E u i else []
def wireR (k d : Nat) (E : Nat → Nat → Int × Int) : Rows2 := (List.range k).map fun u => rowW E u d
theorem rowW_length (E : Nat → Nat → Int × Int) (v i : Nat) : (rowW E v i).length = i := by simp [rowW]
theorem rowW_succ (E : Nat → Nat → Int × Int) (v i : Nat) : rowW E v (i + 1) = rowW E v i ++ [E v i] := by unfold rowW; rw [List.range_succ, List.map_append]; rfl
theorem wireT_length (k d : Nat) (E : Nat → Nat → Int × Int) (v i : Nat) : (wireT k d E v i).length = k := by simp [wireT]
theorem rowOf_map {α : Type} (k : Nat) (f : Nat → List α) (j : Nat) (h : j < k) : rowOf ((List.range k).map f) j = f j := by
  rw [rowOf_eq_getElem _ _ (by simpa using h)]; simp
theorem wireT_row (k d : Nat) (E : Nat → Nat → Int × Int) (v i j : Nat) (h : j < k) : rowOf (wireT k d E v i) j = if j < v then rowW E j d else if j = v then rowW E j i else [] := rowOf_map k _ j h
theorem wireT_add (k d : Nat) (E : Nat → Nat → Int × Int) (v i : Nat) (hv : v < k) : addP (wireT k d E v i) v (E v i).1 (E v i).2 = wireT k d E v (i + 1) := by
  refine rows_ext (by rw [addP_length, wireT_length, wireT_length]) fun j hj => ?_
  rw [addP_length, wireT_length] at hj
  rw [addP_row _ _ _ _ _ (by rw [wireT_length]; exact hv), wireT_row _ _ _ _ _ _ hj, wireT_row _ _ _ _ _ _ hj, wireT_row _ _ _ _ _ _ hv]
  by_cases e : j = v
  · subst e; simp [rowW_succ]
  · simp [e]
theorem wireT_next (k d : Nat) (E : Nat → Nat → Int × Int) (v : Nat) : wireT k d E v d = wireT k d E (v + 1) 0 := by
  refine rows_ext (by rw [wireT_length, wireT_length]) fun j hj => ?_
  rw [wireT_length] at hj
  rw [wireT_row _ _ _ _ _ _ hj, wireT_row _ _ _ _ _ _ hj]
  by_cases h1 : j < v
  · rw [if_pos h1, if_pos (by omega)]
  · by_cases h2 : j = v
    · subst h2; simp
    · rw [if_neg h1, if_neg h2, if_neg (by omega)]
      split
      · rfl
      · rfl
theorem wireT_zero (k d : Nat) (E : Nat → Nat → Int × Int) : wireT k d E 0 0 = List.replicate k [] := by
  refine rows_ext (by rw [wireT_length, List.length_replicate]) fun j hj => ?_
  rw [wireT_length] at hj
  rw [wireT_row _ _ _ _ _ _ hj, rowOf_replicate]
  simp [rowW]
theorem wireT_all (k d : Nat) (E : Nat → Nat → Int × Int) : wireT k d E k 0 = wireR k d E := by
  refine rows_ext (by rw [wireT_length]; simp [wireR]) fun j hj => ?_
  rw [wireT_length] at hj
  rw [wireT_row _ _ _ _ _ _ hj, if_pos hj, wireR, rowOf_map _ _ _ hj]
def wireN (k d : Nat) (E : Nat → Nat → Int × Int) : Net := { ends := wireR k d E, ids := [], inputs := List.replicate k 0 }
def tN (k d : Nat) (E : Nat → Nat → Int × Int) (v i : Nat) : Net := { ends := wireT k d E v i, ids := [], inputs := List.replicate k 0 }
theorem total_wireT_le (k d : Nat) (E : Nat → Nat → Int × Int) (v i m : Nat) (hd : d ≤ m) (hi : i ≤ m) : Total (wireT k d E v i) ≤ m * k := by
  have h := total_le (wireT k d E v i) m fun j hj => by
    rw [wireT_length] at hj
    rw [wireT_row _ _ _ _ _ _ hj]
    split
    · rw [rowW_length]; exact hd
    · split
      · rw [rowW_length]; exact hi
      · exact Nat.zero_le _
  rwa [wireT_length] at h
theorem tN_small {k d v i : Nat} {E : Nat → Nat → Int × Int} (hk : k ≤ 40) (hd : d ≤ 6) (hi : i ≤ d) : NetSmall (tN k d E v i) := by
  have h := total_wireT_le k d E v i 6 hd (by omega)
  unfold NetSmall tN
  show (wireT k d E v i).length + Total (wireT k d E v i) + 0 + (List.replicate k (0 : Int)).length ≤ 1048576
  rw [wireT_length, List.length_replicate]
  omega
def wdB (k : Int) (d : Nat) (E : Nat → Nat → Int × Int) : Bool := (inR k 1 40 && decide (d ≤ 6)) && netB (wireN k.toNat d E)
def wdR (k : Int) (d : Nat) (E : Nat → Nat → Int × Int) : Net := ifN (wdB k d E) (wireN k.toNat d E)
theorem wdB_f {k : Int} {d : Nat} {E : Nat → Nat → Int × Int} (h : (inR k 1 40 && decide (d ≤ 6)) = false) : wdB k d E = false := by rw [wdB, h]; rfl
theorem wdR_f {k : Int} {d : Nat} {E : Nat → Nat → Int × Int} (h : (inR k 1 40 && decide (d ≤ 6)) = false) : wdR k d E = nilN := by rw [wdR, wdB_f h]; rfl
theorem wdB_t {k : Int} {d : Nat} {E : Nat → Nat → Int × Int} (h1 : inR k 1 40 = true) (h2 : d ≤ 6) : wdB k d E = netB (wireN k.toNat d E) := by rw [wdB, h1, decide_eq_true h2]; rfl
theorem wdR_sm {k : Int} {d : Nat} {E : Nat → Nat → Int × Int} : NetSmall (wdR k d E) := ifN_small fun h => by
  unfold wdB at h
  simp only [Bool.and_eq_true] at h
  obtain ⟨⟨h1, h2⟩, _⟩ := h
  have h3 := inR_iff.1 h1
  have h4 := of_decide_eq_true h2
  have h5 := tN_small (v := k.toNat) (i := 0) (E := E) (show k.toNat ≤ 40 by omega) h4 (Nat.zero_le _)
  have h6 : tN k.toNat d E k.toNat 0 = wireN k.toNat d E := by unfold tN wireN; rw [wireT_all]
  rwa [h6] at h5
/-- a row of ends that a slice literal makes -/
theorem Ow.endsOf {w : World} {lo hi b : Nat} {t : TypeId} {cs : Array Value} {es : List (Int × Int)} {n : Nat} (h : Bx w b t cs) (hl : lo ≤ b) (hh : b < hi) (hn : es.length = n) (hsz : cs.size = n * 2) (hm : n ≤ maxLen) (hc : ∀ i, i < n * 2 → cs[i]? = some (cellE es i)) : Ow w lo hi t 2 (some ⟨b, 0, none⟩) n n (cellE es) :=
  Ow.of_row (F := cellE es) ⟨cs, h, hsz, hc⟩ hl hh (Nat.le_refl _) hm fun j _ => rfl
/-- 'n.Ends[v] = []End{..}', seen in memory: a new row stored in its place -/
theorem setR_mem {w w1 : World} {lo b A c v g cap' : Nat} {rows : Rows2} {vs : Nat → Option Addr × Nat} {V0 I P : Value} {r : List (Int × Int)}
    (hbx : Bx w b 25 #[V0, I, P]) (hE : RowsE w lo w.heap.size (some ⟨A, 0, none⟩) c rows vs) (hv : v < rows.length) (hw1 : Below w.heap.size w w1) (hlo : lo ≤ w.heap.size) (hg : g = w.heap.size)
    (ho : Ow w1 lo w1.heap.size 62 2 (some ⟨g, 0, none⟩) r.length cap' (cellE r)) :
    (Bx w1 b 25 #[V0, I, P]) ∧ (w1.cell? ⟨A, v, none⟩ = some (.slice (vs v).1 (rowOf rows v).length (vs v).2)) ∧ (w1.frozen? ⟨A, v, none⟩ = false) ∧
    ∃ vs', RowsE (w1.setCell ⟨A, v, none⟩ (.slice (some ⟨g, 0, none⟩) r.length cap')) lo w1.heap.size (some ⟨A, 0, none⟩) c (rows.set v r) vs' ∧
      Bx (w1.setCell ⟨A, v, none⟩ (.slice (some ⟨g, 0, none⟩) r.length cap')) b 25 #[V0, I, P] ∧
      Fr (fun k => k = A) w (w1.setCell ⟨A, v, none⟩ (.slice (some ⟨g, 0, none⟩) r.length cap')) := by
  have hz1 := hw1.size
  have hgb : ∀ row, w.grownBy w1 row := fun row => ⟨hw1.os, hw1.tape, hw1.output, hw1.size, fun k hk _ => hw1.block k hk⟩
  have hE1 : RowsE w1 lo w.heap.size (some ⟨A, 0, none⟩) c rows vs := RowsAt.new hE hw1
  have hbx1 := hbx.new hw1
  have hbA : blk (some (⟨A, 0, none⟩ : Addr)) c = some A := by have := hE.1.1; rw [blk, if_neg (by omega)]; rfl
  have hnA : b ≠ A := fun h => hbx1.ne_row hE1.1 (by decide) (by rw [hbA, h])
  have hput := RowsAt.put (r := r) hE hv (by decide) (Nat.le_refl _) rfl (hgb _) ho (.inr hg)
  refine ⟨hbx1, ?_, Ow.frozen hE1.1 (by omega) v, _, hput, hbx1.far (p := ⟨A, v, none⟩) hnA _, ?_⟩
  · obtain ⟨g2, off, hae, _, hc⟩ := Rd.at (Ow.rd hE1.1) hv
    obtain ⟨rfl, rfl⟩ : A = g2 ∧ 0 = off := by injection hae with h; injection h with h1 h2; exact ⟨h1, h2⟩
    rwa [Nat.zero_add] at hc
  · exact Fr.setCell (C := fun k => k = A) (p := ⟨A, v, none⟩) (Fr.of_new hw1) (.inl rfl) _
theorem wireT_set (k d : Nat) (E : Nat → Nat → Int × Int) (v : Nat) (hv : v < k) : (wireT k d E v 0).set v (rowW E v d) = wireT k d E (v + 1) 0 := by
  refine rows_ext (by rw [List.length_set, wireT_length, wireT_length]) fun j hj => ?_
  rw [List.length_set, wireT_length] at hj
  rw [rowOf_set _ _ _ _ (by rw [wireT_length]; exact hv), wireT_row _ _ _ _ _ _ hj, wireT_row _ _ _ _ _ _ hj]
  by_cases e : j = v
  · subst e; simp
  · by_cases h1 : j < v
    · rw [if_neg e, if_pos h1, if_pos (by omega)]
    · rw [if_neg e, if_neg h1, if_neg e, if_neg (by omega)]
      split
      · rfl
      · rfl
end Go.Proofs.Ytabpimhkjgojhaa
