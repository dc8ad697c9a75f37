/- Two nodes joined: the plain words, and impl's connect. -/
import Derived.Test.YtmjmgggfmccjmaaDoorPut
import Derived.Test.YtmjmgggfmccjmaaDoorPort
import Derived.Deep.RegionHeld3
namespace Go.Proofs.YtmjmgggfmccjmaaDoor
open Go.RowKit
set_option linter.unusedVariables false
set_option linter.unusedSimpArgs false
/-- a new port on node v -/
def addP (rows : Rows2) (v : Nat) (x y : Int) : Rows2 := rows.set v (rowOf rows v ++ [(x, y)])
theorem addP_length (rows : Rows2) (v : Nat) (x y : Int) : (addP rows v x y).length = rows.length := List.length_set ..
theorem addP_row (rows : Rows2) (v j : Nat) (x y : Int) (hv : v < rows.length) : rowOf (addP rows v x y) j = if j = v then rowOf rows v ++ [(x, y)] else rowOf rows j := rowOf_set _ _ _ _ hv
def joinR (rows : Rows2) (v u : Nat) : Rows2 := addP (addP rows v u (((rowOf rows u).length + if v = u then 1 else 0 : Nat))) u v ((rowOf rows v).length)
theorem joinR_length (rows : Rows2) (v u : Nat) : (joinR rows v u).length = rows.length := by rw [joinR, addP_length, addP_length]
theorem add2 {rows : Rows2} {v u : Nat} (hv : v < rows.length) (hu : u < rows.length) (x y p q : Int) (j : Nat) : rowOf (addP (addP rows v x y) u p q) j = if j = u then (if u = v then rowOf rows v ++ [(x, y)] else rowOf rows u) ++ [(p, q)] else if j = v then rowOf rows v ++ [(x, y)] else rowOf rows j := by
  rw [addP_row _ _ _ _ _ (by rw [addP_length]; exact hu), addP_row _ _ _ _ _ hv, addP_row _ _ _ _ _ hv]
/-- what connect does, one step after the other -/
theorem joinR_steps (rows : Rows2) (v u : Nat) (hv : v < rows.length) (hu : u < rows.length) (r2 : Rows2) (hr : r2 = addP (addP rows v 0 0) u v ((rowOf rows v).length)) :
    r2.set v ((rowOf r2 v).set (rowOf rows v).length ((u : Int), ((rowOf (addP rows v 0 0) u).length : Int))) = joinR rows v u := by
  subst hr
  refine rows_ext (by rw [List.length_set, addP_length, addP_length, joinR_length]) fun j hj => ?_
  have hv1 : v < (addP (addP rows v 0 0) u v ((rowOf rows v).length)).length := by rw [addP_length, addP_length]; exact hv
  rw [rowOf_set _ _ _ _ hv1, joinR, add2 hv hu, add2 hv hu, add2 hv hu, addP_row _ _ u _ _ hv]
  by_cases h1 : u = v
  · subst h1
    by_cases h2 : j = u
    · subst h2; simp
    · simp [h2]
  · by_cases h2 : j = v
    · subst h2; simp [Ne.symm h1, h1]
    · by_cases h3 : j = u
      · subst h3; simp [h2]
      · simp [h2, h3]
/-- the network lies in the variable at block b; its rows are in blocks from lo on -/
def NB (w : World) (lo b : Nat) (N : Net) : Prop :=
  ∃ A c vs ai ci ap cp, Bx w b 31 #[.slice A N.ends.length c, .slice ai N.ids.length ci, .slice ap N.inputs.length cp] ∧
    NetAt w lo w.heap.size (.agg #[.slice A N.ends.length c, .slice ai N.ids.length ci, .slice ap N.inputs.length cp]) N ∧ RowsE w lo w.heap.size A c N.ends vs
/-- one row's address -/
theorem Ow.addr {w : World} {lo hi : Nat} {e : TypeId} {size : Nat} {a : Option Addr} {n cap : Nat} {f : Nat → Value} (h : Ow w lo hi e size a n cap f) (hn : 0 < n) : ∃ g, a = some ⟨g, 0, none⟩ ∧ g < hi ∧ lo ≤ g := by
  obtain ⟨h1, h2, h3⟩ := h
  obtain ⟨g, F, e1, e2, e3, _⟩ := h3 (by omega)
  exact ⟨g, e1, e3, e2⟩
theorem Ow.frozen {w : World} {lo hi : Nat} {e : TypeId} {size : Nat} {g : Nat} {n cap : Nat} {f : Nat → Value} (h : Ow w lo hi e size (some ⟨g, 0, none⟩) n cap f) (hn : 0 < n) (j : Nat) : w.frozen? ⟨g, j, none⟩ = false := by
  obtain ⟨h1, h2, h3⟩ := h
  obtain ⟨g', F, e1, e2, e3, e4, _⟩ := h3 (by omega)
  injection e1 with e1
  injection e1 with e1
  subst e1
  exact e4.frozen j
/-- the blocks of the rows -/
def RB (A : Nat) (rows : Rows2) (vs : Nat → Option Addr × Nat) (k : Nat) : Prop := k = A ∨ ∃ j, j < rows.length ∧ blk (vs j).1 (vs j).2 = some k
theorem Bx.ne_row {w : World} {b : Nat} {t e : TypeId} {cs : Array Value} {lo hi s n cap : Nat} {a : Option Addr} {f : Nat → Value} (hb : Bx w b t cs) (h : Ow w lo hi e s a n cap f) (hne : t ≠ e) : blk a cap ≠ some b := fun hk => by
  obtain ⟨hc, y, rfl, hy⟩ := blk_some hk
  obtain ⟨g1, F1, e1, _, _, ⟨c1, hr1, _⟩, _⟩ := h.2.2 hc
  injection e1 with e1
  subst e1
  simp only at hy
  subst hy
  unfold Bx at hb
  rw [hr1] at hb
  injection hb with hb
  injection hb with _ hb
  exact hne hb.symm
/-- 'n.Ends[v] = append(n.Ends[v], End{x, y})', seen in memory -/
theorem addP_mem {w w1 w2 : World} {lo b A c v g' cap' : Nat} {rows : Rows2} {vs : Nat → Option Addr × Nat} {V0 I P : Value} {x y : Int}
    (hbx : Bx w b 31 #[V0, I, P]) (hE : RowsE w lo w.heap.size (some ⟨A, 0, none⟩) c rows vs) (hv : v < rows.length) (hw1 : Below w.heap.size w w1) (hlo : lo ≤ w.heap.size)
    (hg : w1.grownBy w2 (blk (vs v).1 (vs v).2)) (ho : Ow w2 lo w2.heap.size 44 2 (some ⟨g', 0, none⟩) ((rowOf rows v).length + 1) cap' (app (cellE (rowOf rows v)) ((rowOf rows v).length * 2) [.int .i64 x, .int .i64 y])) (hb : blk (vs v).1 (vs v).2 = some g' ∨ g' = w1.heap.size) :
    (Bx w2 b 31 #[V0, I, P]) ∧ (w2.cell? ⟨A, v, none⟩ = some (.slice (vs v).1 (rowOf rows v).length (vs v).2)) ∧ (w2.frozen? ⟨A, v, none⟩ = false) ∧
    ∃ vs', RowsE (w2.setCell ⟨A, v, none⟩ (.slice (some ⟨g', 0, none⟩) ((rowOf rows v).length + 1) cap')) lo w2.heap.size (some ⟨A, 0, none⟩) c (addP rows v x y) vs' ∧
      Bx (w2.setCell ⟨A, v, none⟩ (.slice (some ⟨g', 0, none⟩) ((rowOf rows v).length + 1) cap')) b 31 #[V0, I, P] ∧
      Fr (RB A rows vs) w (w2.setCell ⟨A, v, none⟩ (.slice (some ⟨g', 0, none⟩) ((rowOf rows v).length + 1) cap')) ∧ (∀ k, k < w.heap.size → RB A (addP rows v x y) vs' k → RB A rows vs k) := by
  have hz1 := hw1.size
  have hE1 : RowsE w1 lo w.heap.size (some ⟨A, 0, none⟩) c rows vs := RowsAt.new hE hw1
  have hrl : (rowOf rows v ++ [(x, y)]).length = (rowOf rows v).length + 1 := by simp
  have hbx1 := hbx.new hw1
  have hfg : Fr (fun k => some k = blk (vs v).1 (vs v).2) w1 w2 := Fr.of_grown hg
  have hbx2 : Bx w2 b 31 #[V0, I, P] := hbx1.fr hfg fun h => hbx1.ne_row (hE1.2.1 v hv) (by decide) h.symm
  have ho1 := hE1.1.grown hg (hE1.1.ne_of_type (hE1.2.1 v hv) (by decide))
  have hbA : blk (some (⟨A, 0, none⟩ : Addr)) c = some A := by have := hE.1.1; rw [blk, if_neg (by omega)]; rfl
  have hnA : b ≠ A := fun h => hbx1.ne_row hE1.1 (by decide) (by rw [hbA, h])
  have hput := RowsAt.put (r := rowOf rows v ++ [(x, y)]) hE1 hv (by decide) hz1 rfl hg (cellE_snoc ho) hb
  rw [hrl] at hput
  refine ⟨hbx2, ?_, Ow.frozen ho1 (by omega) v, _, hput, hbx2.far (p := ⟨A, v, none⟩) hnA _, ?_, ?_⟩
  · obtain ⟨g, off, hae, _, hc⟩ := Rd.at (Ow.rd ho1) hv
    obtain ⟨rfl, rfl⟩ : A = g ∧ 0 = off := by injection hae with h; injection h with h1 h2; exact ⟨h1, h2⟩
    rwa [Nat.zero_add] at hc
  · refine Fr.setCell (p := ⟨A, v, none⟩) ((Fr.of_new hw1).trans (hfg.mono fun k _ hk => ?_)) (.inl (.inl rfl)) _
    exact .inr ⟨v, hv, hk.symm⟩
  · rintro k hk (h | ⟨j, hj, hjk⟩)
    · exact .inl h
    · rw [addP_length] at hj
      by_cases e1 : j = v
      · subst e1
        rw [setv_same] at hjk
        obtain ⟨_, y', hy, hyk⟩ := blk_some hjk
        injection hy with hy
        subst hy
        simp only at hyk
        subst hyk
        rcases hb with hb | hb
        · exact .inr ⟨j, hj, hb⟩
        · omega
      · rw [setv_ne _ _ _ e1] at hjk
        exact .inr ⟨j, hj, hjk⟩
theorem news2 (w : World) (t : TypeId) (x y : Value) : ∀ j u, [x, y][j]? = some u → (w.alloc (.cells #[x, y] t)).cell? (Addr.add ⟨w.heap.size, 0, none⟩ j) = some u := by
  intro j u hj
  have hB := Bx.made w t #[x, y]
  match j, hj with
  | 0, hj => rw [Addr.add_lit]; exact hB.cell 0 _ hj
  | 1, hj => rw [Addr.add_lit]; exact hB.cell 1 _ hj
theorem nthE_set (es : List (Int × Int)) (i j : Nat) (z : Int × Int) (hi : i < es.length) : nthE (es.set i z) j = if j = i then z else nthE es j := by
  unfold nthE
  by_cases e : j = i
  · subst e; simp [List.getD, hi]
  · rw [if_neg e]; simp [List.getD, List.getElem?_set_ne (Ne.symm e)]
/-- one end of a row of ends stored -/
theorem Ow.setE {w : World} {lo hi : Nat} {e : TypeId} {g cap : Nat} {es : List (Int × Int)} {i : Nat} (x y : Int) (h : Ow w lo hi e 2 (some ⟨g, 0, none⟩) es.length cap (cellE es)) (hi' : i < es.length) :
    Ow ((w.setCell ⟨g, i * 2, none⟩ (.int .i64 x)).setCell ⟨g, i * 2 + 1, none⟩ (.int .i64 y)) lo hi e 2 (some ⟨g, 0, none⟩) (es.set i (x, y)).length cap (cellE (es.set i (x, y))) := by
  rw [List.length_set]
  obtain ⟨h1, h2, h3⟩ := h
  refine ⟨h1, h2, fun hc => ?_⟩
  obtain ⟨g', F, e1, e2, e3, e4, e5⟩ := h3 hc
  obtain rfl : g = g' := by injection e1 with e1; injection e1
  refine ⟨g, _, rfl, e2, e3, (e4.set (i * 2) _).set (i * 2 + 1) _, fun j hj => ?_⟩
  show (if j = i * 2 + 1 then _ else if j = i * 2 then _ else F j) = _
  by_cases c1 : j = i * 2 + 1
  · subst c1; rw [if_pos rfl, cellE_snd, nthE_set _ _ _ _ hi', if_pos rfl]
  · rw [if_neg c1]
    by_cases c2 : j = i * 2
    · subst c2; rw [if_pos rfl, cellE_fst, nthE_set _ _ _ _ hi', if_pos rfl]
    · rw [if_neg c2, e5 j hj]
      obtain ⟨k, rfl | rfl⟩ : ∃ k, j = k * 2 ∨ j = k * 2 + 1 := ⟨j / 2, by omega⟩
      · rw [cellE_fst, cellE_fst, nthE_set _ _ _ _ hi', if_neg (by omega)]
      · rw [cellE_snd, cellE_snd, nthE_set _ _ _ _ hi', if_neg (by omega)]
end Go.Proofs.YtmjmgggfmccjmaaDoor
