/- Two nodes joined: the plain words, and impl's connect. -/
import Derived.Test.YtlooinhdehkcdaaPut
import Derived.Test.YtlooinhdehkcdaaPort
import Derived.Deep.RegionHeld3
namespace Go.Proofs.Ytlooinhdehkcdaa
open Go.RowKit
set_option linter.unusedVariables false
set_option linter.unusedSimpArgs false
/-- a new port on node v -/
def addP (rows : Rows2) (v : Nat) (x y : Int) : Rows2 := rows.set v (rowOf rows v ++ [(x, y)])
theorem addP_length (rows : Rows2) (v : Nat) (x y : Int) : (addP rows v x y).length = rows.length := List.length_set ..
theorem addP_row (rows : Rows2) (v j : Nat) (x y : Int) (hv : v < rows.length) : rowOf (addP rows v x y) j = if j = v then rowOf rows v ++ [(x, y)] else rowOf rows j := rowOf_set _ _ _ _ hv
def joinR (rows : Rows2) (v u : Nat) : Rows2 := addP (addP rows v u (((rowOf rows u).length + if v = u then 1 else 0 : Nat))) u v ((rowOf rows v).length)
theorem joinR_length (rows : Rows2) (v u : Nat) : (joinR rows v u).length = rows.length := by rw [joinR, addP_length, addP_length]
theorem add2 {rows : Rows2} {v u : Nat} (hv : v < rows.length) (hu : u < rows.length) (x y p q : Int) (j : Nat) : rowOf (addP (addP rows v x y) u p q) j = if j = u then (if u = v then rowOf rows v ++ [(x, y)] else rowOf rows u) ++ [(p, q)] else if j = v then rowOf rows v ++ [(x, y)] else rowOf rows j := by
  rw [addP_row _ _ _ _ _ (by rw [addP_length]; exact hu), addP_row _ _ _ _ _ hv, addP_row _ _ _ _ _ hv]
/-- what connect does, one step after the other -/
theorem joinR_steps (rows : Rows2) (v u : Nat) (hv : v < rows.length) (hu : u < rows.length) (r2 : Rows2) (hr : r2 = addP (addP rows v 0 0) u v ((rowOf rows v).length)) :
    r2.set v ((rowOf r2 v).set (rowOf rows v).length ((u : Int), ((rowOf (addP rows v 0 0) u).length : Int))) = joinR rows v u := by
  subst hr
  refine rows_ext (by rw [List.length_set, addP_length, addP_length, joinR_length]) fun j hj => ?_
  have hv1 : v < (addP (addP rows v 0 0) u v ((rowOf rows v).length)).length := by rw [addP_length, addP_length]; exact hv
  rw [rowOf_set _ _ _ _ hv1, joinR, add2 hv hu, add2 hv hu, add2 hv hu, addP_row _ _ u _ _ hv]
  by_cases h1 : u = v
  · subst h1
    by_cases h2 : j = u
    · subst h2; simp
    · simp [h2]
  · by_cases h2 : j = v
    · subst h2; simp [Ne.symm h1, h1]
    · by_cases h3 : j = u
      · subst h3; simp [h2]
      · simp [h2, h3]
/-- the network lies in the variable at block b; its rows are in blocks from lo on -/
def NB (w : World) (lo b : Nat) (N : Net) : Prop :=
  ∃ A c vs ai ci ap cp, Bx w b 29 #[.slice A N.ends.length c, .slice ai N.ids.length ci, .slice ap N.inputs.length cp] ∧
    NetAt w lo w.heap.size (.agg #[.slice A N.ends.length c, .slice ai N.ids.length ci, .slice ap N.inputs.length cp]) N ∧ RowsE w lo w.heap.size A c N.ends vs
/-- one row's address -/
theorem Ow.addr {w : World} {lo hi : Nat} {e : TypeId} {size : Nat} {a : Option Addr} {n cap : Nat} {f : Nat → Value} (h : Ow w lo hi e size a n cap f) (hn : 0 < n) : ∃ g, a = some ⟨g, 0, none⟩ ∧ g < hi ∧ lo ≤ g := by
  obtain ⟨h1, h2, h3⟩ := h
  obtain ⟨g, F, e1, e2, e3, _⟩ := h3 (by omega)
  exact ⟨g, e1, e3, e2⟩
theorem Ow.frozen {w : World} {lo hi : Nat} {e : TypeId} {size : Nat} {g : Nat} {n cap : Nat} {f : Nat → Value} (h : Ow w lo hi e size (some ⟨g, 0, none⟩) n cap f) (hn : 0 < n) (j : Nat) : w.frozen? ⟨g, j, none⟩ = false := by
  obtain ⟨h1, h2, h3⟩ := h
  obtain ⟨g', F, e1, e2, e3, e4, _⟩ := h3 (by omega)
  injection e1 with e1
  injection e1 with e1
  subst e1
  exact e4.frozen j
/-- the blocks of the rows -/
def RB (A : Nat) (rows : Rows2) (vs : Nat → Option Addr × Nat) (k : Nat) : Prop := k = A ∨ ∃ j, j < rows.length ∧ blk (vs j).1 (vs j).2 = some k
theorem Bx.ne_row {w : World} {b : Nat} {t e : TypeId} {cs : Array Value} {lo hi s n cap : Nat} {a : Option Addr} {f : Nat → Value} (hb : Bx w b t cs) (h : Ow w lo hi e s a n cap f) (hne : t ≠ e) : blk a cap ≠ some b := fun hk => by
  obtain ⟨hc, y, rfl, hy⟩ := blk_some hk
  obtain ⟨g1, F1, e1, _, _, ⟨c1, hr1, _⟩, _⟩ := h.2.2 hc
  injection e1 with e1
  subst e1
  simp only at hy
  subst hy
  unfold Bx at hb
  rw [hr1] at hb
  injection hb with hb
  injection hb with _ hb
  exact hne hb.symm
/-- 'n.Ends[v] = append(n.Ends[v], End{x, y})', seen in memory -/
theorem addP_mem {w w1 w2 : World} {lo b A c v g' cap' : Nat} {rows : Rows2} {vs : Nat → Option Addr × Nat} {V0 I P : Value} {x y : Int}
    (hbx : Bx w b 29 #[V0, I, P]) (hE : RowsE w lo w.heap.size (some ⟨A, 0, none⟩) c rows vs) (hv : v < rows.length) (hw1 : Below w.heap.size w w1) (hlo : lo ≤ w.heap.size)
    (hg : w1.grownBy w2 (blk (vs v).1 (vs v).2)) (ho : Ow w2 lo w2.heap.size 62 2 (some ⟨g', 0, none⟩) ((rowOf rows v).length + 1) cap' (app (cellE (rowOf rows v)) ((rowOf rows v).length * 2) [.int .i64 x, .int .i64 y])) (hb : blk (vs v).1 (vs v).2 = some g' ∨ g' = w1.heap.size) :
    (Bx w2 b 29 #[V0, I, P]) ∧ (w2.cell? ⟨A, v, none⟩ = some (.slice (vs v).1 (rowOf rows v).length (vs v).2)) ∧ (w2.frozen? ⟨A, v, none⟩ = false) ∧
    ∃ vs', RowsE (w2.setCell ⟨A, v, none⟩ (.slice (some ⟨g', 0, none⟩) ((rowOf rows v).length + 1) cap')) lo w2.heap.size (some ⟨A, 0, none⟩) c (addP rows v x y) vs' ∧
      Bx (w2.setCell ⟨A, v, none⟩ (.slice (some ⟨g', 0, none⟩) ((rowOf rows v).length + 1) cap')) b 29 #[V0, I, P] ∧
      Fr (RB A rows vs) w (w2.setCell ⟨A, v, none⟩ (.slice (some ⟨g', 0, none⟩) ((rowOf rows v).length + 1) cap')) ∧ (∀ k, k < w.heap.size → RB A (addP rows v x y) vs' k → RB A rows vs k) := by
  have hz1 := hw1.size
  have hE1 : RowsE w1 lo w.heap.size (some ⟨A, 0, none⟩) c rows vs := RowsAt.new hE hw1
  have hrl : (rowOf rows v ++ [(x, y)]).length = (rowOf rows v).length + 1 := by simp
  have hbx1 := hbx.new hw1
  have hfg : Fr (fun k => some k = blk (vs v).1 (vs v).2) w1 w2 := Fr.of_grown hg
  have hbx2 : Bx w2 b 29 #[V0, I, P] := hbx1.fr hfg fun h => hbx1.ne_row (hE1.2.1 v hv) (by decide) h.symm
  have ho1 := hE1.1.grown hg (hE1.1.ne_of_type (hE1.2.1 v hv) (by decide))
  have hbA : blk (some (⟨A, 0, none⟩ : Addr)) c = some A := by have := hE.1.1; rw [blk, if_neg (by omega)]; rfl
  have hnA : b ≠ A := fun h => hbx1.ne_row hE1.1 (by decide) (by rw [hbA, h])
  have hput := RowsAt.put (r := rowOf rows v ++ [(x, y)]) hE1 hv (by decide) hz1 rfl hg (cellE_snoc ho) hb
  rw [hrl] at hput
  refine ⟨hbx2, ?_, Ow.frozen ho1 (by omega) v, _, hput, hbx2.far (p := ⟨A, v, none⟩) hnA _, ?_, ?_⟩
  · obtain ⟨g, off, hae, _, hc⟩ := Rd.at (Ow.rd ho1) hv
    obtain ⟨rfl, rfl⟩ : A = g ∧ 0 = off := by injection hae with h; injection h with h1 h2; exact ⟨h1, h2⟩
    rwa [Nat.zero_add] at hc
  · refine Fr.setCell (p := ⟨A, v, none⟩) ((Fr.of_new hw1).trans (hfg.mono fun k _ hk => ?_)) (.inl (.inl rfl)) _
    exact .inr ⟨v, hv, hk.symm⟩
  · rintro k hk (h | ⟨j, hj, hjk⟩)
    · exact .inl h
    · rw [addP_length] at hj
      by_cases e1 : j = v
      · subst e1
        rw [setv_same] at hjk
        obtain ⟨_, y', hy, hyk⟩ := blk_some hjk
        injection hy with hy
        subst hy
        simp only at hyk
        subst hyk
        rcases hb with hb | hb
        · exact .inr ⟨j, hj, hb⟩
        · omega
      · rw [setv_ne _ _ _ e1] at hjk
        exact .inr ⟨j, hj, hjk⟩
theorem news2 (w : World) (t : TypeId) (x y : Value) : ∀ j u, [x, y][j]? = some u → (w.alloc (.cells #[x, y] t)).cell? (Addr.add ⟨w.heap.size, 0, none⟩ j) = some u := by
  intro j u hj
  have hB := Bx.made w t #[x, y]
  match j, hj with
  | 0, hj => rw [Addr.add_lit]; exact hB.cell 0 _ hj
  | 1, hj => rw [Addr.add_lit]; exact hB.cell 1 _ hj
theorem nthE_set (es : List (Int × Int)) (i j : Nat) (z : Int × Int) (hi : i < es.length) : nthE (es.set i z) j = if j = i then z else nthE es j := by
  unfold nthE
  by_cases e : j = i
  · subst e; simp [List.getD, hi]
  · rw [if_neg e]; simp [List.getD, List.getElem?_set_ne (Ne.symm e)]
/-- one end of a row of ends stored -/
theorem Ow.setE {w : World} {lo hi : Nat} {e : TypeId} {g cap : Nat} {es : List (Int × Int)} {i : Nat} (x y : Int) (h : Ow w lo hi e 2 (some ⟨g, 0, none⟩) es.length cap (cellE es)) (hi' : i < es.length) :
    Ow ((w.setCell ⟨g, i * 2, none⟩ (.int .i64 x)).setCell ⟨g, i * 2 + 1, none⟩ (.int .i64 y)) lo hi e 2 (some ⟨g, 0, none⟩) (es.set i (x, y)).length cap (cellE (es.set i (x, y))) := by
  rw [List.length_set]
  obtain ⟨h1, h2, h3⟩ := h
  refine ⟨h1, h2, fun hc => ?_⟩
  obtain ⟨g', F, e1, e2, e3, e4, e5⟩ := h3 hc
  obtain rfl : g = g' := by injection e1 with e1; injection e1
  refine ⟨g, _, rfl, e2, e3, (e4.set (i * 2) _).set (i * 2 + 1) _, fun j hj => ?_⟩
  show (if j = i * 2 + 1 then _ else if j = i * 2 then _ else F j) = _
  by_cases c1 : j = i * 2 + 1
  · subst c1; rw [if_pos rfl, cellE_snd, nthE_set _ _ _ _ hi', if_pos rfl]
  · rw [if_neg c1]
    by_cases c2 : j = i * 2
    · subst c2; rw [if_pos rfl, cellE_fst, nthE_set _ _ _ _ hi', if_pos rfl]
    · rw [if_neg c2, e5 j hj]
      obtain ⟨k, rfl | rfl⟩ : ∃ k, j = k * 2 ∨ j = k * 2 + 1 := ⟨j / 2, by omega⟩
      · rw [cellE_fst, cellE_fst, nthE_set _ _ _ _ hi', if_neg (by omega)]
      · rw [cellE_snd, cellE_snd, nthE_set _ _ _ _ hi', if_neg (by omega)]
set_option maxHeartbeats 1000000 in
theorem connect_any {lo b A c v u n : Nat} {rows : Rows2} {vs : Nat → Option Addr × Nat} {I P : Value} (w : World) (hn : n = rows.length)
    (hbx : Bx w b 29 #[.slice (some ⟨A, 0, none⟩) n c, I, P]) (hE : RowsE w lo w.heap.size (some ⟨A, 0, none⟩) c rows vs) (hv : v < n) (hu : u < n) (hlo : lo ≤ w.heap.size) (hl : n ≤ 1048576) (hl2 : ∀ j, j < n → (rowOf rows j).length ≤ 1048576) :
    Calls Try.prog 50 #[.pointer (some ⟨b, 0, none⟩), .int .i64 v, .int .i64 u] w fun e w' => e = .returned (.tuple #[]) ∧ ∃ vs', RowsE w' lo w'.heap.size (some ⟨A, 0, none⟩) c (joinR rows v u) vs' ∧ Bx w' b 29 #[.slice (some ⟨A, 0, none⟩) n c, I, P] ∧ Fr (RB A rows vs) w w' ∧ (∀ k, k < w.heap.size → RB A (joinR rows v u) vs' k → RB A rows vs k) := by
  have b0 : w.cell? ⟨b, 0, none⟩ = some (.slice (some ⟨A, 0, none⟩) n c) := hbx.cell 0 _ rfl
  have hv1 : v < rows.length := by omega
  have hu1 : u < rows.length := by omega
  have HN := Lib.hid hn
  obtain ⟨g, off, hae, hgB, hcv⟩ := Rd.at (Ow.rd hE.1) hv1
  obtain ⟨rfl, rfl⟩ : A = g ∧ 0 = off := by injection hae with h; injection h with h1 h2; exact ⟨h1, h2⟩
  clear hae
  rw [Nat.zero_add] at hcv
  have hlv := hl2 v hv
  have hlu := hl2 u hu
  clear hl2 hn
  go_enter Try.func50, Try.ntmps50
  go_wp2_with fail
  have hS0 := b0
  have hw1 : Below w.heap.size w (w.drew.alloc (.cells #[.int .i64 0, .int .i64 0] 62)) := (by repeat (first | exact Below.refl _ _ | assumption | refine Below.alloc ?_ (by first | (simp; done) | (simp; omega) | omega) _ | refine Below.setCell ?_ (by first | (simp; done) | (simp; omega) | omega) _ | refine Below.drew ?_ | refine Below.drewN ?_ _))
  have hS1 := (hbx.new hw1).cell 0 _ rfl
  have hrow1 : Ow (w.drew.alloc (.cells #[.int .i64 0, .int .i64 0] 62)) lo w.heap.size 62 2 (vs v).1 (rowOf rows v).length (vs v).2 (cellE (rowOf rows v)) := Ow.new (hE.2.1 v hv1) hw1
  have hnews : ∀ j u, [Value.int .i64 0, Value.int .i64 0][j]? = some u → (w.drew.alloc (.cells #[.int .i64 0, .int .i64 0] 62)).cell? (Addr.add ⟨w.heap.size, 0, none⟩ j) = some u := news2 _ _ _ _
  refine wp_region_held_drew (S := fun X => X.cell? ⟨b, 0, none⟩ = some (.slice (some ⟨A, 0, none⟩) n c)) (by kernel_rfl) hS0 (fun hHeld => ?_)
  refine wpAnyH_take (i := 0) (v := ?_) rfl (by kernel_rfl) (by kernel_rfl) (by kernel_rfl) (fun _ _ _ h => h) (Or.inl ⟨by rfl, ?_⟩) (by assumption) ?_
  rotate_left
  · (intro w hSw; (try dsimp only at hSw); go_simp; try with_reducible rfl)
  try simp only [Act.put, List.getElem_toArray, List.getElem_cons_zero, List.getElem_cons_succ, List.setIfInBounds_toArray, List.set_cons_zero, List.set_cons_succ]
  refine wpAnyH_take (i := 1) (v := ?_) rfl (by kernel_rfl) (by kernel_rfl) (by kernel_rfl) (fun _ _ _ h => h) (Or.inl ⟨by rfl, ?_⟩) (by assumption) ?_
  rotate_left
  · (intro w hSw; (try dsimp only at hSw); go_simp; try with_reducible rfl)
  try simp only [Act.put, List.getElem_toArray, List.getElem_cons_zero, List.getElem_cons_succ, List.setIfInBounds_toArray, List.set_cons_zero, List.set_cons_succ]
  refine wpAnyH_take (i := 2) (v := ?_) rfl (by kernel_rfl) (by kernel_rfl) (by kernel_rfl) (fun _ _ _ h => h) (Or.inl ⟨by rfl, ?_⟩) (by assumption) ?_
  rotate_left
  · (intro w hSw; (try dsimp only at hSw); go_simp; try with_reducible rfl)
  try simp only [Act.put, List.getElem_toArray, List.getElem_cons_zero, List.getElem_cons_succ, List.setIfInBounds_toArray, List.set_cons_zero, List.set_cons_succ]
  refine wpAnyH_take (i := 3) (v := ?_) rfl (by kernel_rfl) (by kernel_rfl) (by kernel_rfl) (fun _ _ _ h => h) (Or.inl ⟨by rfl, ?_⟩) (by assumption) ?_
  rotate_left
  · (intro w hSw; (try dsimp only at hSw); go_simp; try with_reducible rfl)
  try simp only [Act.put, List.getElem_toArray, List.getElem_cons_zero, List.getElem_cons_succ, List.setIfInBounds_toArray, List.set_cons_zero, List.set_cons_succ]
  refine wpAnyH_take (i := 4) (v := ?_) rfl (by kernel_rfl) (by kernel_rfl) (by kernel_rfl) (fun _ _ _ h => h) (Or.inl ⟨by rfl, ?_⟩) (by assumption) ?_
  rotate_left
  · (intro w hSw; (try dsimp only at hSw); go_simp; try with_reducible rfl)
  try simp only [Act.put, List.getElem_toArray, List.getElem_cons_zero, List.getElem_cons_succ, List.setIfInBounds_toArray, List.set_cons_zero, List.set_cons_succ]
  refine wpAnyH_take (i := 5) (v := ?_) rfl (by kernel_rfl) (by kernel_rfl) (by kernel_rfl) (fun _ _ _ h => h) (Or.inl ⟨by rfl, ?_⟩) (by assumption) ?_
  rotate_left
  · (intro w hSw; (try dsimp only at hSw); go_simp; try with_reducible rfl)
  try simp only [Act.put, List.getElem_toArray, List.getElem_cons_zero, List.getElem_cons_succ, List.setIfInBounds_toArray, List.set_cons_zero, List.set_cons_succ]
  refine wpAnyH_take (i := 6) (v := ?_) rfl (by kernel_rfl) (by kernel_rfl) (by kernel_rfl) (fun _ _ _ h => h) (Or.inl ⟨by rfl, ?_⟩) (by assumption) ?_
  rotate_left
  · (intro w hSw; (try dsimp only at hSw); go_simp; try with_reducible rfl)
  try simp only [Act.put, List.getElem_toArray, List.getElem_cons_zero, List.getElem_cons_succ, List.setIfInBounds_toArray, List.set_cons_zero, List.set_cons_succ]
  refine wpAnyH_take (i := 7) (v := ?_) rfl (by kernel_rfl) (by kernel_rfl) (by kernel_rfl) (fun _ _ _ h => h) (Or.inl ⟨by rfl, ?_⟩) (by assumption) ?_
  rotate_left
  · (intro w hSw; (try dsimp only at hSw); go_simp; try with_reducible rfl)
  try simp only [Act.put, List.getElem_toArray, List.getElem_cons_zero, List.getElem_cons_succ, List.setIfInBounds_toArray, List.set_cons_zero, List.set_cons_succ]
  refine wpAnyH_take (i := 8) (v := ?_) rfl (by kernel_rfl) (by kernel_rfl) (by kernel_rfl) (fun _ _ _ h => h) (Or.inl ⟨by rfl, ?_⟩) (by assumption) ?_
  rotate_left
  · (intro w hSw; (try dsimp only at hSw); go_simp; try with_reducible rfl)
  try simp only [Act.put, List.getElem_toArray, List.getElem_cons_zero, List.getElem_cons_succ, List.setIfInBounds_toArray, List.set_cons_zero, List.set_cons_succ]
  refine wpAnyH_take (i := 9) (v := ?_) rfl (by kernel_rfl) (by kernel_rfl) (by kernel_rfl) (fun _ _ _ h => h) (Or.inl ⟨by rfl, ?_⟩) (by assumption) ?_
  rotate_left
  · (intro w hSw; (try dsimp only at hSw); go_simp; try with_reducible rfl)
  try simp only [Act.put, List.getElem_toArray, List.getElem_cons_zero, List.getElem_cons_succ, List.setIfInBounds_toArray, List.set_cons_zero, List.set_cons_succ]
  refine wpAnyH_take (i := 10) (v := ?_) rfl (by kernel_rfl) (by kernel_rfl) (by kernel_rfl) (fun _ _ _ h => h) (Or.inl ⟨by rfl, ?_⟩) (by assumption) ?_
  rotate_left
  · (intro w hSw; (try dsimp only at hSw); go_simp; try with_reducible rfl)
  try simp only [Act.put, List.getElem_toArray, List.getElem_cons_zero, List.getElem_cons_succ, List.setIfInBounds_toArray, List.set_cons_zero, List.set_cons_succ]
  refine wpAnyH_take (i := 12) (v := ?_) rfl (by kernel_rfl) (by kernel_rfl) (by kernel_rfl) (fun _ _ _ h => h) (Or.inl ⟨by rfl, ?_⟩) (by assumption) ?_
  rotate_left
  · (intro w hSw; (try dsimp only at hSw); go_simp; try with_reducible rfl)
  try simp only [Act.put, List.getElem_toArray, List.getElem_cons_zero, List.getElem_cons_succ, List.setIfInBounds_toArray, List.set_cons_zero, List.set_cons_succ]
  refine wpAnyH_ready (rs := [11, 13]) (by kernel_rfl) (by simp) ?_
  refine AllReadyH.cons (o := _) rfl (fun K hK => ?_) (AllReadyH.cons (o := _) rfl (fun K hK => ?_) AllReadyH.nil)
  go_simp
  refine hK.out _ _ (hS0) (fun hHeld => ?_)
  clear hK K
  try simp only [Act.put, List.getElem_toArray, List.getElem_cons_zero, List.getElem_cons_succ, List.setIfInBounds_toArray, List.set_cons_zero, List.set_cons_succ]
  refine wpAnyH_ready (rs := [13]) (by kernel_rfl) (by simp) ?_
  refine AllReadyH.cons (o := _) rfl (fun K hK => ?_) AllReadyH.nil
  go_simp
  refine hK.out _ _ (hS1) (fun hHeld => ?_)
  clear hK K
  try simp only [Act.put, List.getElem_toArray, List.getElem_cons_zero, List.getElem_cons_succ, List.setIfInBounds_toArray, List.set_cons_zero, List.set_cons_succ]
  refine wpAnyH_ready (rs := [14]) (by kernel_rfl) (by simp) ?_
  refine AllReadyH.cons (o := _) rfl (fun K hK => ?_) AllReadyH.nil
  rw [if_pos (by rfl)]
  refine step_app _ _ _ rfl 62 (.agg #[.int .i64 0, .int .i64 0]) 2 16 Try.underlying60 end_info rfl (by decide) lo w.heap.size (vs v).1 (rowOf rows v).length (vs v).2 _ rfl hrow1 ⟨w.heap.size, 0, none⟩ 1 1 [.int .i64 0, .int .i64 0] rfl rfl hnews (by simp [Value.oneCell']) (by decide) (by unfold maxLen; omega) (by omega) (by simp; omega) ?_
  intro g' cap' w2 own2 hgr hbg _
  obtain ⟨hbx2, hc2, hf2, vs', hE', hbx', hfr', hrb'⟩ := addP_mem hbx hE hv1 hw1 hlo hgr own2 hbg
  have hS2 := hbx2.cell 0 _ rfl
  have hS3 := hbx'.cell 0 _ rfl
  refine hK.out _ _ hS2 (fun hHeld => ?_)
  clear hK K
  try simp only [Act.put, List.getElem_toArray, List.getElem_cons_zero, List.getElem_cons_succ, List.setIfInBounds_toArray, List.set_cons_zero, List.set_cons_succ]
  refine wpAnyH_take (i := 15) (v := ?_) rfl (by kernel_rfl) (by kernel_rfl) (by kernel_rfl) (fun _ _ _ h => h) (Or.inl ⟨by rfl, ?_⟩) (by assumption) ?_
  rotate_left
  · (intro w hSw; (try dsimp only at hSw); go_simp; try with_reducible rfl)
  try simp only [Act.put, List.getElem_toArray, List.getElem_cons_zero, List.getElem_cons_succ, List.setIfInBounds_toArray, List.set_cons_zero, List.set_cons_succ]
  refine wpAnyH_ready (rs := [16]) (by kernel_rfl) (by simp) ?_
  refine AllReadyH.cons (o := _) rfl (fun K hK => ?_) AllReadyH.nil
  go_simp
  refine hK.out _ _ (hS3) (fun hHeld => ?_)
  clear hK K
  try simp only [Act.put, List.getElem_toArray, List.getElem_cons_zero, List.getElem_cons_succ, List.setIfInBounds_toArray, List.set_cons_zero, List.set_cons_succ]
  refine wpAnyH_done (by kernel_rfl) ?_ _
  clear hHeld hS2 hS3 hc2 hf2 hbx2 own2 hgr hbg
  rotate_left
  go_simp
  refine hK.out _ _ (hS1) (fun hHeld => ?_)
  clear hK K
  try simp only [Act.put, List.getElem_toArray, List.getElem_cons_zero, List.getElem_cons_succ, List.setIfInBounds_toArray, List.set_cons_zero, List.set_cons_succ]
  refine wpAnyH_ready (rs := [11]) (by kernel_rfl) (by simp) ?_
  refine AllReadyH.cons (o := _) rfl (fun K hK => ?_) AllReadyH.nil
  go_simp
  refine hK.out _ _ (hS1) (fun hHeld => ?_)
  clear hK K
  try simp only [Act.put, List.getElem_toArray, List.getElem_cons_zero, List.getElem_cons_succ, List.setIfInBounds_toArray, List.set_cons_zero, List.set_cons_succ]
  refine wpAnyH_ready (rs := [14]) (by kernel_rfl) (by simp) ?_
  refine AllReadyH.cons (o := _) rfl (fun K hK => ?_) AllReadyH.nil
  rw [if_pos (by rfl)]
  refine step_app _ _ _ rfl 62 (.agg #[.int .i64 0, .int .i64 0]) 2 16 Try.underlying60 end_info rfl (by decide) lo w.heap.size (vs v).1 (rowOf rows v).length (vs v).2 _ rfl hrow1 ⟨w.heap.size, 0, none⟩ 1 1 [.int .i64 0, .int .i64 0] rfl rfl hnews (by simp [Value.oneCell']) (by decide) (by unfold maxLen; omega) (by omega) (by simp; omega) ?_
  intro g' cap' w2 own2 hgr hbg _
  obtain ⟨hbx2, hc2, hf2, vs', hE', hbx', hfr', hrb'⟩ := addP_mem hbx hE hv1 hw1 hlo hgr own2 hbg
  have hS2 := hbx2.cell 0 _ rfl
  have hS3 := hbx'.cell 0 _ rfl
  refine hK.out _ _ hS2 (fun hHeld => ?_)
  clear hK K
  try simp only [Act.put, List.getElem_toArray, List.getElem_cons_zero, List.getElem_cons_succ, List.setIfInBounds_toArray, List.set_cons_zero, List.set_cons_succ]
  refine wpAnyH_take (i := 15) (v := ?_) rfl (by kernel_rfl) (by kernel_rfl) (by kernel_rfl) (fun _ _ _ h => h) (Or.inl ⟨by rfl, ?_⟩) (by assumption) ?_
  rotate_left
  · (intro w hSw; (try dsimp only at hSw); go_simp; try with_reducible rfl)
  try simp only [Act.put, List.getElem_toArray, List.getElem_cons_zero, List.getElem_cons_succ, List.setIfInBounds_toArray, List.set_cons_zero, List.set_cons_succ]
  refine wpAnyH_ready (rs := [16]) (by kernel_rfl) (by simp) ?_
  refine AllReadyH.cons (o := _) rfl (fun K hK => ?_) AllReadyH.nil
  go_simp
  refine hK.out _ _ (hS3) (fun hHeld => ?_)
  clear hK K
  try simp only [Act.put, List.getElem_toArray, List.getElem_cons_zero, List.getElem_cons_succ, List.setIfInBounds_toArray, List.set_cons_zero, List.set_cons_succ]
  refine wpAnyH_done (by kernel_rfl) ?_ _
  clear hHeld hS2 hS3 hc2 hf2 hbx2 own2 hgr hbg
  rotate_left
  all_goals
    generalize hW3 : World.setCell w2 _ _ = w3 at hE' hbx' hfr' ⊢
    clear hW3
    replace hE' := RowsAt.top hE'
    have HFR := Lib.hid hfr'
    have HRB := Lib.hid hrb'
    have hz3 := hfr'.size
    have hlo3 : lo ≤ w3.heap.size := Nat.le_trans hlo hz3
    have hy : (rowOf rows v).length ≤ 1048576 := hlv
    obtain ⟨r1, hr1⟩ : ∃ r1, r1 = addP rows v 0 0 := ⟨_, rfl⟩
    rw [← hr1] at hE' HRB
    have hn1 : r1.length = rows.length := by rw [hr1, addP_length]
    have hv2 : v < r1.length := by omega
    have hu2 : u < r1.length := by omega
    have hlu2 : (rowOf r1 u).length ≤ 1048577 := by
      rw [hr1, addP_row _ _ _ _ _ hv1]
      split <;> first | omega | (simp; omega)
    have hlv2 : (rowOf r1 v).length ≤ 1048577 := by
      rw [hr1, addP_row _ _ _ _ _ hv1, if_pos rfl]
      simp; omega
    have hi2 : (rowOf rows v).length < (rowOf r1 v).length := by
      rw [hr1, addP_row _ _ _ _ _ hv1, if_pos rfl]
      simp
    have HR1 := Lib.hid hr1
    clear hr1 hn1 hfr' hrb' hS0 hS1 hw1 hrow1 hnews b0 hcv
    have hbx := hbx'
    have hE := hE'
    have hlo := hlo3
    have b0 : w3.cell? ⟨b, 0, none⟩ = some (.slice (some ⟨A, 0, none⟩) n c) := hbx.cell 0 _ rfl
    obtain ⟨g, off, hae, hgB, hcv⟩ := Rd.at (Ow.rd hE.1) hu2
    obtain ⟨rfl, rfl⟩ : A = g ∧ 0 = off := by injection hae with h; injection h with h1 h2; exact ⟨h1, h2⟩
    clear hae
    rw [Nat.zero_add] at hcv
    obtain ⟨vs, hvs⟩ : ∃ t, t = vs' := ⟨_, rfl⟩
    rw [← hvs] at hE hcv HRB
    clear hvs hE' hbx'
    go_wp2_with fail
    have hS0 := b0
    have hw1 : Below w3.heap.size w3 (w3.drew.alloc (.cells #[.int .i64 (v : Int), .int .i64 ((rowOf rows v).length : Int)] 62)) := (by repeat (first | exact Below.refl _ _ | assumption | refine Below.alloc ?_ (by first | (simp; done) | (simp; omega) | omega) _ | refine Below.setCell ?_ (by first | (simp; done) | (simp; omega) | omega) _ | refine Below.drew ?_ | refine Below.drewN ?_ _))
    have hS1 := (hbx.new hw1).cell 0 _ rfl
    have hrow1 : Ow (w3.drew.alloc (.cells #[.int .i64 (v : Int), .int .i64 ((rowOf rows v).length : Int)] 62)) lo w3.heap.size 62 2 (vs u).1 (rowOf r1 u).length (vs u).2 (cellE (rowOf r1 u)) := Ow.new (hE.2.1 u hu2) hw1
    have hnews : ∀ j t, [Value.int .i64 (v : Int), Value.int .i64 ((rowOf rows v).length : Int)][j]? = some t → (w3.drew.alloc (.cells #[.int .i64 (v : Int), .int .i64 ((rowOf rows v).length : Int)] 62)).cell? (Addr.add ⟨w3.heap.size, 0, none⟩ j) = some t := news2 _ _ _ _
    have hv1 := hu2
    refine wp_region_held_drew (S := fun X => X.cell? ⟨b, 0, none⟩ = some (.slice (some ⟨A, 0, none⟩) n c)) (by kernel_rfl) hS0 (fun hHeld => ?_)
    refine wpAnyH_take (i := 0) (v := ?_) rfl (by kernel_rfl) (by kernel_rfl) (by kernel_rfl) (fun _ _ _ h => h) (Or.inl ⟨by rfl, ?_⟩) (by assumption) ?_
    rotate_left
    · (intro w hSw; (try dsimp only at hSw); go_simp; try with_reducible rfl)
    try simp only [Act.put, List.getElem_toArray, List.getElem_cons_zero, List.getElem_cons_succ, List.setIfInBounds_toArray, List.set_cons_zero, List.set_cons_succ]
    refine wpAnyH_take (i := 1) (v := ?_) rfl (by kernel_rfl) (by kernel_rfl) (by kernel_rfl) (fun _ _ _ h => h) (Or.inl ⟨by rfl, ?_⟩) (by assumption) ?_
    rotate_left
    · (intro w hSw; (try dsimp only at hSw); go_simp; try with_reducible rfl)
    try simp only [Act.put, List.getElem_toArray, List.getElem_cons_zero, List.getElem_cons_succ, List.setIfInBounds_toArray, List.set_cons_zero, List.set_cons_succ]
    refine wpAnyH_take (i := 2) (v := ?_) rfl (by kernel_rfl) (by kernel_rfl) (by kernel_rfl) (fun _ _ _ h => h) (Or.inl ⟨by rfl, ?_⟩) (by assumption) ?_
    rotate_left
    · (intro w hSw; (try dsimp only at hSw); go_simp; try with_reducible rfl)
    try simp only [Act.put, List.getElem_toArray, List.getElem_cons_zero, List.getElem_cons_succ, List.setIfInBounds_toArray, List.set_cons_zero, List.set_cons_succ]
    refine wpAnyH_take (i := 3) (v := ?_) rfl (by kernel_rfl) (by kernel_rfl) (by kernel_rfl) (fun _ _ _ h => h) (Or.inl ⟨by rfl, ?_⟩) (by assumption) ?_
    rotate_left
    · (intro w hSw; (try dsimp only at hSw); go_simp; try with_reducible rfl)
    try simp only [Act.put, List.getElem_toArray, List.getElem_cons_zero, List.getElem_cons_succ, List.setIfInBounds_toArray, List.set_cons_zero, List.set_cons_succ]
    refine wpAnyH_take (i := 4) (v := ?_) rfl (by kernel_rfl) (by kernel_rfl) (by kernel_rfl) (fun _ _ _ h => h) (Or.inl ⟨by rfl, ?_⟩) (by assumption) ?_
    rotate_left
    · (intro w hSw; (try dsimp only at hSw); go_simp; try with_reducible rfl)
    try simp only [Act.put, List.getElem_toArray, List.getElem_cons_zero, List.getElem_cons_succ, List.setIfInBounds_toArray, List.set_cons_zero, List.set_cons_succ]
    refine wpAnyH_take (i := 5) (v := ?_) rfl (by kernel_rfl) (by kernel_rfl) (by kernel_rfl) (fun _ _ _ h => h) (Or.inl ⟨by rfl, ?_⟩) (by assumption) ?_
    rotate_left
    · (intro w hSw; (try dsimp only at hSw); go_simp; try with_reducible rfl)
    try simp only [Act.put, List.getElem_toArray, List.getElem_cons_zero, List.getElem_cons_succ, List.setIfInBounds_toArray, List.set_cons_zero, List.set_cons_succ]
    refine wpAnyH_take (i := 6) (v := ?_) rfl (by kernel_rfl) (by kernel_rfl) (by kernel_rfl) (fun _ _ _ h => h) (Or.inl ⟨by rfl, ?_⟩) (by assumption) ?_
    rotate_left
    · (intro w hSw; (try dsimp only at hSw); go_simp; try with_reducible rfl)
    try simp only [Act.put, List.getElem_toArray, List.getElem_cons_zero, List.getElem_cons_succ, List.setIfInBounds_toArray, List.set_cons_zero, List.set_cons_succ]
    refine wpAnyH_take (i := 7) (v := ?_) rfl (by kernel_rfl) (by kernel_rfl) (by kernel_rfl) (fun _ _ _ h => h) (Or.inl ⟨by rfl, ?_⟩) (by assumption) ?_
    rotate_left
    · (intro w hSw; (try dsimp only at hSw); go_simp; try with_reducible rfl)
    try simp only [Act.put, List.getElem_toArray, List.getElem_cons_zero, List.getElem_cons_succ, List.setIfInBounds_toArray, List.set_cons_zero, List.set_cons_succ]
    refine wpAnyH_take (i := 8) (v := ?_) rfl (by kernel_rfl) (by kernel_rfl) (by kernel_rfl) (fun _ _ _ h => h) (Or.inl ⟨by rfl, ?_⟩) (by assumption) ?_
    rotate_left
    · (intro w hSw; (try dsimp only at hSw); go_simp; try with_reducible rfl)
    try simp only [Act.put, List.getElem_toArray, List.getElem_cons_zero, List.getElem_cons_succ, List.setIfInBounds_toArray, List.set_cons_zero, List.set_cons_succ]
    refine wpAnyH_take (i := 9) (v := ?_) rfl (by kernel_rfl) (by kernel_rfl) (by kernel_rfl) (fun _ _ _ h => h) (Or.inl ⟨by rfl, ?_⟩) (by assumption) ?_
    rotate_left
    · (intro w hSw; (try dsimp only at hSw); go_simp; try with_reducible rfl)
    try simp only [Act.put, List.getElem_toArray, List.getElem_cons_zero, List.getElem_cons_succ, List.setIfInBounds_toArray, List.set_cons_zero, List.set_cons_succ]
    refine wpAnyH_take (i := 10) (v := ?_) rfl (by kernel_rfl) (by kernel_rfl) (by kernel_rfl) (fun _ _ _ h => h) (Or.inl ⟨by rfl, ?_⟩) (by assumption) ?_
    rotate_left
    · (intro w hSw; (try dsimp only at hSw); go_simp; try with_reducible rfl)
    try simp only [Act.put, List.getElem_toArray, List.getElem_cons_zero, List.getElem_cons_succ, List.setIfInBounds_toArray, List.set_cons_zero, List.set_cons_succ]
    refine wpAnyH_take (i := 12) (v := ?_) rfl (by kernel_rfl) (by kernel_rfl) (by kernel_rfl) (fun _ _ _ h => h) (Or.inl ⟨by rfl, ?_⟩) (by assumption) ?_
    rotate_left
    · (intro w hSw; (try dsimp only at hSw); go_simp; try with_reducible rfl)
    try simp only [Act.put, List.getElem_toArray, List.getElem_cons_zero, List.getElem_cons_succ, List.setIfInBounds_toArray, List.set_cons_zero, List.set_cons_succ]
    refine wpAnyH_take (i := 13) (v := ?_) rfl (by kernel_rfl) (by kernel_rfl) (by kernel_rfl) (fun _ _ _ h => h) (Or.inl ⟨by rfl, ?_⟩) (by assumption) ?_
    rotate_left
    · (intro w hSw; (try dsimp only at hSw); go_simp; try with_reducible rfl)
    try simp only [Act.put, List.getElem_toArray, List.getElem_cons_zero, List.getElem_cons_succ, List.setIfInBounds_toArray, List.set_cons_zero, List.set_cons_succ]
    refine wpAnyH_take (i := 14) (v := ?_) rfl (by kernel_rfl) (by kernel_rfl) (by kernel_rfl) (fun _ _ _ h => h) (Or.inl ⟨by rfl, ?_⟩) (by assumption) ?_
    rotate_left
    · (intro w hSw; (try dsimp only at hSw); go_simp; try with_reducible rfl)
    try simp only [Act.put, List.getElem_toArray, List.getElem_cons_zero, List.getElem_cons_succ, List.setIfInBounds_toArray, List.set_cons_zero, List.set_cons_succ]
    refine wpAnyH_ready (rs := [11, 15]) (by kernel_rfl) (by simp) ?_
    refine AllReadyH.cons (o := _) rfl (fun K hK => ?_) (AllReadyH.cons (o := _) rfl (fun K hK => ?_) AllReadyH.nil)
    go_simp
    refine hK.out _ _ (hS0) (fun hHeld => ?_)
    clear hK K
    try simp only [Act.put, List.getElem_toArray, List.getElem_cons_zero, List.getElem_cons_succ, List.setIfInBounds_toArray, List.set_cons_zero, List.set_cons_succ]
    refine wpAnyH_ready (rs := [15]) (by kernel_rfl) (by simp) ?_
    refine AllReadyH.cons (o := _) rfl (fun K hK => ?_) AllReadyH.nil
    go_simp
    refine hK.out _ _ (hS1) (fun hHeld => ?_)
    clear hK K
    try simp only [Act.put, List.getElem_toArray, List.getElem_cons_zero, List.getElem_cons_succ, List.setIfInBounds_toArray, List.set_cons_zero, List.set_cons_succ]
    refine wpAnyH_ready (rs := [16]) (by kernel_rfl) (by simp) ?_
    refine AllReadyH.cons (o := _) rfl (fun K hK => ?_) AllReadyH.nil
    rw [if_pos (by rfl)]
    refine step_app _ _ _ rfl 62 (.agg #[.int .i64 0, .int .i64 0]) 2 16 Try.underlying60 end_info rfl (by decide) lo w3.heap.size (vs u).1 (rowOf r1 u).length (vs u).2 _ rfl hrow1 ⟨w3.heap.size, 0, none⟩ 1 1 [.int .i64 (v : Int), .int .i64 ((rowOf rows v).length : Int)] rfl rfl hnews (by simp [Value.oneCell']) (by decide) (by unfold maxLen; omega) (by omega) (by simp; omega) ?_
    intro g' cap' w2 own2 hgr hbg _
    obtain ⟨hbx2, hc2, hf2, vs', hE', hbx', hfr', hrb'⟩ := addP_mem hbx hE hv1 hw1 hlo hgr own2 hbg
    have hS2 := hbx2.cell 0 _ rfl
    have hS3 := hbx'.cell 0 _ rfl
    refine hK.out _ _ hS2 (fun hHeld => ?_)
    clear hK K
    try simp only [Act.put, List.getElem_toArray, List.getElem_cons_zero, List.getElem_cons_succ, List.setIfInBounds_toArray, List.set_cons_zero, List.set_cons_succ]
    refine wpAnyH_take (i := 17) (v := ?_) rfl (by kernel_rfl) (by kernel_rfl) (by kernel_rfl) (fun _ _ _ h => h) (Or.inl ⟨by rfl, ?_⟩) (by assumption) ?_
    rotate_left
    · (intro w hSw; (try dsimp only at hSw); go_simp; try with_reducible rfl)
    try simp only [Act.put, List.getElem_toArray, List.getElem_cons_zero, List.getElem_cons_succ, List.setIfInBounds_toArray, List.set_cons_zero, List.set_cons_succ]
    refine wpAnyH_ready (rs := [18]) (by kernel_rfl) (by simp) ?_
    refine AllReadyH.cons (o := _) rfl (fun K hK => ?_) AllReadyH.nil
    go_simp
    refine hK.out _ _ (hS3) (fun hHeld => ?_)
    clear hK K
    try simp only [Act.put, List.getElem_toArray, List.getElem_cons_zero, List.getElem_cons_succ, List.setIfInBounds_toArray, List.set_cons_zero, List.set_cons_succ]
    refine wpAnyH_done (by kernel_rfl) ?_ _
    clear hHeld hS2 hS3 hc2 hf2 hbx2 own2 hgr hbg
    rotate_left
    go_simp
    refine hK.out _ _ (hS1) (fun hHeld => ?_)
    clear hK K
    try simp only [Act.put, List.getElem_toArray, List.getElem_cons_zero, List.getElem_cons_succ, List.setIfInBounds_toArray, List.set_cons_zero, List.set_cons_succ]
    refine wpAnyH_ready (rs := [11]) (by kernel_rfl) (by simp) ?_
    refine AllReadyH.cons (o := _) rfl (fun K hK => ?_) AllReadyH.nil
    go_simp
    refine hK.out _ _ (hS1) (fun hHeld => ?_)
    clear hK K
    try simp only [Act.put, List.getElem_toArray, List.getElem_cons_zero, List.getElem_cons_succ, List.setIfInBounds_toArray, List.set_cons_zero, List.set_cons_succ]
    refine wpAnyH_ready (rs := [16]) (by kernel_rfl) (by simp) ?_
    refine AllReadyH.cons (o := _) rfl (fun K hK => ?_) AllReadyH.nil
    rw [if_pos (by rfl)]
    refine step_app _ _ _ rfl 62 (.agg #[.int .i64 0, .int .i64 0]) 2 16 Try.underlying60 end_info rfl (by decide) lo w3.heap.size (vs u).1 (rowOf r1 u).length (vs u).2 _ rfl hrow1 ⟨w3.heap.size, 0, none⟩ 1 1 [.int .i64 (v : Int), .int .i64 ((rowOf rows v).length : Int)] rfl rfl hnews (by simp [Value.oneCell']) (by decide) (by unfold maxLen; omega) (by omega) (by simp; omega) ?_
    intro g' cap' w2 own2 hgr hbg _
    obtain ⟨hbx2, hc2, hf2, vs', hE', hbx', hfr', hrb'⟩ := addP_mem hbx hE hv1 hw1 hlo hgr own2 hbg
    have hS2 := hbx2.cell 0 _ rfl
    have hS3 := hbx'.cell 0 _ rfl
    refine hK.out _ _ hS2 (fun hHeld => ?_)
    clear hK K
    try simp only [Act.put, List.getElem_toArray, List.getElem_cons_zero, List.getElem_cons_succ, List.setIfInBounds_toArray, List.set_cons_zero, List.set_cons_succ]
    refine wpAnyH_take (i := 17) (v := ?_) rfl (by kernel_rfl) (by kernel_rfl) (by kernel_rfl) (fun _ _ _ h => h) (Or.inl ⟨by rfl, ?_⟩) (by assumption) ?_
    rotate_left
    · (intro w hSw; (try dsimp only at hSw); go_simp; try with_reducible rfl)
    try simp only [Act.put, List.getElem_toArray, List.getElem_cons_zero, List.getElem_cons_succ, List.setIfInBounds_toArray, List.set_cons_zero, List.set_cons_succ]
    refine wpAnyH_ready (rs := [18]) (by kernel_rfl) (by simp) ?_
    refine AllReadyH.cons (o := _) rfl (fun K hK => ?_) AllReadyH.nil
    go_simp
    refine hK.out _ _ (hS3) (fun hHeld => ?_)
    clear hK K
    try simp only [Act.put, List.getElem_toArray, List.getElem_cons_zero, List.getElem_cons_succ, List.setIfInBounds_toArray, List.set_cons_zero, List.set_cons_succ]
    refine wpAnyH_done (by kernel_rfl) ?_ _
    clear hHeld hS2 hS3 hc2 hf2 hbx2 own2 hgr hbg
    rotate_left
    all_goals
      clear hS0 hS1 hw1 hrow1 hnews b0 hcv
      generalize hW4 : World.setCell w2 _ _ = w4 at hE' hbx' hfr' ⊢
      clear hW4
      replace hE' := RowsAt.top hE'
      obtain ⟨r2, hr2⟩ : ∃ r2, r2 = addP r1 u v ((rowOf rows v).length) := ⟨_, rfl⟩
      rw [← hr2] at hE' hrb'
      have hv3 : v < r2.length := by rw [hr2, addP_length]; exact hv2
      have hi3 : (rowOf rows v).length < (rowOf r2 v).length := by
        rw [hr2, addP_row _ _ _ _ _ hu2]
        split
        · next h => rw [← h]; simp; omega
        · exact hi2
      have HR2 := Lib.hid hr2
      clear hr2
      have hi4 : (rowOf r2 v).length ≤ 1048578 := by
        rw [HR2.out, addP_row _ _ _ _ _ hu2]
        split
        · simp; omega
        · omega
      have b0 : w4.cell? ⟨b, 0, none⟩ = some (.slice (some ⟨A, 0, none⟩) n c) := hbx'.cell 0 _ rfl
      obtain ⟨g, off, hae, hgC, hcv⟩ := Rd.at (Ow.rd hE'.1) hv3
      obtain ⟨rfl, rfl⟩ : A = g ∧ 0 = off := by injection hae with h; injection h with h1 h2; exact ⟨h1, h2⟩
      clear hae
      rw [Nat.zero_add] at hcv
      have hr := hE'.2.1 v hv3
      obtain ⟨g4, ha4, _, _⟩ := Ow.addr hr (by omega)
      rw [ha4] at hr hcv
      obtain ⟨g5, off5, hae5, _, hca, hcb⟩ := RdE.at (Ow.rdE hr) hi3
      obtain ⟨rfl, rfl⟩ : g4 = g5 ∧ 0 = off5 := by injection hae5 with h; injection h with h1 h2; exact ⟨h1, h2⟩
      clear hae5
      rw [Nat.zero_add] at hca hcb
      have hfa := Ow.frozen hr (by omega) ((rowOf rows v).length * 2)
      have hfb := Ow.frozen hr (by omega) ((rowOf rows v).length * 2 + 1)
      have hset := Ow.setE (u : Int) ((rowOf r1 u).length : Int) hr hi3
      go_wp2_with fail
      have hfin : ∃ vs'', RowsE ((w4.setCell ⟨g4, (rowOf rows v).length * 2, none⟩ (.int .i64 (u : Int))).setCell ⟨g4, (rowOf rows v).length * 2 + 1, none⟩ (.int .i64 ((rowOf r1 u).length : Int))) lo w4.heap.size (some ⟨A, 0, none⟩) c (joinR rows v u) vs'' ∧ vs'' = vs' := by
        refine ⟨vs', ?_, rfl⟩
        rw [← joinR_steps rows v u (by assumption) hu1 r2 (by rw [HR2.out, HR1.out]), ← HR1.out]
        refine RowsAt.upd hE' hv3 (by decide) (by rw [List.length_set]) (by rw [ha4]; exact hset) ?_
        have hbl : blk (vs' v).1 (vs' v).2 = some g4 := by rw [ha4, blk, if_neg (by have := hr.1; omega)]; rfl
        exact Fr.setCell (p := ⟨g4, (rowOf rows v).length * 2 + 1, none⟩) (Fr.setCell (p := ⟨g4, (rowOf rows v).length * 2, none⟩) (Fr.refl _ _) (.inl hbl) _) (.inl hbl) _
      obtain ⟨vs'', hfin, hvs''⟩ := hfin
      subst hvs''
      have hbl : blk (vs'' v).1 (vs'' v).2 = some g4 := by rw [ha4, blk, if_neg (by have := hr.1; omega)]; rfl
      have hz4 := hfr'.size
      have hnb : b ≠ g4 := fun h => hbx'.ne_row hr (by decide) (by rw [← ha4, hbl, h])
      have hback : ∀ k, k < w.heap.size → RB A r2 vs'' k → RB A rows _ k := fun k hk h => HRB.out k hk (hrb' k (by omega) h)
      generalize hW5 : World.setCell (World.setCell w4 _ _) _ _ = w5 at hfin ⊢
      have hbx5 : Bx w5 b 29 #[.slice (some ⟨A, 0, none⟩) n c, I, P] := by
        rw [← hW5]; exact (hbx'.far (p := ⟨g4, _, none⟩) hnb _).far (p := ⟨g4, _, none⟩) hnb _
      have hfr5 : Fr (fun k => RB A r2 vs'' k) w4 w5 := by
        rw [← hW5]
        exact Fr.setCell (p := ⟨g4, _, none⟩) (Fr.setCell (p := ⟨g4, _, none⟩) (Fr.refl _ _) (.inl (.inr ⟨v, hv3, hbl⟩)) _) (.inl (.inr ⟨v, hv3, hbl⟩)) _
      clear hW5
      refine bodyPost_end (v := .tuple #[]) (by simp [results, Try.results50, go_sem]) rfl ⟨rfl, vs'', RowsAt.top hfin, hbx5, ?_, fun k hk h => hback k hk ?_⟩
      · have f1 := HFR.out.mono (D := fun k => RB A rows _ k ∨ w.heap.size ≤ k) fun k _ h => .inl h
        have f2 := hfr'.mono (D := fun k => RB A rows _ k ∨ w.heap.size ≤ k) fun k hk h => (Nat.lt_or_ge k w.heap.size).imp (fun hlt => HRB.out k hlt h) id
        have f3 := hfr5.mono (D := fun k => RB A rows _ k ∨ w.heap.size ≤ k) fun k hk h => (Nat.lt_or_ge k w.heap.size).imp (fun hlt => hback k hlt h) id
        exact ((f1.trans f2).trans f3).mono fun k hk h => h.resolve_right (by omega)
      · have hl5 : (joinR rows v u).length = r2.length := by rw [joinR_length, HR2.out, addP_length, HR1.out, addP_length]
        rcases h with h | ⟨j, hj, hjk⟩
        · exact .inl h
        · exact .inr ⟨j, by omega, hjk⟩
end Go.Proofs.Ytlooinhdehkcdaa
