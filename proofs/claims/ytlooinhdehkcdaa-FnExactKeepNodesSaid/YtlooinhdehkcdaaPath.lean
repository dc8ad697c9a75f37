/- Networks made of edges: buMade; PathNetwork. -/
import Derived.Test.YtlooinhdehkcdaaMade
import Derived.Test.YtlooinhdehkcdaaEdge
namespace Go.Proofs.Ytlooinhdehkcdaa
open Go.RowKit
set_option linter.unusedVariables false
set_option linter.unusedSimpArgs false


theorem ifN_small {ok : Bool} {N : Net} (h : ok = true → NetSmall N) : NetSmall (ifN ok N) := by
  cases ok with
  | true => exact h rfl
  | false => show NetSmall nilN; unfold NetSmall nilN; decide
theorem NetAt.shape {w : World} {lo hi : Nat} {v : Value} {N : Net} (h : NetAt w lo hi v N) : ∃ a c ai ci ap cp, v = .agg #[.slice a N.ends.length c, .slice ai N.ids.length ci, .slice ap N.inputs.length cp] ∧ NetAt w lo hi (.agg #[.slice a N.ends.length c, .slice ai N.ids.length ci, .slice ap N.inputs.length cp]) N := by
  obtain ⟨a, c, vs, ai, ci, ap, cp, hv, _⟩ := id h
  exact ⟨a, c, ai, ci, ap, cp, hv, hv ▸ h⟩
theorem total_set {α : Type} (rows : List (List α)) (v : Nat) (r : List α) (hv : v < rows.length) : Total (rows.set v r) + (rowOf rows v).length = Total rows + r.length := by
  induction rows generalizing v with
  | nil => exact absurd hv (Nat.not_lt_zero _)
  | cons x xs ih =>
    cases v with
    | zero => simp [Total, rowOf]; omega
    | succ v =>
      have h := ih v (by simpa using hv)
      simp only [List.set_cons_succ, Total, List.map_cons, List.sum_cons] at h ⊢
      have e : rowOf (x :: xs) (v + 1) = rowOf xs v := rfl
      rw [e]
      omega
theorem total_addP (rows : Rows2) (v : Nat) (x y : Int) (hv : v < rows.length) : Total (addP rows v x y) = Total rows + 1 := by
  have h := total_set rows v (rowOf rows v ++ [(x, y)]) hv
  rw [List.length_append] at h
  simp only [List.length_cons, List.length_nil] at h
  unfold addP
  omega
theorem total_joinR (rows : Rows2) (v u : Nat) (hv : v < rows.length) (hu : u < rows.length) : Total (joinR rows v u) = Total rows + 2 := by
  rw [joinR, total_addP _ _ _ _ (by rw [addP_length]; exact hu), total_addP _ _ _ _ hv]
theorem total_replicate (n : Nat) : Total (List.replicate n ([] : List (Int × Int))) = 0 := by
  induction n with
  | zero => rfl
  | succ n ih => rw [List.replicate_succ]; unfold Total at *; simp
/-- edges joined one after the other -/
def joinsN (N : Net) : List (Nat × Nat) → Net
  | [] => N
  | e :: es => joinsN (joinN N e.1 e.2) es
theorem joinsN_snoc (N : Net) (es : List (Nat × Nat)) (e : Nat × Nat) : joinsN N (es ++ [e]) = joinN (joinsN N es) e.1 e.2 := by
  induction es generalizing N with
  | nil => rfl
  | cons x xs ih => exact ih _
theorem joinN_length (N : Net) (v u : Nat) : (joinN N v u).ends.length = N.ends.length := joinR_length ..
/-- edges between nodes that are there -/
def EdgesIn (n : Nat) (es : List (Nat × Nat)) : Prop := ∀ e ∈ es, e.1 < n ∧ e.2 < n
theorem joinsN_facts (N : Net) (es : List (Nat × Nat)) (h : EdgesIn N.ends.length es) : (joinsN N es).ends.length = N.ends.length ∧ Total (joinsN N es).ends = Total N.ends + 2 * es.length ∧ (joinsN N es).ids = N.ids ∧ (joinsN N es).inputs = N.inputs := by
  induction es generalizing N with
  | nil => exact ⟨rfl, rfl, rfl, rfl⟩
  | cons x xs ih =>
    have hx := h x (List.mem_cons_self ..)
    have hl := joinN_length N x.1 x.2
    obtain ⟨h1, h2, h3, h4⟩ := ih (joinN N x.1 x.2) (fun e he => by rw [hl]; exact h e (List.mem_cons_of_mem _ he))
    refine ⟨h1.trans hl, ?_, h3, h4⟩
    have ht : Total (joinN N x.1 x.2).ends = Total N.ends + 2 := total_joinR _ _ _ hx.1 hx.2
    show Total (joinsN (joinN N x.1 x.2) xs).ends = _
    rw [h2, ht, List.length_cons]
    omega
theorem joinsN_small {n : Nat} {es : List (Nat × Nat)} (h : EdgesIn n es) (hn : n ≤ 1000) (he : es.length ≤ 10000) : NetSmall (joinsN (emptyN n) es) := by
  have hl : (emptyN n).ends.length = n := List.length_replicate ..
  obtain ⟨h1, h2, h3, h4⟩ := joinsN_facts (emptyN n) es (by rw [hl]; exact h)
  unfold NetSmall
  rw [h1, h2, h3, h4, hl]
  have h5 : Total (emptyN n).ends = 0 := total_replicate n
  have h6 : (emptyN n).inputs.length = n := List.length_replicate ..
  have h7 : (emptyN n).ids.length = 0 := rfl
  omega
theorem EdgesIn.take {n : Nat} {es : List (Nat × Nat)} (h : EdgesIn n es) (k : Nat) : EdgesIn n (es.take k) := fun e he => h e (List.mem_of_mem_take he)
def nthP (es : List (Nat × Nat)) (j : Nat) : Nat × Nat := es.getD j (0, 0)
theorem takeP_snoc (es : List (Nat × Nat)) (k : Nat) (h : k < es.length) : es.take (k + 1) = es.take k ++ [nthP es k] := by
  rw [List.take_succ_eq_append_getElem h]
  unfold nthP; rw [List.getD_eq_getElem?_getD, List.getElem?_eq_getElem h]; rfl
theorem nthP_mem (es : List (Nat × Nat)) (k : Nat) (h : k < es.length) : nthP es k ∈ es := by
  unfold nthP; rw [List.getD_eq_getElem?_getD, List.getElem?_eq_getElem h]; exact List.getElem_mem h
/-- edges as lists of two ints -/
def pairL (es : List (Nat × Nat)) : List (List Int) := es.map fun e => [(e.1 : Int), (e.2 : Int)]
theorem pairL_length (es : List (Nat × Nat)) : (pairL es).length = es.length := List.length_map ..
theorem pairL_row (es : List (Nat × Nat)) (j : Nat) (h : j < es.length) : rowOf (pairL es) j = [((nthP es j).1 : Int), ((nthP es j).2 : Int)] := by
  rw [rowOf_eq_getElem _ _ (by rw [pairL_length]; exact h)]
  simp [pairL, nthP, List.getD, h]
theorem NetAt.frBx {w w' : World} {lo hi b : Nat} {v : Value} {N : Net} {cs : Array Value} (h : NetAt w lo hi v N) (hb : Bx w b 29 cs) (hf : Fr (fun k => k = b) w w') : NetAt w' lo hi v N := by
  obtain ⟨a, c, vs, ai, ci, ap, cp, hv, h1, h2, h3, h4⟩ := h
  exact ⟨a, c, vs, ai, ci, ap, cp, hv, RowsAt.frB h1 hf (fun k hk hc => hb.ne_row h1.1 (by decide) (hc ▸ hk)) (fun j hj k hk hc => hb.ne_row (h1.2.1 j hj) (by decide) (hc ▸ hk)), Ow.frB h2 hf (fun k hk hc => hb.ne_row h2 (by decide) (hc ▸ hk)), Ow.frB h3 hf (fun k hk hc => hb.ne_row h3 (by decide) (hc ▸ hk)), h4⟩
/-- the network lies in the variable at block b -/
def NBx (w : World) (lo b : Nat) (N : Net) : Prop :=
  ∃ a c vs ai ci ap cp, Bx w b 29 #[.slice a N.ends.length c, .slice ai N.ids.length ci, .slice ap N.inputs.length cp] ∧ RowsE w lo w.heap.size a c N.ends vs ∧ OwI w lo w.heap.size ai ci N.ids ∧ OwI w lo w.heap.size ap cp N.inputs ∧ (blk ai ci = none ∨ blk ai ci ≠ blk ap cp)
/-- connect on a network in a variable -/
theorem connectN_any {lo b v u : Nat} {N : Net} (w : World) (h : NBx w lo b N) (hv : v < N.ends.length) (hu : u < N.ends.length) (hlo : lo ≤ w.heap.size) (hs : NetSmall N) :
    Calls Try.prog 50 #[.pointer (some ⟨b, 0, none⟩), .int .i64 v, .int .i64 u] w fun e w' => e = .returned (.tuple #[]) ∧ NBx w' lo b (joinN N v u) ∧ Fr (fun k => lo ≤ k ∧ k < w.heap.size) w w' := by
  obtain ⟨a, c, vs, ai, ci, ap, cp, hbx, hE, owni, ownp, hdis⟩ := h
  obtain ⟨A, hA, _, _⟩ := Ow.addr hE.1 (by omega)
  subst hA
  refine (connect_any w rfl hbx hE hv hu hlo (by unfold NetSmall at hs; omega) hs.row).mono ?_
  rintro e w' ⟨rfl, vs', hE', hbx', hfr, hrb⟩
  have hp : 0 < N.ends.length := by omega
  refine ⟨rfl, ⟨some ⟨A, 0, none⟩, c, vs', ai, ci, ap, cp, ?_, hE', Ow.top (Ow.frB owni hfr fun k hk => rb_ne hE hp owni hk), Ow.top (Ow.frB ownp hfr fun k hk => rb_ne hE hp ownp hk), hdis⟩, hfr.mono fun k hk hc => rb_in hE hp hc⟩
  have hl : (joinN N v u).ends.length = N.ends.length := joinN_length ..
  rw [hl]
  exact hbx'
theorem NBx.fr {C : Nat → Prop} {w w' : World} {lo b : Nat} {N : Net} (h : NBx w lo b N) (hf : Fr C w w') (hb : ¬ C b) (hc : ∀ k, lo ≤ k → ¬ C k) : NBx w' lo b N := by
  obtain ⟨a, c, vs, ai, ci, ap, cp, hbx, hE, owni, ownp, hdis⟩ := h
  exact ⟨a, c, vs, ai, ci, ap, cp, hbx.fr hf hb, RowsAt.top (RowsAt.fr hE hf fun k h1 _ => hc k h1), Ow.top (Ow.fr owni hf fun k h1 _ => hc k h1), Ow.top (Ow.fr ownp hf fun k h1 _ => hc k h1), hdis⟩
theorem Ow.two {w : World} {lo hi b : Nat} {t : TypeId} {x y : Int} (h : Bx w b t #[.int .i64 x, .int .i64 y]) (hl : lo ≤ b) (hh : b < hi) : Ow w lo hi t 1 (some ⟨b, 0, none⟩) 2 2 (cellI [x, y]) := by
  refine Ow.of_row (F := cellI [x, y]) ⟨_, h, rfl, fun i hi => ?_⟩ hl hh (Nat.le_refl _) (by decide) fun j _ => rfl
  match i, hi with
  | 0, _ => rfl
  | 1, _ => rfl
theorem pairL_snoc (es : List (Nat × Nat)) (v u : Nat) : pairL (es ++ [(v, u)]) = pairL es ++ [[(v : Int), (u : Int)]] := List.map_append ..
/-- the edges of a path -/
def pathE (j : Nat) : List (Nat × Nat) := (List.range j).map fun i => (i, i + 1)
theorem pathE_succ (j : Nat) : pathE (j + 1) = pathE j ++ [(j, j + 1)] := by unfold pathE; rw [List.range_succ, List.map_append]; rfl
theorem pathE_length (j : Nat) : (pathE j).length = j := by simp [pathE]
theorem pathE_in {j k : Nat} (h : j + 1 ≤ k) : EdgesIn k (pathE j) := fun e he => by
  obtain ⟨i, hi, rfl⟩ := List.mem_map.1 he
  rw [List.mem_range] at hi
  exact ⟨by omega, by omega⟩
def pathN (k : Int) : Net := joinsN (emptyN k.toNat) (pathE (k.toNat - 1))
theorem pathN_small {k : Int} (h : inR k 1 40 = true) : NetSmall (pathN k) := by
  have := inR_iff.1 h
  exact joinsN_small (pathE_in (by omega)) (by omega) (by rw [pathE_length]; omega)
end Go.Proofs.Ytlooinhdehkcdaa
