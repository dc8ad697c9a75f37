/- RegularTree: the plain law. -/
import Derived.Test.YtlooinhdehkcdaaAddE
namespace Go.Proofs.Ytlooinhdehkcdaa
open Go.RowKit
set_option linter.unusedVariables false
set_option linter.unusedSimpArgs false
theorem snoc_ind {α : Type} {motive : List α → Prop} (nil : motive []) (snoc : ∀ l a, motive l → motive (l ++ [a])) (l : List α) : motive l := by
  have key : ∀ r : List α, motive r.reverse := by
    intro r
    induction r with
    | nil => exact nil
    | cons a r ih => rw [List.reverse_cons]; exact snoc _ _ ih
  have := key l.reverse
  rwa [List.reverse_reverse] at this
/-- one node more, without ports -/
def moreN (N : Net) : Net := { ends := N.ends ++ [[]], ids := N.ids, inputs := N.inputs ++ [0] }
/-- one node more, joined with node v -/
def growN (N : Net) (v : Nat) : Net := joinN (moreN N) v N.ends.length
/-- the tree in which node j + 1 hangs on node es[j] -/
def treeN (es : List Nat) : Net := es.foldl growN (emptyN 1)
theorem treeN_snoc (es : List Nat) (v : Nat) : treeN (es ++ [v]) = growN (treeN es) v := by unfold treeN; rw [List.foldl_append]; rfl
theorem growN_length (N : Net) (v : Nat) : (growN N v).ends.length = N.ends.length + 1 := by
  unfold growN moreN; rw [joinN_length]; simp
theorem treeN_length (es : List Nat) : (treeN es).ends.length = es.length + 1 := by
  induction es using snoc_ind with
  | nil => rfl
  | snoc es v ih => rw [treeN_snoc, growN_length, ih]; simp
theorem treeN_ids (es : List Nat) : (treeN es).ids = [] := by
  induction es using snoc_ind with
  | nil => rfl
  | snoc es v ih => rw [treeN_snoc]; exact ih
theorem treeN_inputs (es : List Nat) : (treeN es).inputs.length = es.length + 1 := by
  induction es using snoc_ind with
  | nil => rfl
  | snoc es v ih => rw [treeN_snoc]; show ((treeN es).inputs ++ [0]).length = _; rw [List.length_append, ih]; simp
/-- how many ports a node has -/
def degT (es : List Nat) (v : Nat) : Nat := es.count v + if v = 0 then 0 else 1
theorem joinR_row (rows : Rows2) (v u j : Nat) (hv : v < rows.length) (hu : u < rows.length) (h : v ≠ u) : (rowOf (joinR rows v u) j).length = (rowOf rows j).length + (if j = v then 1 else 0) + (if j = u then 1 else 0) := by
  unfold joinR
  rw [addP_row _ _ _ _ _ (by rw [addP_length]; exact hu), addP_row _ _ _ _ _ hv, addP_row _ _ _ _ _ hv]
  by_cases e : j = u
  · subst e
    rw [if_pos rfl, if_neg (fun h2 => h h2.symm), if_neg (fun h2 => h h2.symm), if_pos rfl, List.length_append]; rfl
  · rw [if_neg e, if_neg e]
    by_cases e2 : j = v
    · subst e2; rw [if_pos rfl, if_pos rfl, List.length_append]; rfl
    · rw [if_neg e2, if_neg e2]; rfl
/-- each node hangs on an older one -/
def Hang : List Nat → Prop := fun es => ∀ j, j < es.length → es.getD j 0 ≤ j
theorem Hang.snoc {es : List Nat} {v : Nat} (h : Hang es) (hv : v < es.length + 1) : Hang (es ++ [v]) := fun j hj => by
  rw [List.length_append] at hj
  simp only [List.length_cons, List.length_nil] at hj
  rw [List.getD_eq_getElem?_getD]
  by_cases e : j < es.length
  · rw [List.getElem?_append_left e, ← List.getD_eq_getElem?_getD]; exact h j e
  · obtain rfl : j = es.length := by omega
    rw [List.getElem?_append_right (Nat.le_refl _), Nat.sub_self]; simp; omega
theorem Hang.init {es : List Nat} {v : Nat} (h : Hang (es ++ [v])) : Hang es ∧ v < es.length + 1 := by
  refine ⟨fun j hj => ?_, ?_⟩
  · have h1 := h j (by simp; omega)
    rw [List.getD_eq_getElem?_getD, List.getElem?_append_left hj, ← List.getD_eq_getElem?_getD] at h1; exact h1
  · have h1 := h es.length (by simp)
    rw [List.getD_eq_getElem?_getD, List.getElem?_append_right (Nat.le_refl _), Nat.sub_self] at h1; simp at h1; omega
theorem rowOf_more (rows : Rows2) (j : Nat) : rowOf (rows ++ [[]]) j = rowOf rows j := by
  by_cases e : j < rows.length
  · exact rowOf_append_left _ _ _ e
  · rw [rowOf_append_right _ _ _ (by omega)]
    unfold rowOf
    rw [List.getD_eq_getElem?_getD, List.getD_eq_getElem?_getD, List.getElem?_eq_none (show rows.length ≤ j by omega)]
    cases hk : j - rows.length with
    | zero => rfl
    | succ k => rfl
theorem treeN_deg {es : List Nat} (h : Hang es) (j : Nat) (hj : j < es.length + 1) : (rowOf (treeN es).ends j).length = degT es j := by
  induction es using snoc_ind generalizing j with
  | nil => obtain rfl : j = 0 := by simpa using hj
           rfl
  | snoc es v ih =>
    obtain ⟨h1, h2⟩ := h.init
    rw [treeN_snoc]
    show (rowOf (joinR ((treeN es).ends ++ [[]]) v (treeN es).ends.length) j).length = _
    have hl := treeN_length es
    rw [joinR_row _ _ _ _ (by rw [List.length_append, hl]; simp; omega) (by rw [List.length_append]; simp) (by rw [hl]; omega), rowOf_more, hl]
    unfold degT
    rw [List.count_append, List.count_singleton]
    rw [List.length_append] at hj
    simp only [List.length_cons, List.length_nil] at hj
    by_cases e : j = es.length + 1
    · subst e
      have h3 : rowOf (treeN es).ends (es.length + 1) = [] := by
        unfold rowOf; rw [List.getD_eq_getElem?_getD, List.getElem?_eq_none (by rw [hl]; omega)]; rfl
      have h4 : es.count (es.length + 1) = 0 := by
        rw [List.count_eq_zero]
        intro hm
        obtain ⟨i, hi, he⟩ := List.getElem_of_mem hm
        have h5 := h1 i hi
        rw [List.getD_eq_getElem?_getD, List.getElem?_eq_getElem hi] at h5
        simp at h5
        omega
      have h6 : (v == es.length + 1) = false := by simp; omega
      have h7 : ¬ es.length + 1 = v := by omega
      rw [h3, h4, h6]
      simp [h7]
    · have h7 := ih h1 j (by omega)
      unfold degT at h7
      rw [h7, if_neg e]
      by_cases e2 : j = v
      · subst e2; rw [if_pos rfl]; simp; omega
      · have h8 : (v == j) = false := by simp; omega
        rw [if_neg e2, h8]; simp
theorem treeN_total {es : List Nat} (h : Hang es) : Total (treeN es).ends = 2 * es.length := by
  induction es using snoc_ind with
  | nil => rfl
  | snoc es v ih =>
    obtain ⟨h1, h2⟩ := h.init
    rw [treeN_snoc]
    show Total (joinR ((treeN es).ends ++ [[]]) v (treeN es).ends.length) = _
    have hl := treeN_length es
    rw [total_joinR _ _ _ (by rw [List.length_append, hl]; simp; omega) (by rw [List.length_append]; simp)]
    have : Total ((treeN es).ends ++ [[]]) = Total (treeN es).ends := by simp [Total]
    rw [this, ih h1, List.length_append]; simp; omega
theorem treeN_small {es : List Nat} (h : Hang es) (hl : es.length ≤ 100) : NetSmall (treeN es) := by
  unfold NetSmall
  rw [treeN_length, treeN_total h, treeN_ids, treeN_inputs]
  simp; omega
theorem moreN_small {es : List Nat} (h : Hang es) (hl : es.length ≤ 100) : NetSmall (moreN (treeN es)) := by
  have h1 : Total ((treeN es).ends ++ [[]]) = Total (treeN es).ends := by simp [Total]
  unfold NetSmall moreN
  show ((treeN es).ends ++ [[]]).length + Total ((treeN es).ends ++ [[]]) + (treeN es).ids.length + ((treeN es).inputs ++ [0]).length ≤ _
  rw [h1, List.length_append, treeN_length, treeN_total h, treeN_ids, List.length_append, treeN_inputs]
  simp; omega
/-! ### the two machines -/
def chl (d : Int) (v : Nat) : Int := if v = 0 then d else d - 1
def runI (d p : Int) : Nat → List Nat → List Int → Nat → Nat → Option (List Nat)
  | 0, _, _, _, _ => none
  | f + 1, es, ds, v, c =>
    if v < es.length + 1 then
      if (c : Int) < chl d v ∧ nth ds v < p then
        if es.length + 1 = 40 then none else runI d p f (es ++ [v]) (ds ++ [nth ds v + 1]) v (c + 1)
      else runI d p f es ds (v + 1) 0
    else some es
def runS (d p : Int) : Nat → List Nat → Nat → Nat → Nat → Nat → Option (List Nat)
  | 0, _, _, _, _, _ => none
  | f + 1, es, s, L, i, k =>
    if i < L then
      if ((degT es (s + i) : Nat) : Int) < d then
        if es.length + 1 = 40 then none else runS d p f (es ++ [s + i]) s L i k
      else runS d p f es s L (i + 1) k
    else if ((k + 1 : Nat) : Int) < p ∧ s + L < es.length + 1 then runS d p f es (s + L) (es.length + 1 - (s + L)) 0 (k + 1) else some es
section
variable {d p : Int} {f : Nat} {es : List Nat} {ds : List Int} {v c s L i k : Nat}
theorem runI_grow (h1 : v < es.length + 1) (h2 : (c : Int) < chl d v) (h3 : nth ds v < p) (h4 : es.length + 1 ≠ 40) : runI d p (f + 1) es ds v c = runI d p f (es ++ [v]) (ds ++ [nth ds v + 1]) v (c + 1) := by rw [runI, if_pos h1, if_pos ⟨h2, h3⟩, if_neg h4]
theorem runI_full (h1 : v < es.length + 1) (h2 : (c : Int) < chl d v) (h3 : nth ds v < p) (h4 : es.length + 1 = 40) : runI d p (f + 1) es ds v c = none := by rw [runI, if_pos h1, if_pos ⟨h2, h3⟩, if_pos h4]
theorem runI_next (h1 : v < es.length + 1) (h2 : ¬ ((c : Int) < chl d v ∧ nth ds v < p)) : runI d p (f + 1) es ds v c = runI d p f es ds (v + 1) 0 := by rw [runI, if_pos h1, if_neg h2]
theorem runI_end (h1 : ¬ v < es.length + 1) : runI d p (f + 1) es ds v c = some es := by rw [runI, if_neg h1]
theorem runS_grow (h1 : i < L) (h2 : ((degT es (s + i) : Nat) : Int) < d) (h4 : es.length + 1 ≠ 40) : runS d p (f + 1) es s L i k = runS d p f (es ++ [s + i]) s L i k := by rw [runS, if_pos h1, if_pos h2, if_neg h4]
theorem runS_full (h1 : i < L) (h2 : ((degT es (s + i) : Nat) : Int) < d) (h4 : es.length + 1 = 40) : runS d p (f + 1) es s L i k = none := by rw [runS, if_pos h1, if_pos h2, if_pos h4]
theorem runS_next (h1 : i < L) (h2 : ¬ ((degT es (s + i) : Nat) : Int) < d) : runS d p (f + 1) es s L i k = runS d p f es s L (i + 1) k := by rw [runS, if_pos h1, if_neg h2]
theorem runS_level (h1 : ¬ i < L) (h2 : ((k + 1 : Nat) : Int) < p) (h3 : s + L < es.length + 1) : runS d p (f + 1) es s L i k = runS d p f es (s + L) (es.length + 1 - (s + L)) 0 (k + 1) := by rw [runS, if_neg h1, if_pos ⟨h2, h3⟩]
theorem runS_end (h1 : ¬ i < L) (h2 : ¬ (((k + 1 : Nat) : Int) < p ∧ s + L < es.length + 1)) : runS d p (f + 1) es s L i k = some es := by rw [runS, if_neg h1, if_neg h2]
end
theorem runI_cap {d p : Int} (hp : 40 ≤ p) (f : Nat) : ∀ (es : List Nat) (ds : List Int) (v c : Nat), ds.length = es.length + 1 → es.length + 1 ≤ 40 → (∀ j, j < ds.length → nth ds j ≤ (j : Int)) → runI d p f es ds v c = runI d 40 f es ds v c := by
  induction f with
  | zero => intros; rfl
  | succ f ih =>
    intro es ds v c h1 h2 h3
    rw [runI, runI]
    by_cases hv : v < es.length + 1
    · have h4 := h3 v (by omega)
      rw [if_pos hv, if_pos hv]
      by_cases hc : (c : Int) < chl d v
      · rw [if_pos (show (c : Int) < chl d v ∧ nth ds v < p from ⟨hc, by omega⟩), if_pos (show (c : Int) < chl d v ∧ nth ds v < 40 from ⟨hc, by omega⟩)]
        by_cases h40 : es.length + 1 = 40
        · rw [if_pos h40, if_pos h40]
        · rw [if_neg h40, if_neg h40]
          refine ih _ _ _ _ (by simp; omega) (by simp; omega) fun j hj => ?_
          rw [List.length_append] at hj
          simp only [List.length_cons, List.length_nil] at hj
          by_cases e : j < ds.length
          · rw [nth_append_left _ _ _ e]; exact h3 j e
          · rw [nth_append_right _ _ _ (by omega), show j - ds.length = 0 by omega, nth_cons_zero]; omega
      · rw [if_neg (fun h => hc h.1), if_neg (fun h => hc h.1)]
        exact ih _ _ _ _ h1 h2 h3
    · rw [if_neg hv, if_neg hv]
theorem runS_cap {d p : Int} (hp : 40 ≤ p) (f : Nat) : ∀ (es : List Nat) (s L i k : Nat), k + 1 ≤ s + L → es.length + 1 ≤ 40 → runS d p f es s L i k = runS d 40 f es s L i k := by
  induction f with
  | zero => intros; rfl
  | succ f ih =>
    intro es s L i k h1 h2
    rw [runS, runS]
    by_cases hi : i < L
    · rw [if_pos hi, if_pos hi]
      by_cases hd : ((degT es (s + i) : Nat) : Int) < d
      · rw [if_pos hd, if_pos hd]
        by_cases h40 : es.length + 1 = 40
        · rw [if_pos h40, if_pos h40]
        · rw [if_neg h40, if_neg h40]
          exact ih _ _ _ _ _ h1 (by simp; omega)
      · rw [if_neg hd, if_neg hd]
        exact ih _ _ _ _ _ h1 h2
    · rw [if_neg hi, if_neg hi]
      by_cases hl : s + L < es.length + 1
      · rw [if_pos (show ((k + 1 : Nat) : Int) < p ∧ s + L < es.length + 1 from ⟨by omega, hl⟩), if_pos (show ((k + 1 : Nat) : Int) < 40 ∧ s + L < es.length + 1 from ⟨by omega, hl⟩)]
        exact ih _ _ _ _ _ (by omega) h2
      · rw [if_neg (fun h => hl h.2), if_neg (fun h => hl h.2)]
def agreeB (d p : Nat) : Bool := runI d p 100 [] [0] 0 0 == runS d p 300 [] 0 1 0 0
theorem agree_all : ((List.range 7).all fun d => (List.range 41).all fun p => p == 0 || agreeB d p) = true := by decide +kernel
theorem agree {d p : Int} (h0 : 0 ≤ d) (h1 : d ≤ 6) (hp : 0 < p) : runI d p 100 [] [0] 0 0 = runS d p 300 [] 0 1 0 0 := by
  obtain ⟨dn, rfl⟩ := Int.eq_ofNat_of_zero_le h0
  have key : ∀ pn : Nat, 0 < pn → pn ≤ 40 → runI dn pn 100 [] [0] 0 0 = runS dn pn 300 [] 0 1 0 0 := fun pn h2 h3 => by
    have h4 := List.all_eq_true.1 agree_all dn (List.mem_range.2 (by omega))
    have h5 := List.all_eq_true.1 h4 pn (List.mem_range.2 (by omega))
    have h6 : (pn == 0) = false := by simp; omega
    rw [h6, Bool.false_or] at h5
    exact beq_iff_eq.1 h5
  by_cases hp4 : p ≤ 40
  · obtain ⟨pn, rfl⟩ := Int.eq_ofNat_of_zero_le (show 0 ≤ p by omega)
    exact key pn (by omega) (by omega)
  · rw [runI_cap (by omega) _ _ _ _ _ rfl (by simp) (fun j hj => by
      obtain rfl : j = 0 := by simpa using hj
      decide), runS_cap (by omega) _ _ _ _ _ _ (by omega) (by simp)]
    exact key 40 (by omega) (by omega)
/-! ### the answer -/
def rtB (d p : Int) : Bool := decide (0 ≤ d) && decide (0 ≤ p) && (decide (d ≤ 6) || decide (p ≤ 0))
def rtE (d p : Int) : Option (List Nat) := if rtB d p then runI d p 100 [] [0] 0 0 else none
def rtN : Option (List Nat) → Net
  | some es => treeN es
  | none => nilN
def rtR (d p : Int) : Net := rtN (rtE d p)
def rtOk (d p : Int) : Bool := (rtE d p).isSome
theorem rtE_f {d p : Int} (h : rtB d p = false) : rtE d p = none := by rw [rtE, h]; rfl
theorem rtE_t {d p : Int} (h : rtB d p = true) : rtE d p = runI d p 100 [] [0] 0 0 := by rw [rtE, h]; rfl
theorem rtE_s {d p : Int} (h : rtB d p = true) (hp : 0 < p) : rtE d p = runS d p 300 [] 0 1 0 0 := by
  rw [rtE_t h]
  unfold rtB at h
  simp only [Bool.and_eq_true, Bool.or_eq_true, decide_eq_true_eq] at h
  exact agree h.1.1 (by omega) hp
theorem rtE_0 {d p : Int} (h : rtB d p = true) (hp : ¬ 0 < p) : rtE d p = some [] := by
  rw [rtE_t h]
  unfold rtB at h
  simp only [Bool.and_eq_true, Bool.or_eq_true, decide_eq_true_eq] at h
  rw [runI_next (by simp) (fun h2 => by have := h2.2; have h3 : nth [0] 0 = 0 := rfl; omega), runI_end (by simp)]
theorem runI_hang {d p : Int} (f : Nat) : ∀ (es : List Nat) (ds : List Int) (v c : Nat) (r : List Nat), Hang es → es.length + 1 ≤ 40 → runI d p f es ds v c = some r → Hang r ∧ r.length ≤ 39 := by
  induction f with
  | zero => intro es ds v c r h1 h2 h; cases h
  | succ f ih =>
    intro es ds v c r h1 h2 h
    rw [runI] at h
    split at h
    · rename_i hv
      split at h
      · split at h
        · cases h
        · exact ih _ _ _ _ _ (h1.snoc hv) (by simp; omega) h
      · exact ih _ _ _ _ _ h1 h2 h
    · injection h with h; subst h; exact ⟨h1, by omega⟩
theorem rtR_sm {d p : Int} : NetSmall (rtR d p) := by
  unfold rtR
  cases h : rtE d p with
  | none => exact (by decide : (0 : Nat) ≤ 1048576)
  | some es =>
    unfold rtE at h
    split at h
    · obtain ⟨h1, h2⟩ := runI_hang _ _ _ _ _ _ (fun j hj => absurd hj (by simp)) (by simp) h
      exact treeN_small h1 (by omega)
    · cases h
end Go.Proofs.Ytlooinhdehkcdaa
