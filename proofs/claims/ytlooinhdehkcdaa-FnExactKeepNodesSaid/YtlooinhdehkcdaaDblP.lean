/- DoubleCover, UnionOf, SubdivideEdges: the plain law. -/
import Derived.Test.YtlooinhdehkcdaaRenP
import Derived.Test.YtlooinhdehkcdaaEdge
import Derived.Test.YtlooinhdehkcdaaPath
namespace Go.Proofs.Ytlooinhdehkcdaa
open Go.RowKit
set_option linter.unusedVariables false
set_option linter.unusedSimpArgs false
/-- ends, their nodes moved on by k -/
def shE (k : Nat) (e : Int × Int) : Int × Int := (e.1 + (k : Int), e.2)
def shR (k : Nat) (es : List (Int × Int)) : List (Int × Int) := es.map (shE k)
theorem shR_length (k : Nat) (es : List (Int × Int)) : (shR k es).length = es.length := List.length_map ..
theorem shR_snoc (k : Nat) (es : List (Int × Int)) (i : Nat) (h : i < es.length) : shR k (es.take (i + 1)) = shR k (es.take i) ++ [shE k (nthE es i)] := by
  rw [takeE_snoc _ _ h]; exact List.map_append ..
/-! ### DoubleCover -/
def dcT (rows : Rows2) (k v i : Nat) : Rows2 := (List.range (k + k)).map fun u =>
  if u < k then (if u < v then shR k (rowOf rows u) else if u = v then shR k ((rowOf rows u).take i) else [])
  else (if u - k < v then rowOf rows (u - k) else if u - k = v then (rowOf rows (u - k)).take i else [])
theorem dcT_length (rows : Rows2) (k v i : Nat) : (dcT rows k v i).length = k + k := by simp [dcT]
theorem dcT_row (rows : Rows2) (k v i j : Nat) (h : j < k + k) : rowOf (dcT rows k v i) j = if j < k then (if j < v then shR k (rowOf rows j) else if j = v then shR k ((rowOf rows j).take i) else [])
  else (if j - k < v then rowOf rows (j - k) else if j - k = v then (rowOf rows (j - k)).take i else []) := rowOf_rangeMap _ _ _ h
theorem dcT_zero (rows : Rows2) (k : Nat) : dcT rows k 0 0 = List.replicate (k + k) [] := by
  refine rows_ext (by rw [dcT_length, List.length_replicate]) fun j hj => ?_
  rw [dcT_length] at hj
  rw [dcT_row _ _ _ _ _ hj, rowOf_replicate]
  split
  · rw [if_neg (by omega)]; split
    · rfl
    · rfl
  · rw [if_neg (by omega)]; split
    · rfl
    · rfl
theorem dcT_next (rows : Rows2) (k v : Nat) : dcT rows k v (rowOf rows v).length = dcT rows k (v + 1) 0 := by
  refine rows_ext (by rw [dcT_length, dcT_length]) fun j hj => ?_
  rw [dcT_length] at hj
  rw [dcT_row _ _ _ _ _ hj, dcT_row _ _ _ _ _ hj]
  by_cases c : j < k
  · rw [if_pos c, if_pos c]
    by_cases h1 : j < v
    · rw [if_pos h1, if_pos (by omega)]
    · rw [if_neg h1]
      by_cases h2 : j = v
      · subst h2; rw [if_pos rfl, if_pos (by omega), List.take_length]
      · rw [if_neg h2, if_neg (by omega)]; split
        · rfl
        · rfl
  · rw [if_neg c, if_neg c]
    by_cases h1 : j - k < v
    · rw [if_pos h1, if_pos (by omega)]
    · rw [if_neg h1]
      by_cases h2 : j - k = v
      · rw [if_pos h2, if_pos (by omega), h2, List.take_length]
      · rw [if_neg h2, if_neg (by omega)]; split
        · rfl
        · rfl
theorem dcT_add {rows : Rows2} {k v i : Nat} {p q : Int} (hv : v < k) (hi : i < (rowOf rows v).length) (he : nthE (rowOf rows v) i = (p, q)) :
    addP (addP (dcT rows k v i) v (p + (k : Int)) q) (v + k) p q = dcT rows k v (i + 1) := by
  refine rows_ext (by rw [addP_length, addP_length, dcT_length, dcT_length]) fun j hj => ?_
  rw [addP_length, addP_length, dcT_length] at hj
  rw [addP_row _ _ _ _ _ (by rw [addP_length, dcT_length]; omega), addP_row _ _ _ _ _ (by rw [dcT_length]; omega), addP_row _ _ _ _ _ (by rw [dcT_length]; omega), dcT_row _ _ _ _ _ (show v + k < k + k by omega), dcT_row _ _ _ _ _ (show v < k + k by omega), dcT_row _ _ _ _ _ hj, dcT_row _ _ _ _ _ hj]
  have e1 : (rowOf rows v).take (i + 1) = (rowOf rows v).take i ++ [(p, q)] := by rw [takeE_snoc _ _ hi, he]
  have e2 : shR k ((rowOf rows v).take (i + 1)) = shR k ((rowOf rows v).take i) ++ [(p + (k : Int), q)] := by rw [shR_snoc _ _ _ hi, he]; rfl
  by_cases c : j = v + k
  · subst c
    rw [if_pos rfl, if_neg (by omega), if_neg (by omega), if_neg (by omega), if_pos (by omega), if_neg (by omega), if_neg (by omega), if_pos (by omega)]
    rw [show v + k - k = v by omega, e1]
  · rw [if_neg c]
    by_cases c2 : j = v
    · subst c2
      rw [if_pos rfl, if_pos hv, if_neg (by omega), if_pos rfl, if_pos hv, if_neg (by omega), if_pos rfl, e2]
    · rw [if_neg c2]
      by_cases c3 : j < k
      · rw [if_pos c3, if_pos c3]
        by_cases c4 : j < v
        · rw [if_pos c4, if_pos c4]
        · rw [if_neg c4, if_neg c4, if_neg c2, if_neg c2]
      · rw [if_neg c3, if_neg c3]
        by_cases c4 : j - k < v
        · rw [if_pos c4, if_pos c4]
        · rw [if_neg c4, if_neg c4, if_neg (by omega), if_neg (by omega)]
def dcR (rows : Rows2) (k : Nat) : Rows2 := dcT rows k k 0
def dcI (ins : List Int) (k v : Nat) : List Int := (List.range (k + k)).map fun u => if u < k then (if u < v then nth ins u else 0) else if u - k < v then nth ins (u - k) else 0
theorem dcI_length (ins : List Int) (k v : Nat) : (dcI ins k v).length = k + k := by simp [dcI]
theorem nth_rangeMap (n : Nat) (f : Nat → Int) (j : Nat) (h : j < n) : nth ((List.range n).map f) j = f j := by
  rw [nth_eq_getElem _ _ (by simpa using h)]; simp
theorem dcI_nth (ins : List Int) (k v j : Nat) (h : j < k + k) : nth (dcI ins k v) j = if j < k then (if j < v then nth ins j else 0) else if j - k < v then nth ins (j - k) else 0 := nth_rangeMap _ _ _ h
theorem dcI_zero (ins : List Int) (k : Nat) : dcI ins k 0 = List.replicate (k + k) 0 := by
  refine list_ext_nth (by rw [dcI_length, List.length_replicate]) fun j hj => ?_
  rw [dcI_length] at hj
  rw [dcI_nth _ _ _ _ hj, nth_replicate]
  split <;> rfl
theorem dcI_all (ins : List Int) (k : Nat) (h : ins.length = k) : dcI ins k k = ins ++ ins := by
  refine list_ext_nth (by rw [dcI_length, List.length_append, h]) fun j hj => ?_
  rw [dcI_length] at hj
  rw [dcI_nth _ _ _ _ hj]
  by_cases c : j < k
  · rw [if_pos c, if_pos c, nth_append_left _ _ _ (by omega)]
  · rw [if_neg c, if_pos (by omega), nth_append_right _ _ _ (by omega), h]
theorem dcI_set (ins : List Int) (k v : Nat) (hv : v < k) : ((dcI ins k v).set v (nth ins v)).set (v + k) (nth ins v) = dcI ins k (v + 1) := by
  refine list_ext_nth (by rw [List.length_set, List.length_set, dcI_length, dcI_length]) fun j hj => ?_
  rw [List.length_set, List.length_set, dcI_length] at hj
  rw [nth_set _ _ _ _ (by rw [List.length_set, dcI_length]; omega), nth_set _ _ _ _ (by rw [dcI_length]; omega), dcI_nth _ _ _ _ hj, dcI_nth _ _ _ _ hj]
  by_cases c : j = v + k
  · subst c; rw [if_pos rfl, if_neg (by omega), if_pos (by omega), show v + k - k = v by omega]
  · rw [if_neg c]
    by_cases c2 : j = v
    · subst c2; rw [if_pos rfl, if_pos hv, if_pos (by omega)]
    · rw [if_neg c2]
      by_cases c3 : j < k
      · rw [if_pos c3, if_pos c3]
        by_cases c4 : j < v
        · rw [if_pos c4, if_pos (by omega)]
        · rw [if_neg c4, if_neg (by omega)]
      · rw [if_neg c3, if_neg c3]
        by_cases c4 : j - k < v
        · rw [if_pos c4, if_pos (by omega)]
        · rw [if_neg c4, if_neg (by omega)]
def dcN (N : Net) : Net := { ends := dcR N.ends N.ends.length, ids := [], inputs := N.inputs ++ N.inputs }
def dcOk (N : Net) : Bool := netB N && netB (dcN N)
def dcRR (N : Net) : Net := ifN (dcOk N) (dcN N)
theorem dcOk_f {N : Net} (h : netB N = false) : dcOk N = false := by rw [dcOk, h]; rfl
theorem dcOk_t {N : Net} (h : netB N = true) : dcOk N = netB (dcN N) := by rw [dcOk, h]; rfl
theorem dcRR_f {N : Net} (h : dcOk N = false) : dcRR N = nilN := by rw [dcRR, h]; rfl
theorem dcRR_t {N : Net} (h : netB N = true) : dcRR N = ifN (netB (dcN N)) (dcN N) := by rw [dcRR, dcOk_t h]
theorem dcT_len {N : Net} (h : netB N = true) (v i j : Nat) (hj : j < N.ends.length + N.ends.length) : (rowOf (dcT N.ends N.ends.length v i) j).length ≤ 6 := by
  rw [dcT_row _ _ _ _ _ hj]
  by_cases c : j < N.ends.length
  · have := net_row h c
    rw [if_pos c]; split
    · rw [shR_length]; exact this
    · split
      · rw [shR_length, List.length_take]; omega
      · exact Nat.zero_le _
  · have := net_row h (show j - N.ends.length < N.ends.length by omega)
    rw [if_neg c]; split
    · exact this
    · split
      · rw [List.length_take]; omega
      · exact Nat.zero_le _
theorem dcT_small {N : Net} (h : netB N = true) (v i m : Nat) (ins : List Int) (hm : ins.length ≤ m) (hm2 : m ≤ 1000) : NetSmall { ends := dcT N.ends N.ends.length v i, ids := [], inputs := ins } := by
  have h1 := netB_small h
  have h2 := total_le (dcT N.ends N.ends.length v i) 6 fun j hj => dcT_len h v i j (by rw [dcT_length] at hj; exact hj)
  unfold NetSmall
  show (dcT N.ends N.ends.length v i).length + Total (dcT N.ends N.ends.length v i) + 0 + ins.length ≤ 1048576
  rw [dcT_length] at h2 ⊢
  omega
theorem dcN_small {N : Net} (h : netB N = true) : NetSmall (dcN N) := dcT_small h N.ends.length 0 100 (N.inputs ++ N.inputs) (by have := netB_small h; rw [List.length_append]; omega) (by omega)
theorem dcRR_sm {N : Net} : NetSmall (dcRR N) := ifN_small fun h => by
  unfold dcOk at h
  rw [Bool.and_eq_true] at h
  exact dcN_small h.1
/-! ### UnionOf -/
def unN (M N : Net) : Net := { ends := M.ends ++ N.ends.map (shR M.ends.length), ids := M.ids ++ N.ids, inputs := M.inputs ++ N.inputs }
def unB (M N : Net) : Bool := (netB M && netB N) && (decide (M.ids.length = 0) == decide (N.ids.length = 0))
def unOk (M N : Net) : Bool := unB M N && netB (unN M N)
def unR (M N : Net) : Net := ifN (unOk M N) (unN M N)
theorem unOk_f {M N : Net} (h : unB M N = false) : unOk M N = false := by rw [unOk, h]; rfl
theorem unOk_t {M N : Net} (h : unB M N = true) : unOk M N = netB (unN M N) := by rw [unOk, h]; rfl
theorem unR_f {M N : Net} (h : unB M N = false) : unR M N = nilN := by rw [unR, unOk_f h]; rfl
theorem unR_t {M N : Net} (h : unB M N = true) : unR M N = ifN (netB (unN M N)) (unN M N) := by rw [unR, unOk_t h]
theorem unB_f0 {M N : Net} (h : netB M = false) : unB M N = false := by rw [unB, h]; rfl
theorem unB_f1 {M N : Net} (h : netB N = false) : unB M N = false := by rw [unB, h, Bool.and_false]; rfl
theorem unB_n {M N : Net} (h : netB M = true) (h2 : netB N = true) : unB M N = (decide (M.ids.length = 0) == decide (N.ids.length = 0)) := by rw [unB, h, h2]; rfl
theorem total_append {α : Type} (xs ys : List (List α)) : Total (xs ++ ys) = Total xs + Total ys := by simp [Total]
theorem total_shR (k : Nat) (rows : Rows2) : Total (rows.map (shR k)) = Total rows := by
  unfold Total
  rw [List.map_map]
  congr 1
  exact List.map_congr_left fun r _ => shR_length k r
theorem unN_small {M N : Net} (h : NetSmall M) (h2 : NetSmall N) (hm : M.ends.length + Total M.ends + M.ids.length + M.inputs.length + (N.ends.length + Total N.ends + N.ids.length + N.inputs.length) ≤ 1048576) : NetSmall (unN M N) := by
  unfold NetSmall unN
  show (M.ends ++ N.ends.map (shR M.ends.length)).length + Total (M.ends ++ N.ends.map (shR M.ends.length)) + (M.ids ++ N.ids).length + (M.inputs ++ N.inputs).length ≤ 1048576
  rw [total_append, total_shR, List.length_append, List.length_append, List.length_append, List.length_map]
  omega
theorem unN_small2 {M N : Net} (h : netB M = true) (h2 : netB N = true) : NetSmall (unN M N) := by
  have h3 := netB_small h
  have h4 := netB_small h2
  exact unN_small (by unfold NetSmall; omega) (by unfold NetSmall; omega) (by omega)
theorem unR_sm {M N : Net} : NetSmall (unR M N) := ifN_small fun h => by
  unfold unOk unB at h
  simp only [Bool.and_eq_true] at h
  exact unN_small2 h.1.1.1 h.1.1.2
/-! ### SubdivideEdges -/
theorem edTo_mem {rows : Rows2} {k : Nat} {q : Q4} (h : q ∈ edTo rows k) : ∃ v i, v < k ∧ i < (rowOf rows v).length ∧ q = ⟨v, i, (nthE (rowOf rows v) i).1, (nthE (rowOf rows v) i).2⟩ := by
  induction k with
  | zero => cases h
  | succ k ih =>
    rw [edTo, List.mem_append] at h
    rcases h with h | h
    · obtain ⟨v, i, h1, h2, h3⟩ := ih h
      exact ⟨v, i, by omega, h2, h3⟩
    · have hr : ∀ m, m ≤ (rowOf rows k).length → q ∈ rowTo (rowOf rows k) k m → ∃ i, i < (rowOf rows k).length ∧ q = ⟨k, i, (nthE (rowOf rows k) i).1, (nthE (rowOf rows k) i).2⟩ := by
        intro m hm
        induction m with
        | zero => intro h; cases h
        | succ m ihm =>
          intro h
          rw [rowTo, List.mem_append] at h
          rcases h with h | h
          · exact ihm (by omega) h
          · split at h
            · simp at h; exact ⟨m, by omega, h⟩
            · cases h
      obtain ⟨i, h1, h2⟩ := hr _ (Nat.le_refl _) h
      exact ⟨k, i, by omega, h1, h2⟩
theorem nthQ_mem (qs : List Q4) (j : Nat) (h : j < qs.length) : nthQ qs j ∈ qs := by
  unfold nthQ
  rw [List.getD_eq_getElem?_getD, List.getElem?_eq_getElem h]
  exact List.getElem_mem h
/-- an edge of a valid network -/
theorem edQ_at {N : Net} (h : netB N = true) {j : Nat} (hj : j < (edQ N.ends).length) : ∃ v i p q : Nat, nthQ (edQ N.ends) j = ⟨v, i, p, q⟩ ∧ v < N.ends.length ∧ i < (rowOf N.ends v).length ∧ p < N.ends.length ∧ q < (rowOf N.ends p).length := by
  obtain ⟨v, i, h1, h2, h3⟩ := edTo_mem (nthQ_mem _ _ hj)
  obtain ⟨p, q, e, hp, hq, _⟩ := net_back h h1 h2
  exact ⟨v, i, p, q, h3.trans (by rw [e]), h1, h2, hp, hq⟩
def setRE (R : Rows2) (v i : Nat) (e : Int × Int) : Rows2 := R.set v ((rowOf R v).set i e)
theorem setRE_length (R : Rows2) (v i : Nat) (e : Int × Int) : (setRE R v i e).length = R.length := List.length_set ..
theorem setRE_len (R : Rows2) (v i j : Nat) (e : Int × Int) (hv : v < R.length) : (rowOf (setRE R v i e) j).length = (rowOf R j).length := by
  rw [setRE, rowOf_set _ _ _ _ hv]
  split
  · rename_i c; subst c; exact List.length_set ..
  · rfl
def stubQ (q : Q4) : Bool := decide (q.a = q.c ∧ q.b = q.d)
def sdS (R : Rows2) (q : Q4) : Rows2 := setRE (setRE (R ++ [[(q.a, q.b), (q.c, q.d)]]) q.a.toNat q.b.toNat ((R.length : Int), 0)) q.c.toNat q.d.toNat ((R.length : Int), 1)
/-- the first k edges have been subdivided -/
def sdT (N : Net) : Nat → Net
  | 0 => { N with ids := [] }
  | k + 1 => if stubQ (nthQ (edQ N.ends) k) then sdT N k else { ends := sdS (sdT N k).ends (nthQ (edQ N.ends) k), ids := [], inputs := (sdT N k).inputs ++ [0] }
theorem sdT_ids (N : Net) (k : Nat) : (sdT N k).ids = [] := by
  induction k with
  | zero => rfl
  | succ k ih => rw [sdT]; split
                 · exact ih
                 · rfl
theorem sdT_facts {N : Net} (h : netB N = true) (k : Nat) (hk : k ≤ (edQ N.ends).length) : N.ends.length ≤ (sdT N k).ends.length ∧ (sdT N k).ends.length ≤ N.ends.length + k ∧ (∀ j, j < N.ends.length → (rowOf (sdT N k).ends j).length = (rowOf N.ends j).length) ∧ (∀ j, j < (sdT N k).ends.length → (rowOf (sdT N k).ends j).length ≤ 6) ∧ (sdT N k).inputs.length = (sdT N k).ends.length := by
  induction k with
  | zero => exact ⟨Nat.le_refl _, Nat.le_refl _, fun j hj => rfl, fun j hj => net_row h hj, (netB_small h).2.2.2.2⟩
  | succ k ih =>
    obtain ⟨h1, h2, h3, h4, h5⟩ := ih (by omega)
    rw [sdT]
    split
    · exact ⟨h1, by omega, h3, h4, h5⟩
    · obtain ⟨v, i, p, q, e, hv, hi, hp, hq⟩ := edQ_at h (show k < (edQ N.ends).length by omega)
      rw [e]
      have hl : (sdS (sdT N k).ends ⟨v, i, p, q⟩).length = (sdT N k).ends.length + 1 := by unfold sdS; rw [setRE_length, setRE_length, List.length_append]; rfl
      have hr : ∀ j, (rowOf (sdS (sdT N k).ends ⟨v, i, p, q⟩) j).length = (rowOf ((sdT N k).ends ++ [[((v : Int), (i : Int)), ((p : Int), (q : Int))]]) j).length := by
        intro j
        unfold sdS
        rw [setRE_len _ _ _ _ _ (by rw [setRE_length, List.length_append]; simp; omega), setRE_len _ _ _ _ _ (by rw [List.length_append]; simp; omega)]
      refine ⟨?_, ?_, fun j hj => ?_, fun j hj => ?_, ?_⟩
      · show _ ≤ (sdS _ _).length; rw [hl]; omega
      · show (sdS _ _).length ≤ _; rw [hl]; omega
      · show (rowOf (sdS _ _) j).length = _; rw [hr, rowOf_append_left _ _ _ (by omega), h3 j hj]
      · show (rowOf (sdS _ _) j).length ≤ 6
        have hj2 : j < (sdT N k).ends.length + 1 := by rw [← hl]; exact hj
        rw [hr]
        by_cases c : j < (sdT N k).ends.length
        · rw [rowOf_append_left _ _ _ c]; exact h4 j c
        · rw [rowOf_append_right _ _ _ (by omega), show j - (sdT N k).ends.length = 0 by omega]; show 2 ≤ 6; omega
      · show ((sdT N k).inputs ++ [0]).length = (sdS _ _).length; rw [hl, List.length_append, h5]; rfl
def sdN (N : Net) : Net := sdT N (edQ N.ends).length
def sdOk (N : Net) : Bool := netB N && netB (sdN N)
def sdR (N : Net) : Net := ifN (sdOk N) (sdN N)
theorem sdOk_f {N : Net} (h : netB N = false) : sdOk N = false := by rw [sdOk, h]; rfl
theorem sdOk_t {N : Net} (h : netB N = true) : sdOk N = netB (sdN N) := by rw [sdOk, h]; rfl
theorem sdR_f {N : Net} (h : sdOk N = false) : sdR N = nilN := by rw [sdR, h]; rfl
theorem sdR_t {N : Net} (h : netB N = true) : sdR N = ifN (netB (sdN N)) (sdN N) := by rw [sdR, sdOk_t h]
theorem edQ_240 {N : Net} (h : netB N = true) : (edQ N.ends).length ≤ 240 := by
  have h1 := netB_small h
  have h2 := edTo_le N.ends N.ends.length (Nat.le_refl _)
  have h3 := total_take_le N.ends N.ends.length
  unfold edQ
  omega
theorem sdT_small {N : Net} (h : netB N = true) (k : Nat) (hk : k ≤ (edQ N.ends).length) : NetSmall (sdT N k) := by
  obtain ⟨h1, h2, h3, h4, h5⟩ := sdT_facts h k hk
  have h6 := total_le (sdT N k).ends 6 h4
  have h7 := netB_small h
  have h8 := edQ_240 h
  unfold NetSmall
  rw [sdT_ids, List.length_nil]
  omega
theorem sdR_sm {N : Net} : NetSmall (sdR N) := ifN_small fun h => by
  unfold sdOk at h
  rw [Bool.and_eq_true] at h
  exact sdT_small h.1 _ (Nat.le_refl _)
end Go.Proofs.Ytlooinhdehkcdaa
