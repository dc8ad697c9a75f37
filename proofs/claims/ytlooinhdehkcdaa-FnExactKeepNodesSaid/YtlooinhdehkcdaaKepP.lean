/- KeepNodes: the plain law. -/
import Derived.Test.YtlooinhdehkcdaaPrtP
import Derived.Test.YtlooinhdehkcdaaRmvE
import Derived.Test.YtlooinhdehkcdaaRise
import Derived.Test.YtlooinhdehkcdaaPlE
namespace Go.Proofs.Ytlooinhdehkcdaa
open Go.RowKit
set_option linter.unusedVariables false
set_option linter.unusedSimpArgs false
/-- impl's ports that are kept, spec's ports that are kept -/
def kpK (rows : Rows2) (l : List Int) (v i : Nat) : Bool := hasB l (nthE (rowOf rows v) i).1
def kpS (rows : Rows2) (l : List Int) (v i : Nat) : Bool := hasB l (v : Int) && hasB l (nthE (rowOf rows v) i).1
/-- the new numbers of the first k nodes -/
def toL (n : Nat) (l : List Int) : Nat → List Int
  | 0 => List.replicate n 0
  | k + 1 => (toL n l k).set (nth l k).toNat (k : Int)
theorem toL_length (n : Nat) (l : List Int) (k : Nat) : (toL n l k).length = n := by
  induction k with
  | zero => simp [toL]
  | succ k ih => rw [toL, List.length_set, ih]
theorem toL_nth {n : Nat} {l : List Int} (h : Ris l 0 ((n : Int) - 1)) : ∀ m, m ≤ l.length → ∀ k, k < m → nth (toL n l m) (nth l k).toNat = (k : Int) := by
  intro m
  induction m with
  | zero => intro _ k hk; omega
  | succ m ih =>
    intro hm k hk
    have h1 := h m (by omega)
    have h1a := h1.1
    have h1b := h1.2.1
    rw [toL, nth_set _ _ _ _ (by rw [toL_length]; omega)]
    by_cases e : k = m
    · subst e; rw [if_pos rfl]
    · have h2 := ris_lt h k m (by omega) (by omega)
      have h3 := (h k (by omega)).1
      rw [if_neg (by omega)]
      exact ih (by omega) k (by omega)
theorem ris_ge {n : Nat} {l : List Int} (h : Ris l 0 ((n : Int) - 1)) : ∀ k, k < l.length → (k : Int) ≤ nth l k := by
  intro k
  induction k with
  | zero => intro hk; have := (h 0 hk).1; omega
  | succ k ih => intro hk; have := ih (by omega); have := ris_lt h k (k + 1) (by omega) hk; omega
theorem ris_len {n : Nat} {l : List Int} (h : Ris l 0 ((n : Int) - 1)) : l.length ≤ n := by
  by_cases e : l.length = 0
  · omega
  · have h1 := ris_ge h (l.length - 1) (by omega)
    have h2 := (h (l.length - 1) (by omega)).2.1
    omega
def posL (n : Nat) (l : List Int) (x : Int) : Int := nth (toL n l l.length) x.toNat
def kpOk (N : Net) (l : List Int) : Bool := netB N && (decide (l.length ≠ 0) && risB l 0 ((N.ends.length : Int) - 1))
def kpN (N : Net) (l : List Int) : Net := if kpOk N l then partN N l (kpK N.ends l) (posL N.ends.length l) else ⟨[], [], []⟩
theorem kpPart {N : Net} (h : netB N = true) {l : List Int} (hl : Ris l 0 ((N.ends.length : Int) - 1)) : PartOk N l (kpK N.ends l) (posL N.ends.length l) := by
  refine ⟨Nat.le_trans (ris_len hl) (netB_small h).1, fun k hk => ?_⟩
  obtain ⟨h1, h2, _⟩ := hl k hk
  have hpos := toL_nth hl l.length (Nat.le_refl _) k hk
  obtain ⟨v, hv⟩ : ∃ v : Nat, nth l k = (v : Int) := ⟨(nth l k).toNat, by omega⟩
  rw [hv] at hpos
  refine ⟨v, hv, by omega, hpos, fun i hi hkp => ?_⟩
  obtain ⟨p, q, e, hp, hq, eb⟩ := net_back h (show v < N.ends.length by omega) hi
  unfold kpK at hkp
  rw [e] at hkp
  obtain ⟨k', hk', hk2⟩ := of_decide_eq_true hkp
  refine ⟨k', hk', by rw [e]; exact hk2.symm, ?_⟩
  unfold kpK
  rw [e]
  simp only [Int.toNat_natCast]
  rw [eb]
  exact (hasB_t hk hv).symm
theorem kp_row {N : Net} (h : netB N = true) {l : List Int} {v : Nat} (hv : v < N.ends.length) (hh : hasB l (v : Int) = true) :
    (ctRow N.ends (kpS N.ends l) (fun x => x) v).map (fun e => (posL N.ends.length l e.1, e.2)) = ctRow N.ends (kpK N.ends l) (posL N.ends.length l) v := by
  unfold ctRow
  rw [gRow_map]
  refine gRow_congr (n := (rowOf N.ends v).length) (fun j hj => ?_) _ (Nat.le_refl _)
  have e1 : kpS N.ends l v j = kpK N.ends l v j := by unfold kpS kpK; rw [hh]; rfl
  refine ⟨e1, fun hk => ?_⟩
  rw [e1] at hk
  obtain ⟨p, q, e, hp, hq, _⟩ := net_back h hv hj
  unfold kpK at hk
  rw [e] at hk ⊢
  unfold ctE
  simp only [Int.toNat_natCast]
  rw [rkF_congr (n := q) (fun j' _ => show kpS N.ends l p j' = kpK N.ends l p j' by unfold kpS kpK; rw [hk]; rfl) q (Nat.le_refl _)]
/-- spec's marks when nodes ahead of v are done, and v's first i ports -/
def keT (rows : Rows2) (f : Nat → Nat → Bool) (v i : Nat) : List (List Bool) := (List.range rows.length).map fun w => (List.range (rowOf rows w).length).map fun j => if w < v ∨ w = v ∧ j < i then f w j else true
theorem keT_length (rows : Rows2) (f : Nat → Nat → Bool) (v i : Nat) : (keT rows f v i).length = rows.length := by simp [keT]
theorem keT_row {rows : Rows2} {w : Nat} (f : Nat → Nat → Bool) (v i : Nat) (h : w < rows.length) : rowOf (keT rows f v i) w = (List.range (rowOf rows w).length).map fun j => if w < v ∨ w = v ∧ j < i then f w j else true := rowOf_rangeMap _ _ _ h
theorem keT_same (rows : Rows2) (f : Nat → Nat → Bool) (v i : Nat) : sameB rows (keT rows f v i) := ⟨keT_length .., fun w hw => by rw [keT_row _ _ _ hw]; simp⟩
theorem nthB_rangeMap (n : Nat) (f : Nat → Bool) (j : Nat) (h : j < n) : nthB ((List.range n).map f) j = f j := by
  unfold nthB
  rw [List.getD_eq_getElem?_getD, List.getElem?_map, List.getElem?_range h]; rfl
theorem keT_kp {rows : Rows2} {w j : Nat} (f : Nat → Nat → Bool) (v i : Nat) (hw : w < rows.length) (hj : j < (rowOf rows w).length) : kpOf (keT rows f v i) w j = if w < v ∨ w = v ∧ j < i then f w j else true := by
  unfold kpOf
  rw [keT_row _ _ _ hw, nthB_rangeMap _ _ _ hj]
theorem listB_ext {xs ys : List Bool} (hl : xs.length = ys.length) (h : ∀ j, j < xs.length → nthB xs j = nthB ys j) : xs = ys := by
  apply List.ext_getElem hl
  intro j h1 h2
  have := h j h1
  unfold nthB at this
  rwa [List.getD_eq_getElem?_getD, List.getElem?_eq_getElem h1, List.getD_eq_getElem?_getD, List.getElem?_eq_getElem h2] at this
theorem marks_ext {rows : Rows2} {K K' : List (List Bool)} (h : sameB rows K) (h' : sameB rows K') (he : ∀ w, w < rows.length → ∀ j, j < (rowOf rows w).length → kpOf K w j = kpOf K' w j) : K = K' := by
  refine rows_ext (by rw [h.1, h'.1]) fun w hw => ?_
  rw [h.1] at hw
  refine listB_ext (by rw [h.2 w hw, h'.2 w hw]) fun j hj => ?_
  rw [h.2 w hw] at hj
  exact he w hw j hj
theorem keT_zero (rows : Rows2) (f : Nat → Nat → Bool) : keT rows f 0 0 = allT rows :=
  marks_ext (keT_same ..) (sameB_all rows) fun w hw j hj => by
    rw [keT_kp _ _ _ hw hj, kpOf_all hw hj, if_neg (by omega)]
theorem keT_set {rows : Rows2} {v i : Nat} (f : Nat → Nat → Bool) (hv : v < rows.length) (hi : i < (rowOf rows v).length) : setB (keT rows f v i) v i (f v i) = keT rows f v (i + 1) :=
  marks_ext (sameB_setB _ _ (keT_same ..) hv) (keT_same ..) fun w hw j hj => by
    have hs := keT_same rows f v i
    rw [kpOf_setB _ (by rw [hs.1]; exact hv) (by rw [hs.2 v hv]; exact hi), keT_kp _ _ _ hw hj, keT_kp _ _ _ hw hj]
    by_cases e : w = v ∧ j = i
    · obtain ⟨rfl, rfl⟩ := e
      rw [if_pos ⟨rfl, rfl⟩, if_pos (by omega)]
    · rw [if_neg e]
      by_cases e2 : w < v ∨ w = v ∧ j < i
      · rw [if_pos e2, if_pos (by omega)]
      · rw [if_neg e2, if_neg (by omega)]
theorem keT_next {rows : Rows2} {v : Nat} (f : Nat → Nat → Bool) : keT rows f v (rowOf rows v).length = keT rows f (v + 1) 0 :=
  marks_ext (keT_same ..) (keT_same ..) fun w hw j hj => by
    rw [keT_kp _ _ _ hw hj, keT_kp _ _ _ hw hj]
    by_cases e : w = v
    · subst e; rw [if_pos (by omega), if_pos (by omega)]
    · by_cases e2 : w < v
      · rw [if_pos (by omega), if_pos (by omega)]
      · rw [if_neg (by omega), if_neg (by omega)]
theorem keT_cut {N : Net} (h : netB N = true) (f : Nat → Nat → Bool) : cutN N (kpOf (keT N.ends f N.ends.length 0)) = cutN N f :=
  cutN_congr h fun v hv i hi => by rw [keT_kp _ _ _ hv hi, if_pos (by omega)]
theorem kpN_f {N : Net} {l : List Int} (h : kpOk N l = false) : kpN N l = nilN := by rw [kpN, h]; rfl
theorem kpN_t {N : Net} {l : List Int} (h : kpOk N l = true) : kpN N l = partN N l (kpK N.ends l) (posL N.ends.length l) := by rw [kpN, h]; rfl
theorem kpOk_f0 {N : Net} {l : List Int} (h : netB N = false) : kpOk N l = false := by rw [kpOk, h]; rfl
theorem kpOk_f1 {N : Net} {l : List Int} (h : l.length = 0) : kpOk N l = false := by rw [kpOk, h]; simp
theorem kpOk_n {N : Net} {l : List Int} (h : netB N = true) (hl : 0 < l.length) : kpOk N l = risB l 0 ((N.ends.length : Int) - 1) := by rw [kpOk, h, decide_eq_true (by omega)]; rfl
theorem kpOk_ris {N : Net} {l : List Int} (h : kpOk N l = true) : netB N = true ∧ 0 < l.length ∧ Ris l 0 ((N.ends.length : Int) - 1) := by
  unfold kpOk at h
  simp only [Bool.and_eq_true, decide_eq_true_eq] at h
  exact ⟨h.1, by omega, of_decide_eq_true h.2.2⟩
theorem kpN_sm {N : Net} {l : List Int} : NetSmall (kpN N l) := by
  unfold kpN
  split
  · rename_i h
    obtain ⟨h1, _, h3⟩ := kpOk_ris h
    exact partN_small h1 (kpPart h1 h3)
  · show (0 : Nat) + 0 + 0 + 0 ≤ _; omega
end Go.Proofs.Ytlooinhdehkcdaa
