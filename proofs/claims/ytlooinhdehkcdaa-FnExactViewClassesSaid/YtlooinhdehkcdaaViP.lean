/- Classes of views: the plain law. -/
import Derived.Test.YtlooinhdehkcdaaEnds
import Derived.Test.YtlooinhdehkcdaaEmpty
namespace Go.Proofs.Ytlooinhdehkcdaa
open Go.RowKit
set_option linter.unusedVariables false
set_option linter.unusedSimpArgs false
abbrev RowsV := List (List (Int × Int))
theorem nth_setW (zs : List Int) (i j : Nat) (z : Int) (hi : i < zs.length) : nth (zs.set i z) j = if j = i then z else nth zs j := by
  unfold nth
  by_cases e : j = i
  · subst e; simp [List.getD, hi]
  · rw [if_neg e]; simp [List.getD, List.getElem?_set_ne (Ne.symm e)]
theorem nth_rangeW (n : Nat) (f : Nat → Int) (j : Nat) (h : j < n) : nth ((List.range n).map f) j = f j := by
  rw [nth_eq_getElem _ _ (by simpa using h)]; simp
/-- the first k of n numbers are told by f, the others are 0 -/
def upW (f : Nat → Int) (n k : Nat) : List Int := (List.range n).map fun j => if j < k then f j else 0
theorem upW_length (f : Nat → Int) (n k : Nat) : (upW f n k).length = n := by simp [upW]
theorem upW_nth (f : Nat → Int) (n k j : Nat) (h : j < n) : nth (upW f n k) j = if j < k then f j else 0 := nth_rangeW _ _ _ h
theorem upW_zero (f : Nat → Int) (n : Nat) : upW f n 0 = List.replicate n 0 := by
  refine list_ext_nth (by rw [upW_length, List.length_replicate]) fun j hj => ?_
  rw [upW_length] at hj
  rw [upW_nth _ _ _ _ hj, if_neg (by omega), nth_replicate]
theorem upW_set (f : Nat → Int) (n k : Nat) (h : k < n) : (upW f n k).set k (f k) = upW f n (k + 1) := by
  refine list_ext_nth (by rw [List.length_set, upW_length, upW_length]) fun j hj => ?_
  rw [List.length_set, upW_length] at hj
  rw [nth_setW _ _ _ _ (by rw [upW_length]; exact h), upW_nth _ _ _ _ hj, upW_nth _ _ _ _ hj]
  by_cases c : j = k
  · subst c; rw [if_pos rfl, if_pos (by omega)]
  · rw [if_neg c]
    by_cases c2 : j < k
    · rw [if_pos c2, if_pos (by omega)]
    · rw [if_neg c2, if_neg (by omega)]
section
variable (q : Nat → Nat → Bool)
/-- no earlier one is alike -/
def frB (v : Nat) : Bool := (List.range v).all fun u => !q u v
/-- how many of the first k are the first of their kind -/
def manyF : Nat → Nat
  | 0 => 0
  | k + 1 => manyF k + if frB q k then 1 else 0
/-- the first one of v's kind -/
def firF (v : Nat) : Nat := ((List.range v).find? fun u => q u v).getD v
def clsF (v : Nat) : Nat := manyF q (firF q v)
structure EqB : Prop where
  rfl : ∀ u, q u u = true
  symm : ∀ u v, q u v = true → q v u = true
  trans : ∀ u v x, q u v = true → q v x = true → q u x = true
end
section
variable {q : Nat → Nat → Bool}
theorem frB_t {v : Nat} : frB q v = true ↔ ∀ u, u < v → q u v = false := by
  unfold frB; simp [List.all_eq_true]
theorem frB_f {u v : Nat} (hu : u < v) (h : q u v = true) : frB q v = false := by
  cases hf : frB q v
  · rfl
  · rw [frB_t.1 hf u hu] at h; cases h
theorem firF_spec (q : Nat → Nat → Bool) (v : Nat) : firF q v ≤ v ∧ (∀ u, u < firF q v → q u v = false) ∧ (firF q v < v → q (firF q v) v = true) := by
  unfold firF
  cases h : (List.range v).find? fun u => q u v with
  | none =>
    rw [List.find?_eq_none] at h
    refine ⟨Nat.le_refl _, fun u hu => ?_, fun hlt => absurd hlt (Nat.lt_irrefl _)⟩
    have := h u (by simpa using hu)
    simpa using this
  | some r =>
    rw [List.find?_range_eq_some] at h
    obtain ⟨h1, h2, h3⟩ := h
    have h2 : r < v := by simpa using h2
    exact ⟨Nat.le_of_lt h2, fun u hu => by simpa using h3 u hu, fun _ => by simpa using h1⟩
theorem firF_eq {v r : Nat} (hr : r ≤ v) (h0 : ∀ u, u < r → q u v = false) (h1 : r < v → q r v = true) : firF q v = r := by
  obtain ⟨a, b, c⟩ := firF_spec q v
  rcases Nat.lt_trichotomy (firF q v) r with h | h | h
  · have := c (by omega); rw [h0 _ h] at this; cases this
  · exact h
  · have := b r h; rw [h1 (by omega)] at this; cases this
theorem firF_same (E : EqB q) {u v : Nat} (hu : u ≤ v) (h : q u v = true) : firF q u = firF q v := by
  obtain ⟨a, b, c⟩ := firF_spec q u
  refine (firF_eq (by omega) (fun w hw => ?_) (fun hlt => ?_)).symm
  · cases hq : q w v
    · rfl
    · rw [← b w hw, E.trans w v u hq (E.symm _ _ h)]
  · by_cases hlt2 : firF q u < u
    · exact E.trans _ _ _ (c hlt2) h
    · rw [show firF q u = u by omega]; exact h
theorem clsF_same (E : EqB q) {u v : Nat} (hu : u ≤ v) (h : q u v = true) : clsF q u = clsF q v := by rw [clsF, clsF, firF_same E hu h]
theorem firF_fresh {v : Nat} (h : frB q v = true) : firF q v = v := firF_eq (Nat.le_refl _) (frB_t.1 h) (fun h => absurd h (Nat.lt_irrefl _))
theorem clsF_fresh {v : Nat} (h : frB q v = true) : clsF q v = manyF q v := by rw [clsF, firF_fresh h]
theorem fresh_firF (E : EqB q) (v : Nat) : frB q (firF q v) = true := by
  obtain ⟨a, b, c⟩ := firF_spec q v
  refine frB_t.2 fun u hu => ?_
  by_cases hlt : firF q v < v
  · cases hq : q u (firF q v)
    · rfl
    · rw [← b u hu, E.trans _ _ _ hq (c hlt)]
  · have e : firF q v = v := by omega
    have := b u hu
    rw [e]; exact this
theorem q_firF (E : EqB q) (v : Nat) : q (firF q v) v = true := by
  obtain ⟨a, b, c⟩ := firF_spec q v
  by_cases hlt : firF q v < v
  · exact c hlt
  · rw [show firF q v = v by omega]; exact E.rfl v
theorem manyF_mono (q : Nat → Nat → Bool) {a b : Nat} (h : a ≤ b) : manyF q a ≤ manyF q b := by
  induction b with
  | zero => rw [show a = 0 by omega]; exact Nat.le_refl _
  | succ b ih =>
    by_cases c : a = b + 1
    · rw [c]; exact Nat.le_refl _
    · have := ih (by omega)
      rw [manyF]; omega
theorem manyF_lt {a b : Nat} (h : a < b) (hf : frB q a = true) : manyF q a < manyF q b := by
  have := manyF_mono q (show a + 1 ≤ b by omega)
  rw [manyF, hf] at this
  simp at this; omega
theorem manyF_le (q : Nat → Nat → Bool) (k : Nat) : manyF q k ≤ k := by
  induction k with
  | zero => exact Nat.le_refl _
  | succ k ih => rw [manyF]; split <;> omega
theorem manyF_pos {k : Nat} (h : 0 < k) : 0 < manyF q k := by
  have h1 := manyF_mono q (show 1 ≤ k by omega)
  have h2 : manyF q 1 = 1 := rfl
  omega
theorem clsF_lt (E : EqB q) {v k : Nat} (h : v < k) : clsF q v < manyF q k := by
  have := (firF_spec q v).1
  exact manyF_lt (by omega) (fresh_firF E v)
theorem clsF_inj (E : EqB q) {u v : Nat} (h : clsF q u = clsF q v) : q u v = true := by
  have hf : firF q u = firF q v := by
    rcases Nat.lt_trichotomy (firF q u) (firF q v) with c | c | c
    · have := manyF_lt c (fresh_firF E u); unfold clsF at h; omega
    · exact c
    · have := manyF_lt c (fresh_firF E v); unfold clsF at h; omega
  have h1 := q_firF E u
  have h2 := q_firF E v
  rw [← hf] at h2
  exact E.trans _ _ _ (E.symm _ _ h1) h2
/-- the greatest class of the first k, and one more -/
theorem many_step (E : EqB q) (k : Nat) : max (manyF q k) (clsF q k + 1) = manyF q (k + 1) := by
  rw [manyF]
  cases hf : frB q k
  · have h1 := (firF_spec q k).1
    have hlt : firF q k < k := by
      by_cases c : firF q k = k
      · have := fresh_firF E k; rw [c, hf] at this; cases this
      · omega
    have := manyF_lt hlt (fresh_firF E k)
    rw [show clsF q k = manyF q (firF q k) from rfl]
    simp; omega
  · rw [clsF_fresh hf]; simp
theorem manyF_finer {q0 q1 : Nat → Nat → Bool} {n : Nat} (h : ∀ u v, u < n → v < n → q1 u v = true → q0 u v = true) {k : Nat} (hk : k ≤ n) : manyF q0 k ≤ manyF q1 k := by
  induction k with
  | zero => exact Nat.le_refl _
  | succ k ih =>
    have := ih (by omega)
    rw [manyF, manyF]
    cases hf : frB q0 k
    · simp; omega
    · have : frB q1 k = true := frB_t.2 fun u hu => by
        have h0 := frB_t.1 hf u hu
        cases h1 : q1 u k
        · rfl
        · rw [h u k (by omega) (by omega) h1] at h0; cases h0
      rw [this]; simp; omega
end
/-- the cells of node u's key once i of its ports are told -/
def kcF (rows : RowsV) (inputs cl : List Int) (has : Bool) (u i j : Nat) : Int :=
  if j = 0 then ((rowOf rows u).length : Int) else if j = 1 then nth inputs u else
  if has = true ∧ j < 2 + 2 * i then (if j % 2 = 0 then (nthE (rowOf rows u) (j / 2 - 1)).2 else nth cl (nthE (rowOf rows u) (j / 2 - 1)).1.toNat) else 0
def keyI (rows : RowsV) (inputs cl : List Int) (has : Bool) (u i : Nat) : List Int := (List.range 14).map (kcF rows inputs cl has u i)
def keyV (rows : RowsV) (inputs cl : List Int) (has : Bool) (u : Nat) : List Int := keyI rows inputs cl has u (rowOf rows u).length
theorem keyI_length (rows : RowsV) (inputs cl : List Int) (has : Bool) (u i : Nat) : (keyI rows inputs cl has u i).length = 14 := by simp [keyI]
theorem keyI_nth (rows : RowsV) (inputs cl : List Int) (has : Bool) (u i j : Nat) (h : j < 14) : nth (keyI rows inputs cl has u i) j = kcF rows inputs cl has u i j := nth_rangeW _ _ _ h
theorem keyI_no (rows : RowsV) (inputs cl : List Int) (u i i' : Nat) : keyI rows inputs cl false u i = keyI rows inputs cl false u i' := by
  simp [keyI, kcF]
theorem keyI_step (rows : RowsV) (inputs cl : List Int) (u i : Nat) (h : i < 6) : ((keyI rows inputs cl true u i).set (2 + 2 * i) (nthE (rowOf rows u) i).2).set (3 + 2 * i) (nth cl (nthE (rowOf rows u) i).1.toNat) = keyI rows inputs cl true u (i + 1) := by
  refine list_ext_nth (by simp [keyI]) fun j hj => ?_
  have hj : j < 14 := by simpa [keyI] using hj
  rw [nth_setW _ _ _ _ (by simp [keyI]; omega), nth_setW _ _ _ _ (by simp [keyI]; omega), keyI_nth _ _ _ _ _ _ _ hj, keyI_nth _ _ _ _ _ _ _ hj]
  unfold kcF
  by_cases c1 : j = 3 + 2 * i
  · subst c1
    rw [if_pos rfl, if_neg (by omega), if_neg (by omega), if_pos ⟨rfl, by omega⟩, if_neg (by omega), show (3 + 2 * i) / 2 - 1 = i by omega]
  · rw [if_neg c1]
    by_cases c2 : j = 2 + 2 * i
    · subst c2
      rw [if_pos rfl, if_neg (by omega), if_neg (by omega), if_pos ⟨rfl, by omega⟩, if_pos (by omega), show (2 + 2 * i) / 2 - 1 = i by omega]
    · rw [if_neg c2]
      by_cases c3 : j = 0
      · rw [if_pos c3, if_pos c3]
      · rw [if_neg c3, if_neg c3]
        by_cases c4 : j = 1
        · rw [if_pos c4, if_pos c4]
        · rw [if_neg c4, if_neg c4]
          by_cases c5 : j < 2 + 2 * i
          · rw [if_pos (show true = true ∧ j < 2 + 2 * i from ⟨rfl, c5⟩), if_pos (show true = true ∧ j < 2 + 2 * (i + 1) from ⟨rfl, by omega⟩)]
          · rw [if_neg (by simp; omega), if_neg (by simp; omega)]
/-- the first i ports are alike -/
def alI (rows : RowsV) (cl : List Int) (has : Bool) (u v i : Nat) : Prop := has = true → ∀ j, j < i → (nthE (rowOf rows u) j).2 = (nthE (rowOf rows v) j).2 ∧ nth cl (nthE (rowOf rows u) j).1.toNat = nth cl (nthE (rowOf rows v) j).1.toNat
/-- u and v are alike -/
def alB (rows : RowsV) (inputs cl : List Int) (has : Bool) (u v : Nat) : Bool := decide (keyV rows inputs cl has u = keyV rows inputs cl has v)
theorem alB_eqB (rows : RowsV) (inputs cl : List Int) (has : Bool) : EqB (alB rows inputs cl has) where
  rfl u := decide_eq_true rfl
  symm u v h := decide_eq_true (of_decide_eq_true h).symm
  trans u v x h h' := decide_eq_true ((of_decide_eq_true h).trans (of_decide_eq_true h'))
theorem alB_iff (rows : RowsV) (inputs cl : List Int) (has : Bool) (u v : Nat) (hu : (rowOf rows u).length ≤ 6) : alB rows inputs cl has u v = true ↔ (rowOf rows u).length = (rowOf rows v).length ∧ nth inputs u = nth inputs v ∧ alI rows cl has u v (rowOf rows u).length := by
  unfold alB
  rw [decide_eq_true_iff]
  constructor
  · intro h
    have hn : ∀ j, j < 14 → kcF rows inputs cl has u (rowOf rows u).length j = kcF rows inputs cl has v (rowOf rows v).length j := fun j hj => by
      rw [← keyI_nth _ _ _ _ _ _ _ hj, ← keyI_nth _ _ _ _ _ _ _ hj]
      exact congrArg (nth · j) h
    have h0 : (rowOf rows u).length = (rowOf rows v).length := by
      have := hn 0 (by omega); simp [kcF] at this; omega
    have h1 : nth inputs u = nth inputs v := by
      have := hn 1 (by omega); simpa [kcF] using this
    refine ⟨h0, h1, fun hh j hj => ?_⟩
    have a1 := hn (2 + 2 * j) (by omega)
    have a2 := hn (3 + 2 * j) (by omega)
    unfold kcF at a1 a2
    rw [if_neg (by omega), if_neg (by omega), if_pos ⟨hh, by omega⟩, if_pos (by omega), if_neg (by omega), if_neg (by omega), if_pos ⟨hh, by omega⟩, if_pos (by omega), show (2 + 2 * j) / 2 - 1 = j by omega] at a1
    rw [if_neg (by omega), if_neg (by omega), if_pos ⟨hh, by omega⟩, if_neg (by omega), if_neg (by omega), if_neg (by omega), if_pos ⟨hh, by omega⟩, if_neg (by omega), show (3 + 2 * j) / 2 - 1 = j by omega] at a2
    exact ⟨a1, a2⟩
  · rintro ⟨h0, h1, h2⟩
    unfold keyV keyI
    refine List.map_congr_left fun j hj => ?_
    have hj : j < 14 := by simpa using hj
    unfold kcF
    rw [← h0, h1]
    by_cases c0 : j = 0
    · rw [if_pos c0, if_pos c0]
    · rw [if_neg c0, if_neg c0]
      by_cases c1 : j = 1
      · rw [if_pos c1, if_pos c1]
      · rw [if_neg c1, if_neg c1]
        by_cases c2 : has = true ∧ j < 2 + 2 * (rowOf rows u).length
        · rw [if_pos c2, if_pos c2]
          have := h2 c2.1 (j / 2 - 1) (by omega)
          rw [this.1, this.2]
        · rw [if_neg c2, if_neg c2]
/-- the classes of all nodes -/
def clL (rows : RowsV) (inputs cl : List Int) (has : Bool) : List Int := upW (fun v => (clsF (alB rows inputs cl has) v : Int)) rows.length rows.length
theorem clL_length (rows : RowsV) (inputs cl : List Int) (has : Bool) : (clL rows inputs cl has).length = rows.length := upW_length _ _ _
theorem clL_nth (rows : RowsV) (inputs cl : List Int) (has : Bool) (v : Nat) (h : v < rows.length) : nth (clL rows inputs cl has) v = (clsF (alB rows inputs cl has) v : Int) := by
  rw [clL, upW_nth _ _ _ _ h, if_pos h]
/-- the classes of the views of depth t -/
def vcT (rows : RowsV) (inputs : List Int) : Nat → List Int
  | 0 => clL rows inputs [] false
  | t + 1 => clL rows inputs (vcT rows inputs t) true
def vqT (rows : RowsV) (inputs : List Int) : Nat → Nat → Nat → Bool
  | 0 => alB rows inputs [] false
  | t + 1 => alB rows inputs (vcT rows inputs t) true
theorem vqT_eqB (rows : RowsV) (inputs : List Int) (t : Nat) : EqB (vqT rows inputs t) := by cases t <;> exact alB_eqB _ _ _ _
theorem vcT_length (rows : RowsV) (inputs : List Int) (t : Nat) : (vcT rows inputs t).length = rows.length := by cases t <;> exact clL_length _ _ _ _
theorem vcT_nth (rows : RowsV) (inputs : List Int) (t v : Nat) (h : v < rows.length) : nth (vcT rows inputs t) v = (clsF (vqT rows inputs t) v : Int) := by cases t <;> exact clL_nth _ _ _ _ _ h
def vmT (rows : RowsV) (inputs : List Int) (t : Nat) : Nat := manyF (vqT rows inputs t) rows.length
/-- degrees and nodes are in range -/
def VIn (rows : RowsV) : Prop := ∀ v, v < rows.length → (rowOf rows v).length ≤ 6 ∧ ∀ i, i < (rowOf rows v).length → 0 ≤ (nthE (rowOf rows v) i).1 ∧ (nthE (rowOf rows v) i).1 < (rows.length : Int)
theorem vqT_finer {rows : RowsV} (inputs : List Int) (hin : VIn rows) (t : Nat) : ∀ u v, u < rows.length → v < rows.length → vqT rows inputs (t + 1) u v = true → vqT rows inputs t u v = true := by
  induction t with
  | zero =>
    intro u v hu hv h
    rw [vqT, alB_iff _ _ _ _ _ _ (hin u hu).1] at h
    rw [vqT, alB_iff _ _ _ _ _ _ (hin u hu).1]
    exact ⟨h.1, h.2.1, fun hh => by cases hh⟩
  | succ t ih =>
    intro u v hu hv h
    rw [vqT, alB_iff _ _ _ _ _ _ (hin u hu).1] at h
    rw [vqT, alB_iff _ _ _ _ _ _ (hin u hu).1]
    refine ⟨h.1, h.2.1, fun _ j hj => ?_⟩
    obtain ⟨p1, p2⟩ := h.2.2 rfl j hj
    have ru := (hin u hu).2 j hj
    have rv := (hin v hv).2 j (by omega)
    have hu' : (nthE (rowOf rows u) j).1.toNat < rows.length := by omega
    have hv' : (nthE (rowOf rows v) j).1.toNat < rows.length := by omega
    refine ⟨p1, ?_⟩
    generalize (nthE (rowOf rows u) j).1.toNat = a at *
    generalize (nthE (rowOf rows v) j).1.toNat = b at *
    rw [vcT_nth _ _ _ _ hu', vcT_nth _ _ _ _ hv'] at p2 ⊢
    have h1 := ih a b hu' hv' (clsF_inj (vqT_eqB _ _ _) (by omega))
    have E := vqT_eqB rows inputs t
    rcases Nat.le_total a b with c | c
    · rw [clsF_same E c h1]
    · rw [clsF_same E c (E.symm _ _ h1)]
theorem vmT_mono {rows : RowsV} (inputs : List Int) (hin : VIn rows) (t : Nat) : vmT rows inputs t ≤ vmT rows inputs (t + 1) := manyF_finer (vqT_finer inputs hin t) (Nat.le_refl _)
theorem vmT_le (rows : RowsV) (inputs : List Int) (t : Nat) : vmT rows inputs t ≤ rows.length := manyF_le _ _
/-- the least depth at which the classes are stable -/
def StabAt (rows : RowsV) (inputs : List Int) (t : Nat) : Prop := vmT rows inputs (t + 1) = vmT rows inputs t ∧ ∀ s, s < t → vmT rows inputs (s + 1) ≠ vmT rows inputs s
def stT (rows : RowsV) (inputs : List Int) : Nat := ((List.range 41).find? fun t => vmT rows inputs (t + 1) == vmT rows inputs t).getD 0
theorem stT_of {rows : RowsV} {inputs : List Int} {t : Nat} (h : t < 41) (hs : StabAt rows inputs t) : stT rows inputs = t := by
  unfold stT
  rw [show ((List.range 41).find? fun t => vmT rows inputs (t + 1) == vmT rows inputs t) = some t by
    rw [List.find?_range_eq_some]
    exact ⟨by simp [hs.1], by simpa using h, fun j hj => by simpa using hs.2 j hj⟩]
  rfl
end Go.Proofs.Ytlooinhdehkcdaa
