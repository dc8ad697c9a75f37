/- Plain: identifiers: sorted and strictly increasing is the same as all different. -/
import Derived.Test.YtlooinhdehkcdaaAll
namespace Go.Proofs.Ytlooinhdehkcdaa
set_option linter.unusedVariables false
def Diff (l : List Int) : Prop := ∀ i j, i < j → j < l.length → nth l i ≠ nth l j
theorem diff_nodup (l : List Int) : Diff l ↔ l.Nodup := by
  rw [List.nodup_iff_pairwise_ne, List.pairwise_iff_getElem]
  constructor
  · intro h i j hi hj hij
    have := h i j hij hj
    rwa [nth_eq_getElem _ _ hi, nth_eq_getElem _ _ hj] at this
  · intro h i j hij hj
    have := h i j (by omega) hj hij
    rwa [nth_eq_getElem _ _ (by omega), nth_eq_getElem _ _ hj]
theorem ris_lt {l : List Int} {lo hi : Int} (h : Ris l lo hi) : ∀ i j, i < j → j < l.length → nth l i < nth l j := by
  intro i j
  induction j with
  | zero => intro h1; omega
  | succ j ih =>
    intro h1 h2
    have h3 := (h (j + 1) h2).2.2 (by omega)
    rw [Nat.add_sub_cancel] at h3
    by_cases e : i = j
    · rw [e]; exact h3
    · have := ih (by omega) (by omega); omega
theorem allIn_mem {l : List Int} {lo hi : Int} : AllIn l lo hi ↔ ∀ x ∈ l, lo ≤ x ∧ x ≤ hi := by
  constructor
  · intro h x hx
    obtain ⟨j, hj, rfl⟩ := List.getElem_of_mem hx
    rw [← nth_eq_getElem l j hj]; exact h j hj
  · intro h j hj; exact h _ (nth_mem _ _ hj)
theorem sort_ris (l : List Int) (lo hi : Int) : Ris (l.mergeSort fun x y => decide (x ≤ y)) lo hi ↔ AllIn l lo hi ∧ Diff l := by
  have hperm := List.mergeSort_perm l (fun x y : Int => decide (x ≤ y))
  have hsort := List.pairwise_mergeSort (le := fun x y : Int => decide (x ≤ y)) (by intro a b c h1 h2; simp only [decide_eq_true_eq] at *; omega) (by intro a b; simp only [Bool.or_eq_true, decide_eq_true_eq]; omega) l
  generalize l.mergeSort (fun x y => decide (x ≤ y)) = s at *
  constructor
  · intro h
    refine ⟨allIn_mem.2 fun x hx => ?_, (diff_nodup l).2 (hperm.nodup_iff.1 ((diff_nodup s).1 fun i j h1 h2 he => ?_))⟩
    · have hx2 := hperm.mem_iff.2 hx
      obtain ⟨j, hj, rfl⟩ := List.getElem_of_mem hx2
      rw [← nth_eq_getElem s j hj]; exact ⟨(h j hj).1, (h j hj).2.1⟩
    · have := ris_lt h i j h1 h2; omega
  · rintro ⟨h1, h2⟩ j hj
    have hs : s.Nodup := hperm.nodup_iff.2 ((diff_nodup l).1 h2)
    have hr := allIn_mem.1 h1 _ (hperm.mem_iff.1 (nth_mem s j hj))
    refine ⟨hr.1, hr.2, fun h0 => ?_⟩
    have h3 := (List.pairwise_iff_getElem.1 hsort) (j - 1) j (by omega) hj (by omega)
    have h4 := (diff_nodup s).2 hs (j - 1) j (by omega) hj
    simp only [decide_eq_true_eq] at h3
    rw [← nth_eq_getElem s (j - 1) (by omega), ← nth_eq_getElem s j hj] at h3
    omega
/-- the lists that may be identifiers -/
def IdsOk (ids : List Int) (nodes : Nat) : Prop := AllIn ids 1 999999 ∧ Diff ids ∧ (ids.length = 0 ∨ ids.length = nodes)
instance (l : List Int) : Decidable (Diff l) := decidable_of_iff l.Nodup (diff_nodup l).symm
instance (ids : List Int) (nodes : Nat) : Decidable (IdsOk ids nodes) := by unfold IdsOk; infer_instance
def idsB (ids : List Int) (nodes : Nat) : Bool := decide (IdsOk ids nodes)
theorem idsB_empty (nodes : Nat) : idsB [] nodes = true := decide_eq_true ⟨fun j hj => absurd hj (by simp), fun i j _ hj => absurd hj (by simp), .inl rfl⟩
theorem idsB_sorted {ids : List Int} {nodes : Nat} (h0 : 0 < ids.length) : idsB ids nodes = (decide (ids.length = nodes) && risB (ids.mergeSort fun x y => decide (x ≤ y)) 1 999999) := by
  have e1 : idsB ids nodes = true ↔ IdsOk ids nodes := decide_eq_true_iff
  have e2 : risB (ids.mergeSort fun x y => decide (x ≤ y)) 1 999999 = true ↔ Ris (ids.mergeSort fun x y => decide (x ≤ y)) 1 999999 := decide_eq_true_iff
  rw [Bool.eq_iff_iff, e1, Bool.and_eq_true, e2, sort_ris, decide_eq_true_iff]
  constructor
  · rintro ⟨h1, h2, h3⟩; exact ⟨by omega, h1, h2⟩
  · rintro ⟨h3, h1, h2⟩; exact ⟨h1, h2, .inr h3⟩
end Go.Proofs.Ytlooinhdehkcdaa
