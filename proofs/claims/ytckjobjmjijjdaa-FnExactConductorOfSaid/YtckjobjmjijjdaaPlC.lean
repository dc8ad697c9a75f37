/- Plain: which numbers are sums of lengths. -/
namespace Go.Proofs.Ytckjobjmjijjdaa
set_option linter.unusedVariables false
/-- is m a sum of numbers of l (by fuel) -/
def smF (l : List Int) : Nat → Nat → Bool
  | 0, m => m == 0
  | f + 1, m => m == 0 || l.any fun x => decide (x ≤ (m : Int)) && smF l f (m - x.toNat)
def sm (l : List Int) (m : Nat) : Bool := smF l m m
def Pos (l : List Int) : Prop := ∀ x ∈ l, 1 ≤ x ∧ x ≤ 40
theorem any_congr_mem {α : Type} {l : List α} {p q : α → Bool} (h : ∀ x ∈ l, p x = q x) : l.any p = l.any q := by
  induction l with
  | nil => rfl
  | cons a l ih => rw [List.any_cons, List.any_cons, h a (by simp), ih fun x hx => h x (by simp [hx])]
theorem smF_any (l : List Int) (hl : Pos l) (f : Nat) : ∀ g m : Nat, m ≤ f → m ≤ g → smF l f m = smF l g m := by
  induction f with
  | zero =>
    intro g m h _
    obtain rfl : m = 0 := by omega
    cases g <;> simp [smF]
  | succ f ih =>
    intro g m h h'
    cases g with
    | zero => obtain rfl : m = 0 := by omega
              simp [smF]
    | succ g =>
      simp only [smF]
      by_cases h0 : m = 0
      · subst h0; simp
      · congr 1
        apply any_congr_mem
        intro x hx
        have := (hl x hx).1
        by_cases hle : x ≤ (m : Int)
        · rw [ih g (m - x.toNat) (by omega) (by omega)]
        · rw [decide_eq_false hle]; rfl
theorem sm_zero (l : List Int) : sm l 0 = true := rfl
theorem sm_pos (l : List Int) (hl : Pos l) (m : Nat) (h : 0 < m) : sm l m = l.any fun x => decide (x ≤ (m : Int)) && sm l (m - x.toNat) := by
  unfold sm
  obtain ⟨k, rfl⟩ : ∃ k, m = k + 1 := ⟨m - 1, by omega⟩
  rw [smF]
  have h0 : ((k + 1 : Nat) == 0) = false := by simp
  rw [h0, Bool.false_or]
  apply any_congr_mem
  intro x hx
  have := (hl x hx).1
  by_cases hle : x ≤ ((k + 1 : Nat) : Int)
  · rw [smF_any l hl k (k + 1 - x.toNat) (k + 1 - x.toNat) (by omega) (by omega)]
  · rw [decide_eq_false hle]; rfl
/-- a sum, as a list of numbers of l -/
theorem sm_iff (l : List Int) (hl : Pos l) : ∀ m : Nat, sm l m = true ↔ ∃ L : List Int, (∀ x ∈ L, x ∈ l) ∧ L.sum = (m : Int) := by
  intro m
  induction m using Nat.strongRecOn with
  | _ m ih =>
    by_cases h0 : m = 0
    · subst h0
      exact ⟨fun _ => ⟨[], by simp, by simp⟩, fun _ => sm_zero l⟩
    · rw [sm_pos l hl m (by omega), List.any_eq_true]
      constructor
      · rintro ⟨x, hx, h⟩
        simp only [Bool.and_eq_true, decide_eq_true_eq] at h
        have h1 := (hl x hx).1
        obtain ⟨L, hL, hs⟩ := (ih (m - x.toNat) (by omega)).1 h.2
        refine ⟨x :: L, fun y hy => ?_, ?_⟩
        · rcases List.mem_cons.1 hy with rfl | hy
          · exact hx
          · exact hL y hy
        · rw [List.sum_cons, hs]; omega
      · rintro ⟨L, hL, hs⟩
        cases L with
        | nil => simp at hs; omega
        | cons x L =>
          have hx := hL x (by simp)
          have h1 := (hl x hx).1
          have hnn : 0 ≤ L.sum := by
            have : ∀ L : List Int, (∀ y ∈ L, y ∈ l) → 0 ≤ L.sum := by
              intro L
              induction L with
              | nil => intro _; simp
              | cons y L ih2 => intro hL; rw [List.sum_cons]; have := (hl y (hL y (by simp))).1; have := ih2 fun z hz => hL z (by simp [hz]); omega
            exact this L fun y hy => hL y (by simp [hy])
          rw [List.sum_cons] at hs
          refine ⟨x, hx, ?_⟩
          simp only [Bool.and_eq_true, decide_eq_true_eq]
          refine ⟨by omega, (ih (m - x.toNat) (by omega)).2 ⟨L, fun y hy => hL y (by simp [hy]), by omega⟩⟩
theorem mul_add_one' (t : Nat) (x : Int) : ((t + 1 : Nat) : Int) * x = (t : Int) * x + x := by
  rw [Int.natCast_add, Int.add_mul]; simp
/-- with x at the head: some number of x, and the rest -/
theorem sm_cons (x : Int) (l : List Int) (hl : Pos (x :: l)) : ∀ m : Nat, sm (x :: l) m = true → ∃ t : Nat, (t : Int) * x ≤ m ∧ sm l (m - ((t : Int) * x).toNat) = true := by
  have hl2 : Pos l := fun y hy => hl y (by simp [hy])
  have hx := (hl x (by simp)).1
  intro m
  induction m using Nat.strongRecOn with
  | _ m ih =>
    intro h
    by_cases h0 : m = 0
    · subst h0; exact ⟨0, by simp, by simp [sm_zero]⟩
    · rw [sm_pos _ hl m (by omega), List.any_eq_true] at h
      obtain ⟨y, hy, h⟩ := h
      simp only [Bool.and_eq_true, decide_eq_true_eq] at h
      have h1 := (hl y hy).1
      obtain ⟨t, ht, hs⟩ := ih (m - y.toNat) (by omega) h.2
      rcases List.mem_cons.1 hy with rfl | hy
      · refine ⟨t + 1, ?_, ?_⟩
        · rw [mul_add_one']; omega
        · rw [mul_add_one', show m - ((t : Int) * y + y).toNat = m - y.toNat - ((t : Int) * y).toNat by
            have : 0 ≤ (t : Int) * y := Int.mul_nonneg (by omega) (by omega)
            omega]
          exact hs
      · refine ⟨t, by omega, ?_⟩
        have hnn : 0 ≤ (t : Int) * x := Int.mul_nonneg (by omega) (by omega)
        obtain ⟨L, hL, hLs⟩ := (sm_iff l hl2 _).1 hs
        exact (sm_iff l hl2 _).2 ⟨y :: L, fun z hz => by rcases List.mem_cons.1 hz with rfl | hz; exact hy; exact hL z hz, by rw [List.sum_cons, hLs]; omega⟩
/-- the greatest number of x, at most t, that leaves a sum of l -/
def topT (l : List Int) (x : Int) (n : Nat) : Nat → Nat
  | 0 => 0
  | t + 1 => if sm l (n - (((t + 1 : Nat) : Int) * x).toNat) then t + 1 else topT l x n t
def parts : List Int → Nat → List Int
  | [], _ => []
  | x :: l, n => (topT l x n (n / x.toNat) : Int) :: parts l (n - ((topT l x n (n / x.toNat) : Int) * x).toNat)
theorem topT_le (l : List Int) (x : Int) (n : Nat) : ∀ t, topT l x n t ≤ t := by
  intro t
  induction t with
  | zero => simp [topT]
  | succ t ih => rw [topT]; split <;> omega
theorem topT_yes (l : List Int) (x : Int) (n t : Nat) (h : sm l (n - ((t : Int) * x).toNat) = true) : topT l x n t = t := by
  cases t with
  | zero => rfl
  | succ t => rw [topT, if_pos h]
theorem topT_no (l : List Int) (x : Int) (n t : Nat) (h : sm l (n - (((t + 1 : Nat) : Int) * x).toNat) = false) : topT l x n (t + 1) = topT l x n t := by
  rw [topT, if_neg (by rw [h]; simp)]
theorem parts_length : ∀ (l : List Int) (n : Nat), (parts l n).length = l.length := by
  intro l
  induction l with
  | nil => intro n; rfl
  | cons x l ih => intro n; rw [parts, List.length_cons, ih]; rfl
end Go.Proofs.Ytckjobjmjijjdaa
