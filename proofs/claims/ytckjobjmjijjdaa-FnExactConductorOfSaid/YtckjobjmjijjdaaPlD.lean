/- Plain: from 1560 on every multiple of the greatest common divisor is a sum of lengths; the conductor. -/
import Derived.Test.YtckjobjmjijjdaaPlC
namespace Go.Proofs.Ytckjobjmjijjdaa
set_option linter.unusedVariables false
theorem pig (a : Nat) : ∀ f : Nat → Nat, (∀ i, i ≤ a → f i < a) → ∃ i j, i < j ∧ j ≤ a ∧ f i = f j := by
  induction a with
  | zero => intro f h; exact absurd (h 0 (Nat.le_refl _)) (by omega)
  | succ a ih =>
    intro f h
    by_cases hv : ∃ i, i ≤ a ∧ f i = f (a + 1)
    · obtain ⟨i, hi, he⟩ := hv
      exact ⟨i, a + 1, by omega, Nat.le_refl _, he⟩
    · have hv2 : ∀ i, i ≤ a → f i ≠ f (a + 1) := fun i hi he => hv ⟨i, hi, he⟩
      have hlast := h (a + 1) (Nat.le_refl _)
      obtain ⟨i, j, hij, hj, he⟩ := ih (fun i => if f i = a then f (a + 1) else f i) (fun i hi => by
        show (if f i = a then f (a + 1) else f i) < a
        have h1 := h i (by omega)
        have h2 := hv2 i hi
        split <;> omega)
      have h1 := hv2 i (by omega)
      have h2 := hv2 j hj
      refine ⟨i, j, hij, by omega, ?_⟩
      have he2 : (if f i = a then f (a + 1) else f i) = (if f j = a then f (a + 1) else f j) := he
      split at he2 <;> split at he2 <;> omega
def Hs (l : List Int) (a : Nat) (r : Int) : Prop := ∃ L : List Int, (∀ x ∈ L, x ∈ l) ∧ (a : Int) ∣ L.sum - r
section
variable {l : List Int} {a : Nat}
theorem Hs.congr {r s : Int} (h : Hs l a r) (hd : (a : Int) ∣ r - s) : Hs l a s := by
  obtain ⟨L, hL, hd1⟩ := h
  refine ⟨L, hL, ?_⟩
  rw [show L.sum - s = (L.sum - r) + (r - s) by omega]
  exact Int.dvd_add hd1 hd
theorem Hs.zero : Hs l a 0 := ⟨[], by simp, by simp⟩
theorem Hs.mem {x : Int} (h : x ∈ l) : Hs l a x := ⟨[x], by simpa using h, by simp⟩
theorem Hs.add {r s : Int} (h : Hs l a r) (k : Hs l a s) : Hs l a (r + s) := by
  obtain ⟨L, hL, h1⟩ := h
  obtain ⟨M, hM, h2⟩ := k
  refine ⟨L ++ M, fun x hx => ?_, ?_⟩
  · rcases List.mem_append.1 hx with hx | hx
    · exact hL x hx
    · exact hM x hx
  · rw [List.sum_append_int, show L.sum + M.sum - (r + s) = (L.sum - r) + (M.sum - s) by omega]
    exact Int.dvd_add h1 h2
theorem Hs.mul {r : Int} (h : Hs l a r) (k : Nat) : Hs l a (k * r) := by
  induction k with
  | zero => simpa using Hs.zero
  | succ k ih =>
    have := ih.add h
    rwa [show (k : Int) * r + r = ((k + 1 : Nat) : Int) * r by rw [Int.natCast_add, Int.add_mul]; simp] at this
theorem Hs.neg {r : Int} (ha : 0 < a) (h : Hs l a r) : Hs l a (-r) := by
  refine (h.mul (a - 1)).congr ⟨r, ?_⟩
  rw [Int.natCast_sub ha, Int.sub_mul]
  simp
theorem Hs.gcd (ha : 0 < a) (m n : Nat) : Hs l a m → Hs l a n → Hs l a (Nat.gcd m n) := by
  induction m, n using Nat.gcd.induction with
  | H0 n => intro _ h; simpa using h
  | H1 m n hm ih =>
    intro h1 h2
    rw [Nat.gcd_rec]
    refine ih ?_ h1
    have h3 := h2.add ((h1.mul (n / m)).neg ha)
    refine h3.congr ⟨0, ?_⟩
    have := Nat.div_add_mod n m
    have e : ((n / m : Nat) : Int) * (m : Int) = ((m * (n / m) : Nat) : Int) := by rw [Int.natCast_mul, Int.mul_comm]
    rw [e]; omega
theorem sum_take_drop (L : List Int) (i : Nat) : (L.take i).sum + (L.drop i).sum = L.sum := by
  rw [← List.sum_append_int, List.take_append_drop]
/-- fewer than a numbers give the same residue -/
theorem Hs.few (ha : 0 < a) : ∀ n : Nat, ∀ L : List Int, L.length ≤ n → (∀ x ∈ L, x ∈ l) → ∃ M : List Int, M.length < a ∧ (∀ x ∈ M, x ∈ l) ∧ (a : Int) ∣ M.sum - L.sum := by
  intro n
  induction n with
  | zero =>
    intro L hn hL
    have : L = [] := List.eq_nil_of_length_eq_zero (by omega)
    subst this
    exact ⟨[], by simpa using ha, by simp, by simp⟩
  | succ n ih =>
    intro L hn hL
    by_cases hlt : L.length < a
    · exact ⟨L, hlt, hL, by simp⟩
    · obtain ⟨i, j, hij, hj, he⟩ := pig a (fun i => ((L.take i).sum % (a : Int)).toNat) (fun i _ => by
        have h1 := Int.emod_nonneg (L.take i).sum (show (a : Int) ≠ 0 by omega)
        have h2 := Int.emod_lt_of_pos (L.take i).sum (show (0 : Int) < a by omega)
        show ((L.take i).sum % (a : Int)).toNat < a
        omega)
      have he2 : (L.take i).sum % (a : Int) = (L.take j).sum % (a : Int) := by
        have h1 := Int.emod_nonneg (L.take i).sum (show (a : Int) ≠ 0 by omega)
        have h2 := Int.emod_nonneg (L.take j).sum (show (a : Int) ≠ 0 by omega)
        have he3 : ((L.take i).sum % (a : Int)).toNat = ((L.take j).sum % (a : Int)).toNat := he
        omega
      have hd : (a : Int) ∣ (L.take i).sum - (L.take j).sum := Int.dvd_of_emod_eq_zero (by
        rw [Int.sub_emod, he2, Int.sub_self]; simp)
      have hLs := sum_take_drop L j
      obtain ⟨M, hM1, hM2, hM3⟩ := ih (L.take i ++ L.drop j) (by simp; omega) (fun x hx => by
        rcases List.mem_append.1 hx with hx | hx
        · exact hL x (List.mem_of_mem_take hx)
        · exact hL x (List.mem_of_mem_drop hx))
      refine ⟨M, hM1, hM2, ?_⟩
      rw [List.sum_append_int] at hM3
      rw [show M.sum - L.sum = (M.sum - ((L.take i).sum + (L.drop j).sum)) + ((L.take i).sum - (L.take j).sum) by omega]
      exact Int.dvd_add hM3 hd
end
theorem sum_le40 {l : List Int} (hp : Pos l) : ∀ M : List Int, (∀ x ∈ M, x ∈ l) → M.sum ≤ 40 * M.length := by
  intro M
  induction M with
  | nil => intro _; simp
  | cons x M ih =>
    intro h
    have h1 := (hp x (h x (by simp))).2
    have h2 := ih fun y hy => h y (by simp [hy])
    rw [List.sum_cons, List.length_cons]
    omega
theorem sm_big {l : List Int} (hp : Pos l) {x : Int} (hx : x ∈ l) {g : Nat} (hg : ∀ a : Nat, 0 < a → Hs l a g) (m : Nat) (hm : 1560 ≤ m) (hd : g ∣ m) : sm l m = true := by
  have hx1 := hp x hx
  obtain ⟨a, rfl⟩ := Int.eq_ofNat_of_zero_le (show 0 ≤ x by omega)
  have ha : 0 < a := by omega
  obtain ⟨q, rfl⟩ := hd
  have h1 := (hg a ha).mul q
  rw [show (q : Int) * (g : Int) = ((g * q : Nat) : Int) by rw [Int.natCast_mul, Int.mul_comm]] at h1
  obtain ⟨L, hL, hd1⟩ := h1
  obtain ⟨M, hM1, hM2, hM3⟩ := Hs.few ha L.length L (Nat.le_refl _) hL
  have hs := sum_le40 hp M hM2
  have hd2 : (a : Int) ∣ ((g * q : Nat) : Int) - M.sum := by
    have := Int.dvd_add hM3 hd1
    rw [show M.sum - L.sum + (L.sum - ((g * q : Nat) : Int)) = -(((g * q : Nat) : Int) - M.sum) by omega] at this
    exact Int.dvd_neg.1 this
  obtain ⟨t, ht⟩ := hd2
  have ht0 : 0 ≤ t := by
    apply Decidable.byContradiction
    intro hc
    have : (a : Int) * t ≤ -1 := by
      have h5 : (a : Int) * t ≤ (a : Int) * (-1) := Int.mul_le_mul_of_nonneg_left (by omega) (by omega)
      omega
    omega
  obtain ⟨t, rfl⟩ := Int.eq_ofNat_of_zero_le ht0
  refine (sm_iff l hp _).2 ⟨M ++ List.replicate t (a : Int), fun y hy => ?_, ?_⟩
  · rcases List.mem_append.1 hy with hy | hy
    · exact hM2 y hy
    · rw [(List.mem_replicate.1 hy).2]; exact hx
  · have hrep : (List.replicate t (a : Int)).sum = (a : Int) * t := by
      clear ht ht0
      induction t with
      | zero => simp
      | succ t ih => rw [List.replicate_succ, List.sum_cons, ih, Int.natCast_add, Int.mul_add]; simp; omega
    rw [List.sum_append_int, hrep]; omega
/-- the conductor, by a search downwards -/
def cd (l : List Int) (g : Nat) : Nat → Nat
  | 0 => 0
  | m + 1 => if (m + 1) % g = 0 ∧ sm l (m + 1) = false then m + 2 else cd l g m
theorem cd_zero (l : List Int) (g : Nat) : ∀ M : Nat, (∀ m, m ≤ M → m % g = 0 → sm l m = true) → cd l g M = 0 := by
  intro M
  induction M with
  | zero => intro _; rfl
  | succ M ih =>
    intro h
    rw [cd, if_neg (fun hc => by rw [h _ (Nat.le_refl _) hc.1] at hc; exact absurd hc.2 (by simp)), ih fun m hm => h m (by omega)]
theorem cd_at (l : List Int) (g m : Nat) (h0 : m % g = 0) (h1 : sm l m = false) : ∀ M : Nat, m ≤ M → (∀ k, m < k → k ≤ M → k % g = 0 → sm l k = true) → cd l g M = m + 1 := by
  intro M
  induction M with
  | zero => intro h _; obtain rfl : m = 0 := by omega
            rw [sm_zero] at h1; cases h1
  | succ M ih =>
    intro h h2
    by_cases e : m = M + 1
    · subst e; rw [cd, if_pos ⟨h0, h1⟩]
    · rw [cd, if_neg (fun hc => by rw [h2 _ (by omega) (Nat.le_refl _) hc.1] at hc; exact absurd hc.2 (by simp)), ih (by omega) fun k h3 h4 => h2 k h3 (by omega)]
theorem cd_le (l : List Int) (g : Nat) : ∀ M : Nat, cd l g M ≤ M + 1 := by
  intro M
  induction M with
  | zero => simp [cd]
  | succ M ih => rw [cd]; split <;> omega
end Go.Proofs.Ytckjobjmjijjdaa
