/- Plain: binomial coefficients. -/
namespace Go.Proofs.Ytckjobjmjijjdaa
set_option linter.unusedVariables false
def ch : Nat → Nat → Nat
  | _, 0 => 1
  | 0, _ + 1 => 0
  | n + 1, k + 1 => ch n k + ch n (k + 1)
theorem ch_n0 (n : Nat) : ch n 0 = 1 := by cases n <;> rfl
theorem ch_zero : ∀ n k : Nat, n < k → ch n k = 0 := by
  intro n
  induction n with
  | zero => intro k h; cases k with | zero => omega | succ k => rfl
  | succ n ih => intro k h; cases k with
    | zero => omega
    | succ k => rw [ch, ih k (by omega), ih (k + 1) (by omega)]
theorem ch_le : ∀ n k : Nat, ch n k ≤ 2 ^ n := by
  intro n
  induction n with
  | zero => intro k; cases k <;> simp [ch]
  | succ n ih => intro k; cases k with
    | zero => rw [ch]; exact Nat.one_le_two_pow
    | succ k => rw [ch, Nat.pow_succ]; have := ih k; have := ih (k + 1); omega
theorem ch_le60 (n k : Nat) (h : n ≤ 60) : ch n k ≤ 1152921504606846976 := by
  have h1 := ch_le n k
  have h2 : 2 ^ n ≤ 2 ^ 60 := Nat.pow_le_pow_right (by omega) h
  have h3 : (2 : Nat) ^ 60 = 1152921504606846976 := by decide
  omega
/-- the row in the middle of a round: places above j have been counted for m + 1 already -/
def mid (m j i : Nat) : Nat := if j < i then ch (m + 1) i else ch m i
theorem mid_start (m j i : Nat) (h : i ≤ j) : mid m j i = ch m i := by unfold mid; rw [if_neg (by omega)]
theorem mid_top (m i : Nat) : mid m (m + 1) i = ch m i := by
  unfold mid
  split
  · rw [ch_zero _ _ (by omega), ch_zero _ _ (by omega)]
  · rfl
theorem mid_low (m i : Nat) : mid m 0 i = ch (m + 1) i := by
  unfold mid
  split
  · rfl
  · rw [show i = 0 by omega, ch_n0, ch_n0]
theorem mid_step (m j : Nat) (i : Nat) : (if i = j + 1 then mid m (j + 1) (j + 1) + mid m (j + 1) j else mid m (j + 1) i) = mid m j i := by
  by_cases h : i = j + 1
  · rw [if_pos h, h]
    unfold mid
    rw [if_neg (by omega), if_neg (by omega), if_pos (by omega), ch, Nat.add_comm]
  · rw [if_neg h]
    unfold mid
    by_cases h2 : j + 1 < i
    · rw [if_pos h2, if_pos (by omega)]
    · rw [if_neg h2, if_neg (by omega)]
theorem mid_le (m j i : Nat) (h : m < 60) : mid m j i ≤ 1152921504606846976 := by
  unfold mid
  split
  · exact ch_le60 _ _ (by omega)
  · exact ch_le60 _ _ (by omega)
end Go.Proofs.Ytckjobjmjijjdaa
