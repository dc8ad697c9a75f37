/- Plain facts on numbers: primes by trial division, binary digits, repeated halving. No program in sight. -/
namespace Go.Proofs.Ytlooinhdehkcdaa
set_option linter.unusedVariables false

def primeP (n : Int) : Prop := 1 < n ∧ ∀ d : Nat, d < 2000 → 2 ≤ d → (d : Int) * d ≤ n → n % d ≠ 0
instance (n : Int) : Decidable (primeP n) := by unfold primeP; infer_instance
def primeI (n : Int) : Bool := decide (primeP n)

theorem primeI_end (n : Int) (k : Nat) (h : n < (k : Int) * k) (hn : ∀ d : Nat, 2 ≤ d → d < k → n % d ≠ 0) : decide (1 < n) = primeI n := by
  unfold primeI primeP
  apply decide_eq_decide.2
  constructor
  · refine fun h1 => ⟨h1, fun d _ h2 h3 => hn d h2 ?_⟩
    apply Decidable.byContradiction
    intro hlt
    have : (k : Int) * k ≤ (d : Int) * d := Int.mul_le_mul (by omega) (by omega) (by omega) (by omega)
    omega
  · exact fun h => h.1

theorem primeI_hit (n : Int) (k : Nat) (h2 : 2 ≤ k) (hk : k < 2000) (h : (k : Int) * k ≤ n) (hn : (n % k == 0) = true) : false = primeI n := by
  unfold primeI primeP
  symm
  apply decide_eq_false
  intro ⟨_, h3⟩
  exact h3 k hk h2 h (by simpa using hn)

theorem primeI_next : primeI 1000003 = true := by decide +kernel

/-- the least prime from n on, n at most 1000003: by fuel -/
def nextFrom : Nat → Int → Int
  | 0, n => n
  | f + 1, n => if primeI n then n else nextFrom f (n + 1)
def nextP (n : Int) : Int := nextFrom (1000003 - n).toNat n
theorem nextP_yes (n : Int) (h : primeI n = true) : nextP n = n := by
  unfold nextP
  generalize (1000003 - n).toNat = f
  cases f <;> simp [nextFrom, h]
theorem nextP_no (n : Int) (hn : n ≤ 1000002) (h : primeI n = false) : nextP n = nextP (n + 1) := by
  unfold nextP
  rw [show (1000003 - n).toNat = (1000003 - (n + 1)).toNat + 1 by omega]
  simp [nextFrom, h]

/-- halved i times -/
def half : Nat → Int → Int
  | 0, n => n
  | i + 1, n => half i (n / 2)
theorem half_nonneg (i : Nat) : ∀ n : Int, 0 ≤ n → 0 ≤ half i n := by
  induction i with
  | zero => intro n h; exact h
  | succ i ih => intro n h; exact ih _ (by omega)
theorem half_shift (i : Nat) : ∀ n : Int, half i n = n / 2 ^ i := by
  induction i with
  | zero => intro n; simp [half]
  | succ i ih =>
    intro n
    have hp : (0 : Int) ≤ 2 ^ i := by exact_mod_cast Nat.zero_le (2 ^ i)
    rw [half, ih, Int.ediv_ediv_of_nonneg (by omega), Int.pow_succ, Int.mul_comm]

/-- the number of binary digits, by fuel -/
def bitsF : Nat → Int → Nat
  | 0, _ => 0
  | f + 1, n => if 0 < n then bitsF f (n / 2) + 1 else 0
def bitsI (n : Int) : Nat := bitsF n.toNat n
theorem bitsF_any (f : Nat) : ∀ g : Nat, ∀ n : Int, n.toNat ≤ f → n.toNat ≤ g → bitsF f n = bitsF g n := by
  induction f with
  | zero =>
    intro g n h _
    cases g with
    | zero => rfl
    | succ g => simp only [bitsF]; rw [if_neg (by omega)]
  | succ f ih =>
    intro g n h h'
    cases g with
    | zero => simp only [bitsF]; rw [if_neg (by omega)]
    | succ g =>
      simp only [bitsF]
      split
      · rw [ih g (n / 2) (by omega) (by omega)]
      · rfl
theorem bitsI_pos (n : Int) (h : 0 < n) : bitsI n = bitsI (n / 2) + 1 := by
  unfold bitsI
  rw [bitsF_any n.toNat (n.toNat + 1) n (by omega) (by omega)]
  simp only [bitsF]
  rw [if_pos h, bitsF_any n.toNat (n / 2).toNat (n / 2) (by omega) (by omega)]
theorem bitsI_zero (n : Int) (h : ¬ 0 < n) : bitsI n = 0 := by
  unfold bitsI
  rw [bitsF_any n.toNat (n.toNat + 1) n (by omega) (by omega)]
  simp only [bitsF]
  rw [if_neg h]
theorem bitsI_le (k : Nat) : ∀ n : Int, n < 2 ^ k → bitsI n ≤ k := by
  induction k with
  | zero => intro n h; rw [bitsI_zero n (by simp at h; omega)]; omega
  | succ k ih =>
    intro n h
    by_cases h0 : 0 < n
    · rw [bitsI_pos n h0]
      have := ih (n / 2) (by rw [Int.pow_succ] at h; omega)
      omega
    · rw [bitsI_zero n h0]; omega
end Go.Proofs.Ytlooinhdehkcdaa
