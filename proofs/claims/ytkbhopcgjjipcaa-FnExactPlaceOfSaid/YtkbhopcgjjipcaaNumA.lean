/- Contracts: primes, next prime, binary digits. -/
import Derived.Test.YtkbhopcgjjipcaaRows
import Derived.Test.YtkbhopcgjjipcaaPlA
import Derived.Test.YtkbhopcgjjipcaaMem
namespace Go.Proofs.Ytkbhopcgjjipcaa
open Go.RowKit


def inR (n lo hi : Int) : Bool := decide (lo ≤ n) && decide (n ≤ hi)
theorem inR_t {n lo hi : Int} (h : lo ≤ n) (h' : n ≤ hi) : inR n lo hi = true := by simp [inR, h, h']
theorem inR_f {n lo hi : Int} (h : ¬ (lo ≤ n ∧ n ≤ hi)) : inR n lo hi = false := by simp [inR]; omega
theorem inR_iff {n lo hi : Int} : inR n lo hi = true ↔ lo ≤ n ∧ n ≤ hi := by simp [inR]

theorem within_any (n lo hi : Int) (w : World) :
    Calls Try.prog 15 #[.int .i64 n, .int .i64 lo, .int .i64 hi] w fun e w' => e = .returned (.bool (inR n lo hi)) ∧ w = w' := by
  by_cases h : lo ≤ n <;> by_cases h' : n ≤ hi
  all_goals
    go_enter Try.func15, Try.ntmps15
    go_wp2
    go_ret
    exact ⟨ret_bool (by simp [inR]; omega), rfl⟩
theorem l1In_any (n lo hi : Int) (w : World) :
    Calls Try.prog 14 #[.int .i64 n, .int .i64 lo, .int .i64 hi] w fun e w' => e = .returned (.bool (inR n lo hi)) ∧ w = w' := by
  by_cases h : lo ≤ n <;> by_cases h' : n ≤ hi
  all_goals
    go_enter Try.func14, Try.ntmps14
    go_wp2
    go_ret
    exact ⟨ret_bool (by simp [inR]; omega), rfl⟩

theorem isWhole_any (n : Int) (w : World) :
    Calls Try.prog 24 #[.int .i64 n] w fun e w' => e = .returned (.bool (inR n 0 1000000000000)) ∧ w = w' := by
  go_enter Try.func24, Try.ntmps24
  go_wp2_with (go_at_call 15; refine (within_any _ _ _ _).mono ?_; rintro e w' ⟨rfl, rfl⟩)
  go_ret
  exact ⟨rfl, rfl⟩

set_option maxHeartbeats 400000 in
theorem isPrime_any (n : Int) (w : World) (h : n ≤ 2000000) (h' : -9223372036854775808 ≤ n) :
    Calls Try.prog 21 #[.int .i64 n] w fun e w' => e = .returned (.bool (primeI n)) ∧ w = w' := by
  go_enter Try.func21, Try.ntmps21
  go_wp2
  go_loop [3] (fun i => ∃ k : Nat, 2 ≤ k ∧ k ≤ 1999 ∧ i = .int .i64 k ∧ ∀ d : Nat, 2 ≤ d → d < k → n % d ≠ 0) (fun i => 3000 - (intOf i).toNat)
  case atStart => exact ⟨2, by omega, by omega, rfl, fun d h1 h2 => by omega⟩
  case round =>
    obtain ⟨k, hk1, hk2, rfl, hnd⟩ := hrel
    have Hnd := Lib.hid hnd
    clear hnd
    have hkk : (k : Int) * k ≤ 4000000 := Int.le_trans (Int.mul_le_mul (show (k : Int) ≤ 2000 by omega) (show (k : Int) ≤ 2000 by omega) (by omega) (by omega)) (by omega)
    have hkk0 : 0 ≤ (k : Int) * k := Int.mul_nonneg (by omega) (by omega)
    go_wp2
    · go_ret
      exact ⟨ret_bool (primeI_hit n k hk1 (by omega) (by assumption) (by assumption)), rfl⟩
    · go_round
      case rel =>
        have hle : (k : Int) * k ≤ n := by assumption
        have hne : (n % k == 0) = false := by assumption
        refine ⟨k + 1, by omega, ?_, by go_num, fun d h2 hd => ?_⟩
        · apply Decidable.byContradiction
          intro hc
          have : (1999 : Int) * 1999 ≤ (k : Int) * k := Int.mul_le_mul (by omega) (by omega) (by omega) (by omega)
          omega
        · by_cases e : d = k
          · subst e; simpa using hne
          · exact Hnd.out d h2 (by omega)
      case measure => simp [intOf]; omega
    · go_ret
      exact ⟨ret_bool (primeI_end n k (by assumption) Hnd.out), rfl⟩

set_option maxHeartbeats 400000 in
theorem nuPrime_any (n : Int) (w : World) (h : n ≤ 2000000) (h' : -9223372036854775808 ≤ n) :
    Calls Try.prog 18 #[.int .i64 n] w fun e w' => e = .returned (.bool (primeI n)) ∧ w = w' := by
  go_enter Try.func18, Try.ntmps18
  go_wp2
  go_loop [3] (fun i => ∃ k : Nat, 2 ≤ k ∧ k ≤ 1999 ∧ i = .int .i64 k ∧ ∀ d : Nat, 2 ≤ d → d < k → n % d ≠ 0) (fun i => 3000 - (intOf i).toNat)
  case atStart => exact ⟨2, by omega, by omega, rfl, fun d h1 h2 => by omega⟩
  case round =>
    obtain ⟨k, hk1, hk2, rfl, hnd⟩ := hrel
    have Hnd := Lib.hid hnd
    clear hnd
    have hkk : (k : Int) * k ≤ 4000000 := Int.le_trans (Int.mul_le_mul (show (k : Int) ≤ 2000 by omega) (show (k : Int) ≤ 2000 by omega) (by omega) (by omega)) (by omega)
    have hkk0 : 0 ≤ (k : Int) * k := Int.mul_nonneg (by omega) (by omega)
    go_wp2
    · go_ret
      exact ⟨ret_bool (primeI_hit n k hk1 (by omega) (by assumption) (by assumption)), rfl⟩
    · go_round
      case rel =>
        have hle : (k : Int) * k ≤ n := by assumption
        have hne : (n % k == 0) = false := by assumption
        refine ⟨k + 1, by omega, ?_, by go_num, fun d h2 hd => ?_⟩
        · apply Decidable.byContradiction
          intro hc
          have : (1999 : Int) * 1999 ≤ (k : Int) * k := Int.mul_le_mul (by omega) (by omega) (by omega) (by omega)
          omega
        · by_cases e : d = k
          · subst e; simpa using hne
          · exact Hnd.out d h2 (by omega)
      case measure => simp [intOf]; omega
    · go_ret
      exact ⟨ret_bool (primeI_end n k (by assumption) Hnd.out), rfl⟩

end Go.Proofs.Ytkbhopcgjjipcaa
