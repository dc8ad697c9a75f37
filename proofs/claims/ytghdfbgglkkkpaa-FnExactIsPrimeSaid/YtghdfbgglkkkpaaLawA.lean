/- The walks of the laws on numbers that make no memory: IsPrime, NextPrime, BitAt, BitLength, LogStar. -/
import Derived.Test.YtghdfbgglkkkpaaNumB
import Derived.Test.YtghdfbgglkkkpaaShelf
import Derived.Test.YtghdfbgglkkkpaaBits
namespace Go.Proofs.Ytghdfbgglkkkpaa
open Go.RowKit
set_option linter.unusedVariables false

set_option maxHeartbeats 400000 in
theorem FnExactIsPrime_walk (n : Int) (w : World) (h0 : -9223372036854775808 ≤ n) (h1 : n ≤ 9223372036854775807) :
    Calls Try.prog 5 #[.int .i64 n] w fun e w' => e = .returned (.bool true) ∧ Below w.heap.size w w' := by
  by_cases h : n ≤ 1000000
  · cases hp : primeI n
    all_goals
      go_enter Try.func5, Try.ntmps5
      go_wp2_with (first | (go_at_call 40; refine (nuPrime_any _ _ (by omega) (by omega)).mono ?_; rintro e w' ⟨rfl, rfl⟩) | (go_at_call 41; refine (isPrime_any _ _ (by omega) (by omega)).mono ?_; rintro e w' ⟨rfl, rfl⟩) | go_in)
      go_ret
      exact ⟨rfl, Below.refl _ _⟩
  · go_enter Try.func5, Try.ntmps5
    go_wp2
    go_ret
    exact ⟨rfl, Below.refl _ _⟩
set_option maxHeartbeats 400000 in
theorem FnExactNextPrime_walk (n : Int) (w : World) (h0 : -9223372036854775808 ≤ n) (h1 : n ≤ 9223372036854775807) :
    Calls Try.prog 8 #[.int .i64 n] w fun e w' => e = .returned (.bool true) ∧ Below w.heap.size w w' := by
  by_cases h : 0 ≤ n ∧ n ≤ 1000000
  · obtain ⟨ha, hb⟩ := h
    go_enter Try.func8, Try.ntmps8
    go_wp2_with (first | (go_at_call 47; refine (nuNext_any _ _ (by omega) (by omega)).mono ?_; rintro e w' ⟨rfl, rfl⟩) | (go_at_call 23; refine (NextPrime_yes _ _ (by omega) (by omega)).mono ?_; rintro e w' ⟨rfl, rfl⟩) | go_in)
    go_ret
    exact ⟨rfl, Below.refl _ _⟩
  · have hin := inR_f h
    clear h
    go_enter Try.func8, Try.ntmps8
    go_wp2_with (first | (go_at_call 39; refine (within_any _ _ _ _).mono ?_; rintro e w' ⟨rfl, rfl⟩) | (go_at_call 38; refine (l1In_any _ _ _ _).mono ?_; rintro e w' ⟨rfl, rfl⟩) | go_in)
    go_ret
    exact ⟨rfl, Below.refl _ _⟩
theorem bitLen_bits (f : Nat) : ∀ x : Nat, x < 2 ^ f → Lib.bitLenAux f x = bitsI x := by
  induction f with
  | zero => intro x h; rw [bitsI_zero _ (by simp at h; omega)]; rfl
  | succ f ih =>
    intro x h
    rw [Lib.bitLenAux]
    by_cases h0 : x = 0
    · rw [if_pos h0, bitsI_zero _ (by omega)]
    · rw [if_neg h0, bitsI_pos _ (by omega), ih (x / 2) (by rw [Nat.pow_succ] at h; omega)]
      rw [show ((x / 2 : Nat) : Int) = (x : Int) / 2 by omega]; omega
theorem bitLen_bitsI (n : Int) (h0 : 0 ≤ n) (h : n ≤ 1000000000000) : Lib.bitLen n.toNat = bitsI n := by
  rw [Lib.bitLen, bitLen_bits 64 n.toNat (by omega), Int.toNat_of_nonneg h0]
set_option maxHeartbeats 400000 in
theorem Len64_any (n : Int) (w : World) (h0 : 0 ≤ n) (h : n ≤ 1000000000000) :
    Calls Try.prog 46 #[.int .u64 n] w fun e w' => e = .returned (.int .i64 (bitsI n)) ∧ w = w' :=
  (Try.bits_Len64 n w h0 (by omega)).mono fun e w' ⟨he, hw⟩ => ⟨by rw [he, bitLen_bitsI n h0 h], hw.symm⟩
set_option maxHeartbeats 400000 in
theorem FnExactBitLength_walk (n : Int) (w : World) (h0 : -9223372036854775808 ≤ n) (h1 : n ≤ 9223372036854775807) :
    Calls Try.prog 7 #[.int .i64 n] w fun e w' => e = .returned (.bool true) ∧ Below w.heap.size w w' := by
  by_cases h : 0 ≤ n ∧ n ≤ 1000000000000
  · obtain ⟨ha, hb⟩ := h
    have hin := inR_t ha hb
    go_enter Try.func7, Try.ntmps7
    go_wp2_with (first | (go_at_call 39; refine (within_any _ _ _ _).mono ?_; rintro e w' ⟨rfl, rfl⟩) | (go_at_call 38; refine (l1In_any _ _ _ _).mono ?_; rintro e w' ⟨rfl, rfl⟩) | (go_at_call 45; refine (nuBits_any _ _ (by omega) (by omega)).mono ?_; rintro e w' ⟨rfl, rfl⟩) | (go_at_call 46; refine (Len64_any _ _ (by omega) (by omega)).mono ?_; rintro e w' ⟨rfl, rfl⟩) | go_in)
    go_ret
    exact ⟨rfl, Below.refl _ _⟩
  · have hin := inR_f h
    clear h
    go_enter Try.func7, Try.ntmps7
    go_wp2_with (first | (go_at_call 39; refine (within_any _ _ _ _).mono ?_; rintro e w' ⟨rfl, rfl⟩) | (go_at_call 38; refine (l1In_any _ _ _ _).mono ?_; rintro e w' ⟨rfl, rfl⟩) | go_in)
    go_ret
    exact ⟨rfl, Below.refl _ _⟩
set_option maxHeartbeats 400000 in
theorem FnExactBitAt_walk (n i : Int) (w : World) (h0 : -9223372036854775808 ≤ n) (h1 : n ≤ 9223372036854775807) (h2 : -9223372036854775808 ≤ i) (h3 : i ≤ 9223372036854775807) :
    Calls Try.prog 6 #[.int .i64 n, .int .i64 i] w fun e w' => e = .returned (.bool true) ∧ Below w.heap.size w w' := by
  by_cases h : 0 ≤ n ∧ n ≤ 1000000000000
  · obtain ⟨ha, hb⟩ := h
    have hin := inR_t ha hb
    by_cases h' : 0 ≤ i ∧ i ≤ 63
    · obtain ⟨hc, hd⟩ := h'
      have hin2 := inR_t hc hd
      obtain ⟨k, rfl⟩ := Int.eq_ofNat_of_zero_le hc
      have hbit : bits BinOp.and IntKind.i64 (n / 2 ^ k) 1 = half k n % 2 := by
        have hp : (0 : Int) < 2 ^ k := by exact_mod_cast Nat.two_pow_pos k
        have hq : n / 2 ^ k ≤ n := Int.ediv_le_self _ ha
        rw [half_shift, and_one_i64 _ (Int.ediv_nonneg ha (by omega)) (by omega)]
      go_enter Try.func6, Try.ntmps6
      go_wp2_with (first | (go_at_call 39; refine (within_any _ _ _ _).mono ?_; rintro e w' ⟨rfl, rfl⟩) | (go_at_call 38; refine (l1In_any _ _ _ _).mono ?_; rintro e w' ⟨rfl, rfl⟩) | (go_at_call 43; refine (nuBit_any _ _ _ (by omega) (by omega) (by omega)).mono ?_; rintro e w' ⟨rfl, rfl⟩) | go_in)
      go_ret
      exact ⟨rfl, Below.refl _ _⟩
    · have hin2 := inR_f h'
      clear h'
      go_enter Try.func6, Try.ntmps6
      go_wp2_with (first | (go_at_call 39; refine (within_any _ _ _ _).mono ?_; rintro e w' ⟨rfl, rfl⟩) | (go_at_call 38; refine (l1In_any _ _ _ _).mono ?_; rintro e w' ⟨rfl, rfl⟩) | go_in)
      go_ret
      exact ⟨rfl, Below.refl _ _⟩
  · have hin := inR_f h
    clear h
    go_enter Try.func6, Try.ntmps6
    go_wp2_with (first | (go_at_call 39; refine (within_any _ _ _ _).mono ?_; rintro e w' ⟨rfl, rfl⟩) | (go_at_call 38; refine (l1In_any _ _ _ _).mono ?_; rintro e w' ⟨rfl, rfl⟩) | go_in)
    go_ret
    exact ⟨rfl, Below.refl _ _⟩
/-- how often the logarithm can be taken, by fuel -/
def logsF : Nat → Int → Nat
  | 0, _ => 0
  | f + 1, n => if 1 < n then logsF f ((bitsI n : Int) - 1) + 1 else 0
theorem bitsI_lt (n : Int) (h : 1 < n) : (bitsI n : Int) - 1 < n ∧ 0 ≤ (bitsI n : Int) - 1 := by
  have key : ∀ k : Nat, ∀ n : Int, n.toNat ≤ k → 0 < n → (bitsI n : Int) ≤ n ∧ 1 ≤ bitsI n := by
    intro k
    induction k with
    | zero => intro n h1 h2; omega
    | succ k ih =>
      intro n h1 h2
      rw [bitsI_pos n h2]
      by_cases h3 : 0 < n / 2
      · have := ih (n / 2) (by omega) h3
        omega
      · rw [bitsI_zero _ h3]; omega
  have := key n.toNat n (Nat.le_refl _) (by omega)
  omega
theorem logsF_any (f : Nat) : ∀ g : Nat, ∀ n : Int, n.toNat ≤ f → n.toNat ≤ g → logsF f n = logsF g n := by
  induction f with
  | zero =>
    intro g n h _
    cases g with
    | zero => rfl
    | succ g => simp only [logsF]; rw [if_neg (by omega)]
  | succ f ih =>
    intro g n h h'
    cases g with
    | zero => simp only [logsF]; rw [if_neg (by omega)]
    | succ g =>
      simp only [logsF]
      split
      · have := bitsI_lt n (by assumption)
        rw [ih g _ (by omega) (by omega)]
      · rfl
def logsI (n : Int) : Nat := logsF n.toNat n
theorem logsI_pos (n : Int) (h : 1 < n) : logsI n = logsI ((bitsI n : Int) - 1) + 1 := by
  have := bitsI_lt n h
  unfold logsI
  rw [logsF_any n.toNat (n.toNat + 1) n (by omega) (by omega)]
  simp only [logsF]
  rw [if_pos h, logsF_any n.toNat ((bitsI n : Int) - 1).toNat _ (by omega) (by omega)]
theorem logsI_zero (n : Int) (h : ¬ 1 < n) : logsI n = 0 := by
  unfold logsI
  rw [logsF_any n.toNat (n.toNat + 1) n (by omega) (by omega)]
  simp only [logsF]
  rw [if_neg h]
theorem logsI_le (n : Int) : logsI n ≤ n.toNat := by
  have key : ∀ k : Nat, ∀ n : Int, n.toNat ≤ k → logsI n ≤ n.toNat := by
    intro k
    induction k with
    | zero => intro n h; rw [logsI_zero n (by omega)]; omega
    | succ k ih =>
      intro n h
      by_cases h1 : 1 < n
      · have := bitsI_lt n h1
        rw [logsI_pos n h1]
        have := ih ((bitsI n : Int) - 1) (by omega)
        omega
      · rw [logsI_zero n h1]; omega
  exact key _ n (Nat.le_refl _)
set_option maxHeartbeats 400000 in
theorem nuLogStar_any (n : Int) (w : World) (h0 : 1 ≤ n) (h : n ≤ 1000000000000) :
    Calls Try.prog 51 #[.int .i64 n] w fun e w' => e = .returned (.int .i64 (logsI n)) ∧ w = w' := by
  have hl := logsI_le n
  go_enter Try.func51, Try.ntmps51
  go_wp2
  go_loop [0, 3] (fun a b => ∃ m : Int, ∃ k : Nat, 0 ≤ m ∧ m ≤ 1000000000000 ∧ a = .int .i64 m ∧ b = .int .i64 k ∧ logsI n = logsI m + k) (fun a _ => (intOf a).toNat)
  case atStart => exact ⟨n, 0, by omega, by omega, rfl, rfl, rfl⟩
  case round =>
    obtain ⟨m, k, hm0, hm1, rfl, rfl, hnd⟩ := hrel
    have hk : k ≤ 1000000000000 := by omega
    have Hnd := Lib.hid hnd
    clear hnd
    by_cases h1 : 1 < m
    · have hb := bitsI_lt m h1
      go_wp2_with (go_at_call 45; refine (nuBits_any _ _ (by omega) (by omega)).mono ?_; rintro e w' ⟨rfl, rfl⟩)
      go_round
      case rel => exact ⟨(bitsI m : Int) - 1, k + 1, by omega, by omega, rfl, by go_num, by rw [Hnd.out, logsI_pos m h1]; omega⟩
      case measure => simp [intOf]; omega
    · go_wp2
      go_ret
      exact ⟨ret_int (by rw [Hnd.out, logsI_zero m (by omega)]; omega), rfl⟩
set_option maxHeartbeats 400000 in
theorem LogStar_yes (n : Int) (w : World) (h0 : 1 ≤ n) (h : n ≤ 1000000000000) :
    Calls Try.prog 27 #[.int .i64 n] w fun e w' => e = .returned (.tuple #[.int .i64 (logsI n), .bool true]) ∧ w = w' := by
  have hl := logsI_le n
  have hin := inR_t h0 h
  go_enter Try.func27, Try.ntmps27
  go_wp2_with (go_at_call 39; refine (within_any _ _ _ _).mono ?_; rintro e w' ⟨rfl, rfl⟩)
  go_loop [0, 4] (fun a b => ∃ m : Int, ∃ k : Nat, 0 ≤ m ∧ m ≤ 1000000000000 ∧ a = .int .i64 m ∧ b = .int .i64 k ∧ logsI n = logsI m + k) (fun a _ => (intOf a).toNat)
  case atStart => exact ⟨n, 0, by omega, by omega, rfl, rfl, rfl⟩
  case round =>
    obtain ⟨m, k, hm0, hm1, rfl, rfl, hnd⟩ := hrel
    have hk : k ≤ 1000000000000 := by omega
    have Hnd := Lib.hid hnd
    clear hnd
    by_cases h1 : 1 < m
    · have hb := bitsI_lt m h1
      go_wp2_with (go_at_call 46; refine (Len64_any _ _ (by omega) (by omega)).mono ?_; rintro e w' ⟨rfl, rfl⟩)
      go_round
      case rel => exact ⟨(bitsI m : Int) - 1, k + 1, by omega, by omega, rfl, by go_num, by rw [Hnd.out, logsI_pos m h1]; omega⟩
      case measure => simp [intOf]; omega
    · go_wp2
      go_ret2
      exact ⟨by rw [Hnd.out, logsI_zero m (by omega), Nat.zero_add]; rfl, rfl⟩
set_option maxHeartbeats 400000 in
theorem FnExactLogStar_walk (n : Int) (w : World) (h0 : -9223372036854775808 ≤ n) (h1 : n ≤ 9223372036854775807) :
    Calls Try.prog 10 #[.int .i64 n] w fun e w' => e = .returned (.bool true) ∧ Below w.heap.size w w' := by
  by_cases h : 1 ≤ n ∧ n ≤ 1000000000000
  · obtain ⟨ha, hb⟩ := h
    have hin := inR_t (show 0 ≤ n by omega) hb
    have hz : (n == 0) = false := by simp; omega
    go_enter Try.func10, Try.ntmps10
    go_wp2_with (first | (go_at_call 38; refine (l1In_any _ _ _ _).mono ?_; rintro e w' ⟨rfl, rfl⟩) | (go_at_call 51; refine (nuLogStar_any _ _ (by omega) (by omega)).mono ?_; rintro e w' ⟨rfl, rfl⟩) | (go_at_call 27; refine (LogStar_yes _ _ (by omega) (by omega)).mono ?_; rintro e w' ⟨rfl, rfl⟩) | go_in)
    go_ret
    exact ⟨rfl, Below.refl _ _⟩
  · have hin := inR_f h
    by_cases hz : n = 0
    · subst hz
      clear h
      have hin2 : inR 0 0 1000000000000 = true := by decide
      go_enter Try.func10, Try.ntmps10
      go_wp2_with (first | (go_at_call 39; refine (within_any _ _ _ _).mono ?_; rintro e w' ⟨rfl, rfl⟩) | (go_at_call 38; refine (l1In_any _ _ _ _).mono ?_; rintro e w' ⟨rfl, rfl⟩) | go_in)
      go_ret
      exact ⟨rfl, Below.refl _ _⟩
    · have hin2 : inR n 0 1000000000000 = false := inR_f (by omega)
      clear h
      go_enter Try.func10, Try.ntmps10
      go_wp2_with (first | (go_at_call 39; refine (within_any _ _ _ _).mono ?_; rintro e w' ⟨rfl, rfl⟩) | (go_at_call 38; refine (l1In_any _ _ _ _).mono ?_; rintro e w' ⟨rfl, rfl⟩) | go_in)
      go_ret
      exact ⟨rfl, Below.refl _ _⟩
end Go.Proofs.Ytghdfbgglkkkpaa
