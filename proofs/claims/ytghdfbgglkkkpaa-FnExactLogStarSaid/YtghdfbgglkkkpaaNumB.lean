/- Contracts: next prime, binary digits. -/
import Derived.Test.YtghdfbgglkkkpaaNumA
namespace Go.Proofs.Ytghdfbgglkkkpaa
open Go.RowKit

set_option maxHeartbeats 400000 in
theorem nuNext_any (n : Int) (w : World) (h : n ≤ 1000000) (h' : 0 ≤ n) :
    Calls Try.prog 47 #[.int .i64 n] w fun e w' => e = .returned (.int .i64 (nextP n)) ∧ w = w' := by
  go_enter Try.func47, Try.ntmps47
  go_wp2
  go_loop [0] (fun i => ∃ k : Int, 0 ≤ k ∧ k ≤ 1000003 ∧ i = .int .i64 k ∧ nextP n = nextP k) (fun i => (1000003 - (intOf i)).toNat)
  case atStart => exact ⟨n, by omega, by omega, rfl, rfl⟩
  case round =>
    obtain ⟨k, hk1, hk2, rfl, hnd⟩ := hrel
    have Hnd := Lib.hid hnd
    clear hnd
    cases hp : primeI k with
    | true =>
      go_wp2_with (go_at_call 40; refine (nuPrime_any _ _ (by omega) (by omega)).mono ?_; rintro e w' ⟨rfl, rfl⟩)
      go_ret
      exact ⟨ret_int (by rw [Hnd.out, nextP_yes k hp]), rfl⟩
    | false =>
      have hk3 : k ≤ 1000002 := by
        apply Decidable.byContradiction
        intro hc
        have : k = 1000003 := by omega
        rw [this, primeI_next] at hp
        cases hp
      go_wp2_with (go_at_call 40; refine (nuPrime_any _ _ (by omega) (by omega)).mono ?_; rintro e w' ⟨rfl, rfl⟩)
      go_round
      case rel => exact ⟨k + 1, by omega, by omega, rfl, by rw [Hnd.out, nextP_no k hk3 hp]⟩
      case measure => simp [intOf]; omega

set_option maxHeartbeats 400000 in
theorem NextPrime_yes (n : Int) (w : World) (h : n ≤ 1000000) (h' : 0 ≤ n) :
    Calls Try.prog 23 #[.int .i64 n] w fun e w' => e = .returned (.tuple #[.int .i64 (nextP n), .bool true]) ∧ w = w' := by
  have hin := inR_t h' h
  go_enter Try.func23, Try.ntmps23
  go_wp2_with (go_at_call 39; refine (within_any _ _ _ _).mono ?_; rintro e w' ⟨rfl, rfl⟩)
  go_loop [0] (fun i => ∃ k : Int, 0 ≤ k ∧ k ≤ 1000003 ∧ i = .int .i64 k ∧ nextP n = nextP k) (fun i => (1000003 - (intOf i)).toNat)
  case atStart => exact ⟨n, by omega, by omega, rfl, rfl⟩
  case round =>
    obtain ⟨k, hk1, hk2, rfl, hnd⟩ := hrel
    have Hnd := Lib.hid hnd
    clear hnd
    cases hp : primeI k with
    | true =>
      go_wp2_with (go_at_call 41; refine (isPrime_any _ _ (by omega) (by omega)).mono ?_; rintro e w' ⟨rfl, rfl⟩)
      go_ret2
      exact ⟨by rw [Hnd.out, nextP_yes k hp]; rfl, rfl⟩
    | false =>
      have hk3 : k ≤ 1000002 := by
        apply Decidable.byContradiction
        intro hc
        have : k = 1000003 := by omega
        rw [this, primeI_next] at hp
        cases hp
      go_wp2_with (go_at_call 41; refine (isPrime_any _ _ (by omega) (by omega)).mono ?_; rintro e w' ⟨rfl, rfl⟩)
      go_round
      case rel => exact ⟨k + 1, by omega, by omega, rfl, by rw [Hnd.out, nextP_no k hk3 hp]⟩
      case measure => simp [intOf]; omega

set_option maxHeartbeats 400000 in
theorem nuBit_any (n : Int) (i : Nat) (w : World) (h' : 0 ≤ n) (h : n ≤ 9223372036854775807) (hi : i ≤ 63) :
    Calls Try.prog 43 #[.int .i64 n, .int .i64 i] w fun e w' => e = .returned (.int .i64 (half i n % 2)) ∧ w = w' := by
  go_enter Try.func43, Try.ntmps43
  go_wp2
  go_loop [0, 1] (fun a b => ∃ m : Int, ∃ k : Nat, 0 ≤ m ∧ m ≤ 9223372036854775807 ∧ k ≤ 63 ∧ a = .int .i64 m ∧ b = .int .i64 k ∧ half i n = half k m) (fun _ b => (intOf b).toNat)
  case atStart => exact ⟨n, i, by omega, by omega, hi, rfl, rfl, rfl⟩
  case round =>
    obtain ⟨m, k, hm0, hm1, hk1, rfl, rfl, hnd⟩ := hrel
    have Hnd := Lib.hid hnd
    clear hnd
    cases k with
    | zero =>
      go_wp2
      go_ret
      exact ⟨ret_int (by rw [Hnd.out]; rfl), rfl⟩
    | succ k =>
      go_wp2
      go_round
      case rel => exact ⟨m / 2, k, by omega, by omega, by omega, rfl, by go_num, by rw [Hnd.out]; rfl⟩
      case measure => simp [intOf]

set_option maxHeartbeats 400000 in
theorem nuBits_any (n : Int) (w : World) (h' : 0 ≤ n) (h : n < 2 ^ 62) :
    Calls Try.prog 45 #[.int .i64 n] w fun e w' => e = .returned (.int .i64 (bitsI n)) ∧ w = w' := by
  have hb := bitsI_le 62 n h
  have HB := Lib.hid h
  clear h
  have h2 : n ≤ 4611686018427387904 := by have := HB.out; omega
  go_enter Try.func45, Try.ntmps45
  go_wp2
  go_loop [0, 3] (fun a b => ∃ m : Int, ∃ k : Nat, 0 ≤ m ∧ m ≤ 4611686018427387904 ∧ a = .int .i64 m ∧ b = .int .i64 k ∧ bitsI n = bitsI m + k) (fun a _ => (intOf a).toNat)
  case atStart => exact ⟨n, 0, by omega, by omega, rfl, rfl, rfl⟩
  case round =>
    obtain ⟨m, k, hm0, hm1, rfl, rfl, hnd⟩ := hrel
    have hk : k ≤ 62 := by omega
    have Hnd := Lib.hid hnd
    clear hnd
    by_cases h0 : 0 < m
    · go_wp2
      go_round
      case rel => exact ⟨m / 2, k + 1, by omega, by omega, rfl, by go_num, by rw [Hnd.out, bitsI_pos m h0]; omega⟩
      case measure => simp [intOf]; omega
    · go_wp2
      go_ret
      exact ⟨ret_int (by rw [Hnd.out, bitsI_zero m (by omega)]; omega), rfl⟩
end Go.Proofs.Ytghdfbgglkkkpaa
