/- Contracts: binomial coefficients. -/
import Derived.Test.YtckjobjmjijjdaaNumA
import Derived.Test.YtckjobjmjijjdaaPlB
namespace Go.Proofs.Ytckjobjmjijjdaa
open Go.RowKit
set_option linter.unusedVariables false
set_option maxHeartbeats 400000 in
theorem nuChoose_in (n k : Nat) (w : World) (hk : k ≤ n) (hn : n ≤ 60) :
    Calls Try.prog 54 #[.int .i64 n, .int .i64 k] w fun e w' => e = .returned (.int .i64 (ch n k)) ∧ Below w.heap.size w w' := by
  have hk0 : decide ((k : Int) < 0) = false := by simp
  obtain ⟨B, hB⟩ : ∃ B, B = w.heap.size := ⟨_, rfl⟩
  have HB := Lib.hid hB
  clear hB
  go_enter Try.func54, Try.ntmps54
  go_wp2_with (at_make; refine wpList_mk _ rfl _ _ _ rfl 3 (.int .i64 0) 8 Try.underlying22 int_info rfl .i64 .i64 _ _ (n + 1) rfl rfl (by omega) (by omega) (by omega) (by omega) ?_; intro w1 hrow hsz hbel; rw [← HB.out] at hrow hbel hsz ⊢; have hc0 := hrow.cell (i := 0) (by omega); have hf0 := hrow.frozen 0)
  go_loopw [6] (fun i wr => ∃ m : Nat, m ≤ n ∧ i = .int .i64 (m + 1 : Nat) ∧ wr.rowIs B 3 (n + 1) (fun i => .int .i64 (ch m i)) ∧ Below B w wr) (fun i _ => 100 - (intOf i).toNat)
  case atStart =>
    refine ⟨0, by omega, rfl, (hrow.set 0 _).congr fun i _ => ?_, hbel.setCell (Nat.le_refl _) _⟩
    cases i <;> rfl
  case round =>
    obtain ⟨m, hm, rfl, hrow1, hbel1⟩ := hrel
    clear hrow hbel hc0 hf0 hsz
    by_cases hlt : m < n
    · have hd : decide ((m : Int) + 1 ≤ (n : Int)) = true := by simp; omega
      go_wp2_with fail
      obtain ⟨wo, rfl⟩ : ∃ wo : World, wo = wr := ⟨_, rfl⟩
      go_loopw [7] (fun i wr => ∃ j : Nat, j ≤ m + 1 ∧ i = .int .i64 j ∧ wr.rowIs B 3 (n + 1) (fun i => .int .i64 (mid m j i)) ∧ Below B w wr) (fun i _ => (intOf i).toNat)
      case atStart => exact ⟨m + 1, by omega, rfl, hrow1.congr fun i _ => by rw [mid_top], hbel1⟩
      case round =>
        obtain ⟨j, hj, rfl, hrow2, hbel2⟩ := hrel
        clear hrow1 hbel1
        cases j with
        | zero =>
          go_wp2_with fail
          go_roundw
          case rel => exact ⟨m + 1, by omega, by go_num, hrow2.congr fun i _ => by rw [mid_low], hbel2⟩
          case measure => simp [intOf]; omega
        | succ j =>
          have c1 := hrow2.cell (i := j + 1) (by omega)
          have c2 := hrow2.cell (i := j) (by omega)
          have f1 := hrow2.frozen (j + 1)
          have b1 := mid_le m (j + 1) (j + 1) (by omega)
          have b2 := mid_le m (j + 1) j (by omega)
          go_wp2_with fail
          go_region
          go_wp2_with fail
          go_roundw
          case rel =>
            refine ⟨j, by omega, rfl, ((hrow2.set (j + 1) _).drew).congr fun i _ => ?_, (hbel2.setCell (Nat.le_refl _) _).drew⟩
            rw [← mid_step m j i]
            split <;> simp
          case measure => simp [intOf]
    · obtain rfl : m = n := by omega
      have hck := hrow1.cell (i := k) (by omega)
      go_wp2_with fail
      go_ret
      exact ⟨rfl, by rw [← HB.out]; exact hbel1⟩

set_option maxHeartbeats 400000 in
theorem binomial_in (n k : Nat) (w : World) (hk : k ≤ n) (hn : n ≤ 60) :
    Calls Try.prog 57 #[.int .i64 n, .int .i64 k] w fun e w' => e = .returned (.int .i64 (ch n k)) ∧ Below w.heap.size w w' := by
  have hk0 : decide ((k : Int) < 0) = false := by simp
  obtain ⟨B, hB⟩ : ∃ B, B = w.heap.size := ⟨_, rfl⟩
  have HB := Lib.hid hB
  clear hB
  go_enter Try.func57, Try.ntmps57
  go_wp2_with (at_make; refine wpList_mk _ rfl _ _ _ rfl 3 (.int .i64 0) 8 Try.underlying22 int_info rfl .i64 .i64 _ _ (k + 1) rfl rfl (by omega) (by omega) (by omega) (by omega) ?_; intro w1 hrow hsz hbel; rw [← HB.out] at hrow hbel hsz ⊢; have hc0 := hrow.cell (i := 0) (by omega); have hf0 := hrow.frozen 0)
  go_loopw [20] (fun i wr => ∃ m : Nat, m ≤ n ∧ i = .int .i64 m ∧ wr.rowIs B 3 (k + 1) (fun i => .int .i64 (ch m i)) ∧ Below B w wr) (fun i _ => 100 - (intOf i).toNat)
  case atStart =>
    refine ⟨0, by omega, rfl, (hrow.set 0 _).congr fun i _ => ?_, hbel.setCell (Nat.le_refl _) _⟩
    cases i <;> rfl
  case round =>
    obtain ⟨m, hm, rfl, hrow1, hbel1⟩ := hrel
    clear hrow hbel hc0 hf0 hsz
    by_cases hlt : m < n
    · have hd : decide ((m : Int) < (n : Int)) = true := by simp; omega
      go_wp2_with fail
      obtain ⟨wo, rfl⟩ : ∃ wo : World, wo = wr := ⟨_, rfl⟩
      go_loopw [6] (fun i wr => ∃ j : Nat, j ≤ k ∧ i = .int .i64 j ∧ wr.rowIs B 3 (k + 1) (fun i => .int .i64 (mid m j i)) ∧ Below B w wr) (fun i _ => (intOf i).toNat)
      case atStart => exact ⟨k, by omega, rfl, hrow1.congr fun i hi => by rw [mid_start m k i (by omega)], hbel1⟩
      case round =>
        obtain ⟨j, hj, rfl, hrow2, hbel2⟩ := hrel
        clear hrow1 hbel1
        cases j with
        | zero =>
          go_wp2_with fail
          go_roundw
          case rel => exact ⟨m + 1, by omega, by go_num, hrow2.congr fun i _ => by rw [mid_low], hbel2⟩
          case measure => simp [intOf]; omega
        | succ j =>
          have c1 := hrow2.cell (i := j + 1) (by omega)
          have c2 := hrow2.cell (i := j) (by omega)
          have f1 := hrow2.frozen (j + 1)
          have b1 := mid_le m (j + 1) (j + 1) (by omega)
          have b2 := mid_le m (j + 1) j (by omega)
          go_wp2_with fail
          go_region
          go_wp2_with fail
          go_roundw
          case rel =>
            refine ⟨j, by omega, rfl, ((hrow2.set (j + 1) _).drew).congr fun i _ => ?_, (hbel2.setCell (Nat.le_refl _) _).drew⟩
            rw [← mid_step m j i]
            split <;> simp
          case measure => simp [intOf]
    · obtain rfl : m = n := by omega
      have hck := hrow1.cell (i := k) (by omega)
      go_wp2_with fail
      go_ret
      exact ⟨rfl, by rw [← HB.out]; exact hbel1⟩

/-- the binomial coefficient as the program has it: 0 where k is out of range -/
def chI (n k : Int) : Int := if 0 ≤ k ∧ k ≤ n then (ch n.toNat k.toNat : Int) else 0
theorem chI_nonneg (n k : Int) : 0 ≤ chI n k := by unfold chI; split <;> omega
theorem chI_le (n k : Int) (h : n ≤ 60) : chI n k ≤ 1152921504606846976 := by
  unfold chI
  split
  · have := ch_le60 n.toNat k.toNat (by omega); omega
  · omega
theorem nuChoose_any (n k : Int) (w : World) (h : n ≤ 60) (h' : -1000 ≤ n) :
    Calls Try.prog 54 #[.int .i64 n, .int .i64 k] w fun e w' => e = .returned (.int .i64 (chI n k)) ∧ Below w.heap.size w w' := by
  by_cases hk : 0 ≤ k ∧ k ≤ n
  · obtain ⟨k, rfl⟩ := Int.eq_ofNat_of_zero_le hk.1
    obtain ⟨n, rfl⟩ := Int.eq_ofNat_of_zero_le (show 0 ≤ n by omega)
    refine (nuChoose_in n k w (by omega) (by omega)).mono fun e w' ⟨he, hb⟩ => ⟨?_, hb⟩
    rw [he, chI, if_pos hk, Int.toNat_natCast, Int.toNat_natCast]
  · have e0 : chI n k = 0 := by rw [chI, if_neg hk]
    rw [e0]
    clear e0
    by_cases h0 : k < 0
    · clear hk
      go_enter Try.func54, Try.ntmps54
      go_wp2_with fail
      go_ret
      exact ⟨rfl, Below.refl _ _⟩
    · have h1 : n < k := by omega
      clear hk
      have hk0 : decide (k < 0) = false := by simp; omega
      go_enter Try.func54, Try.ntmps54
      go_wp2_with fail
      go_ret
      exact ⟨rfl, Below.refl _ _⟩
theorem binomial_any (n k : Int) (w : World) (h : n ≤ 60) (h' : -1000 ≤ n) :
    Calls Try.prog 57 #[.int .i64 n, .int .i64 k] w fun e w' => e = .returned (.int .i64 (chI n k)) ∧ Below w.heap.size w w' := by
  by_cases hk : 0 ≤ k ∧ k ≤ n
  · obtain ⟨k, rfl⟩ := Int.eq_ofNat_of_zero_le hk.1
    obtain ⟨n, rfl⟩ := Int.eq_ofNat_of_zero_le (show 0 ≤ n by omega)
    refine (binomial_in n k w (by omega) (by omega)).mono fun e w' ⟨he, hb⟩ => ⟨?_, hb⟩
    rw [he, chI, if_pos hk, Int.toNat_natCast, Int.toNat_natCast]
  · have e0 : chI n k = 0 := by rw [chI, if_neg hk]
    rw [e0]
    clear e0
    by_cases h0 : k < 0
    · clear hk
      go_enter Try.func57, Try.ntmps57
      go_wp2_with fail
      go_ret
      exact ⟨rfl, Below.refl _ _⟩
    · have h1 : n < k := by omega
      clear hk
      have hk0 : decide (k < 0) = false := by simp; omega
      go_enter Try.func57, Try.ntmps57
      go_wp2_with fail
      go_ret
      exact ⟨rfl, Below.refl _ _⟩
theorem chI_nat (m q : Nat) : chI m q = ch m q := by
  unfold chI
  split
  · simp
  · rw [ch_zero m q (by omega)]; rfl
theorem nuChoose_at (n k : Int) (m q : Nat) (w : World) (hn : n = m) (hk : k = q) (hm : m ≤ 60) :
    Calls Try.prog 54 #[.int .i64 n, .int .i64 k] w fun e w' => e = .returned (.int .i64 (ch m q)) ∧ Below w.heap.size w w' := by
  subst hn hk
  have h := nuChoose_any m q w (by omega) (by omega)
  rwa [chI_nat] at h
theorem binomial_at (n k : Int) (m q : Nat) (w : World) (hn : n = m) (hk : k = q) (hm : m ≤ 60) :
    Calls Try.prog 57 #[.int .i64 n, .int .i64 k] w fun e w' => e = .returned (.int .i64 (ch m q)) ∧ Below w.heap.size w w' := by
  subst hn hk
  have h := binomial_any m q w (by omega) (by omega)
  rwa [chI_nat] at h
end Go.Proofs.Ytckjobjmjijjdaa
