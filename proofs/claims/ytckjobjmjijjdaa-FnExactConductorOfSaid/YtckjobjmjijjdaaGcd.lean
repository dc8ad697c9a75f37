/- Contracts: gcd, nuGcds, nuLengths, areLengths; the law GcdOf. -/
import Derived.Test.YtckjobjmjijjdaaRise
namespace Go.Proofs.Ytckjobjmjijjdaa
open Go.RowKit
set_option linter.unusedVariables false
def gcdL (l : List Int) : Nat := l.foldl (fun g z => Nat.gcd g z.toNat) 0
def gcdTo (l : List Int) (k : Nat) : Nat := gcdL (l.take k)
theorem gcdTo_succ (l : List Int) (k : Nat) (h : k < l.length) : gcdTo l (k + 1) = Nat.gcd (gcdTo l k) (nth l k).toNat := by
  unfold gcdTo gcdL
  rw [take_snoc_nth l k h, List.foldl_append]; rfl
/-- the lists that count as lengths -/
def lenB (l : List Int) : Bool := decide (0 < l.length) && risB l 1 40
theorem lenB_mem {l : List Int} (h : lenB l = true) (j : Nat) (hj : j < l.length) : 1 ≤ nth l j ∧ nth l j ≤ 40 := by
  simp only [lenB, risB, Bool.and_eq_true, decide_eq_true_eq] at h
  exact ⟨(h.2 j hj).1, (h.2 j hj).2.1⟩
theorem gcd_le_of (a b : Nat) (h : b ≤ 40) (hb : 1 ≤ b) : Nat.gcd a b ≤ 40 := Nat.le_trans (Nat.gcd_le_right a (by omega)) h
theorem gcdTo_le {l : List Int} (h : lenB l = true) (k : Nat) (hk : k ≤ l.length) : gcdTo l k ≤ 40 := by
  induction k with
  | zero => simp [gcdTo, gcdL]
  | succ k ih =>
    rw [gcdTo_succ l k (by omega)]
    have := lenB_mem h k (by omega)
    exact gcd_le_of _ _ (by omega) (by omega)

set_option maxHeartbeats 400000 in
theorem nuGcd_any (a b : Nat) (w : World) (ha : a ≤ 1000000000) (hb : b ≤ 1000000000) :
    Calls Try.prog 112 #[.int .i64 a, .int .i64 b] w fun e w' => e = .returned (.int .i64 (Nat.gcd a b)) ∧ ∃ m, w' = w.drewN m := by
  go_enter Try.func112, Try.ntmps112
  go_wp2_with fail
  go_loopw [0, 1] (fun u v wr => ∃ x y : Nat, u = .int .i64 x ∧ v = .int .i64 y ∧ x ≤ 1000000000 ∧ y ≤ 1000000000 ∧ Nat.gcd a b = Nat.gcd x y ∧ ∃ m, wr = w.drewN m) (fun _ v _ => (intOf v).toNat)
  case atStart => exact ⟨a, b, rfl, rfl, ha, hb, rfl, 0, rfl⟩
  case round =>
    obtain ⟨x, y, rfl, rfl, hx, hy, hg, m, rfl⟩ := hrel
    have Hg := Lib.hid hg
    clear hg
    by_cases h0 : y = 0
    · subst h0
      go_wp2_with fail
      go_ret
      exact ⟨ret_int (by rw [Hg.out, Nat.gcd_zero_right]), m, rfl⟩
    · have hne : ((y : Int) != 0) = true := by simp; omega
      have hlt := Nat.mod_lt x (show 0 < y by omega)
      go_wp2_with fail
      go_region
      go_wp2_with fail
      go_roundw
      case rel => exact ⟨y, x % y, rfl, by go_num, hy, by omega, by rw [Hg.out, Nat.gcd_comm x y, Nat.gcd_rec y x, Nat.gcd_comm], m + 1, rfl⟩
      case measure => simp [intOf]; omega
set_option maxHeartbeats 400000 in
theorem nuGcds_any (a : Option Addr) (cap : Nat) (l : List Int) (w : World) (B : Nat) (ha : RdI w B a l) (hl : l.length ≤ 4611686018427387904) (hok : lenB l = true) :
    Calls Try.prog 99 #[.slice a l.length cap] w fun e w' => e = .returned (.int .i64 (gcdL l)) ∧ ∃ m, w' = w.drewN m := by
  have Hok := Lib.hid hok
  clear hok
  go_enter Try.func99, Try.ntmps99
  go_wp2_with fail
  go_loopw [3, 8] (fun u i wr => ∃ k : Nat, k ≤ l.length ∧ i = .int .i64 k ∧ u = .int .i64 (gcdTo l k) ∧ ∃ m, wr = w.drewN m) (fun _ i _ => l.length - (intOf i).toNat)
  case atStart => exact ⟨0, Nat.zero_le _, rfl, rfl, 0, rfl⟩
  case round =>
    obtain ⟨k, hk, rfl, rfl, m, rfl⟩ := hrel
    by_cases hlt : k < l.length
    · obtain ⟨g, off, rfl, _, hc1⟩ := Rd.at ha hlt
      have hle := gcdTo_le Hok.out k hk
      have hm := lenB_mem Hok.out k hlt
      have hs := gcdTo_succ l k hlt
      obtain ⟨z, hz⟩ : ∃ z : Nat, nth l k = z := ⟨(nth l k).toNat, by omega⟩
      rw [hz] at hc1 hm hs
      rw [Int.toNat_natCast] at hs
      have HS := Lib.hid hs
      clear hs hz
      go_wp2_with (go_at_call 112; refine (nuGcd_any _ _ _ (by omega) (by omega)).mono ?_; rintro e w1 ⟨rfl, m1, rfl⟩)
      go_roundw
      case rel => exact ⟨k + 1, by omega, by go_num, by rw [HS.out], m + m1, by simp⟩
      case measure => simp [intOf]; omega
    · obtain rfl : k = l.length := by omega
      go_wp2_with fail
      go_ret
      exact ⟨ret_int (by rw [gcdTo, List.take_length]), m, rfl⟩
set_option maxHeartbeats 400000 in
theorem gcd_any (a : Option Addr) (cap : Nat) (l : List Int) (w : World) (B : Nat) (ha : RdI w B a l) (hl : l.length ≤ 4611686018427387904) (hok : lenB l = true) :
    Calls Try.prog 74 #[.slice a l.length cap] w fun e w' => e = .returned (.int .i64 (gcdL l)) ∧ ∃ m, w' = w.drewN m := by
  have Hok := Lib.hid hok
  clear hok
  go_enter Try.func74, Try.ntmps74
  go_wp2_with fail
  go_loopw [3, 8] (fun u i wr => ∃ k : Nat, k ≤ l.length ∧ i = .int .i64 k ∧ u = .int .i64 (gcdTo l k) ∧ ∃ m, wr = w.drewN m) (fun _ i _ => l.length - (intOf i).toNat)
  case atStart => exact ⟨0, Nat.zero_le _, rfl, rfl, 0, rfl⟩
  case round =>
    obtain ⟨k, hk, rfl, rfl, m, rfl⟩ := hrel
    by_cases hlt : k < l.length
    · obtain ⟨g, off, rfl, _, hc1⟩ := Rd.at ha hlt
      have hle := gcdTo_le Hok.out k hk
      have hm := lenB_mem Hok.out k hlt
      have hs := gcdTo_succ l k hlt
      obtain ⟨z, hz⟩ : ∃ z : Nat, nth l k = z := ⟨(nth l k).toNat, by omega⟩
      rw [hz] at hc1 hm hs
      rw [Int.toNat_natCast] at hs
      have HS := Lib.hid hs
      clear hs hz
      have hd1 : decide ((k : Int) < (l.length : Int)) = true := decide_eq_true (by omega)
      go_wp2_with fail
      go_loopw [3, 5] (fun u v wr => ∃ x y : Nat, u = .int .i64 x ∧ v = .int .i64 y ∧ x ≤ 1000000000 ∧ y ≤ 1000000000 ∧ Nat.gcd (gcdTo l k) z = Nat.gcd x y ∧ ∃ m, wr = w.drewN m) (fun _ v _ => (intOf v).toNat)
      case atStart => exact ⟨_, z, rfl, rfl, by omega, by omega, rfl, m, rfl⟩
      case round =>
        obtain ⟨x, y, rfl, rfl, hx, hy, hg, m, rfl⟩ := hrel
        have Hg := Lib.hid hg
        clear hg
        by_cases h0 : y = 0
        · subst h0
          go_wp2_with fail
          go_roundw
          case rel => exact ⟨k + 1, by omega, by go_num, by rw [HS.out, Hg.out, Nat.gcd_zero_right], m, rfl⟩
          case measure => simp [intOf]; omega
        · have hne : ((y : Int) != 0) = true := by simp; omega
          have hlt2 := Nat.mod_lt x (show 0 < y by omega)
          go_wp2_with fail
          go_region
          go_wp2_with fail
          go_roundw
          case rel => exact ⟨y, x % y, rfl, by go_num, hy, by omega, by rw [Hg.out, Nat.gcd_comm x y, Nat.gcd_rec y x, Nat.gcd_comm], m + 1, rfl⟩
          case measure => simp [intOf]; omega
    · obtain rfl : k = l.length := by omega
      go_wp2_with fail
      go_ret
      exact ⟨ret_int (by rw [gcdTo, List.take_length]), m, rfl⟩
set_option maxHeartbeats 400000 in
theorem nuLengths_any (a : Option Addr) (cap : Nat) (l : List Int) (w : World) (B : Nat) (ha : RdI w B a l) (hl : l.length ≤ 4611686018427387904) :
    Calls Try.prog 68 #[.slice a l.length cap] w fun e w' => e = .returned (.bool (lenB l)) ∧ ∃ m, w' = w.drewN m := by
  by_cases h : 0 < l.length
  · have hb : lenB l = risB l 1 40 := by simp [lenB, h]
    rw [hb]
    clear hb
    go_enter Try.func68, Try.ntmps68
    go_wp2_with (go_at_call 53; refine (l1Rising_any _ _ _ _ _ _ _ ha hl).mono ?_; rintro e w1 ⟨rfl, m, rfl⟩)
    go_ret
    exact ⟨rfl, m, rfl⟩
  · have hb : lenB l = false := by simp [lenB, h]
    rw [hb]
    clear hb
    go_enter Try.func68, Try.ntmps68
    go_wp2_with fail
    go_ret
    exact ⟨rfl, 0, rfl⟩
set_option maxHeartbeats 400000 in
theorem areLengths_any (a : Option Addr) (cap : Nat) (l : List Int) (w : World) (B : Nat) (ha : RdI w B a l) (hl : l.length ≤ 4611686018427387904) :
    Calls Try.prog 71 #[.slice a l.length cap] w fun e w' => e = .returned (.bool (lenB l)) ∧ ∃ m, w' = w.drewN m := by
  by_cases h : 0 < l.length
  · have hb : lenB l = risB l 1 40 := by simp [lenB, h]
    rw [hb]
    clear hb
    go_enter Try.func71, Try.ntmps71
    go_wp2_with (go_at_call 56; refine (increasing_any _ _ _ _ _ _ _ ha hl).mono ?_; rintro e w1 ⟨rfl, m, rfl⟩)
    go_ret
    exact ⟨rfl, m, rfl⟩
  · have hb : lenB l = false := by simp [lenB, h]
    rw [hb]
    clear hb
    go_enter Try.func71, Try.ntmps71
    go_wp2_with fail
    go_ret
    exact ⟨rfl, 0, rfl⟩
end Go.Proofs.Ytckjobjmjijjdaa
