/- Contracts: gcd, nuGcds, nuLengths, areLengths; the law GcdOf. -/
import Derived.Test.YtghdfbgglkkkpaaRise
namespace Go.Proofs.Ytghdfbgglkkkpaa
open Go.RowKit
set_option linter.unusedVariables false
def gcdL (l : List Int) : Nat := l.foldl (fun g z => Nat.gcd g z.toNat) 0
def gcdTo (l : List Int) (k : Nat) : Nat := gcdL (l.take k)
theorem gcdTo_succ (l : List Int) (k : Nat) (h : k < l.length) : gcdTo l (k + 1) = Nat.gcd (gcdTo l k) (nth l k).toNat := by
  unfold gcdTo gcdL
  rw [take_snoc_nth l k h, List.foldl_append]; rfl
/-- the lists that count as lengths -/
def lenB (l : List Int) : Bool := decide (0 < l.length) && risB l 1 40
theorem lenB_mem {l : List Int} (h : lenB l = true) (j : Nat) (hj : j < l.length) : 1 ≤ nth l j ∧ nth l j ≤ 40 := by
  simp only [lenB, risB, Bool.and_eq_true, decide_eq_true_eq] at h
  exact ⟨(h.2 j hj).1, (h.2 j hj).2.1⟩
theorem gcd_le_of (a b : Nat) (h : b ≤ 40) (hb : 1 ≤ b) : Nat.gcd a b ≤ 40 := Nat.le_trans (Nat.gcd_le_right a (by omega)) h
theorem gcdTo_le {l : List Int} (h : lenB l = true) (k : Nat) (hk : k ≤ l.length) : gcdTo l k ≤ 40 := by
  induction k with
  | zero => simp [gcdTo, gcdL]
  | succ k ih =>
    rw [gcdTo_succ l k (by omega)]
    have := lenB_mem h k (by omega)
    exact gcd_le_of _ _ (by omega) (by omega)

set_option maxHeartbeats 400000 in
theorem nuGcd_any (a b : Nat) (w : World) (ha : a ≤ 1000000000) (hb : b ≤ 1000000000) :
    Calls Try.prog 61 #[.int .i64 a, .int .i64 b] w fun e w' => e = .returned (.int .i64 (Nat.gcd a b)) ∧ ∃ m, w' = w.drewN m := by
  go_enter Try.func61, Try.ntmps61
  go_wp2_with fail
  go_loopw [0, 1] (fun u v wr => ∃ x y : Nat, u = .int .i64 x ∧ v = .int .i64 y ∧ x ≤ 1000000000 ∧ y ≤ 1000000000 ∧ Nat.gcd a b = Nat.gcd x y ∧ ∃ m, wr = w.drewN m) (fun _ v _ => (intOf v).toNat)
  case atStart => exact ⟨a, b, rfl, rfl, ha, hb, rfl, 0, rfl⟩
  case round =>
    obtain ⟨x, y, rfl, rfl, hx, hy, hg, m, rfl⟩ := hrel
    have Hg := Lib.hid hg
    clear hg
    by_cases h0 : y = 0
    · subst h0
      go_wp2_with fail
      go_ret
      exact ⟨ret_int (by rw [Hg.out, Nat.gcd_zero_right]), m, rfl⟩
    · have hne : ((y : Int) != 0) = true := by simp; omega
      have hlt := Nat.mod_lt x (show 0 < y by omega)
      go_wp2_with fail
      go_region
      go_wp2_with fail
      go_roundw
      case rel => exact ⟨y, x % y, rfl, by go_num, hy, by omega, by rw [Hg.out, Nat.gcd_comm x y, Nat.gcd_rec y x, Nat.gcd_comm], m + 1, rfl⟩
      case measure => simp [intOf]; omega
set_option maxHeartbeats 400000 in
theorem nuGcds_any (a : Option Addr) (cap : Nat) (l : List Int) (w : World) (B : Nat) (ha : RdI w B a l) (hl : l.length ≤ 4611686018427387904) (hok : lenB l = true) :
    Calls Try.prog 54 #[.slice a l.length cap] w fun e w' => e = .returned (.int .i64 (gcdL l)) ∧ ∃ m, w' = w.drewN m := by
  have Hok := Lib.hid hok
  clear hok
  go_enter Try.func54, Try.ntmps54
  go_wp2_with fail
  go_loopw [3, 8] (fun u i wr => ∃ k : Nat, k ≤ l.length ∧ i = .int .i64 k ∧ u = .int .i64 (gcdTo l k) ∧ ∃ m, wr = w.drewN m) (fun _ i _ => l.length - (intOf i).toNat)
  case atStart => exact ⟨0, Nat.zero_le _, rfl, rfl, 0, rfl⟩
  case round =>
    obtain ⟨k, hk, rfl, rfl, m, rfl⟩ := hrel
    by_cases hlt : k < l.length
    · obtain ⟨g, off, rfl, _, hc1⟩ := Rd.at ha hlt
      have hle := gcdTo_le Hok.out k hk
      have hm := lenB_mem Hok.out k hlt
      have hs := gcdTo_succ l k hlt
      obtain ⟨z, hz⟩ : ∃ z : Nat, nth l k = z := ⟨(nth l k).toNat, by omega⟩
      rw [hz] at hc1 hm hs
      rw [Int.toNat_natCast] at hs
      have HS := Lib.hid hs
      clear hs hz
      go_wp2_with (go_at_call 61; refine (nuGcd_any _ _ _ (by omega) (by omega)).mono ?_; rintro e w1 ⟨rfl, m1, rfl⟩)
      go_roundw
      case rel => exact ⟨k + 1, by omega, by go_num, by rw [HS.out], m + m1, by simp⟩
      case measure => simp [intOf]; omega
    · obtain rfl : k = l.length := by omega
      go_wp2_with fail
      go_ret
      exact ⟨ret_int (by rw [gcdTo, List.take_length]), m, rfl⟩
set_option maxHeartbeats 400000 in
theorem gcd_any (a : Option Addr) (cap : Nat) (l : List Int) (w : World) (B : Nat) (ha : RdI w B a l) (hl : l.length ≤ 4611686018427387904) (hok : lenB l = true) :
    Calls Try.prog 56 #[.slice a l.length cap] w fun e w' => e = .returned (.int .i64 (gcdL l)) ∧ ∃ m, w' = w.drewN m := by
  have Hok := Lib.hid hok
  clear hok
  go_enter Try.func56, Try.ntmps56
  go_wp2_with fail
  go_loopw [3, 8] (fun u i wr => ∃ k : Nat, k ≤ l.length ∧ i = .int .i64 k ∧ u = .int .i64 (gcdTo l k) ∧ ∃ m, wr = w.drewN m) (fun _ i _ => l.length - (intOf i).toNat)
  case atStart => exact ⟨0, Nat.zero_le _, rfl, rfl, 0, rfl⟩
  case round =>
    obtain ⟨k, hk, rfl, rfl, m, rfl⟩ := hrel
    by_cases hlt : k < l.length
    · obtain ⟨g, off, rfl, _, hc1⟩ := Rd.at ha hlt
      have hle := gcdTo_le Hok.out k hk
      have hm := lenB_mem Hok.out k hlt
      have hs := gcdTo_succ l k hlt
      obtain ⟨z, hz⟩ : ∃ z : Nat, nth l k = z := ⟨(nth l k).toNat, by omega⟩
      rw [hz] at hc1 hm hs
      rw [Int.toNat_natCast] at hs
      have HS := Lib.hid hs
      clear hs hz
      have hd1 : decide ((k : Int) < (l.length : Int)) = true := decide_eq_true (by omega)
      go_wp2_with fail
      go_loopw [3, 5] (fun u v wr => ∃ x y : Nat, u = .int .i64 x ∧ v = .int .i64 y ∧ x ≤ 1000000000 ∧ y ≤ 1000000000 ∧ Nat.gcd (gcdTo l k) z = Nat.gcd x y ∧ ∃ m, wr = w.drewN m) (fun _ v _ => (intOf v).toNat)
      case atStart => exact ⟨_, z, rfl, rfl, by omega, by omega, rfl, m, rfl⟩
      case round =>
        obtain ⟨x, y, rfl, rfl, hx, hy, hg, m, rfl⟩ := hrel
        have Hg := Lib.hid hg
        clear hg
        by_cases h0 : y = 0
        · subst h0
          go_wp2_with fail
          go_roundw
          case rel => exact ⟨k + 1, by omega, by go_num, by rw [HS.out, Hg.out, Nat.gcd_zero_right], m, rfl⟩
          case measure => simp [intOf]; omega
        · have hne : ((y : Int) != 0) = true := by simp; omega
          have hlt2 := Nat.mod_lt x (show 0 < y by omega)
          go_wp2_with fail
          go_region
          go_wp2_with fail
          go_roundw
          case rel => exact ⟨y, x % y, rfl, by go_num, hy, by omega, by rw [Hg.out, Nat.gcd_comm x y, Nat.gcd_rec y x, Nat.gcd_comm], m + 1, rfl⟩
          case measure => simp [intOf]; omega
    · obtain rfl : k = l.length := by omega
      go_wp2_with fail
      go_ret
      exact ⟨ret_int (by rw [gcdTo, List.take_length]), m, rfl⟩
set_option maxHeartbeats 400000 in
theorem nuLengths_any (a : Option Addr) (cap : Nat) (l : List Int) (w : World) (B : Nat) (ha : RdI w B a l) (hl : l.length ≤ 4611686018427387904) :
    Calls Try.prog 53 #[.slice a l.length cap] w fun e w' => e = .returned (.bool (lenB l)) ∧ ∃ m, w' = w.drewN m := by
  by_cases h : 0 < l.length
  · have hb : lenB l = risB l 1 40 := by simp [lenB, h]
    rw [hb]
    clear hb
    go_enter Try.func53, Try.ntmps53
    go_wp2_with (go_at_call 60; refine (l1Rising_any _ _ _ _ _ _ _ ha hl).mono ?_; rintro e w1 ⟨rfl, m, rfl⟩)
    go_ret
    exact ⟨rfl, m, rfl⟩
  · have hb : lenB l = false := by simp [lenB, h]
    rw [hb]
    clear hb
    go_enter Try.func53, Try.ntmps53
    go_wp2_with fail
    go_ret
    exact ⟨rfl, 0, rfl⟩
set_option maxHeartbeats 400000 in
theorem areLengths_any (a : Option Addr) (cap : Nat) (l : List Int) (w : World) (B : Nat) (ha : RdI w B a l) (hl : l.length ≤ 4611686018427387904) :
    Calls Try.prog 55 #[.slice a l.length cap] w fun e w' => e = .returned (.bool (lenB l)) ∧ ∃ m, w' = w.drewN m := by
  by_cases h : 0 < l.length
  · have hb : lenB l = risB l 1 40 := by simp [lenB, h]
    rw [hb]
    clear hb
    go_enter Try.func55, Try.ntmps55
    go_wp2_with (go_at_call 62; refine (increasing_any _ _ _ _ _ _ _ ha hl).mono ?_; rintro e w1 ⟨rfl, m, rfl⟩)
    go_ret
    exact ⟨rfl, m, rfl⟩
  · have hb : lenB l = false := by simp [lenB, h]
    rw [hb]
    clear hb
    go_enter Try.func55, Try.ntmps55
    go_wp2_with fail
    go_ret
    exact ⟨rfl, 0, rfl⟩
def gcdR (l : List Int) : Int := if lenB l then (gcdL l : Int) else 0
def GcdPost (l : List Int) (w : World) (e : Ending) (w' : World) : Prop := e = .returned (.tuple #[.int .i64 (gcdR l), .bool (lenB l)]) ∧ ∃ m, w' = w.drewN m
set_option maxHeartbeats 400000 in
theorem specGcdOf_any (a : Option Addr) (cap : Nat) (l : List Int) (w : World) (B : Nat) (ha : RdI w B a l) (hl : l.length ≤ 4611686018427387904) :
    Calls Try.prog 33 #[.slice a l.length cap] w (GcdPost l w) := by
  cases hb : lenB l with
  | true =>
    have HB := Lib.hid hb
    go_enter Try.func33, Try.ntmps33
    go_wp2_with (first | (go_at_call 53; refine (nuLengths_any _ _ _ _ _ ha hl).mono ?_; rintro e w1 ⟨rfl, m, rfl⟩) | (go_at_call 54; refine (nuGcds_any _ _ _ _ _ (Rd.drewN ha _) hl hb).mono ?_; rintro e w1 ⟨rfl, m2, rfl⟩))
    go_ret2
    exact ⟨by rw [gcdR, HB.out]; rfl, _, rfl⟩
  | false =>
    have HB := Lib.hid hb
    go_enter Try.func33, Try.ntmps33
    go_wp2_with (go_at_call 53; refine (nuLengths_any _ _ _ _ _ ha hl).mono ?_; rintro e w1 ⟨rfl, m, rfl⟩)
    go_ret2
    exact ⟨by rw [gcdR, HB.out]; rfl, _, rfl⟩
set_option maxHeartbeats 400000 in
theorem implGcdOf_any (a : Option Addr) (cap : Nat) (l : List Int) (w : World) (B : Nat) (ha : RdI w B a l) (hl : l.length ≤ 4611686018427387904) :
    Calls Try.prog 35 #[.slice a l.length cap] w (GcdPost l w) := by
  cases hb : lenB l with
  | true =>
    have HB := Lib.hid hb
    go_enter Try.func35, Try.ntmps35
    go_wp2_with (first | (go_at_call 55; refine (areLengths_any _ _ _ _ _ ha hl).mono ?_; rintro e w1 ⟨rfl, m, rfl⟩) | (go_at_call 56; refine (gcd_any _ _ _ _ _ (Rd.drewN ha _) hl hb).mono ?_; rintro e w1 ⟨rfl, m2, rfl⟩))
    go_ret2
    exact ⟨by rw [gcdR, HB.out]; rfl, _, rfl⟩
  | false =>
    have HB := Lib.hid hb
    go_enter Try.func35, Try.ntmps35
    go_wp2_with (go_at_call 55; refine (areLengths_any _ _ _ _ _ ha hl).mono ?_; rintro e w1 ⟨rfl, m, rfl⟩)
    go_ret2
    exact ⟨by rw [gcdR, HB.out]; rfl, _, rfl⟩
set_option maxHeartbeats 400000 in
theorem FnExactGcdOf_walk (a : Option Addr) (cap : Nat) (l : List Int) (w : World) (ha : RdI w w.heap.size a l) (hi : I64s l) (hm : l.length ≤ maxLen) :
    Calls Try.prog 12 #[.slice a l.length cap] w fun e w' => e = .returned (.bool true) ∧ Below w.heap.size w w' := by
  unfold maxLen at hm
  by_cases hlen : l.length ≤ 1048576
  · go_enter Try.func12, Try.ntmps12
    go_wp2_with fail
    refine (toIntS_any a cap l _ _ ha (Nat.le_refl _) (by omega)).mono ?_
    rintro e w1 ⟨rfl, own1, bel1⟩
    go_wp2_with fail
    refine (specGcdOf_any _ _ l _ _ own1.rd (by omega)).mono ?_
    rintro e w2 ⟨rfl, m2, h2⟩
    have bel2 : Below w1.heap.size w1 w2 := below_of_drewN h2
    clear h2
    have z1 := bel1.size
    have z2 := bel2.size
    have ha2 := (ha.below bel1).below (bel2.mono z1)
    go_wp2_with fail
    refine (toIntS_any a cap l _ _ ha2 (by omega) (by omega)).mono ?_
    rintro e w3 ⟨rfl, own3, bel3⟩
    go_wp2_with fail
    refine (implGcdOf_any _ _ l _ _ own3.rd (by omega)).mono ?_
    rintro e w4 ⟨rfl, m4, h4⟩
    have bel4 : Below w3.heap.size w3 w4 := below_of_drewN h4
    clear h4
    have z3 := bel3.size
    have z4 := bel4.size
    have ha4 := (ha2.below (bel3.mono (by omega))).below (bel4.mono (by omega))
    replace own3 := Ow.new own3 bel4
    go_wp2_with fail
    refine (toIntS_any a cap l _ _ ha4 (by omega) (by omega)).mono ?_
    rintro e w5 ⟨rfl, own5, bel5⟩
    have z5 := bel5.size
    replace own3 := Ow.new own3 bel5
    go_wp2_with fail
    refine (eqIntS_any _ _ _ _ l l _ _ _ own3.rd own5.rd (by omega) (by omega)).mono ?_
    rintro e w6 ⟨rfl, m6, h6⟩
    have bel6 : Below w5.heap.size w5 w6 := below_of_drewN h6
    clear h6
    rw [decide_eq_true rfl]
    go_wp2_with fail
    go_ret
    exact ⟨rfl, bel1.trans ((bel2.mono z1).trans ((bel3.mono (by omega)).trans ((bel4.mono (by omega)).trans ((bel5.mono (by omega)).trans (bel6.mono (by omega))))))⟩
  · go_enter Try.func12, Try.ntmps12
    go_wp2_with fail
    go_ret
    exact ⟨rfl, Below.refl _ _⟩
end Go.Proofs.Ytghdfbgglkkkpaa
