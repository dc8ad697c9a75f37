/- FirstDifferentBit: the walks and the law (a table of the library's as a fact). -/
import Derived.Test.YtkbhopcgjjipcaaDoorNumA
import Derived.Shelf.Spec.TrailingZeros
import Derived.Lib.LaidTab
import Derived.LaidMore
namespace Go.Proofs.YtkbhopcgjjipcaaDoor
open Go.RowKit
set_option linter.unusedVariables false
set_option linter.unusedSimpArgs false
set_option maxHeartbeats 400000 in
theorem nuBit_any (n : Int) (i : Nat) (w : World) (h' : 0 ≤ n) (h : n ≤ 9223372036854775807) (hi : i ≤ 63) :
    Calls Tryd.prog 88 #[.int .i64 n, .int .i64 i] w fun e w' => e = .returned (.int .i64 (half i n % 2)) ∧ w = w' := by
  go_enter Tryd.func88, Tryd.ntmps88
  go_wp2
  go_loop [0, 1] (fun a b => ∃ m : Int, ∃ k : Nat, 0 ≤ m ∧ m ≤ 9223372036854775807 ∧ k ≤ 63 ∧ a = .int .i64 m ∧ b = .int .i64 k ∧ half i n = half k m) (fun _ b => (intOf b).toNat)
  case atStart => exact ⟨n, i, by omega, by omega, hi, rfl, rfl, rfl⟩
  case round =>
    obtain ⟨m, k, hm0, hm1, hk1, rfl, rfl, hnd⟩ := hrel
    have Hnd := Lib.hid hnd
    clear hnd
    cases k with
    | zero =>
      go_wp2
      go_ret
      exact ⟨ret_int (by rw [Hnd.out]; rfl), rfl⟩
    | succ k =>
      go_wp2
      go_round
      case rel => exact ⟨m / 2, k, by omega, by omega, by omega, rfl, by go_num, by rw [Hnd.out]; rfl⟩
      case measure => simp [intOf]
theorem half_bit (n k : Nat) : half k (n : Int) % 2 = if n.testBit k then 1 else 0 := by
  induction k generalizing n with
  | zero =>
    rw [half, Nat.testBit_zero]
    by_cases h : n % 2 = 1
    · simp [h]; omega
    · simp [h]; omega
  | succ k ih =>
    have e : half (k + 1) (n : Int) = half k ((n / 2 : Nat) : Int) := by rw [half]; rfl
    rw [e, ih, Nat.testBit_succ]
theorem xor_zero {a b : Nat} (h : a ^^^ b = 0) : a = b := Nat.eq_of_testBit_eq fun i => by
  have h1 : (a ^^^ b).testBit i = false := by rw [h]; exact Nat.zero_testBit i
  rw [Nat.testBit_xor] at h1
  cases h2 : a.testBit i <;> cases h3 : b.testBit i <;> simp_all
/-- the place of the first bit in which they differ -/
def dif (a b : Nat) : Nat := Lib.ctz 64 (a ^^^ b)
theorem dif_lt {a b : Nat} (hne : a ≠ b) (ha : a < 2 ^ 64) (hb : b < 2 ^ 64) : dif a b < 64 ∧ (∀ i, i < dif a b → a.testBit i = b.testBit i) ∧ a.testBit (dif a b) ≠ b.testBit (dif a b) := by
  have hx0 : a ^^^ b ≠ 0 := fun h => hne (xor_zero h)
  have hx : a ^^^ b < 2 ^ 64 := Nat.xor_lt_two_pow ha hb
  obtain ⟨m, hm, hk⟩ := Lib.ctzFrom_spec 64 (a ^^^ b) (by omega) hx
  have hd : dif a b = Lib.ctzFrom 64 (a ^^^ b) := by rw [dif, Lib.ctz, if_neg hx0]
  rw [← hd] at hm hk
  refine ⟨hk, fun i hi => ?_, fun h => ?_⟩
  · have h1 : (a ^^^ b).testBit i = false := by
      have hni : ¬ dif a b ≤ i := by omega
      rw [hm, Nat.mul_comm, Nat.testBit_mul_two_pow]; simp only [hni, decide_false, Bool.false_and]
    rw [Nat.testBit_xor] at h1
    cases h2 : a.testBit i <;> cases h3 : b.testBit i <;> rw [h2, h3] at h1 <;> first | rfl | cases h1
  · have h1 : (a ^^^ b).testBit (dif a b) = true := by
      rw [hm, Nat.mul_comm, Nat.testBit_mul_two_pow, Nat.sub_self, Nat.testBit_zero]
      simp only [Nat.le_refl, decide_true, Bool.true_and]
      exact decide_eq_true (by omega)
    rw [Nat.testBit_xor, h] at h1
    simp at h1
theorem bits_xor_nat (a b : Nat) (ha : a < 9223372036854775808) (hb : b < 9223372036854775808) : bits .xor .i64 (a : Int) (b : Int) = ((a ^^^ b : Nat) : Int) := by
  have hx : a ^^^ b < 2 ^ 63 := Nat.xor_lt_two_pow (by omega) (by omega)
  have h1 : (BitVec.ofInt 64 (a : Int)).toNat = a := by
    rw [BitVec.ofInt_natCast, BitVec.toNat_ofNat]; exact Nat.mod_eq_of_lt (by omega)
  have h2 : (BitVec.ofInt 64 (b : Int)).toNat = b := by
    rw [BitVec.ofInt_natCast, BitVec.toNat_ofNat]; exact Nat.mod_eq_of_lt (by omega)
  show IntKind.i64.wrap ((BitVec.ofInt 64 (a : Int) ^^^ BitVec.ofInt 64 (b : Int)).toNat : Int) = _
  rw [BitVec.toNat_xor, h1, h2]
  simp [IntKind.wrap, IntKind.signed, IntKind.bits]
  omega
set_option maxHeartbeats 400000 in
theorem nuDiffer_any (a b : Nat) (w : World) (hne : a ≠ b) (ha : a ≤ 1000000000000) (hb : b ≤ 1000000000000) :
    Calls Tryd.prog 65 #[.int .i64 a, .int .i64 b] w fun e w' => e = .returned (.int .i64 (dif a b)) ∧ w = w' := by
  obtain ⟨h64, heq, hdi⟩ := dif_lt hne (by omega) (by omega)
  have Heq := Lib.hid heq
  have Hdi := Lib.hid hdi
  clear heq hdi
  go_enter Tryd.func65, Tryd.ntmps65
  go_wp2
  go_loop [5] (fun i => ∃ j : Nat, j ≤ dif a b ∧ i = .int .i64 j) (fun i => dif a b - (intOf i).toNat)
  case atStart => exact ⟨0, Nat.zero_le _, rfl⟩
  case round =>
    obtain ⟨j, hj, rfl⟩ := hrel
    by_cases hlt : j < dif a b
    · have e1 : (half j (a : Int) % 2 == half j (b : Int) % 2) = true := by rw [half_bit, half_bit, Heq.out j hlt]; simp
      go_wp2_with (go_at_call 88; refine (nuBit_any _ _ _ (by omega) (by omega) (by omega)).mono ?_; rintro e w' ⟨rfl, rfl⟩)
      go_round
      case rel => exact ⟨j + 1, by omega, rfl⟩
      case measure => simp [intOf]; omega
    · obtain rfl : j = dif a b := by omega
      have e1 : (half (dif a b) (a : Int) % 2 == half (dif a b) (b : Int) % 2) = false := by
        have := Hdi.out
        rw [half_bit, half_bit]
        cases h1 : a.testBit (dif a b) <;> cases h2 : b.testBit (dif a b) <;> simp_all
      go_wp2_with (go_at_call 88; refine (nuBit_any _ _ _ (by omega) (by omega) (by omega)).mono ?_; rintro e w' ⟨rfl, rfl⟩)
      go_ret
      exact ⟨rfl, rfl⟩
/-- the table in its variable -/
def DTab (w : World) : Prop := TabAt 0 Lib.deBruijn64tab w
set_option maxHeartbeats 1000000 in
theorem tz64_core (x k idx : Nat) (w : World) (hx0 : ((x : Int) == 0) = false)
    (key : IntKind.u64.wrap (bits BinOp.and IntKind.u64 (x : Int) (IntKind.u64.wrap (-(x : Int))) * 285870213051353865) / 288230376151711744 = (idx : Int))
    (hi : idx < 64) (hk : k < 64) (hcell : w.cell? ⟨0, idx, none⟩ = some (.int .u8 k)) :
    Calls Tryd.prog 67 #[.int .u64 x] w fun e w' => e = .returned (.int .i64 k) ∧ w = w' := by
  go_enter Tryd.func67, Tryd.ntmps67
  go_wp2_with (simp only [key])
  go_ret
  exact ⟨rfl, rfl⟩
theorem tz64_any (x : Nat) (hx : x < 18446744073709551616) (hx0 : x ≠ 0) (w : World) (hT : DTab w) :
    Calls Tryd.prog 67 #[.int .u64 x] w fun e w' => e = .returned (.int .i64 (Lib.ctz 64 x)) ∧ w = w' := by
  obtain ⟨hlow, hk⟩ := Lib.lowest_bit 64 x hx0 hx
  obtain ⟨hi, htab⟩ := Lib.deBruijn64_at _ hk
  have hcell := hT _ hi
  rw [htab] at hcell
  exact tz64_core x _ _ w (by simp; omega) (tz64_key x _ hx hx0 hlow) hi hk hcell
def fdbOk (a b : Int) : Bool := inR a 0 1000000000000 && inR b 0 1000000000000 && !(a == b)
def fdbR (a b : Int) : Int := if fdbOk a b then dif a.toNat b.toNat else 0
def FdbPost (a b : Int) (w : World) (e : Ending) (w' : World) : Prop := e = .returned (.tuple #[.int .i64 (fdbR a b), .bool (fdbOk a b)]) ∧ w = w'
theorem fdb_no {a b : Int} {w : World} {e : Ending} (h : fdbOk a b = false) (he : e = .returned (.tuple #[.int .i64 0, .bool false])) : FdbPost a b w e w := ⟨by rw [fdbR, h, he]; rfl, rfl⟩
set_option maxHeartbeats 1000000 in
theorem specFdb_any (a b : Int) (w : World) (hT : DTab w) : Calls Tryd.prog 32 #[.int .i64 a, .int .i64 b] w (FdbPost a b w) := by
  by_cases h1 : 0 ≤ a ∧ a ≤ 1000000000000
  · have i1 := inR_t h1.1 h1.2
    by_cases h2 : 0 ≤ b ∧ b ≤ 1000000000000
    · have i2 := inR_t h2.1 h2.2
      obtain ⟨a, rfl⟩ := Int.eq_ofNat_of_zero_le h1.1
      obtain ⟨b, rfl⟩ := Int.eq_ofNat_of_zero_le h2.1
      by_cases hne : a = b
      · have hbe : ((a : Int) == (b : Int)) = true := by simp [hne]
        have Hok := Lib.hid (show fdbOk a b = false by simp [fdbOk, hne])
        clear hne
        go_enter Tryd.func32, Tryd.ntmps32
        go_wp2_with (go_at_call 64; refine (nuWhole_any _ _).mono ?_; rintro e w' ⟨rfl, rfl⟩)
        go_ret2
        exact fdb_no Hok.out rfl
      · have hbe : ((a : Int) == (b : Int)) = false := by simp; omega
        have Hok := Lib.hid (show fdbOk a b = true by simp [fdbOk, i1, i2, hbe])
        have hx0 : a ^^^ b ≠ 0 := fun h => hne (xor_zero h)
        have hx : a ^^^ b < 2 ^ 63 := Nat.xor_lt_two_pow (by omega) (by omega)
        have hxor := bits_xor_nat a b (by omega) (by omega)
        have hxw : IntKind.u64.wrap (bits .xor .i64 (a : Int) (b : Int)) = ((a ^^^ b : Nat) : Int) := by rw [hxor, IntKind.wrap_u64]; omega
        have HXW := Lib.hid hxw
        clear hxor hxw
        go_enter Tryd.func32, Tryd.ntmps32
        go_wp2_with (first | (go_at_call 64; refine (nuWhole_any _ _).mono ?_; rintro e w' ⟨rfl, rfl⟩) | (go_at_call 65; refine (nuDiffer_any _ _ _ hne (by omega) (by omega)).mono ?_; rintro e w' ⟨rfl, rfl⟩))
        go_ret2
        exact ⟨by rw [fdbR, Hok.out]; rfl, rfl⟩
    · have i2 := inR_f h2
      have Hok := Lib.hid (show fdbOk a b = false by simp [fdbOk, i2])
      clear h1 h2
      go_enter Tryd.func32, Tryd.ntmps32
      go_wp2_with (go_at_call 64; refine (nuWhole_any _ _).mono ?_; rintro e w' ⟨rfl, rfl⟩)
      go_ret2
      exact fdb_no Hok.out rfl
  · have i1 := inR_f h1
    have Hok := Lib.hid (show fdbOk a b = false by simp [fdbOk, i1])
    clear h1
    go_enter Tryd.func32, Tryd.ntmps32
    go_wp2_with (go_at_call 64; refine (nuWhole_any _ _).mono ?_; rintro e w' ⟨rfl, rfl⟩)
    go_ret2
    exact fdb_no Hok.out rfl
set_option maxHeartbeats 1000000 in
theorem implFdb_any (a b : Int) (w : World) (hT : DTab w) : Calls Tryd.prog 33 #[.int .i64 a, .int .i64 b] w (FdbPost a b w) := by
  by_cases h1 : 0 ≤ a ∧ a ≤ 1000000000000
  · have i1 := inR_t h1.1 h1.2
    by_cases h2 : 0 ≤ b ∧ b ≤ 1000000000000
    · have i2 := inR_t h2.1 h2.2
      obtain ⟨a, rfl⟩ := Int.eq_ofNat_of_zero_le h1.1
      obtain ⟨b, rfl⟩ := Int.eq_ofNat_of_zero_le h2.1
      by_cases hne : a = b
      · have hbe : ((a : Int) == (b : Int)) = true := by simp [hne]
        have Hok := Lib.hid (show fdbOk a b = false by simp [fdbOk, hne])
        clear hne
        go_enter Tryd.func33, Tryd.ntmps33
        go_wp2_with (go_at_call 66; refine (isWhole_any _ _).mono ?_; rintro e w' ⟨rfl, rfl⟩)
        go_ret2
        exact fdb_no Hok.out rfl
      · have hbe : ((a : Int) == (b : Int)) = false := by simp; omega
        have Hok := Lib.hid (show fdbOk a b = true by simp [fdbOk, i1, i2, hbe])
        have hx0 : a ^^^ b ≠ 0 := fun h => hne (xor_zero h)
        have hx : a ^^^ b < 2 ^ 63 := Nat.xor_lt_two_pow (by omega) (by omega)
        have hxor := bits_xor_nat a b (by omega) (by omega)
        have hxw : IntKind.u64.wrap (bits .xor .i64 (a : Int) (b : Int)) = ((a ^^^ b : Nat) : Int) := by rw [hxor, IntKind.wrap_u64]; omega
        have HXW := Lib.hid hxw
        clear hxor hxw
        go_enter Tryd.func33, Tryd.ntmps33
        go_wp2_with (first | (go_at_call 66; refine (isWhole_any _ _).mono ?_; rintro e w' ⟨rfl, rfl⟩) | (go_at_call 67; rw [HXW.out]; refine (tz64_any _ (by omega) hx0 _ hT).mono ?_; rintro e w' ⟨rfl, rfl⟩))
        go_ret2
        exact ⟨by rw [fdbR, Hok.out]; rfl, rfl⟩
    · have i2 := inR_f h2
      have Hok := Lib.hid (show fdbOk a b = false by simp [fdbOk, i2])
      clear h1 h2
      go_enter Tryd.func33, Tryd.ntmps33
      go_wp2_with (go_at_call 66; refine (isWhole_any _ _).mono ?_; rintro e w' ⟨rfl, rfl⟩)
      go_ret2
      exact fdb_no Hok.out rfl
  · have i1 := inR_f h1
    have Hok := Lib.hid (show fdbOk a b = false by simp [fdbOk, i1])
    clear h1
    go_enter Tryd.func33, Tryd.ntmps33
    go_wp2_with (go_at_call 66; refine (isWhole_any _ _).mono ?_; rintro e w' ⟨rfl, rfl⟩)
    go_ret2
    exact fdb_no Hok.out rfl
theorem dtab_of_laid {W : World} (h : laidMetH Tryd.prog Rows.fnExactFirstDifferentBitRow.laid W) : DTab W := by
  rw [MakeChecks.laidMetH_plain _ _ _ (by kernel_rfl)] at h
  have h1 : laidMet Tryd.prog [("math/bits.deBruijn64tab", Lib.tabData .u8 (Lib.deBruijn64tab.map Int.ofNat))] W := h
  have h2 := Lib.tabIs_of_head (g := 0) (t := 106) (e := 5) (n := 64) (by kernel_rfl) (by kernel_rfl) (by kernel_rfl) (by kernel_rfl) (by kernel_rfl) (by kernel_rfl) h1
  intro j hj
  have h3 := h2.cell (g := 0) (by kernel_rfl) j (by simpa using hj)
  rw [h3]
  simp [List.getD, hj]
set_option maxHeartbeats 400000 in
theorem FnExactFirstDifferentBit_walk (a b : Int) (w : World) (ha0 : -9223372036854775808 ≤ a) (ha1 : a ≤ 9223372036854775807) (hb0 : -9223372036854775808 ≤ b) (hb1 : b ≤ 9223372036854775807) (hT : DTab w) :
    Calls Tryd.prog 9 #[.int .i64 a, .int .i64 b] w fun e w' => e = .returned (.bool true) ∧ Below w.heap.size w w' := by
  go_enter Tryd.func9, Tryd.ntmps9
  go_wp2_with (first | (go_at_call 32; refine (specFdb_any _ _ _ hT).mono ?_; rintro e w' ⟨rfl, rfl⟩) | (go_at_call 33; refine (implFdb_any _ _ _ hT).mono ?_; rintro e w' ⟨rfl, rfl⟩))
  go_ret
  exact ⟨rfl, Below.refl _ _⟩
end Go.Proofs.YtkbhopcgjjipcaaDoor
