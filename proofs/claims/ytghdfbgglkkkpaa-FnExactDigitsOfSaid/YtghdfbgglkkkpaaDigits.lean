/- DigitsOf: contracts and the law. -/
import Derived.Test.YtghdfbgglkkkpaaNumA
import Derived.Test.YtghdfbgglkkkpaaInts
import Derived.Test.YtghdfbgglkkkpaaApp
namespace Go.Proofs.Ytghdfbgglkkkpaa
open Go.RowKit
set_option linter.unusedVariables false
/-- n divided k times -/
def dv (b n : Int) : Nat → Int
  | 0 => n
  | k + 1 => dv b n k / b
theorem dv_nonneg {b n : Int} (hb : 2 ≤ b) (hn : 0 ≤ n) (k : Nat) : 0 ≤ dv b n k ∧ dv b n k ≤ n := by
  induction k with
  | zero => exact ⟨hn, Int.le_refl _⟩
  | succ k ih =>
    refine ⟨Int.ediv_nonneg ih.1 (by omega), Int.le_trans (Int.ediv_le_self _ ih.1) ih.2⟩
def digs (b n : Int) (k : Nat) : List Int := (List.range k).map fun j => dv b n j % b
theorem digs_length (b n : Int) (k : Nat) : (digs b n k).length = k := by simp [digs]
theorem digs_succ (b n : Int) (k : Nat) : digs b n (k + 1) = digs b n k ++ [dv b n k % b] := by simp [digs, List.range_succ]
theorem nth_digs (b n : Int) (k j : Nat) (h : j < k) : nth (digs b n k) j = dv b n j % b := by
  rw [nth_eq_getElem _ _ (by rw [digs_length]; exact h)]; simp [digs]

/-- one int more on an own row of ints -/
theorem OwI.snoc {w : World} {lo hi : Nat} {a : Option Addr} {cap : Nat} {zs : List Int} {z : Int} (h : Ow w lo hi 3 1 a (zs.length + 1) cap (app (fun j => .int .i64 (nth zs j)) (zs.length * 1) [.int .i64 z])) : OwI w lo hi a cap (zs ++ [z]) := by
  have hl : (zs ++ [z]).length = zs.length + 1 := by simp
  unfold OwI
  rw [hl]
  refine h.congr fun j hj => ?_
  unfold app
  by_cases hlt : j < zs.length
  · rw [if_pos (by omega), nth_append_left _ _ _ hlt]
  · rw [if_neg (by omega), nth_append_right _ _ _ (by omega)]
    rw [show j - zs.length * 1 = 0 by omega, show j - zs.length = 0 by omega]; rfl

set_option maxHeartbeats 400000 in
theorem nuDigits_any (n b : Int) (c : Nat) (w : World) (hn : 0 ≤ n) (hn' : n ≤ 1000000000000) (hb : 2 ≤ b) (hb' : b ≤ 1000) (hc : c ≤ 60) :
    Calls Try.prog 52 #[.int .i64 n, .int .i64 b, .int .i64 c] w fun e w' => ∃ a cap, e = .returned (.slice a c cap) ∧ OwI w' w.heap.size w'.heap.size a cap (digs b n c) ∧ Below w.heap.size w w' := by
  obtain ⟨D, hD⟩ : ∃ D, D = w.heap.size := ⟨_, rfl⟩
  have HD := Lib.hid hD
  rw [← hD]
  clear hD
  go_enter Try.func52, Try.ntmps52
  go_wp2_with (at_make; refine wpList_mk _ rfl _ _ _ rfl 3 (.int .i64 0) 8 Try.underlying30 int_info rfl .i64 .i64 _ _ c rfl rfl rfl rfl (by omega) (by omega) ?_; intro w1 hrow hsz hbel; rw [← HD.out] at hrow hbel hsz ⊢)
  go_loopw [0, 13] (fun q i wr => ∃ j : Nat, j ≤ c ∧ i = .int .i64 j ∧ q = .int .i64 (dv b n j) ∧ (∃ F, wr.rowIs D 3 c F ∧ ∀ x, x < j → F x = .int .i64 (dv b n x % b)) ∧ Below D w wr) (fun _ i _ => c - (intOf i).toNat)
  case atStart => exact ⟨0, Nat.zero_le _, rfl, rfl, ⟨_, hrow, fun x hx => absurd hx (by omega)⟩, hbel⟩
  case round =>
    obtain ⟨j, hj, rfl, rfl, ⟨F1, hrow1, hF1⟩, hbel1⟩ := hrel
    have HF1 := Lib.hid hF1
    have hd := dv_nonneg hb hn j
    clear hF1 hrow hbel
    by_cases hlt : j < c
    · have hcell := hrow1.cell (i := j) (by omega)
      have hf := hrow1.frozen j
      obtain ⟨u, hu⟩ : ∃ u, F1 j = u := ⟨_, rfl⟩
      rw [hu] at hcell
      clear hu
      go_wp2_with fail
      go_roundw
      case rel =>
        refine ⟨j + 1, by omega, by go_num, rfl, ⟨_, hrow1.set j _, fun x hx => ?_⟩, hbel1.setCell (Nat.le_refl _) _⟩
        by_cases e : x = j
        · subst e; simp
        · rw [if_neg e]; exact HF1.out x (by omega)
      case measure => simp [intOf]; omega
    · obtain rfl : j = c := by omega
      go_wp2_with fail
      go_ret
      refine ⟨some ⟨D, 0, none⟩, j, rfl, ⟨by rw [digs_length]; exact Nat.le_refl _, by unfold maxLen; omega, fun _ => ⟨D, F1, rfl, Nat.le_refl _, hrow1.lt, by rw [Nat.mul_one]; exact hrow1, fun x hx => ?_⟩⟩, hbel1⟩
      rw [digs_length, Nat.mul_one] at hx
      rw [HF1.out x hx]; show _ = Value.int .i64 (nth (digs b n j) x); rw [nth_digs _ _ _ _ hx]

/-- what DigitsOf gives -/
def digOk (n b c : Int) : Bool := inR n 0 1000000000000 && inR b 2 1000 && inR c 0 60 && decide (¬ 0 < dv b n c.toNat)
def digR (n b c : Int) : List Int := if digOk n b c then digs b n c.toNat else []
def DigPost (n b c : Int) (w : World) (e : Ending) (w' : World) : Prop := PostI (digR n b c) (digOk n b c) w e w'
theorem dig_no {n b c : Int} {w w' : World} {e : Ending} (h : digOk n b c = false) (he : e = .returned (.tuple #[.slice none 0 0, .bool false])) (hb : Below w.heap.size w w') : DigPost n b c w e w' :=
  PostI.no (by rw [digR, h]; rfl) h he hb
theorem dig_yes {n b : Int} {c : Nat} {w w' : World} {e : Ending} {a : Option Addr} {cap : Nat} (h : digOk n b c = true) (he : e = .returned (.tuple #[.slice a c cap, .bool true])) (ho : OwI w' w.heap.size w'.heap.size a cap (digs b n c)) (hb : Below w.heap.size w w') : DigPost n b c w e w' := by
  have hr : digR n b c = digs b n c := by rw [digR, h]; rfl
  refine ⟨a, cap, ?_, ?_, hb⟩
  · rw [hr, h, he, digs_length]
  · rw [hr]; exact ho

set_option maxHeartbeats 400000 in
theorem specDigitsOf_any (n b c : Int) (w : World) : Calls Try.prog 28 #[.int .i64 n, .int .i64 b, .int .i64 c] w (DigPost n b c w) := by
  by_cases h1 : 0 ≤ n ∧ n ≤ 1000000000000
  · have i1 := inR_t h1.1 h1.2
    by_cases h2 : 2 ≤ b ∧ b ≤ 1000
    · have i2 := inR_t h2.1 h2.2
      by_cases h3 : 0 ≤ c ∧ c ≤ 60
      · have i3 := inR_t h3.1 h3.2
        obtain ⟨c, rfl⟩ := Int.eq_ofNat_of_zero_le h3.1
        obtain ⟨hn, hn'⟩ := h1
        obtain ⟨hb, hb'⟩ := h2
        obtain ⟨hc, hc'⟩ := h3
        have hok : digOk n b c = decide (¬ 0 < dv b n c) := by simp [digOk, i1, i2, i3]
        have Hok := Lib.hid hok
        clear hok
        go_enter Try.func28, Try.ntmps28
        go_wp2_with (first | (go_at_call 38; refine (l1In_any _ _ _ _).mono ?_; rintro e w' ⟨rfl, rfl⟩) | (go_at_call 42; refine (nuWhole_any _ _).mono ?_; rintro e w' ⟨rfl, rfl⟩))
        go_loop [8, 9] (fun q i => ∃ j : Nat, j ≤ c ∧ i = .int .i64 j ∧ q = .int .i64 (dv b n j)) (fun _ i => c - (intOf i).toNat)
        case atStart => exact ⟨0, Nat.zero_le _, rfl, rfl⟩
        case round =>
          obtain ⟨j, hj, rfl, rfl⟩ := hrel
          have hd := dv_nonneg hb hn j
          by_cases hlt : j < c
          · go_wp2_with fail
            go_round
            case rel => exact ⟨j + 1, by omega, by go_num, rfl⟩
            case measure => simp [intOf]; omega
          · obtain rfl : j = c := by omega
            by_cases hz : 0 < dv b n j
            · go_wp2_with fail
              go_ret2
              exact dig_no (by rw [Hok.out]; simpa using hz) rfl (Below.refl _ _)
            · go_wp2_with (go_at_call 52; refine (nuDigits_any _ _ _ _ (by omega) (by omega) (by omega) (by omega) (by omega)).mono ?_; rintro e w1 ⟨a1, cap1, rfl, hown, hbel⟩)
              go_ret2
              exact dig_yes (by rw [Hok.out]; simpa using hz) rfl hown hbel
      · have i3 := inR_f h3
        have hok : digOk n b c = false := by simp [digOk, i3]
        have Hok := Lib.hid hok
        clear hok h1 h2 h3
        go_enter Try.func28, Try.ntmps28
        go_wp2_with (first | (go_at_call 38; refine (l1In_any _ _ _ _).mono ?_; rintro e w' ⟨rfl, rfl⟩) | (go_at_call 42; refine (nuWhole_any _ _).mono ?_; rintro e w' ⟨rfl, rfl⟩))
        go_ret2
        exact dig_no Hok.out rfl (Below.refl _ _)
    · have i2 := inR_f h2
      have hok : digOk n b c = false := by simp [digOk, i2]
      have Hok := Lib.hid hok
      clear hok h1 h2
      go_enter Try.func28, Try.ntmps28
      go_wp2_with (first | (go_at_call 38; refine (l1In_any _ _ _ _).mono ?_; rintro e w' ⟨rfl, rfl⟩) | (go_at_call 42; refine (nuWhole_any _ _).mono ?_; rintro e w' ⟨rfl, rfl⟩))
      go_ret2
      exact dig_no Hok.out rfl (Below.refl _ _)
  · have i1 := inR_f h1
    have hok : digOk n b c = false := by simp [digOk, i1]
    have Hok := Lib.hid hok
    clear hok h1
    go_enter Try.func28, Try.ntmps28
    go_wp2_with (first | (go_at_call 38; refine (l1In_any _ _ _ _).mono ?_; rintro e w' ⟨rfl, rfl⟩) | (go_at_call 42; refine (nuWhole_any _ _).mono ?_; rintro e w' ⟨rfl, rfl⟩))
    go_ret2
    exact dig_no Hok.out rfl (Below.refl _ _)

set_option maxHeartbeats 400000 in
theorem implDigitsOf_in (n b : Int) (c : Nat) (w : World) (hn : 0 ≤ n) (hn' : n ≤ 1000000000000) (hb : 2 ≤ b) (hb' : b ≤ 1000) (hc : c ≤ 60) (Hok : Hid (digOk n b c = decide (¬ 0 < dv b n c))) : Calls Try.prog 29 #[.int .i64 n, .int .i64 b, .int .i64 c] w (DigPost n b c w) := by
  have i1 := inR_t hn hn'
  have i2 := inR_t hb hb'
  have i3 := inR_t (show (0 : Int) ≤ c by omega) (show (c : Int) ≤ 60 by omega)
  obtain ⟨D, hD⟩ : ∃ D, D = w.heap.size := ⟨_, rfl⟩
  have HD := Lib.hid hD
  clear hD
  go_enter Try.func29, Try.ntmps29
  go_wp2_with (first | (go_at_call 39; refine (within_any _ _ _ _).mono ?_; rintro e w' ⟨rfl, rfl⟩) | (go_at_call 44; refine (isWhole_any _ _).mono ?_; rintro e w' ⟨rfl, rfl⟩))
  go_loopw [0, 8, 23] (fun q v i wr => ∃ j : Nat, j ≤ c ∧ i = .int .i64 j ∧ q = .int .i64 (dv b n j) ∧ (∃ a cap, v = .slice a j cap ∧ Ow wr D wr.heap.size 3 1 a j cap (fun x => .int .i64 (dv b n x % b))) ∧ Below D w wr) (fun _ _ i _ => c - (intOf i).toNat)
  case atStart => exact ⟨0, Nat.zero_le _, rfl, rfl, ⟨none, 0, rfl, Ow.nil _ _ _ _ _ _ _⟩, Below.refl _ _⟩
  case round =>
    obtain ⟨j, hj, rfl, rfl, ⟨a, cap, rfl, hown⟩, hbel⟩ := hrel
    have hd := dv_nonneg hb hn j
    have hDw : D ≤ wr.heap.size := by have := hbel.size; have := HD.out; omega
    by_cases hlt : j < c
    · go_wp2_with (at_builtin; refine wpList_app rfl _ _ _ rfl 3 (.int .i64 0) 1 8 Try.underlying30 int_info rfl (by decide) D wr.heap.size a j cap _ rfl (hown.alloc _) ⟨wr.heap.size, 0, none⟩ 1 1 [.int .i64 (dv b n j % b)] rfl rfl (cell_one_new _ _ _) (by simp [Value.oneCell']) (by decide) (by unfold maxLen; omega) (by omega) (by simp; omega) ?_; intro g' cap' w1 hown1 hgr _ _)
      go_roundw
      case rel =>
        refine ⟨j + 1, by omega, by go_num, rfl, ⟨some ⟨g', 0, none⟩, cap', rfl, hown1.congr fun x hx => ?_⟩, ?_⟩
        · unfold app
          by_cases e : x < j
          · rw [if_pos (by omega)]
          · rw [if_neg (by omega), show x - j * 1 = 0 by omega, show x = j by omega]; rfl
        · exact below_app (hbel.alloc hDw _) (hown.alloc _) hgr (Nat.le_refl _) (by simp; omega)
      case measure => simp [intOf]; omega
    · obtain rfl : j = c := by omega
      by_cases hz : 0 < dv b n j
      · go_wp2_with fail
        go_ret2
        exact dig_no (by rw [Hok.out]; simpa using hz) rfl (by rw [← HD.out]; exact hbel)
      · go_wp2_with fail
        go_ret2
        refine dig_yes (by rw [Hok.out]; simpa using hz) rfl ?_ (by rw [← HD.out]; exact hbel)
        rw [← HD.out]
        unfold OwI
        rw [digs_length]
        exact hown.congr fun x hx => by rw [nth_digs _ _ _ _ (by omega)]

set_option maxHeartbeats 400000 in
theorem implDigitsOf_any (n b c : Int) (w : World) : Calls Try.prog 29 #[.int .i64 n, .int .i64 b, .int .i64 c] w (DigPost n b c w) := by
  by_cases h1 : 0 ≤ n ∧ n ≤ 1000000000000
  · have i1 := inR_t h1.1 h1.2
    by_cases h2 : 2 ≤ b ∧ b ≤ 1000
    · have i2 := inR_t h2.1 h2.2
      by_cases h3 : 0 ≤ c ∧ c ≤ 60
      · have i3 := inR_t h3.1 h3.2
        obtain ⟨c, rfl⟩ := Int.eq_ofNat_of_zero_le h3.1
        have hok : digOk n b c = decide (¬ 0 < dv b n c) := by simp [digOk, i1, i2, i3]
        exact implDigitsOf_in n b c w h1.1 h1.2 h2.1 h2.2 (by omega) hok
      · have i3 := inR_f h3
        have hok : digOk n b c = false := by simp [digOk, i3]
        have Hok := Lib.hid hok
        clear hok h1 h2 h3
        go_enter Try.func29, Try.ntmps29
        go_wp2_with (first | (go_at_call 39; refine (within_any _ _ _ _).mono ?_; rintro e w' ⟨rfl, rfl⟩) | (go_at_call 44; refine (isWhole_any _ _).mono ?_; rintro e w' ⟨rfl, rfl⟩))
        go_ret2
        exact dig_no Hok.out rfl (Below.refl _ _)
    · have i2 := inR_f h2
      have hok : digOk n b c = false := by simp [digOk, i2]
      have Hok := Lib.hid hok
      clear hok h1 h2
      go_enter Try.func29, Try.ntmps29
      go_wp2_with (first | (go_at_call 39; refine (within_any _ _ _ _).mono ?_; rintro e w' ⟨rfl, rfl⟩) | (go_at_call 44; refine (isWhole_any _ _).mono ?_; rintro e w' ⟨rfl, rfl⟩))
      go_ret2
      exact dig_no Hok.out rfl (Below.refl _ _)
  · have i1 := inR_f h1
    have hok : digOk n b c = false := by simp [digOk, i1]
    have Hok := Lib.hid hok
    clear hok h1
    go_enter Try.func29, Try.ntmps29
    go_wp2_with (first | (go_at_call 39; refine (within_any _ _ _ _).mono ?_; rintro e w' ⟨rfl, rfl⟩) | (go_at_call 44; refine (isWhole_any _ _).mono ?_; rintro e w' ⟨rfl, rfl⟩))
    go_ret2
    exact dig_no Hok.out rfl (Below.refl _ _)

theorem digR_le (n b c : Int) : (digR n b c).length ≤ 60 := by
  unfold digR
  split
  · rename_i h
    rw [digs_length]
    simp [digOk, inR] at h
    omega
  · simp
set_option maxHeartbeats 400000 in
theorem FnExactDigitsOf_walk (n b c : Int) (w : World) (_ : -9223372036854775808 ≤ n) (_ : n ≤ 9223372036854775807) (_ : -9223372036854775808 ≤ b) (_ : b ≤ 9223372036854775807) (_ : -9223372036854775808 ≤ c) (_ : c ≤ 9223372036854775807) :
    Calls Try.prog 11 #[.int .i64 n, .int .i64 b, .int .i64 c] w fun e w' => e = .returned (.bool true) ∧ Below w.heap.size w w' := by
  have HS : Hid (∀ w, Calls Try.prog 28 #[.int .i64 n, .int .i64 b, .int .i64 c] w (PostI (digR n b c) (digOk n b c) w)) := specDigitsOf_any n b c
  have HI : Hid (∀ w, Calls Try.prog 29 #[.int .i64 n, .int .i64 b, .int .i64 c] w (PostI (digR n b c) (digOk n b c) w)) := implDigitsOf_any n b c
  have hR := digR_le n b c
  generalize digR n b c = R at *
  generalize digOk n b c = ok at *
  go_enter Try.func11, Try.ntmps11
  go_wp2_with fail
  refine (HS.out _).mono ?_
  rintro e w1 ⟨a1, cap1, rfl, own1, bel1⟩
  go_wp2_with fail
  refine (HI.out _).mono ?_
  rintro e w2 ⟨a2, cap2, rfl, own2, bel2⟩
  replace own1 := Ow.new own1 bel2
  go_wp2_with fail
  refine (eqIntS_any _ _ _ _ R R _ _ _ own2.rd own1.rd (by omega) (by omega)).mono ?_
  rintro e w3 ⟨rfl, m3, h3⟩
  have bel3 : Below w2.heap.size w2 w3 := below_of_drewN h3
  have sz3 := size_of_drewN h3
  clear h3
  replace own1 := Ow.new own1 bel3
  replace own2 := Ow.new own2 bel3
  rw [decide_eq_true rfl]
  go_wp2_with fail
  refine (markIntS_any a2 cap2 R 1 _ _ _ own2 (by omega)).mono ?_
  rintro e w4 ⟨rfl, own4, fr4⟩
  replace own1 := Ow.fr own1 fr4 (fun k h1 h2 hc => by have := (Ow.blk_in own2 hc).1; omega)
  have bel4 : Below w.heap.size w3 w4 := fr4.below (fun k h1 h2 hc => by have := (Ow.blk_in own2 hc).1; have := bel1.size; omega) (by have := bel1.size; have := bel2.size; omega)
  have sz4 := fr4.size
  clear own2 fr4
  go_wp2_with fail
  refine (heldIntS_any a2 cap2 R.length 1 _ _ own4.rd (by omega)).mono ?_
  rintro e w5 ⟨rfl, m5, h5⟩
  have bel5 : Below w4.heap.size w4 w5 := below_of_drewN h5
  have sz5 := size_of_drewN h5
  clear h5
  replace own1 := Ow.new own1 bel5
  replace own4 := Ow.new own4 bel5
  go_wp2_with fail
  refine (HI.out _).mono ?_
  rintro e w6 ⟨a6, cap6, rfl, own6, bel6⟩
  replace own1 := Ow.new own1 bel6
  replace own4 := Ow.new own4 bel6
  go_wp2_with fail
  refine (eqIntS_any _ _ _ _ R R _ _ _ own6.rd own1.rd (by omega) (by omega)).mono ?_
  rintro e w7 ⟨rfl, m7, h7⟩
  have bel7 : Below w6.heap.size w6 w7 := below_of_drewN h7
  clear h7
  replace own4 := Ow.new own4 bel7
  rw [decide_eq_true rfl]
  go_wp2_with fail
  refine (heldIntS_any a2 cap2 R.length 1 _ _ own4.rd (by omega)).mono ?_
  rintro e w8 ⟨rfl, m8, h8⟩
  have bel8 : Below w7.heap.size w7 w8 := below_of_drewN h8
  clear h8
  go_wp2_with fail
  go_ret
  have z1 := bel1.size
  have z2 := bel2.size
  have z6 := bel6.size
  have z7 := bel7.size
  exact ⟨rfl, bel1.trans ((bel2.mono z1).trans ((bel3.mono (by omega)).trans (bel4.trans ((bel5.mono (by omega)).trans ((bel6.mono (by omega)).trans ((bel7.mono (by omega)).trans (bel8.mono (by omega))))))))⟩
end Go.Proofs.Ytghdfbgglkkkpaa
