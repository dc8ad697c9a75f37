
/- SubsetsOf: contracts and the law. -/
import Derived.Test.YtckjobjmjijjdaaSubA
import Derived.Test.YtckjobjmjijjdaaNest
namespace Go.Proofs.Ytckjobjmjijjdaa
open Go.RowKit
set_option linter.unusedVariables false
theorem ints_info : (Try.prog.info? 22).map (fun i => (i.zero, i.size, i.bytes)) = some (some (.slice none 0 0), 1, 24) := by kernel_rfl
/-- the first c subsets -/
def subsTo (n k c : Nat) : List (List Int) := (List.range c).map fun r : Nat => subL 0 n k (r : Int)
theorem subsTo_length (n k c : Nat) : (subsTo n k c).length = c := by simp [subsTo]
theorem subsTo_succ (n k c : Nat) : subsTo n k (c + 1) = subsTo n k c ++ [subL 0 n k c] := by simp [subsTo, List.range_succ]
theorem rowOf_subsTo (n k c j : Nat) (h : j < c) : rowOf (subsTo n k c) j = subL 0 n k j := by
  rw [rowOf_eq_getElem _ _ (by rw [subsTo_length]; exact h)]; simp [subsTo]
def ssOk (n k : Int) : Bool := inR n 0 60 && inR k 0 60 && decide (chI n k ≤ 1000)
def ssR (n k : Int) : List (List Int) := if ssOk n k then subsTo n.toNat k.toNat (ch n.toNat k.toNat) else []
theorem ssR_cases (n k : Int) : ssR n k = [] ∨ ∃ m q : Nat, n = m ∧ k = q ∧ m ≤ 60 ∧ q ≤ 60 ∧ ch m q ≤ 1000 ∧ ssR n k = subsTo m q (ch m q) := by
  unfold ssR
  cases h : ssOk n k
  · exact .inl rfl
  · simp only [ssOk, Bool.and_eq_true, inR_iff, decide_eq_true_eq] at h
    obtain ⟨⟨h1, h2⟩, h3⟩ := h
    obtain ⟨n, rfl⟩ := Int.eq_ofNat_of_zero_le h1.1
    obtain ⟨k, rfl⟩ := Int.eq_ofNat_of_zero_le h2.1
    rw [chI_nat] at h3
    exact .inr ⟨n, k, rfl, rfl, by omega, by omega, by omega, rfl⟩
theorem ssR_le (n k : Int) : (ssR n k).length ≤ 1048576 := by
  rcases ssR_cases n k with h | ⟨m, q, _, _, _, _, h3, h⟩ <;> rw [h]
  · simp
  · rw [subsTo_length]; omega
theorem ssR_row (n k : Int) (j : Nat) (hj : j < (ssR n k).length) : (rowOf (ssR n k) j).length ≤ 60 := by
  rcases ssR_cases n k with h | ⟨m, q, _, _, _, h2, h3, h⟩
  · rw [h] at hj; simp at hj
  · rw [h] at hj ⊢
    rw [subsTo_length] at hj
    rw [rowOf_subsTo _ _ _ _ hj, subL_length _ _ _ _ (by omega) (by omega)]; omega
theorem total_le {α : Type} (rows : List (List α)) (b : Nat) (h : ∀ j, j < rows.length → (rowOf rows j).length ≤ b) : Total rows ≤ rows.length * b := by
  have key : ∀ k, k ≤ rows.length → Total (rows.take k) ≤ k * b := by
    intro k
    induction k with
    | zero => intro _; simp [Total]
    | succ k ih =>
      intro hk
      rw [total_take rows k (by omega), Nat.succ_mul]
      have := ih (by omega)
      have := h k (by omega)
      omega
  have := key rows.length (Nat.le_refl _)
  rwa [List.take_length] at this
theorem ss_no {n k : Int} {w w' : World} {e : Ending} (h : ssOk n k = false) (he : e = .returned (.tuple #[.slice none 0 0, .bool false])) (hb : Below w.heap.size w w') : PostSS (ssR n k) (ssOk n k) w e w' :=
  PostSS.no (by rw [ssR, h]; rfl) h he hb
theorem ss_yes {n k c : Nat} {w w' : World} {e : Ending} {a : Option Addr} {cap : Nat} {vs : Nat → Option Addr × Nat} (h : ssOk n k = true) (hc : c = ch n k) (he : e = .returned (.tuple #[.slice a c cap, .bool true])) (ho : RowsI w' w.heap.size w'.heap.size a cap (subsTo n k c) vs) (hb : Below w.heap.size w w') : PostSS (ssR n k) (ssOk n k) w e w' := by
  have hr : ssR n k = subsTo n k c := by rw [ssR, h, hc]; rfl
  refine ⟨a, cap, vs, ?_, ?_, hb⟩
  · rw [hr, h, he, subsTo_length]
  · rw [hr]; exact ho
theorem sub_ok {n k : Nat} (h1 : n ≤ 60) (h2 : k ≤ 60) : ssOk n k = decide (ch n k ≤ 1000) := by
  rw [ssOk, inR_t (show (0 : Int) ≤ n by omega) (by omega), inR_t (show (0 : Int) ≤ k by omega) (by omega), chI_nat]
  simp only [Bool.true_and]
  exact decide_eq_decide.2 (by omega)
set_option maxHeartbeats 800000 in
theorem specSubsetsOf_in (n k : Nat) (w : World) (h1 : n ≤ 60) (h2 : k ≤ 60) (h3 : ch n k ≤ 1000) : Calls Try.prog 29 #[.int .i64 n, .int .i64 k] w (PostSS (ssR n k) (ssOk n k) w) := by
  have i1 := inR_t (show (0 : Int) ≤ n by omega) (show (n : Int) ≤ 60 by omega)
  have i2 := inR_t (show (0 : Int) ≤ k by omega) (show (k : Int) ≤ 60 by omega)
  have HO : Hid (ssOk n k = true) := by show _ = true; rw [sub_ok h1 h2]; simpa using h3
  obtain ⟨D, hD⟩ : ∃ D, D = w.heap.size := ⟨_, rfl⟩
  have HD := Lib.hid hD
  clear hD
  have hd3 : decide ((1000 : Int) < (ch n k : Int)) = false := decide_eq_false (by omega)
  go_enter Try.func29, Try.ntmps29
  go_wp2_with (first | (go_at_call 64; refine (nuSixty_any _ _ _).mono ?_; rintro e w' ⟨rfl, rfl⟩) | (go_at_call 54; refine (nuChoose_at _ _ n k _ rfl rfl (by omega)).mono ?_; rintro e w1 ⟨rfl, bel1⟩))
  go_loopw [6, 7] (fun v i wr => ∃ c : Nat, ∃ a cap vs, c ≤ ch n k ∧ i = .int .i64 c ∧ v = .slice a c cap ∧ RowsI wr D wr.heap.size a cap (subsTo n k c) vs ∧ Below D w wr) (fun _ i _ => ch n k - (intOf i).toNat)
  case atStart => exact ⟨0, none, 0, fun _ => (none, 0), by omega, rfl, rfl, RowsAt.nil _ _ _ _ _, bel1.mono (by rw [HD.out]; exact Nat.le_refl _)⟩
  case round =>
    obtain ⟨c, a, cap, vs, hc, rfl, rfl, own1, bel2⟩ := hrel
    have hDw : D ≤ wr.heap.size := by have := bel2.size; have := HD.out; omega
    by_cases hlt : c < ch n k
    · go_wp2_with fail
      refine (nuChoose_at _ _ n k _ rfl rfl (by omega)).mono ?_
      rintro e w2 ⟨rfl, bel3⟩
      have z3 := bel3.size
      replace own1 := (RowsAt.new own1 bel3).top
      go_wp2_with fail
      refine (nuAt_any n k c _ (by omega) (by omega) (by omega) (by omega)).mono ?_
      rintro e w3 ⟨b3, cb3, rfl, own3, bel4⟩
      have z4 := bel4.size
      replace own1 := RowsAt.new own1 bel4
      have hsl := subL_length n k 0 c (by omega) (by omega)
      have own3' : Ow w3 w2.heap.size w3.heap.size 3 1 b3 (subL 0 n k c).length cb3 (cellI (subL 0 n k c)) := own3
      have HSL := Lib.hid hsl
      have hol := own1.1
      rw [subsTo_length] at hol
      clear hsl own3
      go_wp2_with (at_builtin; refine wpList_app rfl _ _ _ rfl 22 (.slice none 0 0) 1 24 Try.underlying38 ints_info rfl (by decide) D w2.heap.size a c cap _ rfl (Ow.alloc hol _) ⟨w3.heap.size, 0, none⟩ 1 1 [.slice b3 k cb3] rfl rfl (cell_one_new _ _ _) (by simp [Value.oneCell']) (by decide) (by unfold maxLen; omega) (by omega) (by simp; omega) ?_; intro g' cap' w4 own4 hgr _ _)
      go_roundw
      case rel =>
        refine ⟨c + 1, _, cap', setv vs (subsTo n k c).length (b3, cb3), by omega, by go_num, rfl, ?_, below_app ((bel2.trans ((bel3.mono (by omega)).trans (bel4.mono (by omega)))).alloc (by omega) _) (Ow.alloc hol _) hgr (Nat.le_refl _) (by simp; omega)⟩
        rw [subsTo_succ]
        refine RowsAt.snoc (w := w3.alloc (.cells #[.slice b3 k cb3] 22)) (hi := w2.heap.size) (own1.new ((Below.refl _ _).alloc (Nat.le_refl _) _)) (by decide) ((Ow.alloc own3' _).wide (Nat.le_refl _) (by simp)) (by omega) (by simp; omega) hgr ?_
        rw [subsTo_length, HSL.out]
        exact own4
      case measure => simp [intOf]; omega
    · obtain rfl : c = ch n k := by omega
      go_wp2_with fail
      refine (nuChoose_at _ _ n k _ rfl rfl (by omega)).mono ?_
      rintro e w2 ⟨rfl, bel3⟩
      go_wp2_with fail
      go_ret2
      exact ss_yes HO.out rfl rfl (by rw [← HD.out]; exact (RowsAt.new own1 bel3).top) (by rw [← HD.out]; exact bel2.trans (bel3.mono hDw))

theorem implBinomial_at (n k : Nat) (w : World) (h1 : n ≤ 60) (h2 : k ≤ 60) : Calls Try.prog 66 #[.int .i64 n, .int .i64 k] w fun e w' => e = .returned (.tuple #[.int .i64 (ch n k), .bool true]) ∧ Below w.heap.size w w' := by
  have i1 := inR_t (show (0 : Int) ≤ n by omega) (show (n : Int) ≤ 60 by omega)
  have i2 := inR_t (show (0 : Int) ≤ k by omega) (show (k : Int) ≤ 60 by omega)
  go_enter Try.func66, Try.ntmps66
  go_wp2_with (first | (go_at_call 55; refine (within_any _ _ _ _).mono ?_; rintro e w' ⟨rfl, rfl⟩) | (go_at_call 57; refine (binomial_at _ _ n k _ rfl rfl (by omega)).mono ?_; rintro e w1 ⟨rfl, bel1⟩))
  go_ret2
  exact ⟨rfl, bel1⟩
set_option maxHeartbeats 800000 in
theorem implSubsetsOf_in (n k : Nat) (w : World) (h1 : n ≤ 60) (h2 : k ≤ 60) (h3 : ch n k ≤ 1000) : Calls Try.prog 30 #[.int .i64 n, .int .i64 k] w (PostSS (ssR n k) (ssOk n k) w) := by
  have i1 := inR_t (show (0 : Int) ≤ n by omega) (show (n : Int) ≤ 60 by omega)
  have i2 := inR_t (show (0 : Int) ≤ k by omega) (show (k : Int) ≤ 60 by omega)
  have HO : Hid (ssOk n k = true) := by show _ = true; rw [sub_ok h1 h2]; simpa using h3
  obtain ⟨D, hD⟩ : ∃ D, D = w.heap.size := ⟨_, rfl⟩
  have HD := Lib.hid hD
  clear hD
  have hd3 : decide ((1000 : Int) < (ch n k : Int)) = false := decide_eq_false (by omega)
  go_enter Try.func30, Try.ntmps30
  go_wp2_with fail
  refine (implBinomial_at n k _ h1 h2).mono ?_
  rintro e w1 ⟨rfl, bel1⟩
  go_wp2_with fail
  go_loopw [8, 23] (fun v i wr => ∃ c : Nat, ∃ a cap vs, c ≤ ch n k ∧ i = .int .i64 c ∧ v = .slice a c cap ∧ RowsI wr D wr.heap.size a cap (subsTo n k c) vs ∧ Below D w wr) (fun _ i _ => ch n k - (intOf i).toNat)
  case atStart => exact ⟨0, none, 0, fun _ => (none, 0), by omega, rfl, rfl, RowsAt.nil _ _ _ _ _, bel1.mono (by rw [HD.out]; exact Nat.le_refl _)⟩
  case round =>
    obtain ⟨c, a, cap, vs, hc, rfl, rfl, own1, bel2⟩ := hrel
    have hDw : D ≤ wr.heap.size := by have := bel2.size; have := HD.out; omega
    by_cases hlt : c < ch n k
    · go_wp2_with fail
      refine (subsetAt_any n k c _ (by omega) (by omega) (by omega) (by omega)).mono ?_
      rintro e w3 ⟨b3, cb3, rfl, own3, bel4⟩
      have z4 := bel4.size
      replace own1 := RowsAt.new own1 bel4
      have hsl := subL_length n k 0 c (by omega) (by omega)
      have own3' : Ow w3 wr.heap.size w3.heap.size 3 1 b3 (subL 0 n k c).length cb3 (cellI (subL 0 n k c)) := own3
      have HSL := Lib.hid hsl
      have hol := own1.1
      rw [subsTo_length] at hol
      clear hsl own3
      go_wp2_with (at_builtin; refine wpList_app rfl _ _ _ rfl 22 (.slice none 0 0) 1 24 Try.underlying38 ints_info rfl (by decide) D wr.heap.size a c cap _ rfl (Ow.alloc hol _) ⟨w3.heap.size, 0, none⟩ 1 1 [.slice b3 k cb3] rfl rfl (cell_one_new _ _ _) (by simp [Value.oneCell']) (by decide) (by unfold maxLen; omega) (by omega) (by simp; omega) ?_; intro g' cap' w4 own4 hgr _ _)
      go_roundw
      case rel =>
        refine ⟨c + 1, _, cap', setv vs (subsTo n k c).length (b3, cb3), by omega, by go_num, rfl, ?_, below_app ((bel2.trans (bel4.mono (by omega))).alloc (by omega) _) (Ow.alloc hol _) hgr (Nat.le_refl _) (by simp; omega)⟩
        rw [subsTo_succ]
        refine RowsAt.snoc (w := w3.alloc (.cells #[.slice b3 k cb3] 22)) (hi := wr.heap.size) (own1.new ((Below.refl _ _).alloc (Nat.le_refl _) _)) (by decide) ((Ow.alloc own3' _).wide (Nat.le_refl _) (by simp)) (by omega) (by simp; omega) hgr ?_
        rw [subsTo_length, HSL.out]
        exact own4
      case measure => simp [intOf]; omega
    · obtain rfl : c = ch n k := by omega
      go_wp2_with fail
      go_ret2
      exact ss_yes HO.out rfl rfl (by rw [← HD.out]; exact own1) (by rw [← HD.out]; exact bel2)
set_option maxHeartbeats 800000 in
theorem specSubsetsOf_any (n k : Int) (w : World) : Calls Try.prog 29 #[.int .i64 n, .int .i64 k] w (PostSS (ssR n k) (ssOk n k) w) := by
  by_cases h1 : 0 ≤ n ∧ n ≤ 60
  · have i1 := inR_t h1.1 h1.2
    by_cases h2 : 0 ≤ k ∧ k ≤ 60
    · have i2 := inR_t h2.1 h2.2
      obtain ⟨n, rfl⟩ := Int.eq_ofNat_of_zero_le h1.1
      obtain ⟨k, rfl⟩ := Int.eq_ofNat_of_zero_le h2.1
      by_cases h3 : ch n k ≤ 1000
      · exact specSubsetsOf_in n k w (by omega) (by omega) h3
      · have HO : Hid (ssOk n k = false) := by show _ = false; rw [sub_ok (by omega) (by omega)]; simpa using h3
        have hd3 : decide ((1000 : Int) < (ch n k : Int)) = true := decide_eq_true (by omega)
        go_enter Try.func29, Try.ntmps29
        go_wp2_with (first | (go_at_call 64; refine (nuSixty_any _ _ _).mono ?_; rintro e w' ⟨rfl, rfl⟩) | (go_at_call 54; refine (nuChoose_at _ _ n k _ rfl rfl (by omega)).mono ?_; rintro e w1 ⟨rfl, bel1⟩))
        go_ret2
        exact ss_no HO.out rfl bel1
    · have i2 := inR_f h2
      have HO : Hid (ssOk n k = false) := by show _ = false; simp [ssOk, i2]
      clear h1 h2
      go_enter Try.func29, Try.ntmps29
      go_wp2_with (go_at_call 64; refine (nuSixty_any _ _ _).mono ?_; rintro e w' ⟨rfl, rfl⟩)
      go_ret2
      exact ss_no HO.out rfl (Below.refl _ _)
  · have i1 := inR_f h1
    have HO : Hid (ssOk n k = false) := by show _ = false; simp [ssOk, i1]
    clear h1
    go_enter Try.func29, Try.ntmps29
    go_wp2_with (go_at_call 64; refine (nuSixty_any _ _ _).mono ?_; rintro e w' ⟨rfl, rfl⟩)
    go_ret2
    exact ss_no HO.out rfl (Below.refl _ _)
set_option maxHeartbeats 800000 in
theorem implSubsetsOf_any (n k : Int) (w : World) : Calls Try.prog 30 #[.int .i64 n, .int .i64 k] w (PostSS (ssR n k) (ssOk n k) w) := by
  by_cases h1 : 0 ≤ n ∧ n ≤ 60
  · have i1 := inR_t h1.1 h1.2
    by_cases h2 : 0 ≤ k ∧ k ≤ 60
    · have i2 := inR_t h2.1 h2.2
      obtain ⟨n, rfl⟩ := Int.eq_ofNat_of_zero_le h1.1
      obtain ⟨k, rfl⟩ := Int.eq_ofNat_of_zero_le h2.1
      by_cases h3 : ch n k ≤ 1000
      · exact implSubsetsOf_in n k w (by omega) (by omega) h3
      · have HO : Hid (ssOk n k = false) := by show _ = false; rw [sub_ok (by omega) (by omega)]; simpa using h3
        have hd3 : decide ((1000 : Int) < (ch n k : Int)) = true := decide_eq_true (by omega)
        go_enter Try.func30, Try.ntmps30
        go_wp2_with (go_at_call 66; refine (implBinomial_at n k _ (by omega) (by omega)).mono ?_; rintro e w1 ⟨rfl, bel1⟩)
        go_ret2
        exact ss_no HO.out rfl bel1
    · have i2 := inR_f h2
      have HO : Hid (ssOk n k = false) := by show _ = false; simp [ssOk, i2]
      clear h1 h2
      go_enter Try.func30, Try.ntmps30
      go_wp2_with (first | (go_at_call 55; refine (within_any _ _ _ _).mono ?_; rintro e w' ⟨rfl, rfl⟩) | go_in)
      go_ret2
      exact ss_no HO.out rfl (Below.refl _ _)
  · have i1 := inR_f h1
    have HO : Hid (ssOk n k = false) := by show _ = false; simp [ssOk, i1]
    clear h1
    go_enter Try.func30, Try.ntmps30
    go_wp2_with (first | (go_at_call 55; refine (within_any _ _ _ _).mono ?_; rintro e w' ⟨rfl, rfl⟩) | go_in)
    go_ret2
    exact ss_no HO.out rfl (Below.refl _ _)
set_option maxRecDepth 100000 in
set_option maxHeartbeats 1000000 in
theorem FnExactSubsetsOf_walk (n k : Int) (w : World) (_ : -9223372036854775808 ≤ n) (_ : n ≤ 9223372036854775807) (_ : -9223372036854775808 ≤ k) (_ : k ≤ 9223372036854775807) :
    Calls Try.prog 8 #[.int .i64 n, .int .i64 k] w fun e w' => e = .returned (.bool true) ∧ Below w.heap.size w w' := by
  have HS : Hid (∀ w, Calls Try.prog 29 #[.int .i64 n, .int .i64 k] w (PostSS (ssR n k) (ssOk n k) w)) := specSubsetsOf_any n k
  have HI : Hid (∀ w, Calls Try.prog 30 #[.int .i64 n, .int .i64 k] w (PostSS (ssR n k) (ssOk n k) w)) := implSubsetsOf_any n k
  have hR : (ssR n k).length ≤ 1048576 := ssR_le n k
  have hR2 : ∀ j, j < (ssR n k).length → (rowOf (ssR n k) j).length ≤ 1048576 := fun j hj => Nat.le_trans (ssR_row n k j hj) (by omega)
  have hR3 : Total (ssR n k) ≤ 4000000000 := Nat.le_trans (total_le _ 60 (ssR_row n k)) (by have := ssR_le n k; omega)
  generalize ssR n k = R at *
  generalize ssOk n k = ok at *
  have HR2 := Lib.hid hR2
  clear hR2
  go_enter Try.func8, Try.ntmps8
  go_wp2_with fail
  refine (HS.out _).mono ?_
  rintro e w1 ⟨a1, cap1, v1, rfl, own1, bel1⟩
  go_wp2_with fail
  refine (HI.out _).mono ?_
  rintro e w2 ⟨a2, cap2, v2, rfl, own2, bel2⟩
  replace own1 := RowsAt.new own1 bel2
  have z1 := bel1.size
  have z2 := bel2.size
  go_wp2_with fail
  refine (eqIntSS_any _ _ _ _ R R _ _ _ _ _ _ _ own2 own1 (by omega) (by omega) HR2.out HR2.out rfl).mono ?_
  rintro e w3 ⟨rfl, m3, h3⟩
  have bel3 : Below w2.heap.size w2 w3 := below_of_drewN h3
  have z3 := Nat.le_of_eq (size_of_drewN h3)
  have y3 := bel3.size
  clear h3
  replace own1 := RowsAt.new own1 bel3
  replace own2 := RowsAt.new own2 bel3
  go_wp2_with fail
  refine (markIntSS_any a2 cap2 R v2 1 _ _ _ own2 (by omega) (by omega)).mono ?_
  rintro e w4 ⟨rfl, own4, fr4⟩
  replace own1 := RowsAt.fr own1 fr4 (fun k h1 h2 hc => by omega)
  have bel4 : Below w.heap.size w3 w4 := fr4.below (fun k h1 h2 hc => by omega) (by omega)
  have z4 := fr4.size
  clear own2 fr4
  go_wp2_with fail
  refine (heldIntSS_any a2 cap2 R v2 1 _ _ _ own4 (by omega) (by omega)).mono ?_
  rintro e w5 ⟨rfl, m5, h5⟩
  have bel5 : Below w4.heap.size w4 w5 := below_of_drewN h5
  have z5 := Nat.le_of_eq (size_of_drewN h5)
  have y5 := bel5.size
  clear h5
  replace own1 := RowsAt.new own1 bel5
  replace own4 := RowsAt.new own4 bel5
  go_wp2_with fail
  refine (HI.out _).mono ?_
  rintro e w6 ⟨a6, cap6, v6, rfl, own6, bel6⟩
  have z6 := bel6.size
  replace own1 := RowsAt.new own1 bel6
  replace own4 := RowsAt.new own4 bel6
  go_wp2_with fail
  refine (eqIntSS_any _ _ _ _ R R _ _ _ _ _ _ _ own6 own1 (by omega) (by omega) HR2.out HR2.out rfl).mono ?_
  rintro e w7 ⟨rfl, m7, h7⟩
  have bel7 : Below w6.heap.size w6 w7 := below_of_drewN h7
  have z7 := bel7.size
  clear h7
  replace own4 := RowsAt.new own4 bel7
  go_wp2_with fail
  refine (heldIntSS_any a2 cap2 R v2 1 _ _ _ own4 (by omega) (by omega)).mono ?_
  rintro e w8 ⟨rfl, m8, h8⟩
  have bel8 : Below w7.heap.size w7 w8 := below_of_drewN h8
  clear h8
  go_wp2_with fail
  go_ret
  exact ⟨rfl, bel1.trans ((bel2.mono z1).trans ((bel3.mono (by omega)).trans (bel4.trans ((bel5.mono (by omega)).trans ((bel6.mono (by omega)).trans ((bel7.mono (by omega)).trans (bel8.mono (by omega))))))))⟩
end Go.Proofs.Ytckjobjmjijjdaa
