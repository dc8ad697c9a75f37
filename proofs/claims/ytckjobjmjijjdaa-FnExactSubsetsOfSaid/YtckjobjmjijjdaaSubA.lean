
/- SubsetAt: contracts and the law. -/
import Derived.Test.YtckjobjmjijjdaaNumC
import Derived.Test.YtckjobjmjijjdaaInts
import Derived.Test.YtckjobjmjijjdaaApp
namespace Go.Proofs.Ytckjobjmjijjdaa
open Go.RowKit
set_option linter.unusedVariables false
/-- the subset with index r of the q-subsets of m numbers from x on -/
def subL (x : Int) : Nat → Nat → Int → List Int
  | _, 0, _ => []
  | 0, _ + 1, _ => []
  | m + 1, q + 1, r => if r < (ch m q : Int) then x :: subL (x + 1) m q r else subL (x + 1) m (q + 1) (r - ch m q)
theorem subL_zero (x : Int) (m : Nat) (r : Int) : subL x m 0 r = [] := by cases m <;> rfl
theorem subL_length (m : Nat) : ∀ (q : Nat) (x r : Int), r < (ch m q : Int) → 0 ≤ r → (subL x m q r).length = q := by
  induction m with
  | zero => intro q x r h h0; cases q with
    | zero => rfl
    | succ q => simp [ch] at h; omega
  | succ m ih => intro q x r h h0; cases q with
    | zero => rfl
    | succ q =>
      rw [subL]
      split
      · rw [List.length_cons, ih q _ _ (by assumption) h0]
      · rw [ih (q + 1) _ _ (by rw [ch] at h; omega) (by omega)]
set_option maxHeartbeats 400000 in
theorem nuAt_any (n k : Nat) (r0 : Int) (w : World) (hn : n ≤ 60) (hk : k ≤ 60) (h0 : 0 ≤ r0) (h1 : r0 < (ch n k : Int)) :
    Calls Try.prog 65 #[.int .i64 n, .int .i64 k, .int .i64 r0] w fun e w' => ∃ a cap, e = .returned (.slice a k cap) ∧ OwI w' w.heap.size w'.heap.size a cap (subL 0 n k r0) ∧ Below w.heap.size w w' := by
  obtain ⟨D, hD⟩ : ∃ D, D = w.heap.size := ⟨_, rfl⟩
  have HD := Lib.hid hD
  rw [← hD]
  clear hD
  have hch := ch_le60 n k hn
  go_enter Try.func65, Try.ntmps65
  go_wp2_with fail
  go_loopw [2, 7, 8] (fun r v x wr => ∃ m q : Nat, ∃ s : Int, ∃ zs : List Int, ∃ a cap, zs.length + q = k ∧ m ≤ n ∧ 0 ≤ s ∧ s < (ch m q : Int) ∧ r = .int .i64 s ∧ x = .int .i64 (n - m : Nat) ∧ v = .slice a zs.length cap ∧ zs ++ subL (n - m : Nat) m q s = subL 0 n k r0 ∧ OwI wr D wr.heap.size a cap zs ∧ Below D w wr) (fun _ _ x _ => 100 - (intOf x).toNat)
  case atStart =>
    refine ⟨n, k, r0, [], none, 0, by simp, by omega, h0, h1, rfl, by simp, rfl, by simp, Ow.nil _ _ _ _ _ _ _, Below.refl _ _⟩
  case round =>
    obtain ⟨m, q, s, zs, a, cap, hq, hm, hs0, hs1, rfl, rfl, rfl, hR, own1, bel1⟩ := hrel
    have HR := Lib.hid hR
    clear hR
    have hDw : D ≤ wr.heap.size := by have := bel1.size; have := HD.out; omega
    have hcm := ch_le60 m q (by omega)
    have HQ := Lib.hid hq
    have hq1 : zs.length ≤ k := by omega
    cases q with
    | zero =>
      obtain rfl : zs.length = k := by omega
      clear hq
      go_wp2_with fail
      go_ret
      refine ⟨a, cap, rfl, ?_, bel1⟩
      rw [← HR.out, subL_zero, List.append_nil]; exact own1
    | succ q =>
      have hq2 : zs.length < k := by omega
      cases m with
      | zero => simp [ch] at hs1; omega
      | succ m =>
        have hcm2 := ch_le60 m q (by omega)
        have hch2 : ch (m + 1) (q + 1) = ch m q + ch m (q + 1) := rfl
        have hs2 : s < (ch m q : Int) + ch m (q + 1) := by omega
        have hs3 : s ≤ 1152921504606846976 := by omega
        have HS : Hid (subL (n - (m + 1) : Nat) (m + 1) (q + 1) s = if s < (ch m q : Int) then ((n - (m + 1) : Nat) : Int) :: subL ((n - (m + 1) : Nat) + 1) m q s else subL ((n - (m + 1) : Nat) + 1) m (q + 1) (s - ch m q)) := rfl
        have hx : ((n - (m + 1) : Nat) : Int) + 1 = ((n - m : Nat) : Int) := by omega
        have HX := Lib.hid hx
        obtain ⟨xx, hxx⟩ : ∃ xx : Nat, xx = n - (m + 1) := ⟨_, rfl⟩
        rw [← hxx]
        have HXX := Lib.hid hxx
        have hxl : xx + m + 1 ≤ n := by omega
        have hxl2 : n ≤ xx + m + 1 := by omega
        clear hq hch2 hx hxx hs1
        by_cases hlt : s < (ch m q : Int)
        · go_wp2_with (first | (go_at_call 54; refine (nuChoose_at _ _ m q _ (by omega) (by have := HQ.out; omega) (by omega)).mono ?_; rintro e w1 ⟨rfl, bel2⟩; replace own1 := Ow.new own1 bel2; have hDw1 : D ≤ w1.heap.size := Nat.le_trans hDw bel2.size) | (at_builtin; refine wpList_app rfl _ _ _ rfl 3 (.int .i64 0) 1 8 Try.underlying22 int_info rfl (by decide) D wr.heap.size a zs.length cap _ rfl (Ow.alloc own1 _) ⟨w1.heap.size, 0, none⟩ 1 1 [.int .i64 xx] rfl rfl (cell_one_new _ _ _) (by simp [Value.oneCell']) (by decide) (by unfold maxLen; omega) (by omega) (by simp; omega) ?_; intro g' cap' w2 own2 hgr _ _))
          go_roundw
          case rel =>
            refine ⟨m, q, s, zs ++ [(xx : Int)], some ⟨g', 0, none⟩, cap', by have := HQ.out; simp; omega, by omega, hs0, hlt, rfl, ?_, by simp, ?_, OwI.snoc own2, ?_⟩
            · rw [HXX.out, HX.out]
            · rw [← HR.out, HS.out, if_pos hlt, HX.out, HXX.out]; simp
            · exact below_app ((bel1.trans (bel2.mono hDw)).alloc hDw1 _) (Ow.alloc own1 _) hgr (Nat.le_refl _) (by simp; omega)
          case measure => simp [intOf]; omega
        · go_wp2_with (first | (go_at_call 54; refine (nuChoose_at _ _ m q _ (by omega) (by have := HQ.out; omega) (by omega)).mono ?_; rintro e w1 ⟨rfl, bel2⟩; replace own1 := Ow.new own1 bel2))
          go_roundw
          case rel =>
            refine ⟨m, q + 1, s - ch m q, zs, a, cap, HQ.out, by omega, by omega, by omega, rfl, ?_, rfl, ?_, own1.top, bel1.trans (bel2.mono hDw)⟩
            · rw [HXX.out, HX.out]
            · rw [← HR.out, HS.out, if_neg (by omega), HX.out]
          case measure => simp [intOf]; omega
set_option maxHeartbeats 400000 in
theorem subsetAt_any (n k : Nat) (r0 : Int) (w : World) (hn : n ≤ 60) (hk : k ≤ 60) (h0 : 0 ≤ r0) (h1 : r0 < (ch n k : Int)) :
    Calls Try.prog 67 #[.int .i64 n, .int .i64 k, .int .i64 r0] w fun e w' => ∃ a cap, e = .returned (.slice a k cap) ∧ OwI w' w.heap.size w'.heap.size a cap (subL 0 n k r0) ∧ Below w.heap.size w w' := by
  obtain ⟨D, hD⟩ : ∃ D, D = w.heap.size := ⟨_, rfl⟩
  have HD := Lib.hid hD
  rw [← hD]
  clear hD
  have hch := ch_le60 n k hn
  go_enter Try.func67, Try.ntmps67
  go_wp2_with fail
  go_loopw [2, 7, 8] (fun r v x wr => ∃ m q : Nat, ∃ s : Int, ∃ zs : List Int, ∃ a cap, zs.length + q = k ∧ m ≤ n ∧ 0 ≤ s ∧ s < (ch m q : Int) ∧ r = .int .i64 s ∧ x = .int .i64 (n - m : Nat) ∧ v = .slice a zs.length cap ∧ zs ++ subL (n - m : Nat) m q s = subL 0 n k r0 ∧ OwI wr D wr.heap.size a cap zs ∧ Below D w wr) (fun _ _ x _ => 100 - (intOf x).toNat)
  case atStart =>
    refine ⟨n, k, r0, [], none, 0, by simp, by omega, h0, h1, rfl, by simp, rfl, by simp, Ow.nil _ _ _ _ _ _ _, Below.refl _ _⟩
  case round =>
    obtain ⟨m, q, s, zs, a, cap, hq, hm, hs0, hs1, rfl, rfl, rfl, hR, own1, bel1⟩ := hrel
    have HR := Lib.hid hR
    clear hR
    have hDw : D ≤ wr.heap.size := by have := bel1.size; have := HD.out; omega
    have hcm := ch_le60 m q (by omega)
    have HQ := Lib.hid hq
    have hq1 : zs.length ≤ k := by omega
    cases q with
    | zero =>
      obtain rfl : zs.length = k := by omega
      clear hq
      go_wp2_with fail
      go_ret
      refine ⟨a, cap, rfl, ?_, bel1⟩
      rw [← HR.out, subL_zero, List.append_nil]; exact own1
    | succ q =>
      have hq2 : zs.length < k := by omega
      cases m with
      | zero => simp [ch] at hs1; omega
      | succ m =>
        have hcm2 := ch_le60 m q (by omega)
        have hch2 : ch (m + 1) (q + 1) = ch m q + ch m (q + 1) := rfl
        have hs2 : s < (ch m q : Int) + ch m (q + 1) := by omega
        have hs3 : s ≤ 1152921504606846976 := by omega
        have HS : Hid (subL (n - (m + 1) : Nat) (m + 1) (q + 1) s = if s < (ch m q : Int) then ((n - (m + 1) : Nat) : Int) :: subL ((n - (m + 1) : Nat) + 1) m q s else subL ((n - (m + 1) : Nat) + 1) m (q + 1) (s - ch m q)) := rfl
        have hx : ((n - (m + 1) : Nat) : Int) + 1 = ((n - m : Nat) : Int) := by omega
        have HX := Lib.hid hx
        obtain ⟨xx, hxx⟩ : ∃ xx : Nat, xx = n - (m + 1) := ⟨_, rfl⟩
        rw [← hxx]
        have HXX := Lib.hid hxx
        have hxl : xx + m + 1 ≤ n := by omega
        have hxl2 : n ≤ xx + m + 1 := by omega
        clear hq hch2 hx hxx hs1
        by_cases hlt : s < (ch m q : Int)
        · go_wp2_with (first | (go_at_call 57; refine (binomial_at _ _ m q _ (by omega) (by have := HQ.out; omega) (by omega)).mono ?_; rintro e w1 ⟨rfl, bel2⟩; replace own1 := Ow.new own1 bel2; have hDw1 : D ≤ w1.heap.size := Nat.le_trans hDw bel2.size) | (at_builtin; refine wpList_app rfl _ _ _ rfl 3 (.int .i64 0) 1 8 Try.underlying22 int_info rfl (by decide) D wr.heap.size a zs.length cap _ rfl (Ow.alloc own1 _) ⟨w1.heap.size, 0, none⟩ 1 1 [.int .i64 xx] rfl rfl (cell_one_new _ _ _) (by simp [Value.oneCell']) (by decide) (by unfold maxLen; omega) (by omega) (by simp; omega) ?_; intro g' cap' w2 own2 hgr _ _))
          go_roundw
          case rel =>
            refine ⟨m, q, s, zs ++ [(xx : Int)], some ⟨g', 0, none⟩, cap', by have := HQ.out; simp; omega, by omega, hs0, hlt, rfl, ?_, by simp, ?_, OwI.snoc own2, ?_⟩
            · rw [HXX.out, HX.out]
            · rw [← HR.out, HS.out, if_pos hlt, HX.out, HXX.out]; simp
            · exact below_app ((bel1.trans (bel2.mono hDw)).alloc hDw1 _) (Ow.alloc own1 _) hgr (Nat.le_refl _) (by simp; omega)
          case measure => simp [intOf]; omega
        · go_wp2_with (first | (go_at_call 57; refine (binomial_at _ _ m q _ (by omega) (by have := HQ.out; omega) (by omega)).mono ?_; rintro e w1 ⟨rfl, bel2⟩; replace own1 := Ow.new own1 bel2))
          go_roundw
          case rel =>
            refine ⟨m, q + 1, s - ch m q, zs, a, cap, HQ.out, by omega, by omega, by omega, rfl, ?_, rfl, ?_, own1.top, bel1.trans (bel2.mono hDw)⟩
            · rw [HXX.out, HX.out]
            · rw [← HR.out, HS.out, if_neg (by omega), HX.out]
          case measure => simp [intOf]; omega
def saOk (n k r : Int) : Bool := inR n 0 60 && inR k 0 60 && inR r 0 (chI n k - 1)
def saR (n k r : Int) : List Int := if saOk n k r then subL 0 n.toNat k.toNat r else []
theorem chI_toNat (n k : Int) (hn : 0 ≤ n) (hk : 0 ≤ k) : chI n k = ch n.toNat k.toNat := by
  have := chI_nat n.toNat k.toNat
  rwa [Int.toNat_of_nonneg hn, Int.toNat_of_nonneg hk] at this
theorem saR_le (n k r : Int) : (saR n k r).length ≤ 1048576 := by
  unfold saR
  split
  · rename_i h
    simp only [saOk, Bool.and_eq_true, inR_iff] at h
    obtain ⟨⟨h1, h2⟩, h3⟩ := h
    have h4 := chI_toNat n k h1.1 h2.1
    rw [subL_length _ _ _ _ (by omega) h3.1]; omega
  · simp
theorem sa_no {n k r : Int} {w w' : World} {e : Ending} (h : saOk n k r = false) (he : e = .returned (.tuple #[.slice none 0 0, .bool false])) (hb : Below w.heap.size w w') : PostI (saR n k r) (saOk n k r) w e w' :=
  PostI.no (by rw [saR, h]; rfl) h he hb
theorem sa_yes {n k : Nat} {r : Int} {w w' : World} {e : Ending} {a : Option Addr} {cap : Nat} (h : saOk n k r = true) (hlen : (subL 0 n k r).length = k) (he : e = .returned (.tuple #[.slice a k cap, .bool true])) (ho : OwI w' w.heap.size w'.heap.size a cap (subL 0 n k r)) (hb : Below w.heap.size w w') : PostI (saR n k r) (saOk n k r) w e w' := by
  have hr : saR n k r = subL 0 n k r := by rw [saR, h]; rfl
  refine ⟨a, cap, ?_, ?_, hb⟩
  · rw [hr, h, he, hlen]
  · rw [hr]; exact ho
theorem nuSixty_any (n k : Int) (w : World) : Calls Try.prog 64 #[.int .i64 n, .int .i64 k] w fun e w' => e = .returned (.bool (inR n 0 60 && inR k 0 60)) ∧ w = w' := by
  cases h1 : inR n 0 60 <;> cases h2 : inR k 0 60
  all_goals
    go_enter Try.func64, Try.ntmps64
    go_wp2_with (go_at_call 52; refine (l1In_any _ _ _ _).mono ?_; rintro e w' ⟨rfl, rfl⟩)
    go_ret
    exact ⟨rfl, rfl⟩
set_option maxHeartbeats 400000 in
theorem specSubsetAt_any (n k r : Int) (w : World) : Calls Try.prog 21 #[.int .i64 n, .int .i64 k, .int .i64 r] w (PostI (saR n k r) (saOk n k r) w) := by
  by_cases h1 : 0 ≤ n ∧ n ≤ 60
  · have i1 := inR_t h1.1 h1.2
    by_cases h2 : 0 ≤ k ∧ k ≤ 60
    · have i2 := inR_t h2.1 h2.2
      have hc := chI_toNat n k h1.1 h2.1
      obtain ⟨n, rfl⟩ := Int.eq_ofNat_of_zero_le h1.1
      obtain ⟨k, rfl⟩ := Int.eq_ofNat_of_zero_le h2.1
      rw [Int.toNat_natCast, Int.toNat_natCast] at hc
      have hch := ch_le60 n k (by omega)
      by_cases h3 : 0 ≤ r ∧ r ≤ (ch n k : Int) - 1
      · have i3 := inR_t h3.1 h3.2
        have HO : Hid (saOk n k r = true) := by show _ = true; simp [saOk, i1, i2, hc, i3]
        have HL : Hid ((subL 0 n k r).length = k) := subL_length n k 0 r (by omega) h3.1
        obtain ⟨h3, h4⟩ := h3
        clear hc
        go_enter Try.func21, Try.ntmps21
        go_wp2_with (first | (go_at_call 64; refine (nuSixty_any _ _ _).mono ?_; rintro e w' ⟨rfl, rfl⟩) | (go_at_call 52; refine (l1In_any _ _ _ _).mono ?_; rintro e w' ⟨rfl, rfl⟩) | (go_at_call 54; refine (nuChoose_at _ _ n k _ rfl rfl (by omega)).mono ?_; rintro e w1 ⟨rfl, bel1⟩) | (go_at_call 65; refine (nuAt_any _ _ _ _ (by omega) (by omega) (by omega) (by omega)).mono ?_; rintro e w2 ⟨a2, cap2, rfl, own2, bel2⟩))
        go_ret2
        exact sa_yes HO.out HL.out rfl (own2.wide bel1.size (Nat.le_refl _)) (bel1.trans (bel2.mono bel1.size))
      · have i3 := inR_f h3
        have HO : Hid (saOk n k r = false) := by show _ = false; simp [saOk, hc, i3]
        clear hc h3
        go_enter Try.func21, Try.ntmps21
        go_wp2_with (first | (go_at_call 64; refine (nuSixty_any _ _ _).mono ?_; rintro e w' ⟨rfl, rfl⟩) | (go_at_call 52; refine (l1In_any _ _ _ _).mono ?_; rintro e w' ⟨rfl, rfl⟩) | (go_at_call 54; refine (nuChoose_at _ _ n k _ rfl rfl (by omega)).mono ?_; rintro e w1 ⟨rfl, bel1⟩))
        go_ret2
        exact sa_no HO.out rfl bel1
    · have i2 := inR_f h2
      have HO : Hid (saOk n k r = false) := by show _ = false; simp [saOk, i2]
      clear h1 h2
      go_enter Try.func21, Try.ntmps21
      go_wp2_with (go_at_call 64; refine (nuSixty_any _ _ _).mono ?_; rintro e w' ⟨rfl, rfl⟩)
      go_ret2
      exact sa_no HO.out rfl (Below.refl _ _)
  · have i1 := inR_f h1
    have HO : Hid (saOk n k r = false) := by show _ = false; simp [saOk, i1]
    clear h1
    go_enter Try.func21, Try.ntmps21
    go_wp2_with (go_at_call 64; refine (nuSixty_any _ _ _).mono ?_; rintro e w' ⟨rfl, rfl⟩)
    go_ret2
    exact sa_no HO.out rfl (Below.refl _ _)
set_option maxHeartbeats 400000 in
theorem implSubsetAt_any (n k r : Int) (w : World) : Calls Try.prog 22 #[.int .i64 n, .int .i64 k, .int .i64 r] w (PostI (saR n k r) (saOk n k r) w) := by
  by_cases h1 : 0 ≤ n ∧ n ≤ 60
  · have i1 := inR_t h1.1 h1.2
    by_cases h2 : 0 ≤ k ∧ k ≤ 60
    · have i2 := inR_t h2.1 h2.2
      have hc := chI_toNat n k h1.1 h2.1
      obtain ⟨n, rfl⟩ := Int.eq_ofNat_of_zero_le h1.1
      obtain ⟨k, rfl⟩ := Int.eq_ofNat_of_zero_le h2.1
      rw [Int.toNat_natCast, Int.toNat_natCast] at hc
      have hch := ch_le60 n k (by omega)
      by_cases h3 : 0 ≤ r ∧ r ≤ (ch n k : Int) - 1
      · have i3 := inR_t h3.1 h3.2
        have HO : Hid (saOk n k r = true) := by show _ = true; simp [saOk, i1, i2, hc, i3]
        have HL : Hid ((subL 0 n k r).length = k) := subL_length n k 0 r (by omega) h3.1
        obtain ⟨h3, h4⟩ := h3
        clear hc
        go_enter Try.func22, Try.ntmps22
        go_wp2_with (first | (go_at_call 55; refine (within_any _ _ _ _).mono ?_; rintro e w' ⟨rfl, rfl⟩) | (go_at_call 57; refine (binomial_at _ _ n k _ rfl rfl (by omega)).mono ?_; rintro e w1 ⟨rfl, bel1⟩) | (go_at_call 67; refine (subsetAt_any _ _ _ _ (by omega) (by omega) (by omega) (by omega)).mono ?_; rintro e w2 ⟨a2, cap2, rfl, own2, bel2⟩) | go_in)
        go_ret2
        exact sa_yes HO.out HL.out rfl (own2.wide bel1.size (Nat.le_refl _)) (bel1.trans (bel2.mono bel1.size))
      · have i3 := inR_f h3
        have HO : Hid (saOk n k r = false) := by show _ = false; simp [saOk, hc, i3]
        clear hc h3
        go_enter Try.func22, Try.ntmps22
        go_wp2_with (first | (go_at_call 55; refine (within_any _ _ _ _).mono ?_; rintro e w' ⟨rfl, rfl⟩) | (go_at_call 57; refine (binomial_at _ _ n k _ rfl rfl (by omega)).mono ?_; rintro e w1 ⟨rfl, bel1⟩) | go_in)
        go_ret2
        exact sa_no HO.out rfl bel1
    · have i2 := inR_f h2
      have HO : Hid (saOk n k r = false) := by show _ = false; simp [saOk, i2]
      clear h1 h2
      go_enter Try.func22, Try.ntmps22
      go_wp2_with (first | (go_at_call 55; refine (within_any _ _ _ _).mono ?_; rintro e w' ⟨rfl, rfl⟩) | go_in)
      go_ret2
      exact sa_no HO.out rfl (Below.refl _ _)
  · have i1 := inR_f h1
    have HO : Hid (saOk n k r = false) := by show _ = false; simp [saOk, i1]
    clear h1
    go_enter Try.func22, Try.ntmps22
    go_wp2_with (first | (go_at_call 55; refine (within_any _ _ _ _).mono ?_; rintro e w' ⟨rfl, rfl⟩) | go_in)
    go_ret2
    exact sa_no HO.out rfl (Below.refl _ _)
set_option maxHeartbeats 400000 in
theorem FnExactSubsetAt_walk (n k r : Int) (w : World) (_ : -9223372036854775808 ≤ n) (_ : n ≤ 9223372036854775807) (_ : -9223372036854775808 ≤ k) (_ : k ≤ 9223372036854775807) (_ : -9223372036854775808 ≤ r) (_ : r ≤ 9223372036854775807) :
    Calls Try.prog 5 #[.int .i64 n, .int .i64 k, .int .i64 r] w fun e w' => e = .returned (.bool true) ∧ Below w.heap.size w w' := by
  have HS : Hid (∀ w, Calls Try.prog 21 #[.int .i64 n, .int .i64 k, .int .i64 r] w (PostI (saR n k r) (saOk n k r) w)) := specSubsetAt_any n k r
  have HI : Hid (∀ w, Calls Try.prog 22 #[.int .i64 n, .int .i64 k, .int .i64 r] w (PostI (saR n k r) (saOk n k r) w)) := implSubsetAt_any n k r
  have hR : (saR n k r).length ≤ 1048576 := saR_le n k r
  generalize saR n k r = R at *
  generalize saOk n k r = ok at *
  go_enter Try.func5, Try.ntmps5
  go_wp2_with fail
  refine (HS.out _).mono ?_
  rintro e w1 ⟨a1, cap1, rfl, own1, bel1⟩
  go_wp2_with fail
  refine (HI.out _).mono ?_
  rintro e w2 ⟨a2, cap2, rfl, own2, bel2⟩
  replace own1 := Ow.new own1 bel2
  go_wp2_with fail
  refine (eqIntS_any _ _ _ _ R R _ _ _ own2.rd own1.rd (by omega) (by omega)).mono ?_
  rintro e w3 ⟨rfl, m3, h3⟩
  have bel3 : Below w2.heap.size w2 w3 := below_of_drewN h3
  have sz3 := size_of_drewN h3
  clear h3
  replace own1 := Ow.new own1 bel3
  replace own2 := Ow.new own2 bel3
  rw [decide_eq_true rfl]
  go_wp2_with fail
  refine (markIntS_any a2 cap2 R 1 _ _ _ own2 (by omega)).mono ?_
  rintro e w4 ⟨rfl, own4, fr4⟩
  replace own1 := Ow.fr own1 fr4 (fun k h1 h2 hc => by have := (Ow.blk_in own2 hc).1; omega)
  have bel4 : Below w.heap.size w3 w4 := fr4.below (fun k h1 h2 hc => by have := (Ow.blk_in own2 hc).1; have := bel1.size; omega) (by have := bel1.size; have := bel2.size; omega)
  have sz4 := fr4.size
  clear own2 fr4
  go_wp2_with fail
  refine (heldIntS_any a2 cap2 R.length 1 _ _ own4.rd (by omega)).mono ?_
  rintro e w5 ⟨rfl, m5, h5⟩
  have bel5 : Below w4.heap.size w4 w5 := below_of_drewN h5
  have sz5 := size_of_drewN h5
  clear h5
  replace own1 := Ow.new own1 bel5
  replace own4 := Ow.new own4 bel5
  go_wp2_with fail
  refine (HI.out _).mono ?_
  rintro e w6 ⟨a6, cap6, rfl, own6, bel6⟩
  replace own1 := Ow.new own1 bel6
  replace own4 := Ow.new own4 bel6
  go_wp2_with fail
  refine (eqIntS_any _ _ _ _ R R _ _ _ own6.rd own1.rd (by omega) (by omega)).mono ?_
  rintro e w7 ⟨rfl, m7, h7⟩
  have bel7 : Below w6.heap.size w6 w7 := below_of_drewN h7
  clear h7
  replace own4 := Ow.new own4 bel7
  rw [decide_eq_true rfl]
  go_wp2_with fail
  refine (heldIntS_any a2 cap2 R.length 1 _ _ own4.rd (by omega)).mono ?_
  rintro e w8 ⟨rfl, m8, h8⟩
  have bel8 : Below w7.heap.size w7 w8 := below_of_drewN h8
  clear h8
  go_wp2_with fail
  go_ret
  have z1 := bel1.size
  have z2 := bel2.size
  have z6 := bel6.size
  have z7 := bel7.size
  exact ⟨rfl, bel1.trans ((bel2.mono z1).trans ((bel3.mono (by omega)).trans (bel4.trans ((bel5.mono (by omega)).trans ((bel6.mono (by omega)).trans ((bel7.mono (by omega)).trans (bel8.mono (by omega))))))))⟩
end Go.Proofs.Ytckjobjmjijjdaa
