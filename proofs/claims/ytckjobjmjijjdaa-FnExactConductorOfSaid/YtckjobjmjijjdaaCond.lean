
/- ConductorOf: contracts and the law. -/
import Derived.Test.YtckjobjmjijjdaaPlD
import Derived.Test.YtckjobjmjijjdaaParts
namespace Go.Proofs.Ytckjobjmjijjdaa
open Go.RowKit
set_option linter.unusedVariables false
theorem gcdTo_Hs {l : List Int} (hb : lenB l = true) (a : Nat) (ha : 0 < a) : ∀ k, k ≤ l.length → Hs l a (gcdTo l k) := by
  intro k
  induction k with
  | zero => intro _; simpa [gcdTo, gcdL] using Hs.zero
  | succ k ih =>
    intro hk
    rw [gcdTo_succ l k (by omega)]
    have hm := lenB_mem hb k (by omega)
    refine Hs.gcd ha _ _ (ih (by omega)) ?_
    rw [Int.toNat_of_nonneg (by omega)]
    exact Hs.mem (nth_mem _ _ (by omega))
theorem gcdL_pos {l : List Int} (hb : lenB l = true) : 1 ≤ gcdL l ∧ gcdL l ≤ 40 := by
  have hl : 0 < l.length := by simp [lenB] at hb; exact hb.1
  have h1 := gcdTo_le hb l.length (Nat.le_refl _)
  have h2 := gcdTo_succ l (l.length - 1) (by omega)
  rw [show l.length - 1 + 1 = l.length by omega] at h2
  have e : gcdTo l l.length = gcdL l := by rw [gcdTo, List.take_length]
  have h3 := lenB_mem hb (l.length - 1) (by omega)
  rw [e] at h1 h2
  refine ⟨?_, h1⟩
  rw [h2]
  exact Nat.gcd_pos_of_pos_right _ (by omega)
theorem lenB_big {l : List Int} (hb : lenB l = true) (m : Nat) (hm : 1560 ≤ m) (hd : m % gcdL l = 0) : sm l m = true := by
  have hl : 0 < l.length := by simp [lenB] at hb; exact hb.1
  refine sm_big (lenB_pos hb) (nth_mem l 0 hl) (g := gcdL l) (fun a ha => ?_) m hm (Nat.dvd_of_mod_eq_zero hd)
  have := gcdTo_Hs hb a ha l.length (Nat.le_refl _)
  rwa [gcdTo, List.take_length] at this
/-- the conductor -/
def cond (l : List Int) : Nat := cd l (gcdL l) 1600
theorem cond_le (l : List Int) : cond l ≤ 1601 := cd_le _ _ _
theorem cond_zero {l : List Int} (hb : lenB l = true) {M : Nat} (hM : 1600 < M) (h : ∀ m, 0 ≤ m → m < M → m % gcdL l = 0 → sm l m = true) : cond l = 0 :=
  cd_zero l _ 1600 fun m hm h0 => h m (by omega) (by omega) h0
theorem cond_at {l : List Int} (hb : lenB l = true) {M c : Nat} (hM : 1600 < M) (hc : c % gcdL l = 0) (hc0 : 0 < c) (hs : sm l (c - gcdL l) = false) (h : ∀ m, c ≤ m → m < M → m % gcdL l = 0 → sm l m = true) : cond l = c - gcdL l + 1 := by
  have hg := gcdL_pos hb
  have hcg : gcdL l ≤ c := Nat.le_of_dvd hc0 (Nat.dvd_of_mod_eq_zero hc)
  have h0 : (c - gcdL l) % gcdL l = 0 := by rw [← Nat.mod_eq_sub_mod hcg]; exact hc
  have hlt : c - gcdL l < 1560 := by
    apply Decidable.byContradiction
    intro hge
    rw [lenB_big hb (c - gcdL l) (by omega) h0] at hs
    cases hs
  refine cd_at l _ _ h0 hs 1600 (by omega) fun k h1 h2 h3 => h k ?_ (by omega) h3
  -- the next multiple is c
  apply Decidable.byContradiction
  intro hk
  have h4 : (k - (c - gcdL l)) % gcdL l = 0 := by
    have h5 := Nat.dvd_of_mod_eq_zero h3
    have h6 := Nat.dvd_of_mod_eq_zero h0
    exact Nat.mod_eq_zero_of_dvd (Nat.dvd_sub h5 h6)
  have h7 := Nat.le_of_dvd (by omega) (Nat.dvd_of_mod_eq_zero h4)
  omega
def coR (l : List Int) : Int := if lenB l then (cond l : Int) else 0
def CoPost (l : List Int) (w : World) (e : Ending) (w' : World) : Prop := e = .returned (.tuple #[.int .i64 (coR l), .bool (lenB l)]) ∧ Below w.heap.size w w'
theorem nuSums_at (a : Option Addr) (cap : Nat) (l : List Int) (N : Int) (n : Nat) (w : World) (B : Nat) (hN : N = n) (ha : RdI w B a l) (hB : B ≤ w.heap.size) (hl : l.length ≤ 1048576) (hp : Pos l) (hn : n ≤ 4000) :
    Calls Try.prog 69 #[.slice a l.length cap, .int .i64 N] w fun e w' => ∃ b, e = .returned (.slice b (n + 1) (n + 1)) ∧ SumsAt w' w.heap.size l n b ∧ Below w.heap.size w w' := by
  subst hN
  exact nuSums_any a cap l n w B ha hB hl hp hn
set_option maxHeartbeats 800000 in
theorem nuConductor_any (a : Option Addr) (cap : Nat) (l : List Int) (w : World) (B : Nat) (ha : RdI w B a l) (hB : B ≤ w.heap.size) (hl : l.length ≤ 1048576) (hb : lenB l = true) :
    Calls Try.prog 73 #[.slice a l.length cap] w fun e w' => e = .returned (.int .i64 (cond l)) ∧ Below w.heap.size w w' := by
  have HB := Lib.hid hb
  have HP := Lib.hid (lenB_pos hb)
  have hg := gcdL_pos hb
  obtain ⟨g, hgg⟩ : ∃ g, g = gcdL l := ⟨_, rfl⟩
  have HG := Lib.hid hgg
  rw [← hgg] at hg
  clear hgg
  obtain ⟨q, hq⟩ : ∃ q, q = 3200 / g * g := ⟨_, rfl⟩
  have HQ := Lib.hid hq
  have hq1 : q ≤ 3200 := by rw [hq]; exact Nat.div_mul_le_self _ _
  have hq2 : 3160 ≤ q := by
    have h1 := Nat.div_add_mod 3200 g
    have h2 := Nat.mod_lt 3200 (show 0 < g by omega)
    rw [Nat.mul_comm] at h1
    omega
  have hq3 : (3200 : Int) / (g : Int) * (g : Int) = (q : Int) := by rw [hq, Int.natCast_mul, Int.natCast_ediv]; rfl
  have HQ3 := Lib.hid hq3
  have hq4 : (3200 : Int) / (g : Int) * (g : Int) ≤ 3200 := by omega
  have hq5 : 0 ≤ (3200 : Int) / (g : Int) * (g : Int) := by omega
  have hq6 : 0 ≤ (3200 : Int) / (g : Int) := Int.ediv_nonneg (by omega) (by omega)
  have hq7 : (3200 : Int) / (g : Int) ≤ 3200 := Int.ediv_le_self _ (by omega)
  have hqg : q % g = 0 := by rw [hq]; exact Nat.mul_mod_left _ _
  have HQG := Lib.hid hqg
  clear hq hq3 hb hqg
  go_enter Try.func73, Try.ntmps73
  go_wp2_with (first | (go_at_call 99; refine (nuGcds_any _ _ _ _ _ ha (by omega) HB.out).mono ?_; rintro e w1 ⟨rfl, m1, h1⟩; have bel1 : Below w.heap.size w w1 := below_of_drewN h1; have sz1 := Nat.le_of_eq (size_of_drewN h1); clear h1; rw [← HG.out]) | (go_at_call 69; refine (nuSums_at _ _ _ _ q _ B HQ3.out (ha.below (bel1.mono hB)) (by have := bel1.size; omega) hl HP.out (by omega)).mono ?_; rintro e w2 ⟨b2, rfl, hsums, bel2⟩; rw [HQ3.out]))
  obtain ⟨gs, rfl, hsc⟩ := hsums.at
  have HSC := Lib.hid hsc
  clear hsc
  have bel : Below w.heap.size w w2 := bel1.trans (bel2.mono bel1.size)
  go_loop [6] (fun v => ∃ c : Nat, v = .int .i64 c ∧ c ≤ q ∧ c % g = 0 ∧ ∀ m, c ≤ m → m < q → m % g = 0 → sm l m = true) (fun v => (intOf v).toNat)
  case atStart => exact ⟨q, rfl, Nat.le_refl _, HQG.out, fun m h1 h2 => by omega⟩
  case round =>
    obtain ⟨c, rfl, hc, hcg, hall⟩ := hrel
    have HC := Lib.hid hcg
    have HA := Lib.hid hall
    clear hcg hall
    by_cases hc0 : c = 0
    · subst hc0
      go_wp2_with fail
      go_ret
      exact ⟨ret_int (by rw [cond_zero HB.out (M := q) (by omega) (fun m h1 h2 h3 => HA.out m h1 h2 (by rw [HG.out]; exact h3))]; rfl), bel⟩
    · have hpos : 0 < c := by omega
      have hge : g ≤ c := Nat.le_of_dvd hpos (Nat.dvd_of_mod_eq_zero HC.out)
      have hd0 : decide ((0 : Int) < (c : Int)) = true := decide_eq_true (by omega)
      have hz0 : ((c : Int) == 0) = false := by simp; omega
      have hcell := HSC.out (c - g) (by omega)
      cases hs : sm l (c - g) with
      | true =>
        rw [hs] at hcell
        have HS := Lib.hid hs
        clear hs hc0
        go_wp2_with fail
        go_round
        case rel =>
          have h0 : (c - g) % g = 0 := by rw [← Nat.mod_eq_sub_mod hge]; exact HC.out
          refine ⟨c - g, by congr 1; omega, by omega, h0, fun m h1 h2 h3 => ?_⟩
          by_cases e : c ≤ m
          · exact HA.out m e h2 h3
          · -- between two multiples there is only the lower one
            have h4 : (m - (c - g)) % g = 0 := Nat.mod_eq_zero_of_dvd (Nat.dvd_sub (Nat.dvd_of_mod_eq_zero h3) (Nat.dvd_of_mod_eq_zero h0))
            by_cases e2 : m = c - g
            · rw [e2]; exact HS.out
            · have h7 := Nat.le_of_dvd (by omega) (Nat.dvd_of_mod_eq_zero h4)
              omega
        case measure => simp [intOf]; omega
      | false =>
        rw [hs] at hcell
        have HS := Lib.hid hs
        clear hs hc0
        have HR : Hid (cond l = c - g + 1) := by
          have h := cond_at HB.out (M := q) (c := c) (by omega) (by rw [← HG.out]; exact HC.out) hpos (by rw [← HG.out]; exact HS.out) (fun m h1 h2 h3 => HA.out m h1 h2 (by rw [HG.out]; exact h3))
          rw [← HG.out] at h
          exact h
        go_wp2_with fail
        go_ret
        exact ⟨ret_int (by rw [HR.out]; omega), bel⟩
set_option maxHeartbeats 800000 in
theorem specConductorOf_any (a : Option Addr) (cap : Nat) (l : List Int) (w : World) (B : Nat) (ha : RdI w B a l) (hB : B ≤ w.heap.size) (hl : l.length ≤ 1048576) :
    Calls Try.prog 27 #[.slice a l.length cap] w (CoPost l w) := by
  cases hb : lenB l with
  | true =>
    have HB := Lib.hid hb
    go_enter Try.func27, Try.ntmps27
    go_wp2_with (first | (go_at_call 68; refine (nuLengths_any _ _ _ _ _ ha (by omega)).mono ?_; rintro e w1 ⟨rfl, m1, h1⟩; have bel1 : Below w.heap.size w w1 := below_of_drewN h1; clear h1) | (go_at_call 73; refine (nuConductor_any _ _ _ _ B (ha.below (bel1.mono hB)) (by have := bel1.size; omega) hl HB.out).mono ?_; rintro e w2 ⟨rfl, bel2⟩))
    go_ret2
    exact ⟨by rw [coR, HB.out]; rfl, bel1.trans (bel2.mono bel1.size)⟩
  | false =>
    have HB := Lib.hid hb
    go_enter Try.func27, Try.ntmps27
    go_wp2_with (go_at_call 68; refine (nuLengths_any _ _ _ _ _ ha (by omega)).mono ?_; rintro e w1 ⟨rfl, m1, h1⟩; have bel1 : Below w.heap.size w w1 := below_of_drewN h1; clear h1)
    go_ret2
    exact ⟨by rw [coR, HB.out]; rfl, bel1⟩
set_option maxHeartbeats 800000 in
theorem implConductorOf_any (a : Option Addr) (cap : Nat) (l : List Int) (w : World) (B : Nat) (ha : RdI w B a l) (hB : B ≤ w.heap.size) (hl : l.length ≤ 1048576) :
    Calls Try.prog 28 #[.slice a l.length cap] w (CoPost l w) := by
  cases hb : lenB l with
  | true =>
    have HB := Lib.hid hb
    have HP := Lib.hid (lenB_pos hb)
    have hg := gcdL_pos hb
    obtain ⟨g, hgg⟩ : ∃ g, g = gcdL l := ⟨_, rfl⟩
    have HG := Lib.hid hgg
    rw [← hgg] at hg
    clear hgg
    go_enter Try.func28, Try.ntmps28
    go_wp2_with (first | (go_at_call 71; refine (areLengths_any _ _ _ _ _ ha (by omega)).mono ?_; rintro e w1 ⟨rfl, m1, h1⟩; have bel1 : Below w.heap.size w w1 := below_of_drewN h1; clear h1) | (go_at_call 74; refine (gcd_any _ _ _ _ _ (ha.below (bel1.mono hB)) (by omega) HB.out).mono ?_; rintro e w2 ⟨rfl, m2, h2⟩; have bel2 : Below w1.heap.size w1 w2 := below_of_drewN h2; clear h2; rw [← HG.out]; replace bel1 := bel1.trans (bel2.mono bel1.size)) | (go_at_call 72; refine (sumsUpTo_any _ _ _ 1600 _ B (ha.below (bel1.mono hB)) (by have := bel1.size; omega) hl HP.out (by omega)).mono ?_; rintro e w3 ⟨b3, rfl, hsums, bel3⟩))
    obtain ⟨gs, rfl, hsc⟩ := hsums.at
    have HSC := Lib.hid hsc
    clear hsc
    have bel : Below w.heap.size w w3 := bel1.trans (bel3.mono bel1.size)
    go_loop [6] (fun v => ∃ c : Nat, v = .int .i64 ((c : Int) - 1) ∧ c ≤ 1601 ∧ ∀ m, c ≤ m → m ≤ 1600 → m % g = 0 → sm l m = true) (fun v => (intOf v + 1).toNat)
    case atStart => exact ⟨1601, rfl, Nat.le_refl _, fun m h1 h2 => by omega⟩
    case round =>
      obtain ⟨c, rfl, hc, hall⟩ := hrel
      have HA := Lib.hid hall
      clear hall
      cases c with
      | zero =>
        go_wp2_with fail
        go_ret2
        have hz : cond l = 0 := cd_zero l _ 1600 fun m hm h0 => HA.out m (by omega) hm (by rw [HG.out]; exact h0)
        exact ⟨by rw [coR, HB.out, hz]; rfl, bel⟩
      | succ c =>
        have hcell := HSC.out c (by omega)
        have e1 : ((c + 1 : Nat) : Int) - 1 = c := by omega
        rw [e1]
        clear e1
        by_cases hm : c % g = 0
        · have hme : ((c : Int) % (g : Int) == 0) = true := by rw [beq_iff_eq, ← Int.natCast_emod, hm]; rfl
          cases hs : sm l c with
          | true =>
            rw [hs] at hcell
            have HS := Lib.hid hs
            clear hs hm
            go_wp2_with fail
            go_round
            case rel =>
              refine ⟨c, rfl, by omega, fun m h1 h2 h3 => ?_⟩
              by_cases e : m = c
              · rw [e]; exact HS.out
              · exact HA.out m (by omega) h2 h3
            case measure => simp [intOf]
          | false =>
            rw [hs] at hcell
            have HR : Hid (cond l = c + 1) := cd_at l _ c (by rw [← HG.out]; exact hm) hs 1600 (by omega) fun k h1 h2 h3 => HA.out k (by omega) h2 (by rw [HG.out]; exact h3)
            clear hs hm
            go_wp2_with fail
            go_ret2
            exact ⟨by rw [coR, HB.out, HR.out]; rfl, bel⟩
        · have HM := Lib.hid hm
          have hme : ((c : Int) % (g : Int) == 0) = false := by rw [beq_eq_false_iff_ne, ← Int.natCast_emod]; omega
          clear hm
          go_wp2_with fail
          go_round
          case rel =>
            refine ⟨c, rfl, by omega, fun m h1 h2 h3 => ?_⟩
            by_cases e : m = c
            · rw [e] at h3; exact absurd h3 HM.out
            · exact HA.out m (by omega) h2 h3
          case measure => simp [intOf]
  | false =>
    have HB := Lib.hid hb
    go_enter Try.func28, Try.ntmps28
    go_wp2_with (go_at_call 71; refine (areLengths_any _ _ _ _ _ ha (by omega)).mono ?_; rintro e w1 ⟨rfl, m1, h1⟩; have bel1 : Below w.heap.size w w1 := below_of_drewN h1; clear h1)
    go_ret2
    exact ⟨by rw [coR, HB.out]; rfl, bel1⟩
set_option maxHeartbeats 400000 in
theorem FnExactConductorOf_walk (a : Option Addr) (cap : Nat) (l : List Int) (w : World) (ha : RdI w w.heap.size a l) (hi : I64s l) (hm : l.length ≤ maxLen) :
    Calls Try.prog 7 #[.slice a l.length cap] w fun e w' => e = .returned (.bool true) ∧ Below w.heap.size w w' := by
  unfold maxLen at hm
  by_cases hlen : l.length ≤ 1048576
  · go_enter Try.func7, Try.ntmps7
    go_wp2_with fail
    refine (toIntS_any a cap l _ _ ha (Nat.le_refl _) (by omega)).mono ?_
    rintro e w1 ⟨rfl, own1, bel1⟩
    go_wp2_with fail
    refine (specConductorOf_any _ _ l _ _ own1.rd (by omega) (by omega)).mono ?_
    rintro e w2 ⟨rfl, bel2⟩
    have z1 := bel1.size
    have z2 := bel2.size
    have ha2 := (ha.below bel1).below (bel2.mono z1)
    go_wp2_with fail
    refine (toIntS_any a cap l _ _ ha2 (by omega) (by omega)).mono ?_
    rintro e w3 ⟨rfl, own3, bel3⟩
    go_wp2_with fail
    refine (implConductorOf_any _ _ l _ _ own3.rd (by omega) (by omega)).mono ?_
    rintro e w4 ⟨rfl, bel4⟩
    have z3 := bel3.size
    have z4 := bel4.size
    have ha4 := (ha2.below (bel3.mono (by omega))).below (bel4.mono (by omega))
    replace own3 := Ow.new own3 bel4
    go_wp2_with fail
    refine (toIntS_any a cap l _ _ ha4 (by omega) (by omega)).mono ?_
    rintro e w5 ⟨rfl, own5, bel5⟩
    have z5 := bel5.size
    replace own3 := Ow.new own3 bel5
    go_wp2_with fail
    refine (eqIntS_any _ _ _ _ l l _ _ _ own3.rd own5.rd (by omega) (by omega)).mono ?_
    rintro e w6 ⟨rfl, m6, h6⟩
    have bel6 : Below w5.heap.size w5 w6 := below_of_drewN h6
    clear h6
    rw [decide_eq_true rfl]
    go_wp2_with fail
    go_ret
    exact ⟨rfl, bel1.trans ((bel2.mono z1).trans ((bel3.mono (by omega)).trans ((bel4.mono (by omega)).trans ((bel5.mono (by omega)).trans (bel6.mono (by omega))))))⟩
  · go_enter Try.func7, Try.ntmps7
    go_wp2_with fail
    go_ret
    exact ⟨rfl, Below.refl _ _⟩
end Go.Proofs.Ytckjobjmjijjdaa
