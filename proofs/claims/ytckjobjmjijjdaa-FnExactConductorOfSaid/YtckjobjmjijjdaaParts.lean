
/- SumsTo: contracts and the law. -/
import Derived.Test.YtckjobjmjijjdaaSums
import Derived.Test.YtckjobjmjijjdaaApp
namespace Go.Proofs.Ytckjobjmjijjdaa
open Go.RowKit
set_option linter.unusedVariables false
theorem Pos.drop {l : List Int} (h : Pos l) (k : Nat) : Pos (l.drop k) := fun x hx => h x (List.mem_of_mem_drop hx)
theorem drop_cons_nth (l : List Int) (k : Nat) (h : k < l.length) : l.drop k = nth l k :: l.drop (k + 1) := by
  rw [List.drop_eq_getElem_cons h, nth_eq_getElem _ _ h]
theorem RdI.drop {w : World} {B g off : Nat} {l : List Int} (h : RdI w B (some ⟨g, off, none⟩) l) (k : Nat) : RdI w B (some ⟨g, off + k, none⟩) (l.drop k) := fun hn => by
  rw [List.length_drop] at hn
  obtain ⟨g', off', he, hg, hc⟩ := h (by omega)
  injection he with he
  injection he with h1 h2
  subst h1 h2
  refine ⟨_, _, rfl, hg, fun j hj => ?_⟩
  rw [List.length_drop] at hj
  have := hc (k + j) (by omega)
  rw [Nat.add_assoc, this]
  show _ = some (Value.int .i64 (nth (l.drop k) j))
  rw [nth_drop]
theorem toNat_mul (t z : Nat) : ((t : Int) * (z : Int)).toNat = t * z := by rw [← Int.natCast_mul, Int.toNat_natCast]
/-- what is left of a sum when the first length has been taken as often as it can be -/
theorem parts_step {l : List Int} {k m z : Nat} (hp : Pos l) (hk : k < l.length) (hd : l.drop k = (z : Int) :: l.drop (k + 1)) (hs : sm (l.drop k) m = true) :
    ∃ t1 : Nat, t1 ≤ m / z ∧ sm (l.drop (k + 1)) (m - t1 * z) = true := by
  have hp1 : Pos ((z : Int) :: l.drop (k + 1)) := by rw [← hd]; exact hp.drop _
  rw [hd] at hs
  obtain ⟨t, ht, h⟩ := sm_cons _ _ hp1 m hs
  have hz := (hp1 (z : Int) (by simp)).1
  rw [toNat_mul] at h
  refine ⟨t, (Nat.le_div_iff_mul_le (by omega)).2 ?_, h⟩
  have : ((t * z : Nat) : Int) ≤ m := by rw [Int.natCast_mul]; exact ht
  omega
theorem parts_drop {l : List Int} {k m z : Nat} (hd : l.drop k = (z : Int) :: l.drop (k + 1)) {t : Nat} (ht : topT (l.drop (k + 1)) z m (m / z) = t) :
    parts (l.drop k) m = (t : Int) :: parts (l.drop (k + 1)) (m - t * z) := by
  rw [hd, parts, Int.toNat_natCast, ht, toNat_mul]

set_option maxHeartbeats 800000 in
theorem nuParts_any (a : Option Addr) (cap : Nat) (l : List Int) (n : Nat) (w : World) (B : Nat) (ha : RdI w B a l) (hB : B ≤ w.heap.size) (hl : l.length ≤ 1048576) (hcap : l.length ≤ cap) (hp : Pos l) (hn : n ≤ 2000) (hs : sm l n = true) :
    Calls Try.prog 70 #[.slice a l.length cap, .int .i64 n] w fun e w' => ∃ b c, e = .returned (.slice b l.length c) ∧ OwI w' w.heap.size w'.heap.size b c (parts l n) ∧ Below w.heap.size w w' := by
  obtain ⟨D, hD⟩ : ∃ D, D = w.heap.size := ⟨_, rfl⟩
  have HD := Lib.hid hD
  rw [← hD]
  clear hD
  have HP := Lib.hid hp
  have HS0 := Lib.hid hs
  clear hp hs
  go_enter Try.func70, Try.ntmps70
  go_wp2_with (at_make; refine wpList_mk _ rfl _ _ _ rfl 3 (.int .i64 0) 8 Try.underlying22 int_info rfl .i64 .i64 _ _ l.length rfl rfl rfl rfl (by omega) (by omega) ?_; intro w1 hrow hsz hbel; rw [← HD.out] at hrow hbel hsz ⊢)
  go_loopw [1, 15] (fun q i wr => ∃ k m : Nat, ∃ zs : List Int, k ≤ l.length ∧ zs.length = k ∧ m ≤ 2000 ∧ i = .int .i64 k ∧ q = .int .i64 m ∧ sm (l.drop k) m = true ∧ zs ++ parts (l.drop k) m = parts l n ∧ (∃ F, wr.rowIs D 3 l.length F ∧ ∀ x, x < k → F x = .int .i64 (nth zs x)) ∧ Below D w wr) (fun _ i _ => l.length - (intOf i).toNat)
  case atStart => exact ⟨0, n, [], Nat.zero_le _, rfl, hn, rfl, rfl, HS0.out, rfl, ⟨_, hrow, fun x hx => absurd hx (by omega)⟩, hbel⟩
  case round =>
    obtain ⟨k, m, zs, hk, hzs, hm, rfl, rfl, hsm, hR, ⟨F1, hrow1, hF1⟩, hbel1⟩ := hrel
    have HF1 := Lib.hid hF1
    have HR := Lib.hid hR
    have HZ := Lib.hid hzs
    clear hrow hbel hF1 hR hzs
    by_cases hlt : k < l.length
    · obtain ⟨g, off, rfl, hg, hc⟩ := Rd.at ha hlt
      have hgD : g < D := by have := HD.out; omega
      have hc1 := (hbel1.cell (p := ⟨g, off + k, none⟩) hgD).trans hc
      have hpk := HP.out (nth l k) (nth_mem _ _ hlt)
      obtain ⟨z, hz⟩ : ∃ z : Nat, nth l k = z := ⟨(nth l k).toNat, by omega⟩
      have HDR := Lib.hid (drop_cons_nth l k hlt)
      rw [hz] at hc1 hpk HDR
      clear hc hz
      have hst := parts_step HP.out hlt HDR.out hsm
      have hd1 : decide ((k : Int) < (l.length : Int)) = true := decide_eq_true (by omega)
      have hsum : ∀ A C W BB, RdI W BB A (l.drop (k + 1)) → BB ≤ W.heap.size → Calls Try.prog 69 #[.slice A (l.length - (k + 1)) C, .int .i64 m] W fun e w' => ∃ b, e = .returned (.slice b (m + 1) (m + 1)) ∧ SumsAt w' W.heap.size (l.drop (k + 1)) m b ∧ Below W.heap.size W w' := by
        intro A C W BB h1 h2
        have := nuSums_any A C (l.drop (k + 1)) m W BB h1 h2 (by rw [List.length_drop]; omega) (HP.out.drop _) (by omega)
        rwa [List.length_drop] at this
      have Hsum := Lib.hid hsum
      clear hsum
      have hrd := ha.below (hbel1.mono (show B ≤ D by have := HD.out; omega))
      have hDw : D ≤ wr.heap.size := Nat.le_of_lt hrow1.lt
      have hBw : B ≤ wr.heap.size := by have := HD.out; omega
      have hq1 : 0 ≤ (m : Int) / (z : Int) := Int.ediv_nonneg (by omega) (by omega)
      have hq2 : (m : Int) / (z : Int) ≤ 2000 := Int.le_trans (Int.ediv_le_self _ (by omega)) (by omega)
      go_wp2_with (refine wpList_cut rfl (.tmp 20) (.tmp 22) 22 rfl 3 Try.underlying22 (.int .i64 0) 1 8 int_info (some ⟨g, off, none⟩) l.length cap rfl .i64 _ (k + 1) rfl (by omega) (by omega) ?_; intro A hA)
      have hA2 : RdI wr B A (l.drop (k + 1)) := by
        rcases hA with rfl | hA
        · have := RdI.drop hrd (k + 1)
          simpa [Addr.add_lit] using this
        · exact fun h => by rw [List.length_drop] at h; omega
      clear hA hrd
      refine (Hsum.out _ _ _ B hA2 hBw).mono ?_
      rintro e w2 ⟨b2, rfl, hsums, bel2⟩
      go_wp2_with fail
      obtain ⟨gs, rfl, hsc⟩ := hsums.at
      have HSC := Lib.hid hsc
      clear hsc hA2
      replace hrow1 := hrow1.of_block (bel2.block D hrow1.lt)
      replace hbel1 := hbel1.trans (bel2.mono hDw)
      go_loop [9] (fun t => ∃ t0 : Nat, t = .int .i64 t0 ∧ t0 * z ≤ m ∧ topT (l.drop (k + 1)) z m t0 = topT (l.drop (k + 1)) z m (m / z) ∧ ∃ t1 : Nat, t1 ≤ t0 ∧ sm (l.drop (k + 1)) (m - t1 * z) = true) (fun t => (intOf t).toNat)
      case atStart =>
        refine ⟨m / z, by go_num, Nat.div_mul_le_self m z, rfl, hst⟩
      case round =>
        obtain ⟨t0, rfl, htz, htop, t1, ht1, hs1⟩ := hrel
        have hcell := HSC.out (m - t0 * z) (by omega)
        have HT := Lib.hid htop
        have HS1 := Lib.hid hs1
        clear htop hs1 hst
        have ht0b : t0 ≤ 2000 := Nat.le_trans (Nat.le_mul_of_pos_right t0 (show 0 < z by omega)) (by omega)
        have hti : (t0 : Int) * (z : Int) ≤ m := by rw [← Int.natCast_mul]; omega
        have hti0 : 0 ≤ (t0 : Int) * (z : Int) := by rw [← Int.natCast_mul]; omega
        cases hb : sm (l.drop (k + 1)) (m - t0 * z) with
        | true =>
          rw [hb] at hcell
          have HB := Lib.hid hb
          clear hb
          have hcw := hrow1.cell (i := k) (by omega)
          have hfw := hrow1.frozen k
          obtain ⟨u, hu⟩ : ∃ u, F1 k = u := ⟨_, rfl⟩
          rw [hu] at hcw
          clear hu
          have hT2 : topT (l.drop (k + 1)) z m t0 = t0 := topT_yes _ _ _ _ (by rw [toNat_mul]; exact HB.out)
          have HP2 := Lib.hid (parts_drop HDR.out (t := t0) (by rw [← HT.out, hT2]))
          clear hT2
          go_wp2_with fail
          go_roundw
          case rel =>
            refine ⟨k + 1, m - t0 * z, zs ++ [(t0 : Int)], by omega, by simp [HZ.out], by omega, by go_num, ?_, HB.out, ?_, ⟨_, hrow1.set k _, fun x hx => ?_⟩, hbel1.setCell (Nat.le_refl _) _⟩
            · congr 1; rw [Int.natCast_sub htz, Int.natCast_mul]
            · rw [← HR.out, HP2.out]; simp
            · by_cases e : x = k
              · subst e; rw [if_pos rfl, nth_append_right _ _ _ (by have := HZ.out; omega), HZ.out, Nat.sub_self]; rfl
              · rw [if_neg e, HF1.out x (by omega), nth_append_left _ _ _ (by have := HZ.out; omega)]
          case measure => simp [intOf]; omega
        | false =>
          rw [hb] at hcell
          have HB := Lib.hid hb
          clear hb
          have hpos : 0 < t0 := by
            apply Nat.pos_of_ne_zero
            intro h0
            have h1 := HS1.out
            have h2 := HB.out
            rw [show t1 = t0 by omega, h2] at h1
            cases h1
          have hts : (t0 - 1) * z ≤ m := Nat.le_trans (Nat.mul_le_mul_right _ (by omega)) htz
          have hne : t1 ≠ t0 := fun e => by have h1 := HS1.out; rw [e, HB.out] at h1; cases h1
          have HT2 : Hid (topT (l.drop (k + 1)) z m t0 = topT (l.drop (k + 1)) z m (t0 - 1)) := by
            have h := topT_no (l.drop (k + 1)) z m (t0 - 1) (by rw [show t0 - 1 + 1 = t0 by omega, toNat_mul]; exact HB.out)
            rw [show t0 - 1 + 1 = t0 by omega] at h
            exact h
          go_wp2_with fail
          go_round
          case rel => exact ⟨t0 - 1, by congr 1; omega, hts, by rw [← HT.out, HT2.out], t1, by omega, HS1.out⟩
          case measure => simp [intOf]; omega
    · obtain rfl : k = l.length := by omega
      go_wp2_with fail
      go_ret
      have hz0 : zs = parts l n := by rw [← HR.out, List.drop_length, parts, List.append_nil]
      refine ⟨_, _, rfl, ⟨by rw [parts_length]; exact Nat.le_refl _, by unfold maxLen; omega, fun _ => ⟨D, F1, rfl, Nat.le_refl _, hrow1.lt, by rw [Nat.mul_one]; exact hrow1, fun x hx => ?_⟩⟩, hbel1⟩
      rw [parts_length, Nat.mul_one] at hx
      rw [HF1.out x hx, hz0]

def stOk (l : List Int) (n : Int) : Bool := lenB l && inR n 0 2000 && sm l n.toNat
def stR (l : List Int) (n : Int) : List Int := if stOk l n then parts l n.toNat else []
theorem stR_le (l : List Int) (n : Int) (h : l.length ≤ 1048576) : (stR l n).length ≤ 1048576 := by
  unfold stR
  split
  · rw [parts_length]; exact h
  · simp
theorem lenB_pos {l : List Int} (h : lenB l = true) : Pos l := by
  intro x hx
  obtain ⟨j, hj, rfl⟩ := List.getElem_of_mem hx
  rw [← nth_eq_getElem l j hj]
  exact lenB_mem h j hj
theorem st_no {l : List Int} {n : Int} {w w' : World} {e : Ending} (h : stOk l n = false) (he : e = .returned (.tuple #[.slice none 0 0, .bool false])) (hb : Below w.heap.size w w') : PostI (stR l n) (stOk l n) w e w' :=
  PostI.no (by rw [stR, h]; rfl) h he hb
theorem st_yes {l : List Int} {n : Nat} {w w' : World} {e : Ending} {a : Option Addr} {cap : Nat} (h : stOk l n = true) (he : e = .returned (.tuple #[.slice a l.length cap, .bool true])) (ho : OwI w' w.heap.size w'.heap.size a cap (parts l n)) (hb : Below w.heap.size w w') : PostI (stR l n) (stOk l n) w e w' := by
  have hr : stR l n = parts l n := by rw [stR, h]; rfl
  refine ⟨a, cap, ?_, ?_, hb⟩
  · rw [hr, h, he, parts_length]
  · rw [hr]; exact ho
set_option maxHeartbeats 800000 in
theorem specSumsTo_any (a : Option Addr) (cap : Nat) (l : List Int) (n : Int) (w : World) (B : Nat) (ha : RdI w B a l) (hB : B ≤ w.heap.size) (hl : l.length ≤ 1048576) (hcap : l.length ≤ cap) :
    Calls Try.prog 25 #[.slice a l.length cap, .int .i64 n] w (PostI (stR l n) (stOk l n) w) := by
  cases hb : lenB l with
  | true =>
    have HB := Lib.hid hb
    have HP := Lib.hid (lenB_pos hb)
    by_cases hn : 0 ≤ n ∧ n ≤ 2000
    · have hin := inR_t hn.1 hn.2
      obtain ⟨n, rfl⟩ := Int.eq_ofNat_of_zero_le hn.1
      have hn2 : n ≤ 2000 := by omega
      clear hn
      cases hs : sm l n with
      | true =>
        have HO : Hid (stOk l n = true) := by show _ = true; simp [stOk, hb, hin, hs]
        have HS := Lib.hid hs
        clear hs
        go_enter Try.func25, Try.ntmps25
        go_wp2_with (first | (go_at_call 52; refine (l1In_any _ _ _ _).mono ?_; rintro e w' ⟨rfl, rfl⟩) | (go_at_call 68; refine (nuLengths_any _ _ _ _ _ ha (by omega)).mono ?_; rintro e w1 ⟨rfl, m1, h1⟩; have bel1 : Below w.heap.size w w1 := below_of_drewN h1; have sz1 := size_of_drewN h1; clear h1) | (go_at_call 69; refine (nuSums_any _ _ _ _ _ B (ha.below (bel1.mono hB)) (by omega) hl HP.out (by omega)).mono ?_; rintro e w2 ⟨b2, rfl, hsums, bel2⟩; obtain ⟨gs, rfl, hsc⟩ := hsums.at; have hcell := hsc n (Nat.le_refl _); rw [HS.out] at hcell; clear hsc) | (go_at_call 70; refine (nuParts_any _ _ _ _ _ B ((ha.below (bel1.mono hB)).below (bel2.mono (by omega))) (by have := bel2.size; omega) hl hcap HP.out hn2 HS.out).mono ?_; rintro e w3 ⟨b3, c3, rfl, own3, bel3⟩))
        go_ret2
        have z2 := bel2.size
        exact st_yes HO.out rfl (own3.wide (by omega) (Nat.le_refl _)) (bel1.trans ((bel2.mono (by omega)).trans (bel3.mono (by omega))))
      | false =>
        have HO : Hid (stOk l n = false) := by show _ = false; simp [stOk, hs]
        have HS := Lib.hid hs
        clear hs
        go_enter Try.func25, Try.ntmps25
        go_wp2_with (first | (go_at_call 52; refine (l1In_any _ _ _ _).mono ?_; rintro e w' ⟨rfl, rfl⟩) | (go_at_call 68; refine (nuLengths_any _ _ _ _ _ ha (by omega)).mono ?_; rintro e w1 ⟨rfl, m1, h1⟩; have bel1 : Below w.heap.size w w1 := below_of_drewN h1; have sz1 := size_of_drewN h1; clear h1) | (go_at_call 69; refine (nuSums_any _ _ _ _ _ B (ha.below (bel1.mono hB)) (by omega) hl HP.out (by omega)).mono ?_; rintro e w2 ⟨b2, rfl, hsums, bel2⟩; obtain ⟨gs, rfl, hsc⟩ := hsums.at; have hcell := hsc n (Nat.le_refl _); rw [HS.out] at hcell; clear hsc))
        go_ret2
        exact st_no HO.out rfl (bel1.trans (bel2.mono (by omega)))
    · have hin := inR_f hn
      clear hn
      have HO : Hid (stOk l n = false) := by show _ = false; simp [stOk, hin]
      go_enter Try.func25, Try.ntmps25
      go_wp2_with (first | (go_at_call 52; refine (l1In_any _ _ _ _).mono ?_; rintro e w' ⟨rfl, rfl⟩) | (go_at_call 68; refine (nuLengths_any _ _ _ _ _ ha (by omega)).mono ?_; rintro e w1 ⟨rfl, m1, h1⟩; have bel1 : Below w.heap.size w w1 := below_of_drewN h1; clear h1))
      go_ret2
      exact st_no HO.out rfl bel1
  | false =>
    have HO : Hid (stOk l n = false) := by show _ = false; simp [stOk, hb]
    go_enter Try.func25, Try.ntmps25
    go_wp2_with (go_at_call 68; refine (nuLengths_any _ _ _ _ _ ha (by omega)).mono ?_; rintro e w1 ⟨rfl, m1, h1⟩; have bel1 : Below w.heap.size w w1 := below_of_drewN h1; clear h1)
    go_ret2
    exact st_no HO.out rfl bel1

set_option maxHeartbeats 1600000 in
theorem implSumsTo_in (a : Option Addr) (cap : Nat) (l : List Int) (n : Nat) (w : World) (B : Nat) (ha : RdI w B a l) (hB : B ≤ w.heap.size) (hl : l.length ≤ 1048576) (hcap : l.length ≤ cap) (hb : lenB l = true) (hn2 : n ≤ 2000) (hs : sm l n = true) (HO : Hid (stOk l n = true)) :
    Calls Try.prog 26 #[.slice a l.length cap, .int .i64 n] w (PostI (stR l n) (stOk l n) w) := by
  have HP := Lib.hid (lenB_pos hb)
  have hin : inR (n : Int) 0 2000 = true := inR_t (by omega) (by omega)
  have HS := Lib.hid hs
  clear hs
  obtain ⟨D, hD⟩ : ∃ D, D = w.heap.size := ⟨_, rfl⟩
  have HD := Lib.hid hD
  clear hD
  have hBD : B ≤ D := by have := HD.out; omega
  go_enter Try.func26, Try.ntmps26
  go_wp2_with (first | (go_at_call 55; refine (within_any _ _ _ _).mono ?_; rintro e w' ⟨rfl, rfl⟩) | (go_at_call 71; refine (areLengths_any _ _ _ _ _ ha (by omega)).mono ?_; rintro e w1 ⟨rfl, m1, h1⟩; have bel1 : Below D w w1 := below_of_drewN h1; have sz1 := size_of_drewN h1; clear h1) | (go_at_call 72; refine (sumsUpTo_any _ _ _ _ _ B (ha.below (bel1.mono hBD)) (by omega) hl HP.out (by omega)).mono ?_; rintro e w2 ⟨b2, rfl, hsums, bel2⟩; obtain ⟨gs, rfl, hsc⟩ := hsums.at; have hcell := hsc n (Nat.le_refl _); rw [HS.out] at hcell; clear hsc))
  clear hcell hsums
  replace bel1 := bel1.trans (bel2.mono (show D ≤ w1.heap.size by have := HD.out; omega))
  clear bel2
  go_loopw [1, 6, 30] (fun q v i wr => ∃ k m : Nat, ∃ zs : List Int, ∃ b c, k ≤ l.length ∧ zs.length = k ∧ m ≤ 2000 ∧ i = .int .i64 k ∧ q = .int .i64 m ∧ v = .slice b k c ∧ sm (l.drop k) m = true ∧ zs ++ parts (l.drop k) m = parts l n ∧ OwI wr D wr.heap.size b c zs ∧ Below D w wr) (fun _ _ i _ => l.length - (intOf i).toNat)
  case atStart => exact ⟨0, n, [], none, 0, Nat.zero_le _, rfl, hn2, rfl, rfl, rfl, HS.out, rfl, Ow.nil _ _ _ _ _ _ _, bel1⟩
  case round =>
    obtain ⟨k, m, zs, b, c, hk, hzs, hm, rfl, rfl, rfl, hsm, hR, own1, hbel1⟩ := hrel
    have HR := Lib.hid hR
    have HZ := Lib.hid hzs
    clear hR hzs bel1 sz1
    have hDw : D ≤ wr.heap.size := by have := HD.out; have := hbel1.size; omega
    by_cases hlt : k < l.length
    · obtain ⟨g, off, rfl, hg, hc⟩ := Rd.at ha hlt
      have hgD : g < D := by omega
      have hc1 := (hbel1.cell (p := ⟨g, off + k, none⟩) hgD).trans hc
      have hpk := HP.out (nth l k) (nth_mem _ _ hlt)
      obtain ⟨z, hz⟩ : ∃ z : Nat, nth l k = z := ⟨(nth l k).toNat, by omega⟩
      have HDR := Lib.hid (drop_cons_nth l k hlt)
      rw [hz] at hc1 hpk HDR
      clear hc hz
      have hst := parts_step HP.out hlt HDR.out hsm
      have hd1 : decide ((k : Int) < (l.length : Int)) = true := decide_eq_true (by omega)
      have hsum : ∀ A C W BB, RdI W BB A (l.drop (k + 1)) → BB ≤ W.heap.size → Calls Try.prog 72 #[.slice A (l.length - (k + 1)) C, .int .i64 m] W fun e w' => ∃ b, e = .returned (.slice b (m + 1) (m + 1)) ∧ SumsAt w' W.heap.size (l.drop (k + 1)) m b ∧ Below W.heap.size W w' := by
        intro A C W BB h1 h2
        have := sumsUpTo_any A C (l.drop (k + 1)) m W BB h1 h2 (by rw [List.length_drop]; omega) (HP.out.drop _) (by omega)
        rwa [List.length_drop] at this
      have Hsum := Lib.hid hsum
      clear hsum
      have hrd := ha.below (hbel1.mono hBD)
      have hBw : B ≤ wr.heap.size := by omega
      have hq1 : 0 ≤ (m : Int) / (z : Int) := Int.ediv_nonneg (by omega) (by omega)
      have hq2 : (m : Int) / (z : Int) ≤ 2000 := Int.le_trans (Int.ediv_le_self _ (by omega)) (by omega)
      go_wp2_with (refine wpList_cut rfl (.tmp 35) (.tmp 37) 22 rfl 3 Try.underlying22 (.int .i64 0) 1 8 int_info (some ⟨g, off, none⟩) l.length cap rfl .i64 _ (k + 1) rfl (by omega) (by omega) ?_; intro A hA)
      have hA2 : RdI wr B A (l.drop (k + 1)) := by
        rcases hA with rfl | hA
        · have := RdI.drop hrd (k + 1)
          simpa [Addr.add_lit] using this
        · exact fun h => by rw [List.length_drop] at h; omega
      clear hA hrd
      refine (Hsum.out _ _ _ B hA2 hBw).mono ?_
      rintro e w2 ⟨b2, rfl, hsums, bel2⟩
      go_wp2_with fail
      obtain ⟨gs, rfl, hsc⟩ := hsums.at
      have HSC := Lib.hid hsc
      clear hsc hA2
      replace own1 := Ow.new own1 bel2
      replace hbel1 := hbel1.trans (bel2.mono hDw)
      have hDw2 : D ≤ w2.heap.size := Nat.le_trans hDw bel2.size
      go_loop [10] (fun t => ∃ t0 : Nat, t = .int .i64 t0 ∧ t0 * z ≤ m ∧ topT (l.drop (k + 1)) z m t0 = topT (l.drop (k + 1)) z m (m / z) ∧ ∃ t1 : Nat, t1 ≤ t0 ∧ sm (l.drop (k + 1)) (m - t1 * z) = true) (fun t => (intOf t).toNat)
      case atStart =>
        refine ⟨m / z, by go_num, Nat.div_mul_le_self m z, rfl, hst⟩
      case round =>
        obtain ⟨t0, rfl, htz, htop, t1, ht1, hs1⟩ := hrel
        have hcell := HSC.out (m - t0 * z) (by omega)
        have HT := Lib.hid htop
        have HS1 := Lib.hid hs1
        clear htop hs1 hst
        have ht0b : t0 ≤ 2000 := Nat.le_trans (Nat.le_mul_of_pos_right t0 (show 0 < z by omega)) (by omega)
        have hti : (t0 : Int) * (z : Int) ≤ m := by rw [← Int.natCast_mul]; omega
        have hti0 : 0 ≤ (t0 : Int) * (z : Int) := by rw [← Int.natCast_mul]; omega
        cases hb : sm (l.drop (k + 1)) (m - t0 * z) with
        | true =>
          rw [hb] at hcell
          have HB := Lib.hid hb
          clear hb
          have hT2 : topT (l.drop (k + 1)) z m t0 = t0 := topT_yes _ _ _ _ (by rw [toNat_mul]; exact HB.out)
          have HP2 := Lib.hid (parts_drop HDR.out (t := t0) (by rw [← HT.out, hT2]))
          clear hT2
          have own2 : Ow w2 D wr.heap.size 3 1 b k c (fun j => .int .i64 (nth zs j)) := by rw [← HZ.out]; exact own1
          go_wp2_with (at_builtin; refine wpList_app rfl _ _ _ rfl 3 (.int .i64 0) 1 8 Try.underlying22 int_info rfl (by decide) D wr.heap.size b k c _ rfl (Ow.alloc own2 _) ⟨w2.heap.size, 0, none⟩ 1 1 [.int .i64 t0] rfl rfl (cell_one_new _ _ _) (by simp [Value.oneCell']) (by decide) (by unfold maxLen; omega) (by omega) (by simp; omega) ?_; intro g' cap' w3 own3 hgr _ _)
          go_roundw
          case rel =>
            refine ⟨k + 1, m - t0 * z, zs ++ [(t0 : Int)], _, _, by omega, by simp [HZ.out], by omega, by go_num, ?_, rfl, HB.out, ?_, ?_, below_app (hbel1.alloc hDw2 _) (Ow.alloc own2 _) hgr (Nat.le_refl _) (by simp; omega)⟩
            · congr 1; rw [Int.natCast_sub htz, Int.natCast_mul]
            · rw [← HR.out, HP2.out]; simp
            · apply OwI.snoc; rw [HZ.out]; exact own3
          case measure => simp [intOf]; omega
        | false =>
          rw [hb] at hcell
          have HB := Lib.hid hb
          clear hb
          have hpos : 0 < t0 := by
            apply Nat.pos_of_ne_zero
            intro h0
            have h1 := HS1.out
            have h2 := HB.out
            rw [show t1 = t0 by omega, h2] at h1
            cases h1
          have hts : (t0 - 1) * z ≤ m := Nat.le_trans (Nat.mul_le_mul_right _ (by omega)) htz
          have hne : t1 ≠ t0 := fun e => by have h1 := HS1.out; rw [e, HB.out] at h1; cases h1
          have HT2 : Hid (topT (l.drop (k + 1)) z m t0 = topT (l.drop (k + 1)) z m (t0 - 1)) := by
            have h := topT_no (l.drop (k + 1)) z m (t0 - 1) (by rw [show t0 - 1 + 1 = t0 by omega, toNat_mul]; exact HB.out)
            rw [show t0 - 1 + 1 = t0 by omega] at h
            exact h
          go_wp2_with fail
          go_round
          case rel => exact ⟨t0 - 1, by congr 1; omega, hts, by rw [← HT.out, HT2.out], t1, by omega, HS1.out⟩
          case measure => simp [intOf]; omega
    · obtain rfl : k = l.length := by omega
      go_wp2_with fail
      go_ret2
      have hz0 : zs = parts l n := by rw [← HR.out, List.drop_length, parts, List.append_nil]
      rw [hz0] at own1
      exact st_yes HO.out rfl (by rw [← HD.out]; exact own1) (by rw [← HD.out]; exact hbel1)
set_option maxHeartbeats 800000 in
theorem implSumsTo_any (a : Option Addr) (cap : Nat) (l : List Int) (n : Int) (w : World) (B : Nat) (ha : RdI w B a l) (hB : B ≤ w.heap.size) (hl : l.length ≤ 1048576) (hcap : l.length ≤ cap) :
    Calls Try.prog 26 #[.slice a l.length cap, .int .i64 n] w (PostI (stR l n) (stOk l n) w) := by
  cases hb : lenB l with
  | true =>
    have HP := Lib.hid (lenB_pos hb)
    by_cases hn : 0 ≤ n ∧ n ≤ 2000
    · have hin := inR_t hn.1 hn.2
      obtain ⟨n, rfl⟩ := Int.eq_ofNat_of_zero_le hn.1
      have hn2 : n ≤ 2000 := by omega
      clear hn
      cases hs : sm l n with
      | true => exact implSumsTo_in a cap l n w B ha hB hl hcap hb hn2 hs (by show _ = true; simp [stOk, hb, hin, hs])
      | false =>
        have HO : Hid (stOk l n = false) := by show _ = false; simp [stOk, hs]
        have HS := Lib.hid hs
        clear hs
        go_enter Try.func26, Try.ntmps26
        go_wp2_with (first | (go_at_call 55; refine (within_any _ _ _ _).mono ?_; rintro e w' ⟨rfl, rfl⟩) | (go_at_call 71; refine (areLengths_any _ _ _ _ _ ha (by omega)).mono ?_; rintro e w1 ⟨rfl, m1, h1⟩; have bel1 : Below w.heap.size w w1 := below_of_drewN h1; have sz1 := size_of_drewN h1; clear h1) | (go_at_call 72; refine (sumsUpTo_any _ _ _ _ _ B (ha.below (bel1.mono hB)) (by omega) hl HP.out (by omega)).mono ?_; rintro e w2 ⟨b2, rfl, hsums, bel2⟩; obtain ⟨gs, rfl, hsc⟩ := hsums.at; have hcell := hsc n (Nat.le_refl _); rw [HS.out] at hcell; clear hsc))
        go_ret2
        exact st_no HO.out rfl (bel1.trans (bel2.mono (by omega)))
    · have hin := inR_f hn
      clear hn
      have HO : Hid (stOk l n = false) := by show _ = false; simp [stOk, hin]
      go_enter Try.func26, Try.ntmps26
      go_wp2_with (first | (go_at_call 55; refine (within_any _ _ _ _).mono ?_; rintro e w' ⟨rfl, rfl⟩) | (go_at_call 71; refine (areLengths_any _ _ _ _ _ ha (by omega)).mono ?_; rintro e w1 ⟨rfl, m1, h1⟩; have bel1 : Below w.heap.size w w1 := below_of_drewN h1; clear h1))
      go_ret2
      exact st_no HO.out rfl bel1
  | false =>
    have HO : Hid (stOk l n = false) := by show _ = false; simp [stOk, hb]
    go_enter Try.func26, Try.ntmps26
    go_wp2_with (go_at_call 71; refine (areLengths_any _ _ _ _ _ ha (by omega)).mono ?_; rintro e w1 ⟨rfl, m1, h1⟩; have bel1 : Below w.heap.size w w1 := below_of_drewN h1; clear h1)
    go_ret2
    exact st_no HO.out rfl bel1
end Go.Proofs.Ytckjobjmjijjdaa
