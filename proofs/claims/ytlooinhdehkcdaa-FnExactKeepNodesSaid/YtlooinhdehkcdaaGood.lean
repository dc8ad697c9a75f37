/- Contracts: impl.IsNetwork and spec.neGood. -/
import Derived.Test.YtlooinhdehkcdaaPort
import Derived.Test.YtlooinhdehkcdaaSz
import Derived.Deep.RegionHeld3
namespace Go.Proofs.Ytlooinhdehkcdaa
open Go.RowKit
set_option linter.unusedVariables false
set_option linter.unusedSimpArgs false
theorem netB_f0 {N : Net} (h : inR (N.ends.length : Int) 1 40 = false) : false = netB N := by rw [netB, h]; rfl
theorem netB_f1 {N : Net} (h : idsB N.ids N.ends.length = false) : false = netB N := by rw [netB, h]; simp
theorem netB_f2 {N : Net} (h : inpB N.inputs N.ends.length = false) : false = netB N := by rw [netB, h]; simp
theorem netB_f3 {N : Net} (h : rowsB N.ends = false) : false = netB N := by rw [netB, h]; simp
theorem netB_t {N : Net} (h0 : inR (N.ends.length : Int) 1 40 = true) (h1 : idsB N.ids N.ends.length = true) (h2 : inpB N.inputs N.ends.length = true) (h3 : rowsB N.ends = true) : true = netB N := by rw [netB, h0, h1, h2, h3]; rfl
theorem portB_f {rows : Rows2} {v i : Nat} {p q : Int} (he : nthE (rowOf rows v) i = (p, q)) (h : hasP rows p q = false) : portB rows v i = false := by rw [portB, he, h]; rfl
theorem portB_e {rows : Rows2} {v i p q : Nat} {x y : Int} (he : nthE (rowOf rows v) i = ((p : Int), (q : Int))) (h : hasP rows p q = true) (hx : nthE (rowOf rows p) q = (x, y)) : portB rows v i = decide (x = (v : Int) ∧ y = (i : Int)) := by
  rw [portB, he]
  show (hasP rows p q && decide (nthE (rowOf rows ((p : Int).toNat)) ((q : Int).toNat) = ((v : Int), (i : Int)))) = _
  rw [h, Int.toNat_natCast, Int.toNat_natCast, hx, Bool.true_and]
  exact decide_eq_decide.2 (iff_of_eq (Prod.mk.injEq _ _ _ _))
theorem hasP_nat {rows : Rows2} {p q : Int} (h : hasP rows p q = true) : ∃ p' q' : Nat, p = p' ∧ q = q' ∧ p' < rows.length ∧ q' < (rowOf rows p').length := by
  unfold hasP hasN at h
  rw [Bool.and_eq_true] at h
  have h1 := inR_iff.1 h.1
  have h2 := inR_iff.1 h.2
  obtain ⟨p', rfl⟩ := Int.eq_ofNat_of_zero_le h1.1
  obtain ⟨q', rfl⟩ := Int.eq_ofNat_of_zero_le h2.1
  rw [Int.toNat_natCast] at h2
  exact ⟨p', q', rfl, rfl, by omega, by omega⟩
set_option maxHeartbeats 800000 in
theorem isNetwork_any (v : Value) (N : Net) (w : World) (B : Nat) (hv : NetRd w B v N) (hB : B ≤ w.heap.size) (hs : NetSmall N) :
    Calls Try.prog 39 #[v] w fun e w' => e = .returned (.bool (netB N)) ∧ Below w.heap.size w w' := by
  obtain ⟨a, c, vs, ai, ci, ap, cp, rfl, h1, h2, h3⟩ := hv
  have hrow := hs.row
  have HROW := Lib.hid hrow
  unfold NetSmall at hs
  clear hrow
  have BA := Bx.made w 29 #[.slice a N.ends.length c, .slice ai N.ids.length ci, .slice ap N.inputs.length cp]
  have b0 : Below w.heap.size w (w.alloc (.cells #[.slice a N.ends.length c, .slice ai N.ids.length ci, .slice ap N.inputs.length cp] 29)) := (by repeat (first | exact Below.refl _ _ | assumption | refine Below.alloc ?_ (by first | (simp; done) | (simp; omega) | omega) _ | refine Below.setCell ?_ (by first | (simp; done) | (simp; omega) | omega) _ | refine Below.drew ?_ | refine Below.drewN ?_ _))
  cases hn : inR (N.ends.length : Int) 1 40 with
  | false =>
    have HX := Lib.hid hn
    clear hn
    go_enter Try.func39, Try.ntmps39
    go_wp2_with fail
    refine (within_any _ _ _ _).mono ?_
    rintro e w' ⟨rfl, rfl⟩
    rw [HX.out]
    go_wp2_with fail
    go_ret
    exact ⟨ret_bool (netB_f0 HX.out), b0⟩
  | true =>
    have HN := Lib.hid hn
    have hn40 := inR_iff.1 hn
    clear hn
    cases hi : idsB N.ids N.ends.length with
    | false =>
      have HX := Lib.hid hi
      clear hi
      go_enter Try.func39, Try.ntmps39
      go_wp2_with fail
      refine (within_any _ _ _ _).mono ?_
      rintro e w' ⟨rfl, rfl⟩
      rw [HN.out]
      go_wp2_with fail
      refine (idsOk_any _ _ N.ids N.ends.length _ B (Rd.below h2 (b0.mono hB)) (by rw [World.size_alloc]; omega) (by omega) (by omega)).mono ?_
      rintro e w1 ⟨rfl, bel1⟩
      rw [HX.out]
      go_wp2_with fail
      go_ret
      exact ⟨ret_bool (netB_f1 HX.out), b0.trans (bel1.mono (by rw [World.size_alloc]; omega))⟩
    | true =>
      have HI := Lib.hid hi
      clear hi
      go_enter Try.func39, Try.ntmps39
      go_wp2_with fail
      refine (within_any _ _ _ _).mono ?_
      rintro e w' ⟨rfl, rfl⟩
      rw [HN.out]
      go_wp2_with fail
      refine (idsOk_any _ _ N.ids N.ends.length _ B (Rd.below h2 (b0.mono hB)) (by rw [World.size_alloc]; omega) (by omega) (by omega)).mono ?_
      rintro e w1 ⟨rfl, bel1⟩
      rw [HI.out]
      replace BA := BA.new bel1
      have b1 := b0.trans (bel1.mono (by rw [World.size_alloc]; omega))
      clear b0 bel1
      have cA2 := BA.cell 2 _ rfl
      have cA0 := BA.cell 0 _ rfl
      go_wp2_with fail
      have z1 := b1.size
      refine (inputsOk_any _ _ N.inputs N.ends.length _ B (Rd.below h3 (b1.mono hB)) (by omega) (by omega) (by omega)).mono ?_
      rintro e w2 ⟨rfl, bel2⟩
      have b2 := b1.trans (bel2.mono z1)
      replace BA := BA.new bel2
      clear b1 bel2 cA2 cA0
      have cA0 := BA.cell 0 _ rfl
      cases hp : inpB N.inputs N.ends.length with
      | false =>
        have HX := Lib.hid hp
        clear hp
        go_wp2_with fail
        go_ret
        exact ⟨ret_bool (netB_f2 HX.out), b2⟩
      | true =>
        have HP := Lib.hid hp
        clear hp
        go_wp2_with fail
        have h12 := RdEE.below h1 (b2.mono hB)
        have z2 := b2.size
        have hB2 : B ≤ w2.heap.size := by omega
        clear cA0 h1 h2 h3
        go_loopw [33] (fun i wr => ∃ k : Nat, k ≤ N.ends.length ∧ i = .int .i64 k ∧ (∀ j, j < k → rowB N.ends j = true) ∧ Below w2.heap.size w2 wr) (fun i _ => N.ends.length - (intOf i).toNat)
        case atStart => exact ⟨0, Nat.zero_le _, rfl, fun j h => absurd h (by omega), Below.refl _ _⟩
        case round =>
          obtain ⟨k, hk, rfl, hall, bel⟩ := hrel
          have Hall := Lib.hid hall
          clear hall
          by_cases hlt : k < N.ends.length
          · obtain ⟨g, off, hae, hgB, hc⟩ := Rd.at (h12.below (bel.mono hB2)).1 hlt
            have HA := Lib.hid hae
            subst hae
            have hl1 := HROW.out k hlt
            by_cases h6 : (rowOf N.ends k).length ≤ 6
            · have H6 := Lib.hid h6
              go_wp2_with fail
              go_loopw [43] (fun i wr' => ∃ j : Nat, j ≤ (rowOf N.ends k).length ∧ i = .int .i64 j ∧ (∀ x, x < j → portB N.ends k x = true) ∧ Below w2.heap.size w2 wr') (fun i _ => (rowOf N.ends k).length - (intOf i).toNat)
              case atStart => exact ⟨0, Nat.zero_le _, rfl, fun j h => absurd h (by omega), bel⟩
              case round =>
                obtain ⟨j, hj, rfl, hallp, bel'⟩ := hrel
                have Hallp := Lib.hid hallp
                clear hallp
                by_cases hjlt : j < (rowOf N.ends k).length
                · obtain ⟨p, q, hpq⟩ : ∃ p q, nthE (rowOf N.ends k) j = (p, q) := ⟨_, _, rfl⟩
                  obtain ⟨g1, off1, hae1, hg1, hc1, hc2⟩ := RdE.at ((h12.below (bel'.mono hB2)).2 k hlt) hjlt
                  rw [hpq] at hc1 hc2
                  have HPQ := Lib.hid hpq
                  clear hpq
                  rw [hae1]
                  go_wp2_with fail
                  generalize hW : wr.alloc (.cells #[.int .i64 p, .int .i64 q] 62) = W
                  have B6 : Bx W wr.heap.size 62 #[.int .i64 p, .int .i64 q] := by rw [← hW]; exact Bx.made wr _ _
                  have belW : Below wr.heap.size wr W := by rw [← hW]; exact (by repeat (first | exact Below.refl _ _ | assumption | refine Below.alloc ?_ (by first | (simp; done) | (simp; omega) | omega) _ | refine Below.setCell ?_ (by first | (simp; done) | (simp; omega) | omega) _ | refine Below.drew ?_ | refine Below.drewN ?_ _))
                  clear hW
                  have zW := belW.size
                  have zr := bel'.size
                  have bel2 := bel'.trans (belW.mono zr)
                  have BAW := BA.new bel2
                  have z2W := bel2.size
                  have HH : Hid (∀ X, Below W.heap.size W X → Calls Try.prog 54 #[.agg #[.slice (some ⟨g, off, none⟩) N.ends.length c, .slice ai N.ids.length ci, .slice ap N.inputs.length cp], .int .i64 p, .int .i64 q] X fun e w' => e = .returned (.bool (hasP N.ends p q)) ∧ Below W.heap.size W w') := by
                    intro X bX
                    have zX := bX.size
                    exact (hasPort_any _ _ _ N.ends vs _ _ _ _ _ _ _ _ B (h12.below ((bel2.trans (bX.mono z2W)).mono hB2)) (by omega) (by omega) HROW.out).mono fun e w' h => ⟨h.1, bX.trans (h.2.mono zX)⟩
                  cases hh : hasP N.ends p q with
                  | false =>
                    have HX := Lib.hid hh
                    have HS : Hid (∀ X, Below W.heap.size W X → X.cell? ⟨w.heap.size, 0, none⟩ = some (.slice (some ⟨g, off, none⟩) N.ends.length c) ∧ X.cell? ⟨w.heap.size, 1, none⟩ = some (.slice ai N.ids.length ci) ∧ X.cell? ⟨w.heap.size, 2, none⟩ = some (.slice ap N.inputs.length cp) ∧ X.cell? ⟨wr.heap.size, 0, none⟩ = some (.int .i64 p) ∧ X.cell? ⟨wr.heap.size, 1, none⟩ = some (.int .i64 q) ∧ Below W.heap.size W X) :=
                      fun X bX => ⟨(BAW.new bX).cell 0 _ rfl, (BAW.new bX).cell 1 _ rfl, (BAW.new bX).cell 2 _ rfl, (B6.new bX).cell 0 _ rfl, (B6.new bX).cell 1 _ rfl, bX⟩
                    rw [hh] at HH
                    clear hh
                    have bd : Below W.heap.size W W.drew := (Below.refl _ _).drew
                    refine wp_region_held_drew (S := fun X => X.cell? ⟨w.heap.size, 0, none⟩ = some (.slice (some ⟨g, off, none⟩) N.ends.length c) ∧ X.cell? ⟨w.heap.size, 1, none⟩ = some (.slice ai N.ids.length ci) ∧ X.cell? ⟨w.heap.size, 2, none⟩ = some (.slice ap N.inputs.length cp) ∧ X.cell? ⟨wr.heap.size, 0, none⟩ = some (.int .i64 p) ∧ X.cell? ⟨wr.heap.size, 1, none⟩ = some (.int .i64 q) ∧ Below W.heap.size W X) (by kernel_rfl) (HS.out _ bd) (fun hHeld => ?_)
                    refine wpAnyH_take (i := 0) (v := ?_) rfl (by kernel_rfl) (by kernel_rfl) (by kernel_rfl) (fun _ _ _ h => h) (Or.inl ⟨by rfl, ?_⟩) (by assumption) ?_
                    rotate_left
                    · (intro w hSw; (try dsimp only at hSw); go_simp; try with_reducible rfl)
                    try simp only [Act.put, List.getElem_toArray, List.getElem_cons_zero, List.getElem_cons_succ, List.setIfInBounds_toArray, List.set_cons_zero, List.set_cons_succ]
                    refine wpAnyH_take (i := 1) (v := ?_) rfl (by kernel_rfl) (by kernel_rfl) (by kernel_rfl) (fun _ _ _ h => h) (Or.inl ⟨by rfl, ?_⟩) (by assumption) ?_
                    rotate_left
                    · (intro w hSw; (try dsimp only at hSw); go_simp; try with_reducible rfl)
                    try simp only [Act.put, List.getElem_toArray, List.getElem_cons_zero, List.getElem_cons_succ, List.setIfInBounds_toArray, List.set_cons_zero, List.set_cons_succ]
                    refine wpAnyH_take (i := 2) (v := ?_) rfl (by kernel_rfl) (by kernel_rfl) (by kernel_rfl) (fun _ _ _ h => h) (Or.inl ⟨by rfl, ?_⟩) (by assumption) ?_
                    rotate_left
                    · (intro w hSw; (try dsimp only at hSw); go_simp; try with_reducible rfl)
                    try simp only [Act.put, List.getElem_toArray, List.getElem_cons_zero, List.getElem_cons_succ, List.setIfInBounds_toArray, List.set_cons_zero, List.set_cons_succ]
                    refine wpAnyH_take (i := 3) (v := ?_) rfl (by kernel_rfl) (by kernel_rfl) (by kernel_rfl) (fun _ _ _ h => h) (Or.inl ⟨by rfl, ?_⟩) (by assumption) ?_
                    rotate_left
                    · (intro w hSw; (try dsimp only at hSw); go_simp; try with_reducible rfl)
                    try simp only [Act.put, List.getElem_toArray, List.getElem_cons_zero, List.getElem_cons_succ, List.setIfInBounds_toArray, List.set_cons_zero, List.set_cons_succ]
                    refine wpAnyH_take (i := 4) (v := ?_) rfl (by kernel_rfl) (by kernel_rfl) (by kernel_rfl) (fun _ _ _ h => h) (Or.inl ⟨by rfl, ?_⟩) (by assumption) ?_
                    rotate_left
                    · (intro w hSw; (try dsimp only at hSw); go_simp; try with_reducible rfl)
                    try simp only [Act.put, List.getElem_toArray, List.getElem_cons_zero, List.getElem_cons_succ, List.setIfInBounds_toArray, List.set_cons_zero, List.set_cons_succ]
                    refine wpAnyH_ready (rs := [5]) (by kernel_rfl) (by simp) ?_
                    refine AllReadyH.cons (o := _) rfl (fun K hK => ?_) AllReadyH.nil
                    go_simp
                    refine (HH.out _ bd).mono ?_
                    rintro e w3 ⟨rfl, bel3⟩
                    refine hK.out _ _ (HS.out _ bel3) (fun hHeld => ?_)
                    clear hK K
                    try simp only [Act.put, List.getElem_toArray, List.getElem_cons_zero, List.getElem_cons_succ, List.setIfInBounds_toArray, List.set_cons_zero, List.set_cons_succ]
                    refine wpAnyH_take (i := 6) (v := ?_) rfl (by kernel_rfl) (by kernel_rfl) (by kernel_rfl) (fun _ _ _ h => h) (Or.inl ⟨by rfl, ?_⟩) (by assumption) ?_
                    rotate_left
                    · (intro w hSw; (try dsimp only at hSw); go_simp; try with_reducible rfl)
                    try simp only [Act.put, List.getElem_toArray, List.getElem_cons_zero, List.getElem_cons_succ, List.setIfInBounds_toArray, List.set_cons_zero, List.set_cons_succ]
                    refine wpAnyH_take (i := 7) (v := ?_) rfl (by kernel_rfl) (by kernel_rfl) (by kernel_rfl) (fun _ _ _ h => h) (Or.inl ⟨by rfl, ?_⟩) (by assumption) ?_
                    rotate_left
                    · (intro w hSw; (try dsimp only at hSw); go_simp; try with_reducible rfl)
                    try simp only [Act.put, List.getElem_toArray, List.getElem_cons_zero, List.getElem_cons_succ, List.setIfInBounds_toArray, List.set_cons_zero, List.set_cons_succ]
                    refine wpAnyH_take (i := 8) (v := undef) rfl (by kernel_rfl) (by kernel_rfl) (by kernel_rfl) (fun _ _ _ h => h) (Or.inr ⟨by rfl, rfl⟩) (by assumption) ?_
                    try simp only [Act.put, List.getElem_toArray, List.getElem_cons_zero, List.getElem_cons_succ, List.setIfInBounds_toArray, List.set_cons_zero, List.set_cons_succ]
                    refine wpAnyH_take (i := 9) (v := undef) rfl (by kernel_rfl) (by kernel_rfl) (by kernel_rfl) (fun _ _ _ h => h) (Or.inr ⟨by rfl, rfl⟩) (by assumption) ?_
                    try simp only [Act.put, List.getElem_toArray, List.getElem_cons_zero, List.getElem_cons_succ, List.setIfInBounds_toArray, List.set_cons_zero, List.set_cons_succ]
                    refine wpAnyH_take (i := 10) (v := undef) rfl (by kernel_rfl) (by kernel_rfl) (by kernel_rfl) (fun _ _ _ h => h) (Or.inr ⟨by rfl, rfl⟩) (by assumption) ?_
                    try simp only [Act.put, List.getElem_toArray, List.getElem_cons_zero, List.getElem_cons_succ, List.setIfInBounds_toArray, List.set_cons_zero, List.set_cons_succ]
                    refine wpAnyH_take (i := 11) (v := undef) rfl (by kernel_rfl) (by kernel_rfl) (by kernel_rfl) (fun _ _ _ h => h) (Or.inr ⟨by rfl, rfl⟩) (by assumption) ?_
                    try simp only [Act.put, List.getElem_toArray, List.getElem_cons_zero, List.getElem_cons_succ, List.setIfInBounds_toArray, List.set_cons_zero, List.set_cons_succ]
                    refine wpAnyH_take (i := 12) (v := undef) rfl (by kernel_rfl) (by kernel_rfl) (by kernel_rfl) (fun _ _ _ h => h) (Or.inr ⟨by rfl, rfl⟩) (by assumption) ?_
                    try simp only [Act.put, List.getElem_toArray, List.getElem_cons_zero, List.getElem_cons_succ, List.setIfInBounds_toArray, List.set_cons_zero, List.set_cons_succ]
                    refine wpAnyH_take (i := 13) (v := undef) rfl (by kernel_rfl) (by kernel_rfl) (by kernel_rfl) (fun _ _ _ h => h) (Or.inr ⟨by rfl, rfl⟩) (by assumption) ?_
                    try simp only [Act.put, List.getElem_toArray, List.getElem_cons_zero, List.getElem_cons_succ, List.setIfInBounds_toArray, List.set_cons_zero, List.set_cons_succ]
                    refine wpAnyH_take (i := 14) (v := undef) rfl (by kernel_rfl) (by kernel_rfl) (by kernel_rfl) (fun _ _ _ h => h) (Or.inr ⟨by rfl, rfl⟩) (by assumption) ?_
                    try simp only [Act.put, List.getElem_toArray, List.getElem_cons_zero, List.getElem_cons_succ, List.setIfInBounds_toArray, List.set_cons_zero, List.set_cons_succ]
                    refine wpAnyH_take (i := 15) (v := undef) rfl (by kernel_rfl) (by kernel_rfl) (by kernel_rfl) (fun _ _ _ h => h) (Or.inr ⟨by rfl, rfl⟩) (by assumption) ?_
                    try simp only [Act.put, List.getElem_toArray, List.getElem_cons_zero, List.getElem_cons_succ, List.setIfInBounds_toArray, List.set_cons_zero, List.set_cons_succ]
                    refine wpAnyH_take (i := 16) (v := undef) rfl (by kernel_rfl) (by kernel_rfl) (by kernel_rfl) (fun _ _ _ h => h) (Or.inr ⟨by rfl, rfl⟩) (by assumption) ?_
                    try simp only [Act.put, List.getElem_toArray, List.getElem_cons_zero, List.getElem_cons_succ, List.setIfInBounds_toArray, List.set_cons_zero, List.set_cons_succ]
                    refine wpAnyH_take (i := 17) (v := undef) rfl (by kernel_rfl) (by kernel_rfl) (by kernel_rfl) (fun _ _ _ h => h) (Or.inr ⟨by rfl, rfl⟩) (by assumption) ?_
                    try simp only [Act.put, List.getElem_toArray, List.getElem_cons_zero, List.getElem_cons_succ, List.setIfInBounds_toArray, List.set_cons_zero, List.set_cons_succ]
                    refine wpAnyH_take (i := 18) (v := undef) rfl (by kernel_rfl) (by kernel_rfl) (by kernel_rfl) (fun _ _ _ h => h) (Or.inr ⟨by rfl, rfl⟩) (by assumption) ?_
                    try simp only [Act.put, List.getElem_toArray, List.getElem_cons_zero, List.getElem_cons_succ, List.setIfInBounds_toArray, List.set_cons_zero, List.set_cons_succ]
                    refine wpAnyH_take (i := 19) (v := undef) rfl (by kernel_rfl) (by kernel_rfl) (by kernel_rfl) (fun _ _ _ h => h) (Or.inr ⟨by rfl, rfl⟩) (by assumption) ?_
                    try simp only [Act.put, List.getElem_toArray, List.getElem_cons_zero, List.getElem_cons_succ, List.setIfInBounds_toArray, List.set_cons_zero, List.set_cons_succ]
                    refine wpAnyH_take (i := 20) (v := undef) rfl (by kernel_rfl) (by kernel_rfl) (by kernel_rfl) (fun _ _ _ h => h) (Or.inr ⟨by rfl, rfl⟩) (by assumption) ?_
                    try simp only [Act.put, List.getElem_toArray, List.getElem_cons_zero, List.getElem_cons_succ, List.setIfInBounds_toArray, List.set_cons_zero, List.set_cons_succ]
                    refine wpAnyH_take (i := 21) (v := undef) rfl (by kernel_rfl) (by kernel_rfl) (by kernel_rfl) (fun _ _ _ h => h) (Or.inr ⟨by rfl, rfl⟩) (by assumption) ?_
                    try simp only [Act.put, List.getElem_toArray, List.getElem_cons_zero, List.getElem_cons_succ, List.setIfInBounds_toArray, List.set_cons_zero, List.set_cons_succ]
                    refine wpAnyH_take (i := 22) (v := ?_) rfl (by kernel_rfl) (by kernel_rfl) (by kernel_rfl) (fun _ _ _ h => h) (Or.inl ⟨by rfl, ?_⟩) (by assumption) ?_
                    rotate_left
                    · (intro w hSw; (try dsimp only at hSw); go_simp; try with_reducible rfl)
                    try simp only [Act.put, List.getElem_toArray, List.getElem_cons_zero, List.getElem_cons_succ, List.setIfInBounds_toArray, List.set_cons_zero, List.set_cons_succ]
                    refine wpAnyH_done (by kernel_rfl) ?_ _
                    go_wp2_with fail
                    go_ret
                    exact ⟨ret_bool (netB_f3 (rowsB_f hlt (rowB_f2 hjlt (portB_f HPQ.out HX.out)))), b2.trans ((bel2.trans (bel3.mono z2W)).mono z2)⟩
                  | true =>
                    have HX := Lib.hid hh
                    rw [hh] at HH
                    obtain ⟨p, q, rfl, rfl, hp, hq⟩ := hasP_nat hh
                    clear hh
                    obtain ⟨x, y, hxy⟩ : ∃ x y, nthE (rowOf N.ends p) q = (x, y) := ⟨_, _, rfl⟩
                    have hHA := HA.out
                    obtain ⟨g3, off3, hae3, hg3, hc3⟩ := Rd.at (h12.below (bel2.mono hB2)).1 hp
                    obtain ⟨rfl, rfl⟩ : g = g3 ∧ off = off3 := by injection hae3 with h; injection h with h1 h2; exact ⟨h1, h2⟩
                    obtain ⟨g2, off2, hae2, hg2, hc5, hc6⟩ := RdE.at ((h12.below (bel2.mono hB2)).2 p hp) hq
                    rw [hxy] at hc5 hc6
                    rw [hae2] at hc3
                    have HS : Hid (∀ X, Below W.heap.size W X → X.cell? ⟨w.heap.size, 0, none⟩ = some (.slice (some ⟨g, off, none⟩) N.ends.length c) ∧ X.cell? ⟨w.heap.size, 1, none⟩ = some (.slice ai N.ids.length ci) ∧ X.cell? ⟨w.heap.size, 2, none⟩ = some (.slice ap N.inputs.length cp) ∧ X.cell? ⟨wr.heap.size, 0, none⟩ = some (.int .i64 p) ∧ X.cell? ⟨wr.heap.size, 1, none⟩ = some (.int .i64 q) ∧ X.cell? ⟨g, off + p, none⟩ = some (.slice (some ⟨g2, off2, none⟩) (rowOf N.ends p).length (vs p).2) ∧ X.cell? ⟨g2, off2 + q * 2, none⟩ = some (.int .i64 x) ∧ X.cell? ⟨g2, off2 + q * 2 + 1, none⟩ = some (.int .i64 y) ∧ Below W.heap.size W X) :=
                      fun X bX => ⟨(BAW.new bX).cell 0 _ rfl, (BAW.new bX).cell 1 _ rfl, (BAW.new bX).cell 2 _ rfl, (B6.new bX).cell 0 _ rfl, (B6.new bX).cell 1 _ rfl, (bX.cell (p := ⟨g, off + p, none⟩) (show g < W.heap.size by omega)).trans hc3, (bX.cell (p := ⟨g2, off2 + q * 2, none⟩) (show g2 < W.heap.size by omega)).trans hc5, (bX.cell (p := ⟨g2, off2 + q * 2 + 1, none⟩) (show g2 < W.heap.size by omega)).trans hc6, bX⟩
                    have bd : Below W.heap.size W W.drew := (Below.refl _ _).drew
                    have hpl := HROW.out p hp
                    have HXY := Lib.hid (portB_e HPQ.out HX.out hxy)
                    clear hxy hc3 hc5 hc6 hae3 hHA
                    cases hd : decide (x = (k : Int) ∧ y = (j : Int)) with
                    | true =>
                      rw [hd] at HXY
                      obtain ⟨rfl, rfl⟩ := of_decide_eq_true hd
                      clear hd
                      go_region_held3 (fun X => X.cell? ⟨w.heap.size, 0, none⟩ = some (.slice (some ⟨g, off, none⟩) N.ends.length c) ∧ X.cell? ⟨w.heap.size, 1, none⟩ = some (.slice ai N.ids.length ci) ∧ X.cell? ⟨w.heap.size, 2, none⟩ = some (.slice ap N.inputs.length cp) ∧ X.cell? ⟨wr.heap.size, 0, none⟩ = some (.int .i64 p) ∧ X.cell? ⟨wr.heap.size, 1, none⟩ = some (.int .i64 q) ∧ X.cell? ⟨g, off + p, none⟩ = some (.slice (some ⟨g2, off2, none⟩) (rowOf N.ends p).length (vs p).2) ∧ X.cell? ⟨g2, off2 + q * 2, none⟩ = some (.int .i64 k) ∧ X.cell? ⟨g2, off2 + q * 2 + 1, none⟩ = some (.int .i64 j) ∧ Below W.heap.size W X) (exact HS.out _ (by assumption)) (first | (go_at_call 54; refine (HH.out _ (by first | assumption | (go_split_ands; assumption))).mono ?_; rintro e w3 ⟨rfl, bel3⟩))
                      all_goals
                        go_wp2_with fail
                        go_roundw
                        case rel =>
                          refine ⟨j + 1, by omega, by go_num, fun x hx => ?_, bel2.trans (bel3.mono z2W)⟩
                          by_cases e : x = j
                          · rw [e]; exact HXY.out
                          · exact Hallp.out x (by omega)
                        case measure => simp [intOf]; omega
                    | false =>
                      rw [hd] at HXY
                      have hd' := of_decide_eq_false hd
                      clear hd
                      by_cases hx : x = (k : Int)
                      · subst hx
                        have hy : (y == (j : Int)) = false := beq_eq_false_iff_ne.2 fun h => hd' ⟨rfl, h⟩
                        clear hd'
                        go_region_held3 (fun X => X.cell? ⟨w.heap.size, 0, none⟩ = some (.slice (some ⟨g, off, none⟩) N.ends.length c) ∧ X.cell? ⟨w.heap.size, 1, none⟩ = some (.slice ai N.ids.length ci) ∧ X.cell? ⟨w.heap.size, 2, none⟩ = some (.slice ap N.inputs.length cp) ∧ X.cell? ⟨wr.heap.size, 0, none⟩ = some (.int .i64 p) ∧ X.cell? ⟨wr.heap.size, 1, none⟩ = some (.int .i64 q) ∧ X.cell? ⟨g, off + p, none⟩ = some (.slice (some ⟨g2, off2, none⟩) (rowOf N.ends p).length (vs p).2) ∧ X.cell? ⟨g2, off2 + q * 2, none⟩ = some (.int .i64 k) ∧ X.cell? ⟨g2, off2 + q * 2 + 1, none⟩ = some (.int .i64 y) ∧ Below W.heap.size W X) (exact HS.out _ (by assumption)) (first | (go_at_call 54; refine (HH.out _ (by first | assumption | (go_split_ands; assumption))).mono ?_; rintro e w3 ⟨rfl, bel3⟩))
                        all_goals
                          go_wp2_with fail
                          go_ret
                          exact ⟨ret_bool (netB_f3 (rowsB_f hlt (rowB_f2 hjlt HXY.out))), b2.trans ((bel2.trans (bel3.mono z2W)).mono z2)⟩
                      · have hy : (x == (k : Int)) = false := beq_eq_false_iff_ne.2 hx
                        clear hd' hx
                        go_region_held3 (fun X => X.cell? ⟨w.heap.size, 0, none⟩ = some (.slice (some ⟨g, off, none⟩) N.ends.length c) ∧ X.cell? ⟨w.heap.size, 1, none⟩ = some (.slice ai N.ids.length ci) ∧ X.cell? ⟨w.heap.size, 2, none⟩ = some (.slice ap N.inputs.length cp) ∧ X.cell? ⟨wr.heap.size, 0, none⟩ = some (.int .i64 p) ∧ X.cell? ⟨wr.heap.size, 1, none⟩ = some (.int .i64 q) ∧ X.cell? ⟨g, off + p, none⟩ = some (.slice (some ⟨g2, off2, none⟩) (rowOf N.ends p).length (vs p).2) ∧ X.cell? ⟨g2, off2 + q * 2, none⟩ = some (.int .i64 x) ∧ X.cell? ⟨g2, off2 + q * 2 + 1, none⟩ = some (.int .i64 y) ∧ Below W.heap.size W X) (exact HS.out _ (by assumption)) (first | (go_at_call 54; refine (HH.out _ (by first | assumption | (go_split_ands; assumption))).mono ?_; rintro e w3 ⟨rfl, bel3⟩))
                        all_goals
                          go_wp2_with fail
                          go_ret
                          exact ⟨ret_bool (netB_f3 (rowsB_f hlt (rowB_f2 hjlt HXY.out))), b2.trans ((bel2.trans (bel3.mono z2W)).mono z2)⟩
                · go_wp2_with fail
                  go_roundw
                  case rel =>
                    refine ⟨k + 1, by omega, by go_num, fun x hx => ?_, bel'⟩
                    by_cases e : x = k
                    · rw [e]; exact rowB_t H6.out fun y hy => Hallp.out y (by omega)
                    · exact Hall.out x (by omega)
                  case measure => simp [intOf]; omega
            · go_wp2_with fail
              go_ret
              exact ⟨ret_bool (netB_f3 (rowsB_f hlt (rowB_f1 h6))), b2.trans (bel.mono z2)⟩
          · go_wp2_with fail
            go_ret
            exact ⟨ret_bool (netB_t HN.out HI.out HP.out (rowsB_t fun j hj => Hall.out j (by omega))), b2.trans (bel.mono z2)⟩
end Go.Proofs.Ytlooinhdehkcdaa
