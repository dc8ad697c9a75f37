/- Law: UnionOf. -/
import Derived.Test.YtlooinhdehkcdaaUni
import Derived.Test.YtlooinhdehkcdaaSz
import Derived.Deep.RegionHeld3
namespace Go.Proofs.Ytlooinhdehkcdaa
open Go.RowKit
set_option linter.unusedVariables false
set_option linter.unusedSimpArgs false
set_option maxRecDepth 100000 in
set_option maxHeartbeats 2000000 in
theorem FnExactUnionOf_walk (v0 : Value) (N0 : Net) (v1 : Value) (N1 : Net) (w : World) (hv0 : NetRd w w.heap.size v0 N0) (hm0 : NetLens N0) (hv1 : NetRd w w.heap.size v1 N1) (hm1 : NetLens N1) :
    Calls Try.prog 3 #[v0, v1] w fun e w' => e = .returned (.bool true) ∧ Below w.heap.size w w' := by
  have HV0 := Lib.hid hv0
  obtain ⟨a0, c0, vs0, ai0, ci0, ap0, cp0, rfl, h1, h2, h3⟩ := hv0
  clear h1 h2 h3
  have HV1 := Lib.hid hv1
  obtain ⟨a1, c1, vs1, ai1, ci1, ap1, cp1, rfl, h1, h2, h3⟩ := hv1
  clear h1 h2 h3
  have BA0 := (Bx.made w 25 #[.slice a0 N0.ends.length c0, .slice ai0 N0.ids.length ci0, .slice ap0 N0.inputs.length cp0]).alloc (.cells #[.slice a1 N1.ends.length c1, .slice ai1 N1.ids.length ci1, .slice ap1 N1.inputs.length cp1] 25)
  have BA1 := Bx.made (w.alloc (.cells #[.slice a0 N0.ends.length c0, .slice ai0 N0.ids.length ci0, .slice ap0 N0.inputs.length cp0] 25)) 25 #[.slice a1 N1.ends.length c1, .slice ai1 N1.ids.length ci1, .slice ap1 N1.inputs.length cp1]
  simp only [World.size_alloc] at BA1
  have b0 : Below w.heap.size w ((w.alloc (.cells #[.slice a0 N0.ends.length c0, .slice ai0 N0.ids.length ci0, .slice ap0 N0.inputs.length cp0] 25)).alloc (.cells #[.slice a1 N1.ends.length c1, .slice ai1 N1.ids.length ci1, .slice ap1 N1.inputs.length cp1] 25)) := (by repeat (first | exact Below.refl _ _ | assumption | refine Below.alloc ?_ (by first | (simp; done) | (simp; omega) | omega) _ | refine Below.setCell ?_ (by first | (simp; done) | (simp; omega) | omega) _ | refine Below.drew ?_ | refine Below.drewN ?_ _))
  by_cases hsm0 : netSz N0 ≤ 1048576
  case neg =>
    go_enter Try.func3, Try.ntmps3
    go_wp2_with fail
    refine (szNetworkL_any (1048576) _ N0 _ _ (HV0.out.below b0) b0.size hm0 (by omega)).mono ?_
    rintro e ws0 ⟨rfl, bel1⟩
    have bT0 := b0.trans (bel1.mono b0.size)
    rw [szL_no hsm0]
    clear bel1
    go_wp2_with fail
    go_ret
    exact ⟨rfl, bT0⟩
  have HSM0 := Lib.hid hsm0
  by_cases hsm1 : netSz N1 ≤ 1048576 - netSz N0
  case neg =>
    go_enter Try.func3, Try.ntmps3
    go_wp2_with fail
    refine (szNetworkL_any (1048576) _ N0 _ _ (HV0.out.below b0) b0.size hm0 (by omega)).mono ?_
    rintro e ws0 ⟨rfl, bel1⟩
    have bT0 := b0.trans (bel1.mono b0.size)
    rw [szL_yes HSM0.out]
    have hnn : ¬ (((1048576 - netSz N0 : Nat) : Int) < 0) := by omega
    replace BA1 := BA1.new bel1
    have qq0 := BA1.cell 0 _ rfl
    have qq1 := BA1.cell 1 _ rfl
    have qq2 := BA1.cell 2 _ rfl
    clear bel1
    go_wp2_with fail
    refine (szNetworkL_any (1048576 - netSz N0) _ N1 _ _ (HV1.out.below bT0) bT0.size hm1 (by omega)).mono ?_
    rintro e ws1 ⟨rfl, bel1⟩
    have bT1 := bT0.trans (bel1.mono bT0.size)
    rw [szL_no hsm1]
    clear bel1
    go_wp2_with fail
    go_ret
    exact ⟨rfl, bT1⟩
  have HSM1 := Lib.hid hsm1
  have hS0 : NetSmall N0 := by have h9 := HSM0.out; unfold NetSmall; unfold netSz at h9; omega
  have hS1 : NetSmall N1 := by have h9 := HSM1.out; unfold NetSmall; unfold netSz at h9; omega
  clear hsm0
  clear hsm1
  have HS : Hid (∀ X V0 B0 V1 B1, NetIn X B0 V0 N0 → B0 ≤ X.heap.size → NetIn X B1 V1 N1 → B1 ≤ X.heap.size → Calls Try.prog 11 #[V0, V1] X (PostN (unR N0 N1) (unOk N0 N1) X)) := Lib.hid fun X V0 B0 V1 B1 n0 b0 n1 b1 => uniS_any V0 V1 N0 N1 X B0 B1 n0 b0 n1 b1 hS0 hS1
  have HI : Hid (∀ X V0 B0 V1 B1, NetIn X B0 V0 N0 → B0 ≤ X.heap.size → NetIn X B1 V1 N1 → B1 ≤ X.heap.size → Calls Try.prog 13 #[V0, V1] X (PostN (unR N0 N1) (unOk N0 N1) X)) := Lib.hid fun X V0 B0 V1 B1 n0 b0 n1 b1 => uni_any V0 V1 N0 N1 X B0 B1 n0 b0 n1 b1 hS0 hS1
  have hR : NetSmall (unR N0 N1) := unR_sm
  generalize unR N0 N1 = R at *
  generalize unOk N0 N1 = ok at *
  go_enter Try.func3, Try.ntmps3
  go_wp2_with fail
  have bT := b0
  have lA0 := BA0.lt
  have lA1 := BA1.lt
  have z1 : w.heap.size + 2 ≤ ((w.alloc (.cells #[.slice a0 N0.ends.length c0, .slice ai0 N0.ids.length ci0, .slice ap0 N0.inputs.length cp0] 25)).alloc (.cells #[.slice a1 N1.ends.length c1, .slice ai1 N1.ids.length ci1, .slice ap1 N1.inputs.length cp1] 25)).heap.size := by simp
  generalize ((w.alloc (.cells #[.slice a0 N0.ends.length c0, .slice ai0 N0.ids.length ci0, .slice ap0 N0.inputs.length cp0] 25)).alloc (.cells #[.slice a1 N1.ends.length c1, .slice ai1 N1.ids.length ci1, .slice ap1 N1.inputs.length cp1] 25)) = w1 at *
  refine (szNetworkL_any (1048576) _ N0 _ _ (HV0.out.below bT) bT.size hm0 (by omega)).mono ?_
  rintro e w2 ⟨rfl, bel1⟩
  rw [szL_yes HSM0.out]
  replace BA0 := BA0.new bel1
  replace BA1 := BA1.new bel1
  have z2 := bel1.size
  replace bT := bT.trans (bel1.mono bT.size)
  clear bel1
  have hnn : ¬ (((1048576 - netSz N0 : Nat) : Int) < 0) := by omega
  have qBA10 := BA1.cell 0 _ rfl
  have qBA11 := BA1.cell 1 _ rfl
  have qBA12 := BA1.cell 2 _ rfl
  go_wp2_with fail
  clear qBA10 qBA11 qBA12
  refine (szNetworkL_any (1048576 - netSz N0) _ N1 _ _ (HV1.out.below bT) bT.size hm1 (by omega)).mono ?_
  rintro e w3 ⟨rfl, bel1⟩
  rw [szL_yes HSM1.out]
  replace BA0 := BA0.new bel1
  replace BA1 := BA1.new bel1
  have z3 := bel1.size
  replace bT := bT.trans (bel1.mono bT.size)
  clear bel1
  have hnn : ¬ (((1048576 - netSz N0 - netSz N1 : Nat) : Int) < 0) := by omega
  clear b0
  have qBA00 := BA0.cell 0 _ rfl
  have qBA01 := BA0.cell 1 _ rfl
  have qBA02 := BA0.cell 2 _ rfl
  go_wp2_with fail
  clear qBA00 qBA01 qBA02
  go_cut [6, 7] (fun p q X => ∃ gW aW cW aiW ciW apW cpW, p = .pointer (some ⟨gW, 0, none⟩) ∧ q = .bool ok ∧ Bx X gW 29 #[.slice aW R.ends.length cW, .slice aiW R.ids.length ciW, .slice apW R.inputs.length cpW] ∧ NetAt X w3.heap.size X.heap.size (.agg #[.slice aW R.ends.length cW, .slice aiW R.ids.length ciW, .slice apW R.inputs.length cpW]) R ∧ Below w3.heap.size w3 X ∧ w3.heap.size ≤ gW)
  case first =>
    replace BA0 : Bx w3.drew w.heap.size 25 #[.slice a0 N0.ends.length c0, .slice ai0 N0.ids.length ci0, .slice ap0 N0.inputs.length cp0] := BA0
    replace BA1 : Bx w3.drew (w.heap.size + 1) 25 #[.slice a1 N1.ends.length c1, .slice ai1 N1.ids.length ci1, .slice ap1 N1.inputs.length cp1] := BA1
    have be : Below w3.heap.size w3 w3.drew := (Below.refl _ _).drew
    have bT2 := bT.drew
    have zW : w.heap.size + 2 ≤ w3.heap.size := by omega
    refine wp_region_held_drew (S := fun X => X.cell? ⟨w.heap.size, 0, none⟩ = some (.slice a0 N0.ends.length c0) ∧ X.cell? ⟨w.heap.size, 1, none⟩ = some (.slice ai0 N0.ids.length ci0) ∧ X.cell? ⟨w.heap.size, 2, none⟩ = some (.slice ap0 N0.inputs.length cp0) ∧ X.cell? ⟨w.heap.size + 1, 0, none⟩ = some (.slice a1 N1.ends.length c1) ∧ X.cell? ⟨w.heap.size + 1, 1, none⟩ = some (.slice ai1 N1.ids.length ci1) ∧ X.cell? ⟨w.heap.size + 1, 2, none⟩ = some (.slice ap1 N1.inputs.length cp1)) (by kernel_rfl) ⟨BA0.cell 0 _ rfl, BA0.cell 1 _ rfl, BA0.cell 2 _ rfl, BA1.cell 0 _ rfl, BA1.cell 1 _ rfl, BA1.cell 2 _ rfl⟩ (fun hHeld => ?_)
    generalize w3.drew = wd at *
    refine wpAnyH_take (i := 0) (v := ?_) rfl (by kernel_rfl) (by kernel_rfl) (by kernel_rfl) (fun _ _ _ h => h) (Or.inl ⟨by rfl, ?_⟩) (by assumption) ?_
    rotate_left
    · (intro w hSw; (try dsimp only at hSw); obtain ⟨hq0, hq1, hq2, hq3, hq4, hq5⟩ := hSw; go_simp; try with_reducible rfl)
    try simp only [Act.put, List.getElem_toArray, List.getElem_cons_zero, List.getElem_cons_succ, List.setIfInBounds_toArray, List.set_cons_zero, List.set_cons_succ]
    refine wpAnyH_take (i := 2) (v := ?_) rfl (by kernel_rfl) (by kernel_rfl) (by kernel_rfl) (fun _ _ _ h => h) (Or.inl ⟨by rfl, ?_⟩) (by assumption) ?_
    rotate_left
    · (intro w hSw; (try dsimp only at hSw); obtain ⟨hq0, hq1, hq2, hq3, hq4, hq5⟩ := hSw; go_simp; try with_reducible rfl)
    try simp only [Act.put, List.getElem_toArray, List.getElem_cons_zero, List.getElem_cons_succ, List.setIfInBounds_toArray, List.set_cons_zero, List.set_cons_succ]
    have zwd := be.size
    refine wpAnyH_ready (rs := [1, 8]) (by kernel_rfl) (by simp) ?_
    refine AllReadyH.cons (o := _) rfl (fun K hK => ?_) (AllReadyH.cons (o := _) rfl (fun K hK => ?_) AllReadyH.nil)
    · go_simp
      refine (toNetwork_any _ N0 _ _ (HV0.out.below bT2) bT2.size hS0).mono ?_
      rintro e x0 ⟨vr0, rfl, own0, bel⟩
      replace BA0 := BA0.new bel
      replace BA1 := BA1.new bel
      have z_bel := bel.size
      replace bT2 := bT2.trans (bel.mono bT2.size)
      replace be := be.trans (bel.mono be.size)
      clear bel
      refine hK.out _ _ ⟨BA0.cell 0 _ rfl, BA0.cell 1 _ rfl, BA0.cell 2 _ rfl, BA1.cell 0 _ rfl, BA1.cell 1 _ rfl, BA1.cell 2 _ rfl⟩ (fun hHeld => ?_)
      clear hK K
      try simp only [Act.put, List.getElem_toArray, List.getElem_cons_zero, List.getElem_cons_succ, List.setIfInBounds_toArray, List.set_cons_zero, List.set_cons_succ]
      refine wpAnyH_ready (rs := [3, 8]) (by kernel_rfl) (by simp) ?_
      refine AllReadyH.cons (o := _) rfl (fun K hK => ?_) (AllReadyH.cons (o := _) rfl (fun K hK => ?_) AllReadyH.nil)
      · go_simp
        refine (toNetwork_any _ N1 _ _ (HV1.out.below bT2) bT2.size hS1).mono ?_
        rintro e x1 ⟨vr1, rfl, own1, bel⟩
        replace BA0 := BA0.new bel
        replace BA1 := BA1.new bel
        replace own0 := own0.new bel
        have z_bel := bel.size
        replace bT2 := bT2.trans (bel.mono bT2.size)
        replace be := be.trans (bel.mono be.size)
        clear bel
        refine hK.out _ _ ⟨BA0.cell 0 _ rfl, BA0.cell 1 _ rfl, BA0.cell 2 _ rfl, BA1.cell 0 _ rfl, BA1.cell 1 _ rfl, BA1.cell 2 _ rfl⟩ (fun hHeld => ?_)
        clear hK K
        try simp only [Act.put, List.getElem_toArray, List.getElem_cons_zero, List.getElem_cons_succ, List.setIfInBounds_toArray, List.set_cons_zero, List.set_cons_succ]
        refine wpAnyH_ready (rs := [4, 8]) (by kernel_rfl) (by simp) ?_
        refine AllReadyH.cons (o := _) rfl (fun K hK => ?_) (AllReadyH.cons (o := _) rfl (fun K hK => ?_) AllReadyH.nil)
        · go_simp
          refine (HS.out _ _ _ _ _ own0.in_ (by omega) own1.in_ (by omega)).mono ?_
          rintro e xr ⟨Y, rfl, ownr, bel⟩
          obtain ⟨aW, cW, aiW, ciW, apW, cpW, rfl, ownr⟩ := ownr.shape
          replace BA0 := BA0.new bel
          replace BA1 := BA1.new bel
          replace own0 := own0.new bel
          replace own1 := own1.new bel
          have z_bel := bel.size
          replace bT2 := bT2.trans (bel.mono bT2.size)
          replace be := be.trans (bel.mono be.size)
          clear bel own0 own1
          refine hK.out _ _ ⟨BA0.cell 0 _ rfl, BA0.cell 1 _ rfl, BA0.cell 2 _ rfl, BA1.cell 0 _ rfl, BA1.cell 1 _ rfl, BA1.cell 2 _ rfl⟩ (fun hHeld => ?_)
          clear hK K
          try simp only [Act.put, List.getElem_toArray, List.getElem_cons_zero, List.getElem_cons_succ, List.setIfInBounds_toArray, List.set_cons_zero, List.set_cons_succ]
          refine wpAnyH_take (i := 5) (v := ?_) rfl (by kernel_rfl) (by kernel_rfl) (by kernel_rfl) (fun _ _ _ h => h) (Or.inl ⟨by rfl, ?_⟩) (by assumption) ?_
          rotate_left
          · (intro w hSw; (try dsimp only at hSw); go_simp; try with_reducible rfl)
          try simp only [Act.put, List.getElem_toArray, List.getElem_cons_zero, List.getElem_cons_succ, List.setIfInBounds_toArray, List.set_cons_zero, List.set_cons_succ]
          refine wpAnyH_take (i := 6) (v := ?_) rfl (by kernel_rfl) (by kernel_rfl) (by kernel_rfl) (fun _ _ _ h => h) (Or.inl ⟨by rfl, ?_⟩) (by assumption) ?_
          rotate_left
          · (intro w hSw; (try dsimp only at hSw); go_simp; try with_reducible rfl)
          try simp only [Act.put, List.getElem_toArray, List.getElem_cons_zero, List.getElem_cons_succ, List.setIfInBounds_toArray, List.set_cons_zero, List.set_cons_succ]
          refine wpAnyH_take (i := 7) (v := ?_) rfl (by kernel_rfl) (by kernel_rfl) (by kernel_rfl) (fun _ _ _ h => h) (Or.inl ⟨by rfl, ?_⟩) (by assumption) ?_
          rotate_left
          · (intro w hSw; (try dsimp only at hSw); go_simp; try with_reducible rfl)
          try simp only [Act.put, List.getElem_toArray, List.getElem_cons_zero, List.getElem_cons_succ, List.setIfInBounds_toArray, List.set_cons_zero, List.set_cons_succ]
          refine wpAnyH_ready (rs := [8]) (by kernel_rfl) (by simp) ?_
          refine AllReadyH.cons (o := _) rfl (fun K hK => ?_) AllReadyH.nil
          · go_simp
            have BO := Bx.made xr 29 #[.slice none 0 0, .slice none 0 0, .slice none 0 0]
            have ba : Below xr.heap.size xr (xr.alloc (.cells #[.slice none 0 0, .slice none 0 0, .slice none 0 0] 29)) := (by repeat (first | exact Below.refl _ _ | assumption | refine Below.alloc ?_ (by first | (simp; done) | (simp; omega) | omega) _ | refine Below.setCell ?_ (by first | (simp; done) | (simp; omega) | omega) _ | refine Below.drew ?_ | refine Below.drewN ?_ _))
            replace BA0 := BA0.new ba
            replace BA1 := BA1.new ba
            replace ownr := ownr.new ba
            have z_ba := ba.size
            replace bT2 := bT2.trans (ba.mono bT2.size)
            replace be := be.trans (ba.mono be.size)
            obtain ⟨go, hgo⟩ : ∃ g, g = xr.heap.size := ⟨_, rfl⟩
            rw [← hgo] at BO ⊢
            have zgo : w3.heap.size ≤ go := by omega
            clear ba hgo
            generalize xr.alloc (.cells #[.slice none 0 0, .slice none 0 0, .slice none 0 0] 29) = xo at *
            refine hK.out _ _ ⟨BA0.cell 0 _ rfl, BA0.cell 1 _ rfl, BA0.cell 2 _ rfl, BA1.cell 0 _ rfl, BA1.cell 1 _ rfl, BA1.cell 2 _ rfl⟩ (fun hHeld => ?_)
            clear hK K
            try simp only [Act.put, List.getElem_toArray, List.getElem_cons_zero, List.getElem_cons_succ, List.setIfInBounds_toArray, List.set_cons_zero, List.set_cons_succ]
            refine wpAnyH_ready (rs := [9]) (by kernel_rfl) (by simp) ?_
            refine AllReadyH.cons (o := _) rfl (fun K hK => ?_) AllReadyH.nil
            have c0' := BO.cell 0 _ rfl
            have f0' := BO.frozen 0
            have c1' := BO.cell 1 _ rfl
            have f1' := BO.frozen 1
            have c2' := BO.cell 2 _ rfl
            have f2' := BO.frozen 2
            go_simp
            clear c0' c1' c2' f0' f1' f2'
            generalize hW : World.setCell _ _ _ = WO
            have BN : Bx WO go 29 #[.slice aW R.ends.length cW, .slice aiW R.ids.length ciW, .slice apW R.inputs.length cpW] := by rw [← hW]; exact ((BO.set 0 _).set 1 _).set 2 _
            have frW : Fr (fun k => k = go) xo WO := by rw [← hW]; exact fr3 _ _ _ _ _
            clear hW
            replace ownr := (ownr.frBx BO frW).wide (lo' := w3.heap.size) (hi' := WO.heap.size) (by omega) (by have := frW.size; omega)
            replace BA0 := BA0.fr frW (by omega)
            replace BA1 := BA1.fr frW (by omega)
            replace be := be.trans (frW.below (B := w3.heap.size) (fun k h1 h2 hc => by omega) be.size)
            clear frW
            refine hK.out _ _ ⟨BA0.cell 0 _ rfl, BA0.cell 1 _ rfl, BA0.cell 2 _ rfl, BA1.cell 0 _ rfl, BA1.cell 1 _ rfl, BA1.cell 2 _ rfl⟩ (fun hHeld => ?_)
            clear hK K
            try simp only [Act.put, List.getElem_toArray, List.getElem_cons_zero, List.getElem_cons_succ, List.setIfInBounds_toArray, List.set_cons_zero, List.set_cons_succ]
            refine wpAnyH_ready (rs := [10]) (by kernel_rfl) (by simp) ?_
            refine AllReadyH.cons (o := _) rfl (fun K hK => ?_) AllReadyH.nil
            go_simp
            refine hK.out _ _ ⟨BA0.cell 0 _ rfl, BA0.cell 1 _ rfl, BA0.cell 2 _ rfl, BA1.cell 0 _ rfl, BA1.cell 1 _ rfl, BA1.cell 2 _ rfl⟩ (fun hHeld => ?_)
            clear hK K
            try simp only [Act.put, List.getElem_toArray, List.getElem_cons_zero, List.getElem_cons_succ, List.setIfInBounds_toArray, List.set_cons_zero, List.set_cons_succ]
            refine wpAnyH_done (by kernel_rfl) ?_ _
            go_wp2_with fail
            go_meet
            exact ⟨go, aW, cW, aiW, ciW, apW, cpW, rfl, rfl, BN, ownr, be, zgo⟩
        · go_simp
          have BO := Bx.made x1 29 #[.slice none 0 0, .slice none 0 0, .slice none 0 0]
          have ba : Below x1.heap.size x1 (x1.alloc (.cells #[.slice none 0 0, .slice none 0 0, .slice none 0 0] 29)) := (by repeat (first | exact Below.refl _ _ | assumption | refine Below.alloc ?_ (by first | (simp; done) | (simp; omega) | omega) _ | refine Below.setCell ?_ (by first | (simp; done) | (simp; omega) | omega) _ | refine Below.drew ?_ | refine Below.drewN ?_ _))
          replace BA0 := BA0.new ba
          replace BA1 := BA1.new ba
          replace own0 := own0.new ba
          replace own1 := own1.new ba
          have z_ba := ba.size
          replace bT2 := bT2.trans (ba.mono bT2.size)
          replace be := be.trans (ba.mono be.size)
          obtain ⟨go, hgo⟩ : ∃ g, g = x1.heap.size := ⟨_, rfl⟩
          rw [← hgo] at BO ⊢
          have zgo : w3.heap.size ≤ go := by omega
          clear ba hgo
          generalize x1.alloc (.cells #[.slice none 0 0, .slice none 0 0, .slice none 0 0] 29) = xo at *
          refine hK.out _ _ ⟨BA0.cell 0 _ rfl, BA0.cell 1 _ rfl, BA0.cell 2 _ rfl, BA1.cell 0 _ rfl, BA1.cell 1 _ rfl, BA1.cell 2 _ rfl⟩ (fun hHeld => ?_)
          clear hK K
          try simp only [Act.put, List.getElem_toArray, List.getElem_cons_zero, List.getElem_cons_succ, List.setIfInBounds_toArray, List.set_cons_zero, List.set_cons_succ]
          refine wpAnyH_ready (rs := [4]) (by kernel_rfl) (by simp) ?_
          refine AllReadyH.cons (o := _) rfl (fun K hK => ?_) AllReadyH.nil
          · go_simp
            refine (HS.out _ _ _ _ _ own0.in_ (by omega) own1.in_ (by omega)).mono ?_
            rintro e xr ⟨Y, rfl, ownr, bel⟩
            obtain ⟨aW, cW, aiW, ciW, apW, cpW, rfl, ownr⟩ := ownr.shape
            replace BA0 := BA0.new bel
            replace BA1 := BA1.new bel
            replace BO := BO.new bel
            replace own0 := own0.new bel
            replace own1 := own1.new bel
            have z_bel := bel.size
            replace bT2 := bT2.trans (bel.mono bT2.size)
            replace be := be.trans (bel.mono be.size)
            clear bel own0 own1
            refine hK.out _ _ ⟨BA0.cell 0 _ rfl, BA0.cell 1 _ rfl, BA0.cell 2 _ rfl, BA1.cell 0 _ rfl, BA1.cell 1 _ rfl, BA1.cell 2 _ rfl⟩ (fun hHeld => ?_)
            clear hK K
            try simp only [Act.put, List.getElem_toArray, List.getElem_cons_zero, List.getElem_cons_succ, List.setIfInBounds_toArray, List.set_cons_zero, List.set_cons_succ]
            refine wpAnyH_take (i := 5) (v := ?_) rfl (by kernel_rfl) (by kernel_rfl) (by kernel_rfl) (fun _ _ _ h => h) (Or.inl ⟨by rfl, ?_⟩) (by assumption) ?_
            rotate_left
            · (intro w hSw; (try dsimp only at hSw); go_simp; try with_reducible rfl)
            try simp only [Act.put, List.getElem_toArray, List.getElem_cons_zero, List.getElem_cons_succ, List.setIfInBounds_toArray, List.set_cons_zero, List.set_cons_succ]
            refine wpAnyH_take (i := 6) (v := ?_) rfl (by kernel_rfl) (by kernel_rfl) (by kernel_rfl) (fun _ _ _ h => h) (Or.inl ⟨by rfl, ?_⟩) (by assumption) ?_
            rotate_left
            · (intro w hSw; (try dsimp only at hSw); go_simp; try with_reducible rfl)
            try simp only [Act.put, List.getElem_toArray, List.getElem_cons_zero, List.getElem_cons_succ, List.setIfInBounds_toArray, List.set_cons_zero, List.set_cons_succ]
            refine wpAnyH_take (i := 7) (v := ?_) rfl (by kernel_rfl) (by kernel_rfl) (by kernel_rfl) (fun _ _ _ h => h) (Or.inl ⟨by rfl, ?_⟩) (by assumption) ?_
            rotate_left
            · (intro w hSw; (try dsimp only at hSw); go_simp; try with_reducible rfl)
            try simp only [Act.put, List.getElem_toArray, List.getElem_cons_zero, List.getElem_cons_succ, List.setIfInBounds_toArray, List.set_cons_zero, List.set_cons_succ]
            refine wpAnyH_ready (rs := [9]) (by kernel_rfl) (by simp) ?_
            refine AllReadyH.cons (o := _) rfl (fun K hK => ?_) AllReadyH.nil
            have c0' := BO.cell 0 _ rfl
            have f0' := BO.frozen 0
            have c1' := BO.cell 1 _ rfl
            have f1' := BO.frozen 1
            have c2' := BO.cell 2 _ rfl
            have f2' := BO.frozen 2
            go_simp
            clear c0' c1' c2' f0' f1' f2'
            generalize hW : World.setCell _ _ _ = WO
            have BN : Bx WO go 29 #[.slice aW R.ends.length cW, .slice aiW R.ids.length ciW, .slice apW R.inputs.length cpW] := by rw [← hW]; exact ((BO.set 0 _).set 1 _).set 2 _
            have frW : Fr (fun k => k = go) xr WO := by rw [← hW]; exact fr3 _ _ _ _ _
            clear hW
            replace ownr := (ownr.frBx BO frW).wide (lo' := w3.heap.size) (hi' := WO.heap.size) (by omega) (by have := frW.size; omega)
            replace BA0 := BA0.fr frW (by omega)
            replace BA1 := BA1.fr frW (by omega)
            replace be := be.trans (frW.below (B := w3.heap.size) (fun k h1 h2 hc => by omega) be.size)
            clear frW
            refine hK.out _ _ ⟨BA0.cell 0 _ rfl, BA0.cell 1 _ rfl, BA0.cell 2 _ rfl, BA1.cell 0 _ rfl, BA1.cell 1 _ rfl, BA1.cell 2 _ rfl⟩ (fun hHeld => ?_)
            clear hK K
            try simp only [Act.put, List.getElem_toArray, List.getElem_cons_zero, List.getElem_cons_succ, List.setIfInBounds_toArray, List.set_cons_zero, List.set_cons_succ]
            refine wpAnyH_ready (rs := [10]) (by kernel_rfl) (by simp) ?_
            refine AllReadyH.cons (o := _) rfl (fun K hK => ?_) AllReadyH.nil
            go_simp
            refine hK.out _ _ ⟨BA0.cell 0 _ rfl, BA0.cell 1 _ rfl, BA0.cell 2 _ rfl, BA1.cell 0 _ rfl, BA1.cell 1 _ rfl, BA1.cell 2 _ rfl⟩ (fun hHeld => ?_)
            clear hK K
            try simp only [Act.put, List.getElem_toArray, List.getElem_cons_zero, List.getElem_cons_succ, List.setIfInBounds_toArray, List.set_cons_zero, List.set_cons_succ]
            refine wpAnyH_done (by kernel_rfl) ?_ _
            go_wp2_with fail
            go_meet
            exact ⟨go, aW, cW, aiW, ciW, apW, cpW, rfl, rfl, BN, ownr, be, zgo⟩
      · go_simp
        have BO := Bx.made x0 29 #[.slice none 0 0, .slice none 0 0, .slice none 0 0]
        have ba : Below x0.heap.size x0 (x0.alloc (.cells #[.slice none 0 0, .slice none 0 0, .slice none 0 0] 29)) := (by repeat (first | exact Below.refl _ _ | assumption | refine Below.alloc ?_ (by first | (simp; done) | (simp; omega) | omega) _ | refine Below.setCell ?_ (by first | (simp; done) | (simp; omega) | omega) _ | refine Below.drew ?_ | refine Below.drewN ?_ _))
        replace BA0 := BA0.new ba
        replace BA1 := BA1.new ba
        replace own0 := own0.new ba
        have z_ba := ba.size
        replace bT2 := bT2.trans (ba.mono bT2.size)
        replace be := be.trans (ba.mono be.size)
        obtain ⟨go, hgo⟩ : ∃ g, g = x0.heap.size := ⟨_, rfl⟩
        rw [← hgo] at BO ⊢
        have zgo : w3.heap.size ≤ go := by omega
        clear ba hgo
        generalize x0.alloc (.cells #[.slice none 0 0, .slice none 0 0, .slice none 0 0] 29) = xo at *
        refine hK.out _ _ ⟨BA0.cell 0 _ rfl, BA0.cell 1 _ rfl, BA0.cell 2 _ rfl, BA1.cell 0 _ rfl, BA1.cell 1 _ rfl, BA1.cell 2 _ rfl⟩ (fun hHeld => ?_)
        clear hK K
        try simp only [Act.put, List.getElem_toArray, List.getElem_cons_zero, List.getElem_cons_succ, List.setIfInBounds_toArray, List.set_cons_zero, List.set_cons_succ]
        refine wpAnyH_ready (rs := [3]) (by kernel_rfl) (by simp) ?_
        refine AllReadyH.cons (o := _) rfl (fun K hK => ?_) AllReadyH.nil
        · go_simp
          refine (toNetwork_any _ N1 _ _ (HV1.out.below bT2) bT2.size hS1).mono ?_
          rintro e x1 ⟨vr1, rfl, own1, bel⟩
          replace BA0 := BA0.new bel
          replace BA1 := BA1.new bel
          replace BO := BO.new bel
          replace own0 := own0.new bel
          have z_bel := bel.size
          replace bT2 := bT2.trans (bel.mono bT2.size)
          replace be := be.trans (bel.mono be.size)
          clear bel
          refine hK.out _ _ ⟨BA0.cell 0 _ rfl, BA0.cell 1 _ rfl, BA0.cell 2 _ rfl, BA1.cell 0 _ rfl, BA1.cell 1 _ rfl, BA1.cell 2 _ rfl⟩ (fun hHeld => ?_)
          clear hK K
          try simp only [Act.put, List.getElem_toArray, List.getElem_cons_zero, List.getElem_cons_succ, List.setIfInBounds_toArray, List.set_cons_zero, List.set_cons_succ]
          refine wpAnyH_ready (rs := [4]) (by kernel_rfl) (by simp) ?_
          refine AllReadyH.cons (o := _) rfl (fun K hK => ?_) AllReadyH.nil
          · go_simp
            refine (HS.out _ _ _ _ _ own0.in_ (by omega) own1.in_ (by omega)).mono ?_
            rintro e xr ⟨Y, rfl, ownr, bel⟩
            obtain ⟨aW, cW, aiW, ciW, apW, cpW, rfl, ownr⟩ := ownr.shape
            replace BA0 := BA0.new bel
            replace BA1 := BA1.new bel
            replace BO := BO.new bel
            replace own0 := own0.new bel
            replace own1 := own1.new bel
            have z_bel := bel.size
            replace bT2 := bT2.trans (bel.mono bT2.size)
            replace be := be.trans (bel.mono be.size)
            clear bel own0 own1
            refine hK.out _ _ ⟨BA0.cell 0 _ rfl, BA0.cell 1 _ rfl, BA0.cell 2 _ rfl, BA1.cell 0 _ rfl, BA1.cell 1 _ rfl, BA1.cell 2 _ rfl⟩ (fun hHeld => ?_)
            clear hK K
            try simp only [Act.put, List.getElem_toArray, List.getElem_cons_zero, List.getElem_cons_succ, List.setIfInBounds_toArray, List.set_cons_zero, List.set_cons_succ]
            refine wpAnyH_take (i := 5) (v := ?_) rfl (by kernel_rfl) (by kernel_rfl) (by kernel_rfl) (fun _ _ _ h => h) (Or.inl ⟨by rfl, ?_⟩) (by assumption) ?_
            rotate_left
            · (intro w hSw; (try dsimp only at hSw); go_simp; try with_reducible rfl)
            try simp only [Act.put, List.getElem_toArray, List.getElem_cons_zero, List.getElem_cons_succ, List.setIfInBounds_toArray, List.set_cons_zero, List.set_cons_succ]
            refine wpAnyH_take (i := 6) (v := ?_) rfl (by kernel_rfl) (by kernel_rfl) (by kernel_rfl) (fun _ _ _ h => h) (Or.inl ⟨by rfl, ?_⟩) (by assumption) ?_
            rotate_left
            · (intro w hSw; (try dsimp only at hSw); go_simp; try with_reducible rfl)
            try simp only [Act.put, List.getElem_toArray, List.getElem_cons_zero, List.getElem_cons_succ, List.setIfInBounds_toArray, List.set_cons_zero, List.set_cons_succ]
            refine wpAnyH_take (i := 7) (v := ?_) rfl (by kernel_rfl) (by kernel_rfl) (by kernel_rfl) (fun _ _ _ h => h) (Or.inl ⟨by rfl, ?_⟩) (by assumption) ?_
            rotate_left
            · (intro w hSw; (try dsimp only at hSw); go_simp; try with_reducible rfl)
            try simp only [Act.put, List.getElem_toArray, List.getElem_cons_zero, List.getElem_cons_succ, List.setIfInBounds_toArray, List.set_cons_zero, List.set_cons_succ]
            refine wpAnyH_ready (rs := [9]) (by kernel_rfl) (by simp) ?_
            refine AllReadyH.cons (o := _) rfl (fun K hK => ?_) AllReadyH.nil
            have c0' := BO.cell 0 _ rfl
            have f0' := BO.frozen 0
            have c1' := BO.cell 1 _ rfl
            have f1' := BO.frozen 1
            have c2' := BO.cell 2 _ rfl
            have f2' := BO.frozen 2
            go_simp
            clear c0' c1' c2' f0' f1' f2'
            generalize hW : World.setCell _ _ _ = WO
            have BN : Bx WO go 29 #[.slice aW R.ends.length cW, .slice aiW R.ids.length ciW, .slice apW R.inputs.length cpW] := by rw [← hW]; exact ((BO.set 0 _).set 1 _).set 2 _
            have frW : Fr (fun k => k = go) xr WO := by rw [← hW]; exact fr3 _ _ _ _ _
            clear hW
            replace ownr := (ownr.frBx BO frW).wide (lo' := w3.heap.size) (hi' := WO.heap.size) (by omega) (by have := frW.size; omega)
            replace BA0 := BA0.fr frW (by omega)
            replace BA1 := BA1.fr frW (by omega)
            replace be := be.trans (frW.below (B := w3.heap.size) (fun k h1 h2 hc => by omega) be.size)
            clear frW
            refine hK.out _ _ ⟨BA0.cell 0 _ rfl, BA0.cell 1 _ rfl, BA0.cell 2 _ rfl, BA1.cell 0 _ rfl, BA1.cell 1 _ rfl, BA1.cell 2 _ rfl⟩ (fun hHeld => ?_)
            clear hK K
            try simp only [Act.put, List.getElem_toArray, List.getElem_cons_zero, List.getElem_cons_succ, List.setIfInBounds_toArray, List.set_cons_zero, List.set_cons_succ]
            refine wpAnyH_ready (rs := [10]) (by kernel_rfl) (by simp) ?_
            refine AllReadyH.cons (o := _) rfl (fun K hK => ?_) AllReadyH.nil
            go_simp
            refine hK.out _ _ ⟨BA0.cell 0 _ rfl, BA0.cell 1 _ rfl, BA0.cell 2 _ rfl, BA1.cell 0 _ rfl, BA1.cell 1 _ rfl, BA1.cell 2 _ rfl⟩ (fun hHeld => ?_)
            clear hK K
            try simp only [Act.put, List.getElem_toArray, List.getElem_cons_zero, List.getElem_cons_succ, List.setIfInBounds_toArray, List.set_cons_zero, List.set_cons_succ]
            refine wpAnyH_done (by kernel_rfl) ?_ _
            go_wp2_with fail
            go_meet
            exact ⟨go, aW, cW, aiW, ciW, apW, cpW, rfl, rfl, BN, ownr, be, zgo⟩
    · go_simp
      have BO := Bx.made wd 29 #[.slice none 0 0, .slice none 0 0, .slice none 0 0]
      have ba : Below wd.heap.size wd (wd.alloc (.cells #[.slice none 0 0, .slice none 0 0, .slice none 0 0] 29)) := (by repeat (first | exact Below.refl _ _ | assumption | refine Below.alloc ?_ (by first | (simp; done) | (simp; omega) | omega) _ | refine Below.setCell ?_ (by first | (simp; done) | (simp; omega) | omega) _ | refine Below.drew ?_ | refine Below.drewN ?_ _))
      replace BA0 := BA0.new ba
      replace BA1 := BA1.new ba
      have z_ba := ba.size
      replace bT2 := bT2.trans (ba.mono bT2.size)
      replace be := be.trans (ba.mono be.size)
      obtain ⟨go, hgo⟩ : ∃ g, g = wd.heap.size := ⟨_, rfl⟩
      rw [← hgo] at BO ⊢
      have zgo : w3.heap.size ≤ go := by omega
      clear ba hgo
      generalize wd.alloc (.cells #[.slice none 0 0, .slice none 0 0, .slice none 0 0] 29) = xo at *
      refine hK.out _ _ ⟨BA0.cell 0 _ rfl, BA0.cell 1 _ rfl, BA0.cell 2 _ rfl, BA1.cell 0 _ rfl, BA1.cell 1 _ rfl, BA1.cell 2 _ rfl⟩ (fun hHeld => ?_)
      clear hK K
      try simp only [Act.put, List.getElem_toArray, List.getElem_cons_zero, List.getElem_cons_succ, List.setIfInBounds_toArray, List.set_cons_zero, List.set_cons_succ]
      refine wpAnyH_ready (rs := [1]) (by kernel_rfl) (by simp) ?_
      refine AllReadyH.cons (o := _) rfl (fun K hK => ?_) AllReadyH.nil
      · go_simp
        refine (toNetwork_any _ N0 _ _ (HV0.out.below bT2) bT2.size hS0).mono ?_
        rintro e x0 ⟨vr0, rfl, own0, bel⟩
        replace BA0 := BA0.new bel
        replace BA1 := BA1.new bel
        replace BO := BO.new bel
        have z_bel := bel.size
        replace bT2 := bT2.trans (bel.mono bT2.size)
        replace be := be.trans (bel.mono be.size)
        clear bel
        refine hK.out _ _ ⟨BA0.cell 0 _ rfl, BA0.cell 1 _ rfl, BA0.cell 2 _ rfl, BA1.cell 0 _ rfl, BA1.cell 1 _ rfl, BA1.cell 2 _ rfl⟩ (fun hHeld => ?_)
        clear hK K
        try simp only [Act.put, List.getElem_toArray, List.getElem_cons_zero, List.getElem_cons_succ, List.setIfInBounds_toArray, List.set_cons_zero, List.set_cons_succ]
        refine wpAnyH_ready (rs := [3]) (by kernel_rfl) (by simp) ?_
        refine AllReadyH.cons (o := _) rfl (fun K hK => ?_) AllReadyH.nil
        · go_simp
          refine (toNetwork_any _ N1 _ _ (HV1.out.below bT2) bT2.size hS1).mono ?_
          rintro e x1 ⟨vr1, rfl, own1, bel⟩
          replace BA0 := BA0.new bel
          replace BA1 := BA1.new bel
          replace BO := BO.new bel
          replace own0 := own0.new bel
          have z_bel := bel.size
          replace bT2 := bT2.trans (bel.mono bT2.size)
          replace be := be.trans (bel.mono be.size)
          clear bel
          refine hK.out _ _ ⟨BA0.cell 0 _ rfl, BA0.cell 1 _ rfl, BA0.cell 2 _ rfl, BA1.cell 0 _ rfl, BA1.cell 1 _ rfl, BA1.cell 2 _ rfl⟩ (fun hHeld => ?_)
          clear hK K
          try simp only [Act.put, List.getElem_toArray, List.getElem_cons_zero, List.getElem_cons_succ, List.setIfInBounds_toArray, List.set_cons_zero, List.set_cons_succ]
          refine wpAnyH_ready (rs := [4]) (by kernel_rfl) (by simp) ?_
          refine AllReadyH.cons (o := _) rfl (fun K hK => ?_) AllReadyH.nil
          · go_simp
            refine (HS.out _ _ _ _ _ own0.in_ (by omega) own1.in_ (by omega)).mono ?_
            rintro e xr ⟨Y, rfl, ownr, bel⟩
            obtain ⟨aW, cW, aiW, ciW, apW, cpW, rfl, ownr⟩ := ownr.shape
            replace BA0 := BA0.new bel
            replace BA1 := BA1.new bel
            replace BO := BO.new bel
            replace own0 := own0.new bel
            replace own1 := own1.new bel
            have z_bel := bel.size
            replace bT2 := bT2.trans (bel.mono bT2.size)
            replace be := be.trans (bel.mono be.size)
            clear bel own0 own1
            refine hK.out _ _ ⟨BA0.cell 0 _ rfl, BA0.cell 1 _ rfl, BA0.cell 2 _ rfl, BA1.cell 0 _ rfl, BA1.cell 1 _ rfl, BA1.cell 2 _ rfl⟩ (fun hHeld => ?_)
            clear hK K
            try simp only [Act.put, List.getElem_toArray, List.getElem_cons_zero, List.getElem_cons_succ, List.setIfInBounds_toArray, List.set_cons_zero, List.set_cons_succ]
            refine wpAnyH_take (i := 5) (v := ?_) rfl (by kernel_rfl) (by kernel_rfl) (by kernel_rfl) (fun _ _ _ h => h) (Or.inl ⟨by rfl, ?_⟩) (by assumption) ?_
            rotate_left
            · (intro w hSw; (try dsimp only at hSw); go_simp; try with_reducible rfl)
            try simp only [Act.put, List.getElem_toArray, List.getElem_cons_zero, List.getElem_cons_succ, List.setIfInBounds_toArray, List.set_cons_zero, List.set_cons_succ]
            refine wpAnyH_take (i := 6) (v := ?_) rfl (by kernel_rfl) (by kernel_rfl) (by kernel_rfl) (fun _ _ _ h => h) (Or.inl ⟨by rfl, ?_⟩) (by assumption) ?_
            rotate_left
            · (intro w hSw; (try dsimp only at hSw); go_simp; try with_reducible rfl)
            try simp only [Act.put, List.getElem_toArray, List.getElem_cons_zero, List.getElem_cons_succ, List.setIfInBounds_toArray, List.set_cons_zero, List.set_cons_succ]
            refine wpAnyH_take (i := 7) (v := ?_) rfl (by kernel_rfl) (by kernel_rfl) (by kernel_rfl) (fun _ _ _ h => h) (Or.inl ⟨by rfl, ?_⟩) (by assumption) ?_
            rotate_left
            · (intro w hSw; (try dsimp only at hSw); go_simp; try with_reducible rfl)
            try simp only [Act.put, List.getElem_toArray, List.getElem_cons_zero, List.getElem_cons_succ, List.setIfInBounds_toArray, List.set_cons_zero, List.set_cons_succ]
            refine wpAnyH_ready (rs := [9]) (by kernel_rfl) (by simp) ?_
            refine AllReadyH.cons (o := _) rfl (fun K hK => ?_) AllReadyH.nil
            have c0' := BO.cell 0 _ rfl
            have f0' := BO.frozen 0
            have c1' := BO.cell 1 _ rfl
            have f1' := BO.frozen 1
            have c2' := BO.cell 2 _ rfl
            have f2' := BO.frozen 2
            go_simp
            clear c0' c1' c2' f0' f1' f2'
            generalize hW : World.setCell _ _ _ = WO
            have BN : Bx WO go 29 #[.slice aW R.ends.length cW, .slice aiW R.ids.length ciW, .slice apW R.inputs.length cpW] := by rw [← hW]; exact ((BO.set 0 _).set 1 _).set 2 _
            have frW : Fr (fun k => k = go) xr WO := by rw [← hW]; exact fr3 _ _ _ _ _
            clear hW
            replace ownr := (ownr.frBx BO frW).wide (lo' := w3.heap.size) (hi' := WO.heap.size) (by omega) (by have := frW.size; omega)
            replace BA0 := BA0.fr frW (by omega)
            replace BA1 := BA1.fr frW (by omega)
            replace be := be.trans (frW.below (B := w3.heap.size) (fun k h1 h2 hc => by omega) be.size)
            clear frW
            refine hK.out _ _ ⟨BA0.cell 0 _ rfl, BA0.cell 1 _ rfl, BA0.cell 2 _ rfl, BA1.cell 0 _ rfl, BA1.cell 1 _ rfl, BA1.cell 2 _ rfl⟩ (fun hHeld => ?_)
            clear hK K
            try simp only [Act.put, List.getElem_toArray, List.getElem_cons_zero, List.getElem_cons_succ, List.setIfInBounds_toArray, List.set_cons_zero, List.set_cons_succ]
            refine wpAnyH_ready (rs := [10]) (by kernel_rfl) (by simp) ?_
            refine AllReadyH.cons (o := _) rfl (fun K hK => ?_) AllReadyH.nil
            go_simp
            refine hK.out _ _ ⟨BA0.cell 0 _ rfl, BA0.cell 1 _ rfl, BA0.cell 2 _ rfl, BA1.cell 0 _ rfl, BA1.cell 1 _ rfl, BA1.cell 2 _ rfl⟩ (fun hHeld => ?_)
            clear hK K
            try simp only [Act.put, List.getElem_toArray, List.getElem_cons_zero, List.getElem_cons_succ, List.setIfInBounds_toArray, List.set_cons_zero, List.set_cons_succ]
            refine wpAnyH_done (by kernel_rfl) ?_ _
            go_wp2_with fail
            go_meet
            exact ⟨go, aW, cW, aiW, ciW, apW, cpW, rfl, rfl, BN, ownr, be, zgo⟩
  case rest =>
    obtain ⟨gW, aW, cW, aiW, ciW, apW, cpW, rfl, rfl, BW, ownw, bel, zgW⟩ := hcut
    generalize wc = w7 at *
    replace BA0 := BA0.new bel
    replace BA1 := BA1.new bel
    have z6 := bel.size
    replace bT := bT.trans (bel.mono bT.size)
    have zgw := BW.lt
    clear bel
    have qBA00 := BA0.cell 0 _ rfl
    have qBA01 := BA0.cell 1 _ rfl
    have qBA02 := BA0.cell 2 _ rfl
    go_wp2_with fail
    clear qBA00 qBA01 qBA02
    refine (toNetwork_any _ N0 _ _ (HV0.out.below bT) bT.size hS0).mono ?_
    rintro e w8 ⟨vx0, rfl, ownx0, bel⟩
    replace BA0 := BA0.new bel
    replace BA1 := BA1.new bel
    replace ownw := ownw.new bel
    replace BW := BW.new bel
    have z9 := bel.size
    replace bT := bT.trans (bel.mono bT.size)
    clear bel
    obtain ⟨aX0, cX0, aiX0, ciX0, apX0, cpX0, rfl, ownx0⟩ := ownx0.shape
    have BX0 := Bx.made w8 29 #[.slice aX0 N0.ends.length cX0, .slice aiX0 N0.ids.length ciX0, .slice apX0 N0.inputs.length cpX0]
    have bx : Below w8.heap.size w8 (w8.alloc (.cells #[.slice aX0 N0.ends.length cX0, .slice aiX0 N0.ids.length ciX0, .slice apX0 N0.inputs.length cpX0] 29)) := (by repeat (first | exact Below.refl _ _ | assumption | refine Below.alloc ?_ (by first | (simp; done) | (simp; omega) | omega) _ | refine Below.setCell ?_ (by first | (simp; done) | (simp; omega) | omega) _ | refine Below.drew ?_ | refine Below.drewN ?_ _))
    have zx : w8.heap.size + 1 ≤ (w8.alloc (.cells #[.slice aX0 N0.ends.length cX0, .slice aiX0 N0.ids.length ciX0, .slice apX0 N0.inputs.length cpX0] 29)).heap.size := by simp
    replace BA0 := BA0.new bx
    replace BA1 := BA1.new bx
    replace ownw := ownw.new bx
    replace BW := BW.new bx
    replace ownx0 := ownx0.new bx
    have z10 := bx.size
    replace bT := bT.trans (bx.mono bT.size)
    have qBA10 := BA1.cell 0 _ rfl
    have qBA11 := BA1.cell 1 _ rfl
    have qBA12 := BA1.cell 2 _ rfl
    go_wp2_with fail
    clear qBA10 qBA11 qBA12
    generalize w8.alloc (.cells #[.slice aX0 N0.ends.length cX0, .slice aiX0 N0.ids.length ciX0, .slice apX0 N0.inputs.length cpX0] 29) = w9 at *
    clear bx
    have z11 := zx
    clear zx
    refine (toNetwork_any _ N1 _ _ (HV1.out.below bT) bT.size hS1).mono ?_
    rintro e w10 ⟨vx1, rfl, ownx1, bel⟩
    replace BA0 := BA0.new bel
    replace BA1 := BA1.new bel
    replace ownw := ownw.new bel
    replace BW := BW.new bel
    replace ownx0 := ownx0.new bel
    replace BX0 := BX0.new bel
    have z12 := bel.size
    replace bT := bT.trans (bel.mono bT.size)
    clear bel
    obtain ⟨aX1, cX1, aiX1, ciX1, apX1, cpX1, rfl, ownx1⟩ := ownx1.shape
    have BX1 := Bx.made w10 29 #[.slice aX1 N1.ends.length cX1, .slice aiX1 N1.ids.length ciX1, .slice apX1 N1.inputs.length cpX1]
    have bx : Below w10.heap.size w10 (w10.alloc (.cells #[.slice aX1 N1.ends.length cX1, .slice aiX1 N1.ids.length ciX1, .slice apX1 N1.inputs.length cpX1] 29)) := (by repeat (first | exact Below.refl _ _ | assumption | refine Below.alloc ?_ (by first | (simp; done) | (simp; omega) | omega) _ | refine Below.setCell ?_ (by first | (simp; done) | (simp; omega) | omega) _ | refine Below.drew ?_ | refine Below.drewN ?_ _))
    have zx : w10.heap.size + 1 ≤ (w10.alloc (.cells #[.slice aX1 N1.ends.length cX1, .slice aiX1 N1.ids.length ciX1, .slice apX1 N1.inputs.length cpX1] 29)).heap.size := by simp
    replace BA0 := BA0.new bx
    replace BA1 := BA1.new bx
    replace ownw := ownw.new bx
    replace BW := BW.new bx
    replace ownx0 := ownx0.new bx
    replace BX0 := BX0.new bx
    replace ownx1 := ownx1.new bx
    have z13 := bx.size
    replace bT := bT.trans (bx.mono bT.size)
    have qBX00 := BX0.cell 0 _ rfl
    have qBX01 := BX0.cell 1 _ rfl
    have qBX02 := BX0.cell 2 _ rfl
    go_wp2_with fail
    clear qBX00 qBX01 qBX02
    generalize w10.alloc (.cells #[.slice aX1 N1.ends.length cX1, .slice aiX1 N1.ids.length ciX1, .slice apX1 N1.inputs.length cpX1] 29) = w11 at *
    clear bx
    have z14 := zx
    clear zx
    refine (HI.out _ _ _ _ _ ownx0.in_ (by omega) ownx1.in_ (by omega)).mono ?_
    rintro e w12 ⟨G, rfl, owng, bel⟩
    obtain ⟨aG, cG, aiG, ciG, apG, cpG, rfl, owng⟩ := owng.shape
    replace BA0 := BA0.new bel
    replace BA1 := BA1.new bel
    replace ownw := ownw.new bel
    replace BW := BW.new bel
    replace ownx0 := ownx0.new bel
    replace BX0 := BX0.new bel
    replace ownx1 := ownx1.new bel
    replace BX1 := BX1.new bel
    have z15 := bel.size
    replace bT := bT.trans (bel.mono bT.size)
    clear bel
    have hbb : (ok != ok) = false := by simp
    have BG := Bx.made w12 29 #[.slice aG R.ends.length cG, .slice aiG R.ids.length ciG, .slice apG R.inputs.length cpG]
    have bx : Below w12.heap.size w12 (w12.alloc (.cells #[.slice aG R.ends.length cG, .slice aiG R.ids.length ciG, .slice apG R.inputs.length cpG] 29)) := (by repeat (first | exact Below.refl _ _ | assumption | refine Below.alloc ?_ (by first | (simp; done) | (simp; omega) | omega) _ | refine Below.setCell ?_ (by first | (simp; done) | (simp; omega) | omega) _ | refine Below.drew ?_ | refine Below.drewN ?_ _))
    have zx : w12.heap.size + 1 ≤ (w12.alloc (.cells #[.slice aG R.ends.length cG, .slice aiG R.ids.length ciG, .slice apG R.inputs.length cpG] 29)).heap.size := by simp
    replace BA0 := BA0.new bx
    replace BA1 := BA1.new bx
    replace ownw := ownw.new bx
    replace BW := BW.new bx
    replace ownx0 := ownx0.new bx
    replace BX0 := BX0.new bx
    replace ownx1 := ownx1.new bx
    replace BX1 := BX1.new bx
    replace owng := owng.new bx
    have z16 := bx.size
    replace bT := bT.trans (bx.mono bT.size)
    have qBW0 := BW.cell 0 _ rfl
    have qBW1 := BW.cell 1 _ rfl
    have qBW2 := BW.cell 2 _ rfl
    go_wp2_with fail
    clear qBW0 qBW1 qBW2
    generalize w12.alloc (.cells #[.slice aG R.ends.length cG, .slice aiG R.ids.length ciG, .slice apG R.inputs.length cpG] 29) = w13 at *
    clear bx
    have z17 := zx
    clear zx
    refine (eqNetwork_any _ _ R _ _ _ _ _ owng ownw (by omega) (by omega) hR).mono ?_
    rintro e w14 ⟨rfl, bel⟩
    replace BA0 := BA0.new bel
    replace BA1 := BA1.new bel
    replace ownw := ownw.new bel
    replace BW := BW.new bel
    replace ownx0 := ownx0.new bel
    replace BX0 := BX0.new bel
    replace ownx1 := ownx1.new bel
    replace BX1 := BX1.new bel
    replace owng := owng.new bel
    replace BG := BG.new bel
    have z18 := bel.size
    replace bT := bT.trans (bel.mono bT.size)
    clear bel
    go_wp2_with fail
    have HSS : Hid (∀ X, Below w14.heap.size w14 X → X.cell? ⟨w.heap.size, 0, none⟩ = some (.slice a0 N0.ends.length c0) ∧ X.cell? ⟨w.heap.size, 1, none⟩ = some (.slice ai0 N0.ids.length ci0) ∧ X.cell? ⟨w.heap.size, 2, none⟩ = some (.slice ap0 N0.inputs.length cp0) ∧ X.cell? ⟨w8.heap.size, 0, none⟩ = some (.slice aX0 N0.ends.length cX0) ∧ X.cell? ⟨w8.heap.size, 1, none⟩ = some (.slice aiX0 N0.ids.length ciX0) ∧ X.cell? ⟨w8.heap.size, 2, none⟩ = some (.slice apX0 N0.inputs.length cpX0) ∧ Below w14.heap.size w14 X) := fun X bX => ⟨(BA0.new bX).cell 0 _ rfl, (BA0.new bX).cell 1 _ rfl, (BA0.new bX).cell 2 _ rfl, (BX0.new bX).cell 0 _ rfl, (BX0.new bX).cell 1 _ rfl, (BX0.new bX).cell 2 _ rfl, bX⟩
    have HT : Hid (∀ X, Below w14.heap.size w14 X → Calls Try.prog 12 #[.agg #[.slice a0 N0.ends.length c0, .slice ai0 N0.ids.length ci0, .slice ap0 N0.inputs.length cp0]] X fun e w' => ∃ v', e = .returned v' ∧ NetAt w' X.heap.size w'.heap.size v' N0 ∧ Below w14.heap.size w14 w') := fun X bX => (toNetwork_any _ N0 _ _ (HV0.out.below (bT.trans (bX.mono bT.size))) (Nat.le_trans bT.size bX.size) hS0).mono fun e w' ⟨v', h1, h2, h3⟩ => ⟨v', h1, h2, bX.trans (h3.mono bX.size)⟩
    have HE : Hid (∀ X v6 lo, Below w14.heap.size w14 X → NetAt X lo X.heap.size v6 N0 → Calls Try.prog 14 #[.agg #[.slice aX0 N0.ends.length cX0, .slice aiX0 N0.ids.length ciX0, .slice apX0 N0.inputs.length cpX0], v6] X fun e w' => e = .returned (.bool true) ∧ Below w14.heap.size w14 w') := fun X v6 lo bX hX => (eqNetwork_any _ _ N0 _ _ _ _ _ (ownx0.new bX) hX (by have := bX.size; omega) (Nat.le_refl _) hS0).mono fun e w' ⟨h1, h2⟩ => ⟨h1, bX.trans (h2.mono bX.size)⟩
    have bd : Below w14.heap.size w14 w14.drew := (Below.refl _ _).drew
    go_region_held3 (fun X => X.cell? ⟨w.heap.size, 0, none⟩ = some (.slice a0 N0.ends.length c0) ∧ X.cell? ⟨w.heap.size, 1, none⟩ = some (.slice ai0 N0.ids.length ci0) ∧ X.cell? ⟨w.heap.size, 2, none⟩ = some (.slice ap0 N0.inputs.length cp0) ∧ X.cell? ⟨w8.heap.size, 0, none⟩ = some (.slice aX0 N0.ends.length cX0) ∧ X.cell? ⟨w8.heap.size, 1, none⟩ = some (.slice aiX0 N0.ids.length ciX0) ∧ X.cell? ⟨w8.heap.size, 2, none⟩ = some (.slice apX0 N0.inputs.length cpX0) ∧ Below w14.heap.size w14 X) (exact HSS.out _ (by assumption)) (first | (go_at_call 12; refine (HT.out _ (by first | assumption | (go_split_ands; assumption))).mono ?_; rintro e wa ⟨va, rfl, owna, bela⟩) | (go_at_call 14; refine (HE.out _ _ _ (by assumption) (by assumption)).mono ?_; rintro e wb0 ⟨rfl, belb⟩))
    all_goals
      clear HSS HT HE bd
      replace BA0 := BA0.new belb
      replace BA1 := BA1.new belb
      replace ownw := ownw.new belb
      replace BW := BW.new belb
      replace ownx0 := ownx0.new belb
      replace BX0 := BX0.new belb
      replace ownx1 := ownx1.new belb
      replace BX1 := BX1.new belb
      replace owng := owng.new belb
      replace BG := BG.new belb
      have z19 := belb.size
      replace bT := bT.trans (belb.mono bT.size)
      clear belb
      go_wp2_with fail
      have HSS : Hid (∀ X, Below wb0.heap.size wb0 X → X.cell? ⟨w.heap.size + 1, 0, none⟩ = some (.slice a1 N1.ends.length c1) ∧ X.cell? ⟨w.heap.size + 1, 1, none⟩ = some (.slice ai1 N1.ids.length ci1) ∧ X.cell? ⟨w.heap.size + 1, 2, none⟩ = some (.slice ap1 N1.inputs.length cp1) ∧ X.cell? ⟨w10.heap.size, 0, none⟩ = some (.slice aX1 N1.ends.length cX1) ∧ X.cell? ⟨w10.heap.size, 1, none⟩ = some (.slice aiX1 N1.ids.length ciX1) ∧ X.cell? ⟨w10.heap.size, 2, none⟩ = some (.slice apX1 N1.inputs.length cpX1) ∧ Below wb0.heap.size wb0 X) := fun X bX => ⟨(BA1.new bX).cell 0 _ rfl, (BA1.new bX).cell 1 _ rfl, (BA1.new bX).cell 2 _ rfl, (BX1.new bX).cell 0 _ rfl, (BX1.new bX).cell 1 _ rfl, (BX1.new bX).cell 2 _ rfl, bX⟩
      have HT : Hid (∀ X, Below wb0.heap.size wb0 X → Calls Try.prog 12 #[.agg #[.slice a1 N1.ends.length c1, .slice ai1 N1.ids.length ci1, .slice ap1 N1.inputs.length cp1]] X fun e w' => ∃ v', e = .returned v' ∧ NetAt w' X.heap.size w'.heap.size v' N1 ∧ Below wb0.heap.size wb0 w') := fun X bX => (toNetwork_any _ N1 _ _ (HV1.out.below (bT.trans (bX.mono bT.size))) (Nat.le_trans bT.size bX.size) hS1).mono fun e w' ⟨v', h1, h2, h3⟩ => ⟨v', h1, h2, bX.trans (h3.mono bX.size)⟩
      have HE : Hid (∀ X v6 lo, Below wb0.heap.size wb0 X → NetAt X lo X.heap.size v6 N1 → Calls Try.prog 14 #[.agg #[.slice aX1 N1.ends.length cX1, .slice aiX1 N1.ids.length ciX1, .slice apX1 N1.inputs.length cpX1], v6] X fun e w' => e = .returned (.bool true) ∧ Below wb0.heap.size wb0 w') := fun X v6 lo bX hX => (eqNetwork_any _ _ N1 _ _ _ _ _ (ownx1.new bX) hX (by have := bX.size; omega) (Nat.le_refl _) hS1).mono fun e w' ⟨h1, h2⟩ => ⟨h1, bX.trans (h2.mono bX.size)⟩
      have bd : Below wb0.heap.size wb0 wb0.drew := (Below.refl _ _).drew
      go_region_held3 (fun X => X.cell? ⟨w.heap.size + 1, 0, none⟩ = some (.slice a1 N1.ends.length c1) ∧ X.cell? ⟨w.heap.size + 1, 1, none⟩ = some (.slice ai1 N1.ids.length ci1) ∧ X.cell? ⟨w.heap.size + 1, 2, none⟩ = some (.slice ap1 N1.inputs.length cp1) ∧ X.cell? ⟨w10.heap.size, 0, none⟩ = some (.slice aX1 N1.ends.length cX1) ∧ X.cell? ⟨w10.heap.size, 1, none⟩ = some (.slice aiX1 N1.ids.length ciX1) ∧ X.cell? ⟨w10.heap.size, 2, none⟩ = some (.slice apX1 N1.inputs.length cpX1) ∧ Below wb0.heap.size wb0 X) (exact HSS.out _ (by assumption)) (first | (go_at_call 12; refine (HT.out _ (by first | assumption | (go_split_ands; assumption))).mono ?_; rintro e wa ⟨va, rfl, owna, bela⟩) | (go_at_call 14; refine (HE.out _ _ _ (by assumption) (by assumption)).mono ?_; rintro e wb1 ⟨rfl, belb⟩))
      all_goals
        clear HSS HT HE bd
        replace BA0 := BA0.new belb
        replace BA1 := BA1.new belb
        replace ownw := ownw.new belb
        replace BW := BW.new belb
        replace ownx0 := ownx0.new belb
        replace BX0 := BX0.new belb
        replace ownx1 := ownx1.new belb
        replace BX1 := BX1.new belb
        replace owng := owng.new belb
        replace BG := BG.new belb
        have z20 := belb.size
        replace bT := bT.trans (belb.mono bT.size)
        clear belb
        have qBX00 := BX0.cell 0 _ rfl
        have qBX01 := BX0.cell 1 _ rfl
        have qBX02 := BX0.cell 2 _ rfl
        go_wp2_with fail
        clear qBX00 qBX01 qBX02
        refine (markNetwork_any _ N0 (1) _ _ _ ownx0 (by omega) hS0 (by  omega)).mono ?_
        rintro e w15 ⟨rfl, hn9, fr⟩
        clear hn9
        clear ownx0 BX0
        replace BA0 := BA0.fr fr (by omega)
        replace BA1 := BA1.fr fr (by omega)
        replace ownw := ownw.fr fr (fun k h1 h2 hc => by omega)
        replace BW := BW.fr fr (by omega)
        replace ownx1 := ownx1.fr fr (fun k h1 h2 hc => by omega)
        replace BX1 := BX1.fr fr (by omega)
        replace owng := owng.fr fr (fun k h1 h2 hc => by omega)
        replace BG := BG.fr fr (by omega)
        have z21 := fr.size
        replace bT := bT.trans (fr.below (B := w.heap.size) (fun k h1 h2 hc => by omega) bT.size)
        clear fr
        have qBX10 := BX1.cell 0 _ rfl
        have qBX11 := BX1.cell 1 _ rfl
        have qBX12 := BX1.cell 2 _ rfl
        go_wp2_with fail
        clear qBX10 qBX11 qBX12
        refine (markNetwork_any _ N1 (1 + netTot N0) _ _ _ ownx1 (by omega) hS1 (by have g0 := hS0; unfold NetSmall at g0; unfold netTot; omega)).mono ?_
        rintro e w16 ⟨rfl, hn9, fr⟩
        clear hn9
        clear ownx1 BX1
        replace BA0 := BA0.fr fr (by omega)
        replace BA1 := BA1.fr fr (by omega)
        replace ownw := ownw.fr fr (fun k h1 h2 hc => by omega)
        replace BW := BW.fr fr (by omega)
        replace owng := owng.fr fr (fun k h1 h2 hc => by omega)
        replace BG := BG.fr fr (by omega)
        have z22 := fr.size
        replace bT := bT.trans (fr.below (B := w.heap.size) (fun k h1 h2 hc => by omega) bT.size)
        clear fr
        have d9 : decide (((1 + netTot N0 + netTot N1 : Nat) : Int) < 0) = false := decide_eq_false (by omega)
        have qBG0 := BG.cell 0 _ rfl
        have qBG1 := BG.cell 1 _ rfl
        have qBG2 := BG.cell 2 _ rfl
        have qBW0 := BW.cell 0 _ rfl
        have qBW1 := BW.cell 1 _ rfl
        have qBW2 := BW.cell 2 _ rfl
        go_wp2_with fail
        clear qBG0 qBG1 qBG2 qBW0 qBW1 qBW2
        refine (eqNetwork_any _ _ R _ _ _ _ _ owng ownw (by omega) (by omega) hR).mono ?_
        rintro e w17 ⟨rfl, bel⟩
        replace BA0 := BA0.new bel
        replace BA1 := BA1.new bel
        replace ownw := ownw.new bel
        replace BW := BW.new bel
        replace owng := owng.new bel
        replace BG := BG.new bel
        have z23 := bel.size
        replace bT := bT.trans (bel.mono bT.size)
        clear bel
        have qBG0 := BG.cell 0 _ rfl
        have qBG1 := BG.cell 1 _ rfl
        have qBG2 := BG.cell 2 _ rfl
        go_wp2_with fail
        clear qBG0 qBG1 qBG2
        refine (markNetwork_any _ R 1 _ _ _ owng (by omega) hR (by omega)).mono ?_
        rintro e w18 ⟨rfl, owngm, fr⟩
        clear owng
        replace BA0 := BA0.fr fr (by omega)
        replace BA1 := BA1.fr fr (by omega)
        replace ownw := ownw.fr fr (fun k h1 h2 hc => by omega)
        replace BW := BW.fr fr (by omega)
        replace BG := BG.fr fr (by omega)
        have z24 := fr.size
        replace bT := bT.trans (fr.below (B := w.heap.size) (fun k h1 h2 hc => by omega) bT.size)
        clear fr
        have qBG0 := BG.cell 0 _ rfl
        have qBG1 := BG.cell 1 _ rfl
        have qBG2 := BG.cell 2 _ rfl
        go_wp2_with fail
        clear qBG0 qBG1 qBG2
        refine (heldNetwork_any _ R 1 _ _ _ owngm (by omega) hR (by omega)).mono ?_
        rintro e w19 ⟨rfl, bel⟩
        replace BA0 := BA0.new bel
        replace BA1 := BA1.new bel
        replace ownw := ownw.new bel
        replace BW := BW.new bel
        replace BG := BG.new bel
        replace owngm := owngm.new bel
        have z25 := bel.size
        replace bT := bT.trans (bel.mono bT.size)
        clear bel
        have hlt : ¬ (((1 + netTot R : Nat) : Int) < 0) := by omega
        have qBA00 := BA0.cell 0 _ rfl
        have qBA01 := BA0.cell 1 _ rfl
        have qBA02 := BA0.cell 2 _ rfl
        go_wp2_with fail
        clear qBA00 qBA01 qBA02
        go_cut [15, 16] (fun p q X => ∃ gH aH cH aiH ciH apH cpH, p = .pointer (some ⟨gH, 0, none⟩) ∧ q = .bool ok ∧ Bx X gH 29 #[.slice aH R.ends.length cH, .slice aiH R.ids.length ciH, .slice apH R.inputs.length cpH] ∧ NetAt X w19.heap.size X.heap.size (.agg #[.slice aH R.ends.length cH, .slice aiH R.ids.length ciH, .slice apH R.inputs.length cpH]) R ∧ Below w19.heap.size w19 X ∧ w19.heap.size ≤ gH)
        case first =>
          replace BA0 : Bx w19.drew w.heap.size 25 #[.slice a0 N0.ends.length c0, .slice ai0 N0.ids.length ci0, .slice ap0 N0.inputs.length cp0] := BA0
          replace BA1 : Bx w19.drew (w.heap.size + 1) 25 #[.slice a1 N1.ends.length c1, .slice ai1 N1.ids.length ci1, .slice ap1 N1.inputs.length cp1] := BA1
          have be : Below w19.heap.size w19 w19.drew := (Below.refl _ _).drew
          have bT2 := bT.drew
          have zW : w.heap.size + 2 ≤ w19.heap.size := by omega
          refine wp_region_held_drew (S := fun X => X.cell? ⟨w.heap.size, 0, none⟩ = some (.slice a0 N0.ends.length c0) ∧ X.cell? ⟨w.heap.size, 1, none⟩ = some (.slice ai0 N0.ids.length ci0) ∧ X.cell? ⟨w.heap.size, 2, none⟩ = some (.slice ap0 N0.inputs.length cp0) ∧ X.cell? ⟨w.heap.size + 1, 0, none⟩ = some (.slice a1 N1.ends.length c1) ∧ X.cell? ⟨w.heap.size + 1, 1, none⟩ = some (.slice ai1 N1.ids.length ci1) ∧ X.cell? ⟨w.heap.size + 1, 2, none⟩ = some (.slice ap1 N1.inputs.length cp1)) (by kernel_rfl) ⟨BA0.cell 0 _ rfl, BA0.cell 1 _ rfl, BA0.cell 2 _ rfl, BA1.cell 0 _ rfl, BA1.cell 1 _ rfl, BA1.cell 2 _ rfl⟩ (fun hHeld => ?_)
          generalize w19.drew = wd at *
          refine wpAnyH_take (i := 0) (v := ?_) rfl (by kernel_rfl) (by kernel_rfl) (by kernel_rfl) (fun _ _ _ h => h) (Or.inl ⟨by rfl, ?_⟩) (by assumption) ?_
          rotate_left
          · (intro w hSw; (try dsimp only at hSw); obtain ⟨hq0, hq1, hq2, hq3, hq4, hq5⟩ := hSw; go_simp; try with_reducible rfl)
          try simp only [Act.put, List.getElem_toArray, List.getElem_cons_zero, List.getElem_cons_succ, List.setIfInBounds_toArray, List.set_cons_zero, List.set_cons_succ]
          refine wpAnyH_take (i := 2) (v := ?_) rfl (by kernel_rfl) (by kernel_rfl) (by kernel_rfl) (fun _ _ _ h => h) (Or.inl ⟨by rfl, ?_⟩) (by assumption) ?_
          rotate_left
          · (intro w hSw; (try dsimp only at hSw); obtain ⟨hq0, hq1, hq2, hq3, hq4, hq5⟩ := hSw; go_simp; try with_reducible rfl)
          try simp only [Act.put, List.getElem_toArray, List.getElem_cons_zero, List.getElem_cons_succ, List.setIfInBounds_toArray, List.set_cons_zero, List.set_cons_succ]
          have zwd := be.size
          refine wpAnyH_ready (rs := [1, 8]) (by kernel_rfl) (by simp) ?_
          refine AllReadyH.cons (o := _) rfl (fun K hK => ?_) (AllReadyH.cons (o := _) rfl (fun K hK => ?_) AllReadyH.nil)
          · go_simp
            refine (toNetwork_any _ N0 _ _ (HV0.out.below bT2) bT2.size hS0).mono ?_
            rintro e x0 ⟨vr0, rfl, own0, bel⟩
            replace BA0 := BA0.new bel
            replace BA1 := BA1.new bel
            have z_bel := bel.size
            replace bT2 := bT2.trans (bel.mono bT2.size)
            replace be := be.trans (bel.mono be.size)
            clear bel
            refine hK.out _ _ ⟨BA0.cell 0 _ rfl, BA0.cell 1 _ rfl, BA0.cell 2 _ rfl, BA1.cell 0 _ rfl, BA1.cell 1 _ rfl, BA1.cell 2 _ rfl⟩ (fun hHeld => ?_)
            clear hK K
            try simp only [Act.put, List.getElem_toArray, List.getElem_cons_zero, List.getElem_cons_succ, List.setIfInBounds_toArray, List.set_cons_zero, List.set_cons_succ]
            refine wpAnyH_ready (rs := [3, 8]) (by kernel_rfl) (by simp) ?_
            refine AllReadyH.cons (o := _) rfl (fun K hK => ?_) (AllReadyH.cons (o := _) rfl (fun K hK => ?_) AllReadyH.nil)
            · go_simp
              refine (toNetwork_any _ N1 _ _ (HV1.out.below bT2) bT2.size hS1).mono ?_
              rintro e x1 ⟨vr1, rfl, own1, bel⟩
              replace BA0 := BA0.new bel
              replace BA1 := BA1.new bel
              replace own0 := own0.new bel
              have z_bel := bel.size
              replace bT2 := bT2.trans (bel.mono bT2.size)
              replace be := be.trans (bel.mono be.size)
              clear bel
              refine hK.out _ _ ⟨BA0.cell 0 _ rfl, BA0.cell 1 _ rfl, BA0.cell 2 _ rfl, BA1.cell 0 _ rfl, BA1.cell 1 _ rfl, BA1.cell 2 _ rfl⟩ (fun hHeld => ?_)
              clear hK K
              try simp only [Act.put, List.getElem_toArray, List.getElem_cons_zero, List.getElem_cons_succ, List.setIfInBounds_toArray, List.set_cons_zero, List.set_cons_succ]
              refine wpAnyH_ready (rs := [4, 8]) (by kernel_rfl) (by simp) ?_
              refine AllReadyH.cons (o := _) rfl (fun K hK => ?_) (AllReadyH.cons (o := _) rfl (fun K hK => ?_) AllReadyH.nil)
              · go_simp
                refine (HI.out _ _ _ _ _ own0.in_ (by omega) own1.in_ (by omega)).mono ?_
                rintro e xr ⟨Y, rfl, ownr, bel⟩
                obtain ⟨aH, cH, aiH, ciH, apH, cpH, rfl, ownr⟩ := ownr.shape
                replace BA0 := BA0.new bel
                replace BA1 := BA1.new bel
                replace own0 := own0.new bel
                replace own1 := own1.new bel
                have z_bel := bel.size
                replace bT2 := bT2.trans (bel.mono bT2.size)
                replace be := be.trans (bel.mono be.size)
                clear bel own0 own1
                refine hK.out _ _ ⟨BA0.cell 0 _ rfl, BA0.cell 1 _ rfl, BA0.cell 2 _ rfl, BA1.cell 0 _ rfl, BA1.cell 1 _ rfl, BA1.cell 2 _ rfl⟩ (fun hHeld => ?_)
                clear hK K
                try simp only [Act.put, List.getElem_toArray, List.getElem_cons_zero, List.getElem_cons_succ, List.setIfInBounds_toArray, List.set_cons_zero, List.set_cons_succ]
                refine wpAnyH_take (i := 5) (v := ?_) rfl (by kernel_rfl) (by kernel_rfl) (by kernel_rfl) (fun _ _ _ h => h) (Or.inl ⟨by rfl, ?_⟩) (by assumption) ?_
                rotate_left
                · (intro w hSw; (try dsimp only at hSw); go_simp; try with_reducible rfl)
                try simp only [Act.put, List.getElem_toArray, List.getElem_cons_zero, List.getElem_cons_succ, List.setIfInBounds_toArray, List.set_cons_zero, List.set_cons_succ]
                refine wpAnyH_take (i := 6) (v := ?_) rfl (by kernel_rfl) (by kernel_rfl) (by kernel_rfl) (fun _ _ _ h => h) (Or.inl ⟨by rfl, ?_⟩) (by assumption) ?_
                rotate_left
                · (intro w hSw; (try dsimp only at hSw); go_simp; try with_reducible rfl)
                try simp only [Act.put, List.getElem_toArray, List.getElem_cons_zero, List.getElem_cons_succ, List.setIfInBounds_toArray, List.set_cons_zero, List.set_cons_succ]
                refine wpAnyH_take (i := 7) (v := ?_) rfl (by kernel_rfl) (by kernel_rfl) (by kernel_rfl) (fun _ _ _ h => h) (Or.inl ⟨by rfl, ?_⟩) (by assumption) ?_
                rotate_left
                · (intro w hSw; (try dsimp only at hSw); go_simp; try with_reducible rfl)
                try simp only [Act.put, List.getElem_toArray, List.getElem_cons_zero, List.getElem_cons_succ, List.setIfInBounds_toArray, List.set_cons_zero, List.set_cons_succ]
                refine wpAnyH_ready (rs := [8]) (by kernel_rfl) (by simp) ?_
                refine AllReadyH.cons (o := _) rfl (fun K hK => ?_) AllReadyH.nil
                · go_simp
                  have BO := Bx.made xr 29 #[.slice none 0 0, .slice none 0 0, .slice none 0 0]
                  have ba : Below xr.heap.size xr (xr.alloc (.cells #[.slice none 0 0, .slice none 0 0, .slice none 0 0] 29)) := (by repeat (first | exact Below.refl _ _ | assumption | refine Below.alloc ?_ (by first | (simp; done) | (simp; omega) | omega) _ | refine Below.setCell ?_ (by first | (simp; done) | (simp; omega) | omega) _ | refine Below.drew ?_ | refine Below.drewN ?_ _))
                  replace BA0 := BA0.new ba
                  replace BA1 := BA1.new ba
                  replace ownr := ownr.new ba
                  have z_ba := ba.size
                  replace bT2 := bT2.trans (ba.mono bT2.size)
                  replace be := be.trans (ba.mono be.size)
                  obtain ⟨go, hgo⟩ : ∃ g, g = xr.heap.size := ⟨_, rfl⟩
                  rw [← hgo] at BO ⊢
                  have zgo : w19.heap.size ≤ go := by omega
                  clear ba hgo
                  generalize xr.alloc (.cells #[.slice none 0 0, .slice none 0 0, .slice none 0 0] 29) = xo at *
                  refine hK.out _ _ ⟨BA0.cell 0 _ rfl, BA0.cell 1 _ rfl, BA0.cell 2 _ rfl, BA1.cell 0 _ rfl, BA1.cell 1 _ rfl, BA1.cell 2 _ rfl⟩ (fun hHeld => ?_)
                  clear hK K
                  try simp only [Act.put, List.getElem_toArray, List.getElem_cons_zero, List.getElem_cons_succ, List.setIfInBounds_toArray, List.set_cons_zero, List.set_cons_succ]
                  refine wpAnyH_ready (rs := [9]) (by kernel_rfl) (by simp) ?_
                  refine AllReadyH.cons (o := _) rfl (fun K hK => ?_) AllReadyH.nil
                  have c0' := BO.cell 0 _ rfl
                  have f0' := BO.frozen 0
                  have c1' := BO.cell 1 _ rfl
                  have f1' := BO.frozen 1
                  have c2' := BO.cell 2 _ rfl
                  have f2' := BO.frozen 2
                  go_simp
                  clear c0' c1' c2' f0' f1' f2'
                  generalize hW : World.setCell _ _ _ = WO
                  have BN : Bx WO go 29 #[.slice aH R.ends.length cH, .slice aiH R.ids.length ciH, .slice apH R.inputs.length cpH] := by rw [← hW]; exact ((BO.set 0 _).set 1 _).set 2 _
                  have frW : Fr (fun k => k = go) xo WO := by rw [← hW]; exact fr3 _ _ _ _ _
                  clear hW
                  replace ownr := (ownr.frBx BO frW).wide (lo' := w19.heap.size) (hi' := WO.heap.size) (by omega) (by have := frW.size; omega)
                  replace BA0 := BA0.fr frW (by omega)
                  replace BA1 := BA1.fr frW (by omega)
                  replace be := be.trans (frW.below (B := w19.heap.size) (fun k h1 h2 hc => by omega) be.size)
                  clear frW
                  refine hK.out _ _ ⟨BA0.cell 0 _ rfl, BA0.cell 1 _ rfl, BA0.cell 2 _ rfl, BA1.cell 0 _ rfl, BA1.cell 1 _ rfl, BA1.cell 2 _ rfl⟩ (fun hHeld => ?_)
                  clear hK K
                  try simp only [Act.put, List.getElem_toArray, List.getElem_cons_zero, List.getElem_cons_succ, List.setIfInBounds_toArray, List.set_cons_zero, List.set_cons_succ]
                  refine wpAnyH_ready (rs := [10]) (by kernel_rfl) (by simp) ?_
                  refine AllReadyH.cons (o := _) rfl (fun K hK => ?_) AllReadyH.nil
                  go_simp
                  refine hK.out _ _ ⟨BA0.cell 0 _ rfl, BA0.cell 1 _ rfl, BA0.cell 2 _ rfl, BA1.cell 0 _ rfl, BA1.cell 1 _ rfl, BA1.cell 2 _ rfl⟩ (fun hHeld => ?_)
                  clear hK K
                  try simp only [Act.put, List.getElem_toArray, List.getElem_cons_zero, List.getElem_cons_succ, List.setIfInBounds_toArray, List.set_cons_zero, List.set_cons_succ]
                  refine wpAnyH_done (by kernel_rfl) ?_ _
                  go_wp2_with fail
                  go_meet
                  exact ⟨go, aH, cH, aiH, ciH, apH, cpH, rfl, rfl, BN, ownr, be, zgo⟩
              · go_simp
                have BO := Bx.made x1 29 #[.slice none 0 0, .slice none 0 0, .slice none 0 0]
                have ba : Below x1.heap.size x1 (x1.alloc (.cells #[.slice none 0 0, .slice none 0 0, .slice none 0 0] 29)) := (by repeat (first | exact Below.refl _ _ | assumption | refine Below.alloc ?_ (by first | (simp; done) | (simp; omega) | omega) _ | refine Below.setCell ?_ (by first | (simp; done) | (simp; omega) | omega) _ | refine Below.drew ?_ | refine Below.drewN ?_ _))
                replace BA0 := BA0.new ba
                replace BA1 := BA1.new ba
                replace own0 := own0.new ba
                replace own1 := own1.new ba
                have z_ba := ba.size
                replace bT2 := bT2.trans (ba.mono bT2.size)
                replace be := be.trans (ba.mono be.size)
                obtain ⟨go, hgo⟩ : ∃ g, g = x1.heap.size := ⟨_, rfl⟩
                rw [← hgo] at BO ⊢
                have zgo : w19.heap.size ≤ go := by omega
                clear ba hgo
                generalize x1.alloc (.cells #[.slice none 0 0, .slice none 0 0, .slice none 0 0] 29) = xo at *
                refine hK.out _ _ ⟨BA0.cell 0 _ rfl, BA0.cell 1 _ rfl, BA0.cell 2 _ rfl, BA1.cell 0 _ rfl, BA1.cell 1 _ rfl, BA1.cell 2 _ rfl⟩ (fun hHeld => ?_)
                clear hK K
                try simp only [Act.put, List.getElem_toArray, List.getElem_cons_zero, List.getElem_cons_succ, List.setIfInBounds_toArray, List.set_cons_zero, List.set_cons_succ]
                refine wpAnyH_ready (rs := [4]) (by kernel_rfl) (by simp) ?_
                refine AllReadyH.cons (o := _) rfl (fun K hK => ?_) AllReadyH.nil
                · go_simp
                  refine (HI.out _ _ _ _ _ own0.in_ (by omega) own1.in_ (by omega)).mono ?_
                  rintro e xr ⟨Y, rfl, ownr, bel⟩
                  obtain ⟨aH, cH, aiH, ciH, apH, cpH, rfl, ownr⟩ := ownr.shape
                  replace BA0 := BA0.new bel
                  replace BA1 := BA1.new bel
                  replace BO := BO.new bel
                  replace own0 := own0.new bel
                  replace own1 := own1.new bel
                  have z_bel := bel.size
                  replace bT2 := bT2.trans (bel.mono bT2.size)
                  replace be := be.trans (bel.mono be.size)
                  clear bel own0 own1
                  refine hK.out _ _ ⟨BA0.cell 0 _ rfl, BA0.cell 1 _ rfl, BA0.cell 2 _ rfl, BA1.cell 0 _ rfl, BA1.cell 1 _ rfl, BA1.cell 2 _ rfl⟩ (fun hHeld => ?_)
                  clear hK K
                  try simp only [Act.put, List.getElem_toArray, List.getElem_cons_zero, List.getElem_cons_succ, List.setIfInBounds_toArray, List.set_cons_zero, List.set_cons_succ]
                  refine wpAnyH_take (i := 5) (v := ?_) rfl (by kernel_rfl) (by kernel_rfl) (by kernel_rfl) (fun _ _ _ h => h) (Or.inl ⟨by rfl, ?_⟩) (by assumption) ?_
                  rotate_left
                  · (intro w hSw; (try dsimp only at hSw); go_simp; try with_reducible rfl)
                  try simp only [Act.put, List.getElem_toArray, List.getElem_cons_zero, List.getElem_cons_succ, List.setIfInBounds_toArray, List.set_cons_zero, List.set_cons_succ]
                  refine wpAnyH_take (i := 6) (v := ?_) rfl (by kernel_rfl) (by kernel_rfl) (by kernel_rfl) (fun _ _ _ h => h) (Or.inl ⟨by rfl, ?_⟩) (by assumption) ?_
                  rotate_left
                  · (intro w hSw; (try dsimp only at hSw); go_simp; try with_reducible rfl)
                  try simp only [Act.put, List.getElem_toArray, List.getElem_cons_zero, List.getElem_cons_succ, List.setIfInBounds_toArray, List.set_cons_zero, List.set_cons_succ]
                  refine wpAnyH_take (i := 7) (v := ?_) rfl (by kernel_rfl) (by kernel_rfl) (by kernel_rfl) (fun _ _ _ h => h) (Or.inl ⟨by rfl, ?_⟩) (by assumption) ?_
                  rotate_left
                  · (intro w hSw; (try dsimp only at hSw); go_simp; try with_reducible rfl)
                  try simp only [Act.put, List.getElem_toArray, List.getElem_cons_zero, List.getElem_cons_succ, List.setIfInBounds_toArray, List.set_cons_zero, List.set_cons_succ]
                  refine wpAnyH_ready (rs := [9]) (by kernel_rfl) (by simp) ?_
                  refine AllReadyH.cons (o := _) rfl (fun K hK => ?_) AllReadyH.nil
                  have c0' := BO.cell 0 _ rfl
                  have f0' := BO.frozen 0
                  have c1' := BO.cell 1 _ rfl
                  have f1' := BO.frozen 1
                  have c2' := BO.cell 2 _ rfl
                  have f2' := BO.frozen 2
                  go_simp
                  clear c0' c1' c2' f0' f1' f2'
                  generalize hW : World.setCell _ _ _ = WO
                  have BN : Bx WO go 29 #[.slice aH R.ends.length cH, .slice aiH R.ids.length ciH, .slice apH R.inputs.length cpH] := by rw [← hW]; exact ((BO.set 0 _).set 1 _).set 2 _
                  have frW : Fr (fun k => k = go) xr WO := by rw [← hW]; exact fr3 _ _ _ _ _
                  clear hW
                  replace ownr := (ownr.frBx BO frW).wide (lo' := w19.heap.size) (hi' := WO.heap.size) (by omega) (by have := frW.size; omega)
                  replace BA0 := BA0.fr frW (by omega)
                  replace BA1 := BA1.fr frW (by omega)
                  replace be := be.trans (frW.below (B := w19.heap.size) (fun k h1 h2 hc => by omega) be.size)
                  clear frW
                  refine hK.out _ _ ⟨BA0.cell 0 _ rfl, BA0.cell 1 _ rfl, BA0.cell 2 _ rfl, BA1.cell 0 _ rfl, BA1.cell 1 _ rfl, BA1.cell 2 _ rfl⟩ (fun hHeld => ?_)
                  clear hK K
                  try simp only [Act.put, List.getElem_toArray, List.getElem_cons_zero, List.getElem_cons_succ, List.setIfInBounds_toArray, List.set_cons_zero, List.set_cons_succ]
                  refine wpAnyH_ready (rs := [10]) (by kernel_rfl) (by simp) ?_
                  refine AllReadyH.cons (o := _) rfl (fun K hK => ?_) AllReadyH.nil
                  go_simp
                  refine hK.out _ _ ⟨BA0.cell 0 _ rfl, BA0.cell 1 _ rfl, BA0.cell 2 _ rfl, BA1.cell 0 _ rfl, BA1.cell 1 _ rfl, BA1.cell 2 _ rfl⟩ (fun hHeld => ?_)
                  clear hK K
                  try simp only [Act.put, List.getElem_toArray, List.getElem_cons_zero, List.getElem_cons_succ, List.setIfInBounds_toArray, List.set_cons_zero, List.set_cons_succ]
                  refine wpAnyH_done (by kernel_rfl) ?_ _
                  go_wp2_with fail
                  go_meet
                  exact ⟨go, aH, cH, aiH, ciH, apH, cpH, rfl, rfl, BN, ownr, be, zgo⟩
            · go_simp
              have BO := Bx.made x0 29 #[.slice none 0 0, .slice none 0 0, .slice none 0 0]
              have ba : Below x0.heap.size x0 (x0.alloc (.cells #[.slice none 0 0, .slice none 0 0, .slice none 0 0] 29)) := (by repeat (first | exact Below.refl _ _ | assumption | refine Below.alloc ?_ (by first | (simp; done) | (simp; omega) | omega) _ | refine Below.setCell ?_ (by first | (simp; done) | (simp; omega) | omega) _ | refine Below.drew ?_ | refine Below.drewN ?_ _))
              replace BA0 := BA0.new ba
              replace BA1 := BA1.new ba
              replace own0 := own0.new ba
              have z_ba := ba.size
              replace bT2 := bT2.trans (ba.mono bT2.size)
              replace be := be.trans (ba.mono be.size)
              obtain ⟨go, hgo⟩ : ∃ g, g = x0.heap.size := ⟨_, rfl⟩
              rw [← hgo] at BO ⊢
              have zgo : w19.heap.size ≤ go := by omega
              clear ba hgo
              generalize x0.alloc (.cells #[.slice none 0 0, .slice none 0 0, .slice none 0 0] 29) = xo at *
              refine hK.out _ _ ⟨BA0.cell 0 _ rfl, BA0.cell 1 _ rfl, BA0.cell 2 _ rfl, BA1.cell 0 _ rfl, BA1.cell 1 _ rfl, BA1.cell 2 _ rfl⟩ (fun hHeld => ?_)
              clear hK K
              try simp only [Act.put, List.getElem_toArray, List.getElem_cons_zero, List.getElem_cons_succ, List.setIfInBounds_toArray, List.set_cons_zero, List.set_cons_succ]
              refine wpAnyH_ready (rs := [3]) (by kernel_rfl) (by simp) ?_
              refine AllReadyH.cons (o := _) rfl (fun K hK => ?_) AllReadyH.nil
              · go_simp
                refine (toNetwork_any _ N1 _ _ (HV1.out.below bT2) bT2.size hS1).mono ?_
                rintro e x1 ⟨vr1, rfl, own1, bel⟩
                replace BA0 := BA0.new bel
                replace BA1 := BA1.new bel
                replace BO := BO.new bel
                replace own0 := own0.new bel
                have z_bel := bel.size
                replace bT2 := bT2.trans (bel.mono bT2.size)
                replace be := be.trans (bel.mono be.size)
                clear bel
                refine hK.out _ _ ⟨BA0.cell 0 _ rfl, BA0.cell 1 _ rfl, BA0.cell 2 _ rfl, BA1.cell 0 _ rfl, BA1.cell 1 _ rfl, BA1.cell 2 _ rfl⟩ (fun hHeld => ?_)
                clear hK K
                try simp only [Act.put, List.getElem_toArray, List.getElem_cons_zero, List.getElem_cons_succ, List.setIfInBounds_toArray, List.set_cons_zero, List.set_cons_succ]
                refine wpAnyH_ready (rs := [4]) (by kernel_rfl) (by simp) ?_
                refine AllReadyH.cons (o := _) rfl (fun K hK => ?_) AllReadyH.nil
                · go_simp
                  refine (HI.out _ _ _ _ _ own0.in_ (by omega) own1.in_ (by omega)).mono ?_
                  rintro e xr ⟨Y, rfl, ownr, bel⟩
                  obtain ⟨aH, cH, aiH, ciH, apH, cpH, rfl, ownr⟩ := ownr.shape
                  replace BA0 := BA0.new bel
                  replace BA1 := BA1.new bel
                  replace BO := BO.new bel
                  replace own0 := own0.new bel
                  replace own1 := own1.new bel
                  have z_bel := bel.size
                  replace bT2 := bT2.trans (bel.mono bT2.size)
                  replace be := be.trans (bel.mono be.size)
                  clear bel own0 own1
                  refine hK.out _ _ ⟨BA0.cell 0 _ rfl, BA0.cell 1 _ rfl, BA0.cell 2 _ rfl, BA1.cell 0 _ rfl, BA1.cell 1 _ rfl, BA1.cell 2 _ rfl⟩ (fun hHeld => ?_)
                  clear hK K
                  try simp only [Act.put, List.getElem_toArray, List.getElem_cons_zero, List.getElem_cons_succ, List.setIfInBounds_toArray, List.set_cons_zero, List.set_cons_succ]
                  refine wpAnyH_take (i := 5) (v := ?_) rfl (by kernel_rfl) (by kernel_rfl) (by kernel_rfl) (fun _ _ _ h => h) (Or.inl ⟨by rfl, ?_⟩) (by assumption) ?_
                  rotate_left
                  · (intro w hSw; (try dsimp only at hSw); go_simp; try with_reducible rfl)
                  try simp only [Act.put, List.getElem_toArray, List.getElem_cons_zero, List.getElem_cons_succ, List.setIfInBounds_toArray, List.set_cons_zero, List.set_cons_succ]
                  refine wpAnyH_take (i := 6) (v := ?_) rfl (by kernel_rfl) (by kernel_rfl) (by kernel_rfl) (fun _ _ _ h => h) (Or.inl ⟨by rfl, ?_⟩) (by assumption) ?_
                  rotate_left
                  · (intro w hSw; (try dsimp only at hSw); go_simp; try with_reducible rfl)
                  try simp only [Act.put, List.getElem_toArray, List.getElem_cons_zero, List.getElem_cons_succ, List.setIfInBounds_toArray, List.set_cons_zero, List.set_cons_succ]
                  refine wpAnyH_take (i := 7) (v := ?_) rfl (by kernel_rfl) (by kernel_rfl) (by kernel_rfl) (fun _ _ _ h => h) (Or.inl ⟨by rfl, ?_⟩) (by assumption) ?_
                  rotate_left
                  · (intro w hSw; (try dsimp only at hSw); go_simp; try with_reducible rfl)
                  try simp only [Act.put, List.getElem_toArray, List.getElem_cons_zero, List.getElem_cons_succ, List.setIfInBounds_toArray, List.set_cons_zero, List.set_cons_succ]
                  refine wpAnyH_ready (rs := [9]) (by kernel_rfl) (by simp) ?_
                  refine AllReadyH.cons (o := _) rfl (fun K hK => ?_) AllReadyH.nil
                  have c0' := BO.cell 0 _ rfl
                  have f0' := BO.frozen 0
                  have c1' := BO.cell 1 _ rfl
                  have f1' := BO.frozen 1
                  have c2' := BO.cell 2 _ rfl
                  have f2' := BO.frozen 2
                  go_simp
                  clear c0' c1' c2' f0' f1' f2'
                  generalize hW : World.setCell _ _ _ = WO
                  have BN : Bx WO go 29 #[.slice aH R.ends.length cH, .slice aiH R.ids.length ciH, .slice apH R.inputs.length cpH] := by rw [← hW]; exact ((BO.set 0 _).set 1 _).set 2 _
                  have frW : Fr (fun k => k = go) xr WO := by rw [← hW]; exact fr3 _ _ _ _ _
                  clear hW
                  replace ownr := (ownr.frBx BO frW).wide (lo' := w19.heap.size) (hi' := WO.heap.size) (by omega) (by have := frW.size; omega)
                  replace BA0 := BA0.fr frW (by omega)
                  replace BA1 := BA1.fr frW (by omega)
                  replace be := be.trans (frW.below (B := w19.heap.size) (fun k h1 h2 hc => by omega) be.size)
                  clear frW
                  refine hK.out _ _ ⟨BA0.cell 0 _ rfl, BA0.cell 1 _ rfl, BA0.cell 2 _ rfl, BA1.cell 0 _ rfl, BA1.cell 1 _ rfl, BA1.cell 2 _ rfl⟩ (fun hHeld => ?_)
                  clear hK K
                  try simp only [Act.put, List.getElem_toArray, List.getElem_cons_zero, List.getElem_cons_succ, List.setIfInBounds_toArray, List.set_cons_zero, List.set_cons_succ]
                  refine wpAnyH_ready (rs := [10]) (by kernel_rfl) (by simp) ?_
                  refine AllReadyH.cons (o := _) rfl (fun K hK => ?_) AllReadyH.nil
                  go_simp
                  refine hK.out _ _ ⟨BA0.cell 0 _ rfl, BA0.cell 1 _ rfl, BA0.cell 2 _ rfl, BA1.cell 0 _ rfl, BA1.cell 1 _ rfl, BA1.cell 2 _ rfl⟩ (fun hHeld => ?_)
                  clear hK K
                  try simp only [Act.put, List.getElem_toArray, List.getElem_cons_zero, List.getElem_cons_succ, List.setIfInBounds_toArray, List.set_cons_zero, List.set_cons_succ]
                  refine wpAnyH_done (by kernel_rfl) ?_ _
                  go_wp2_with fail
                  go_meet
                  exact ⟨go, aH, cH, aiH, ciH, apH, cpH, rfl, rfl, BN, ownr, be, zgo⟩
          · go_simp
            have BO := Bx.made wd 29 #[.slice none 0 0, .slice none 0 0, .slice none 0 0]
            have ba : Below wd.heap.size wd (wd.alloc (.cells #[.slice none 0 0, .slice none 0 0, .slice none 0 0] 29)) := (by repeat (first | exact Below.refl _ _ | assumption | refine Below.alloc ?_ (by first | (simp; done) | (simp; omega) | omega) _ | refine Below.setCell ?_ (by first | (simp; done) | (simp; omega) | omega) _ | refine Below.drew ?_ | refine Below.drewN ?_ _))
            replace BA0 := BA0.new ba
            replace BA1 := BA1.new ba
            have z_ba := ba.size
            replace bT2 := bT2.trans (ba.mono bT2.size)
            replace be := be.trans (ba.mono be.size)
            obtain ⟨go, hgo⟩ : ∃ g, g = wd.heap.size := ⟨_, rfl⟩
            rw [← hgo] at BO ⊢
            have zgo : w19.heap.size ≤ go := by omega
            clear ba hgo
            generalize wd.alloc (.cells #[.slice none 0 0, .slice none 0 0, .slice none 0 0] 29) = xo at *
            refine hK.out _ _ ⟨BA0.cell 0 _ rfl, BA0.cell 1 _ rfl, BA0.cell 2 _ rfl, BA1.cell 0 _ rfl, BA1.cell 1 _ rfl, BA1.cell 2 _ rfl⟩ (fun hHeld => ?_)
            clear hK K
            try simp only [Act.put, List.getElem_toArray, List.getElem_cons_zero, List.getElem_cons_succ, List.setIfInBounds_toArray, List.set_cons_zero, List.set_cons_succ]
            refine wpAnyH_ready (rs := [1]) (by kernel_rfl) (by simp) ?_
            refine AllReadyH.cons (o := _) rfl (fun K hK => ?_) AllReadyH.nil
            · go_simp
              refine (toNetwork_any _ N0 _ _ (HV0.out.below bT2) bT2.size hS0).mono ?_
              rintro e x0 ⟨vr0, rfl, own0, bel⟩
              replace BA0 := BA0.new bel
              replace BA1 := BA1.new bel
              replace BO := BO.new bel
              have z_bel := bel.size
              replace bT2 := bT2.trans (bel.mono bT2.size)
              replace be := be.trans (bel.mono be.size)
              clear bel
              refine hK.out _ _ ⟨BA0.cell 0 _ rfl, BA0.cell 1 _ rfl, BA0.cell 2 _ rfl, BA1.cell 0 _ rfl, BA1.cell 1 _ rfl, BA1.cell 2 _ rfl⟩ (fun hHeld => ?_)
              clear hK K
              try simp only [Act.put, List.getElem_toArray, List.getElem_cons_zero, List.getElem_cons_succ, List.setIfInBounds_toArray, List.set_cons_zero, List.set_cons_succ]
              refine wpAnyH_ready (rs := [3]) (by kernel_rfl) (by simp) ?_
              refine AllReadyH.cons (o := _) rfl (fun K hK => ?_) AllReadyH.nil
              · go_simp
                refine (toNetwork_any _ N1 _ _ (HV1.out.below bT2) bT2.size hS1).mono ?_
                rintro e x1 ⟨vr1, rfl, own1, bel⟩
                replace BA0 := BA0.new bel
                replace BA1 := BA1.new bel
                replace BO := BO.new bel
                replace own0 := own0.new bel
                have z_bel := bel.size
                replace bT2 := bT2.trans (bel.mono bT2.size)
                replace be := be.trans (bel.mono be.size)
                clear bel
                refine hK.out _ _ ⟨BA0.cell 0 _ rfl, BA0.cell 1 _ rfl, BA0.cell 2 _ rfl, BA1.cell 0 _ rfl, BA1.cell 1 _ rfl, BA1.cell 2 _ rfl⟩ (fun hHeld => ?_)
                clear hK K
                try simp only [Act.put, List.getElem_toArray, List.getElem_cons_zero, List.getElem_cons_succ, List.setIfInBounds_toArray, List.set_cons_zero, List.set_cons_succ]
                refine wpAnyH_ready (rs := [4]) (by kernel_rfl) (by simp) ?_
                refine AllReadyH.cons (o := _) rfl (fun K hK => ?_) AllReadyH.nil
                · go_simp
                  refine (HI.out _ _ _ _ _ own0.in_ (by omega) own1.in_ (by omega)).mono ?_
                  rintro e xr ⟨Y, rfl, ownr, bel⟩
                  obtain ⟨aH, cH, aiH, ciH, apH, cpH, rfl, ownr⟩ := ownr.shape
                  replace BA0 := BA0.new bel
                  replace BA1 := BA1.new bel
                  replace BO := BO.new bel
                  replace own0 := own0.new bel
                  replace own1 := own1.new bel
                  have z_bel := bel.size
                  replace bT2 := bT2.trans (bel.mono bT2.size)
                  replace be := be.trans (bel.mono be.size)
                  clear bel own0 own1
                  refine hK.out _ _ ⟨BA0.cell 0 _ rfl, BA0.cell 1 _ rfl, BA0.cell 2 _ rfl, BA1.cell 0 _ rfl, BA1.cell 1 _ rfl, BA1.cell 2 _ rfl⟩ (fun hHeld => ?_)
                  clear hK K
                  try simp only [Act.put, List.getElem_toArray, List.getElem_cons_zero, List.getElem_cons_succ, List.setIfInBounds_toArray, List.set_cons_zero, List.set_cons_succ]
                  refine wpAnyH_take (i := 5) (v := ?_) rfl (by kernel_rfl) (by kernel_rfl) (by kernel_rfl) (fun _ _ _ h => h) (Or.inl ⟨by rfl, ?_⟩) (by assumption) ?_
                  rotate_left
                  · (intro w hSw; (try dsimp only at hSw); go_simp; try with_reducible rfl)
                  try simp only [Act.put, List.getElem_toArray, List.getElem_cons_zero, List.getElem_cons_succ, List.setIfInBounds_toArray, List.set_cons_zero, List.set_cons_succ]
                  refine wpAnyH_take (i := 6) (v := ?_) rfl (by kernel_rfl) (by kernel_rfl) (by kernel_rfl) (fun _ _ _ h => h) (Or.inl ⟨by rfl, ?_⟩) (by assumption) ?_
                  rotate_left
                  · (intro w hSw; (try dsimp only at hSw); go_simp; try with_reducible rfl)
                  try simp only [Act.put, List.getElem_toArray, List.getElem_cons_zero, List.getElem_cons_succ, List.setIfInBounds_toArray, List.set_cons_zero, List.set_cons_succ]
                  refine wpAnyH_take (i := 7) (v := ?_) rfl (by kernel_rfl) (by kernel_rfl) (by kernel_rfl) (fun _ _ _ h => h) (Or.inl ⟨by rfl, ?_⟩) (by assumption) ?_
                  rotate_left
                  · (intro w hSw; (try dsimp only at hSw); go_simp; try with_reducible rfl)
                  try simp only [Act.put, List.getElem_toArray, List.getElem_cons_zero, List.getElem_cons_succ, List.setIfInBounds_toArray, List.set_cons_zero, List.set_cons_succ]
                  refine wpAnyH_ready (rs := [9]) (by kernel_rfl) (by simp) ?_
                  refine AllReadyH.cons (o := _) rfl (fun K hK => ?_) AllReadyH.nil
                  have c0' := BO.cell 0 _ rfl
                  have f0' := BO.frozen 0
                  have c1' := BO.cell 1 _ rfl
                  have f1' := BO.frozen 1
                  have c2' := BO.cell 2 _ rfl
                  have f2' := BO.frozen 2
                  go_simp
                  clear c0' c1' c2' f0' f1' f2'
                  generalize hW : World.setCell _ _ _ = WO
                  have BN : Bx WO go 29 #[.slice aH R.ends.length cH, .slice aiH R.ids.length ciH, .slice apH R.inputs.length cpH] := by rw [← hW]; exact ((BO.set 0 _).set 1 _).set 2 _
                  have frW : Fr (fun k => k = go) xr WO := by rw [← hW]; exact fr3 _ _ _ _ _
                  clear hW
                  replace ownr := (ownr.frBx BO frW).wide (lo' := w19.heap.size) (hi' := WO.heap.size) (by omega) (by have := frW.size; omega)
                  replace BA0 := BA0.fr frW (by omega)
                  replace BA1 := BA1.fr frW (by omega)
                  replace be := be.trans (frW.below (B := w19.heap.size) (fun k h1 h2 hc => by omega) be.size)
                  clear frW
                  refine hK.out _ _ ⟨BA0.cell 0 _ rfl, BA0.cell 1 _ rfl, BA0.cell 2 _ rfl, BA1.cell 0 _ rfl, BA1.cell 1 _ rfl, BA1.cell 2 _ rfl⟩ (fun hHeld => ?_)
                  clear hK K
                  try simp only [Act.put, List.getElem_toArray, List.getElem_cons_zero, List.getElem_cons_succ, List.setIfInBounds_toArray, List.set_cons_zero, List.set_cons_succ]
                  refine wpAnyH_ready (rs := [10]) (by kernel_rfl) (by simp) ?_
                  refine AllReadyH.cons (o := _) rfl (fun K hK => ?_) AllReadyH.nil
                  go_simp
                  refine hK.out _ _ ⟨BA0.cell 0 _ rfl, BA0.cell 1 _ rfl, BA0.cell 2 _ rfl, BA1.cell 0 _ rfl, BA1.cell 1 _ rfl, BA1.cell 2 _ rfl⟩ (fun hHeld => ?_)
                  clear hK K
                  try simp only [Act.put, List.getElem_toArray, List.getElem_cons_zero, List.getElem_cons_succ, List.setIfInBounds_toArray, List.set_cons_zero, List.set_cons_succ]
                  refine wpAnyH_done (by kernel_rfl) ?_ _
                  go_wp2_with fail
                  go_meet
                  exact ⟨go, aH, cH, aiH, ciH, apH, cpH, rfl, rfl, BN, ownr, be, zgo⟩
        case rest =>
          obtain ⟨gH, aH, cH, aiH, ciH, apH, cpH, rfl, rfl, BH, ownh, bel, zgH⟩ := hcut
          generalize wc = w23 at *
          replace ownw := ownw.new bel
          replace BW := BW.new bel
          replace BG := BG.new bel
          replace owngm := owngm.new bel
          have z28 := bel.size
          replace bT := bT.trans (bel.mono bT.size)
          clear bel BA0 BA1
          have qBW0 := BW.cell 0 _ rfl
          have qBW1 := BW.cell 1 _ rfl
          have qBW2 := BW.cell 2 _ rfl
          have qBH0 := BH.cell 0 _ rfl
          have qBH1 := BH.cell 1 _ rfl
          have qBH2 := BH.cell 2 _ rfl
          go_wp2_with fail
          clear qBW0 qBW1 qBW2 qBH0 qBH1 qBH2 BH
          refine (eqNetwork_any _ _ R _ _ _ _ _ ownh ownw (by omega) (by omega) hR).mono ?_
          rintro e w24 ⟨rfl, bel⟩
          replace ownw := ownw.new bel
          replace BW := BW.new bel
          replace BG := BG.new bel
          replace owngm := owngm.new bel
          replace ownh := ownh.new bel
          have z31 := bel.size
          replace bT := bT.trans (bel.mono bT.size)
          clear bel
          have qBG0 := BG.cell 0 _ rfl
          have qBG1 := BG.cell 1 _ rfl
          have qBG2 := BG.cell 2 _ rfl
          go_wp2_with fail
          clear qBG0 qBG1 qBG2
          refine (heldNetwork_any _ R 1 _ _ _ owngm (by omega) hR (by omega)).mono ?_
          rintro e w25 ⟨rfl, bel⟩
          replace ownw := ownw.new bel
          replace BW := BW.new bel
          replace BG := BG.new bel
          replace owngm := owngm.new bel
          replace ownh := ownh.new bel
          have z32 := bel.size
          replace bT := bT.trans (bel.mono bT.size)
          clear bel
          go_wp2_with fail
          go_ret
          exact ⟨rfl, bT⟩
end Go.Proofs.Ytlooinhdehkcdaa
