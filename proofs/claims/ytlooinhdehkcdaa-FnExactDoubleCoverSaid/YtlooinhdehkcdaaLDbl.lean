/- Law: DoubleCover. -/
import Derived.Test.YtlooinhdehkcdaaDbl
import Derived.Test.YtlooinhdehkcdaaSz
import Derived.Deep.RegionHeld3
namespace Go.Proofs.Ytlooinhdehkcdaa
open Go.RowKit
set_option linter.unusedVariables false
set_option linter.unusedSimpArgs false
set_option maxRecDepth 100000 in
set_option maxHeartbeats 2000000 in
theorem FnExactDoubleCover_walk (v0 : Value) (N0 : Net) (w : World) (hv0 : NetRd w w.heap.size v0 N0) (hm0 : NetLens N0) :
    Calls Try.prog 4 #[v0] w fun e w' => e = .returned (.bool true) ∧ Below w.heap.size w w' := by
  have HV0 := Lib.hid hv0
  obtain ⟨a0, c0, vs0, ai0, ci0, ap0, cp0, rfl, h1, h2, h3⟩ := hv0
  clear h1 h2 h3
  have BA0 := Bx.made w 25 #[.slice a0 N0.ends.length c0, .slice ai0 N0.ids.length ci0, .slice ap0 N0.inputs.length cp0]
  have b0 : Below w.heap.size w (w.alloc (.cells #[.slice a0 N0.ends.length c0, .slice ai0 N0.ids.length ci0, .slice ap0 N0.inputs.length cp0] 25)) := (by repeat (first | exact Below.refl _ _ | assumption | refine Below.alloc ?_ (by first | (simp; done) | (simp; omega) | omega) _ | refine Below.setCell ?_ (by first | (simp; done) | (simp; omega) | omega) _ | refine Below.drew ?_ | refine Below.drewN ?_ _))
  by_cases hsm0 : netSz N0 ≤ 1048576
  case neg =>
    go_enter Try.func4, Try.ntmps4
    go_wp2_with fail
    refine (szNetworkL_any (1048576) _ N0 _ _ (HV0.out.below b0) b0.size hm0 (by omega)).mono ?_
    rintro e ws0 ⟨rfl, bel1⟩
    have bT0 := b0.trans (bel1.mono b0.size)
    rw [szL_no hsm0]
    clear bel1
    go_wp2_with fail
    go_ret
    exact ⟨rfl, bT0⟩
  have HSM0 := Lib.hid hsm0
  have hS0 : NetSmall N0 := by have h9 := HSM0.out; unfold NetSmall; unfold netSz at h9; omega
  clear hsm0
  have HS : Hid (∀ X V0 B0, NetIn X B0 V0 N0 → B0 ≤ X.heap.size → Calls Try.prog 17 #[V0] X (PostN (dcRR N0) (dcOk N0) X)) := Lib.hid fun X V0 B0 n0 b0 => dblS_any V0 N0 X B0 n0 b0 hS0
  have HI : Hid (∀ X V0 B0, NetIn X B0 V0 N0 → B0 ≤ X.heap.size → Calls Try.prog 18 #[V0] X (PostN (dcRR N0) (dcOk N0) X)) := Lib.hid fun X V0 B0 n0 b0 => dbl_any V0 N0 X B0 n0 b0 hS0
  have hR : NetSmall (dcRR N0) := dcRR_sm
  generalize dcRR N0 = R at *
  generalize dcOk N0 = ok at *
  go_enter Try.func4, Try.ntmps4
  go_wp2_with fail
  have bT := b0
  have lA0 := BA0.lt
  have z1 : w.heap.size + 1 ≤ (w.alloc (.cells #[.slice a0 N0.ends.length c0, .slice ai0 N0.ids.length ci0, .slice ap0 N0.inputs.length cp0] 25)).heap.size := by simp
  generalize (w.alloc (.cells #[.slice a0 N0.ends.length c0, .slice ai0 N0.ids.length ci0, .slice ap0 N0.inputs.length cp0] 25)) = w1 at *
  refine (szNetworkL_any (1048576) _ N0 _ _ (HV0.out.below bT) bT.size hm0 (by omega)).mono ?_
  rintro e w2 ⟨rfl, bel1⟩
  rw [szL_yes HSM0.out]
  replace BA0 := BA0.new bel1
  have z2 := bel1.size
  replace bT := bT.trans (bel1.mono bT.size)
  clear bel1
  have hnn : ¬ (((1048576 - netSz N0 : Nat) : Int) < 0) := by omega
  clear b0
  have qBA00 := BA0.cell 0 _ rfl
  have qBA01 := BA0.cell 1 _ rfl
  have qBA02 := BA0.cell 2 _ rfl
  go_wp2_with fail
  clear qBA00 qBA01 qBA02
  refine (toNetwork_any _ N0 _ _ (HV0.out.below bT) bT.size hS0).mono ?_
  rintro e w3 ⟨vrs0, rfl, owns0, bel⟩
  replace BA0 := BA0.new bel
  have z3 := bel.size
  replace bT := bT.trans (bel.mono bT.size)
  clear bel
  go_wp2_with fail
  refine (HS.out _ _ _ owns0.in_ (by omega)).mono ?_
  rintro e w4 ⟨W, rfl, ownw, bel⟩
  obtain ⟨aW, cW, aiW, ciW, apW, cpW, rfl, ownw⟩ := ownw.shape
  replace BA0 := BA0.new bel
  replace owns0 := owns0.new bel
  have z4 := bel.size
  replace bT := bT.trans (bel.mono bT.size)
  clear bel
  clear owns0
  have BW := Bx.made w4 29 #[.slice aW R.ends.length cW, .slice aiW R.ids.length ciW, .slice apW R.inputs.length cpW]
  have bx : Below w4.heap.size w4 (w4.alloc (.cells #[.slice aW R.ends.length cW, .slice aiW R.ids.length ciW, .slice apW R.inputs.length cpW] 29)) := (by repeat (first | exact Below.refl _ _ | assumption | refine Below.alloc ?_ (by first | (simp; done) | (simp; omega) | omega) _ | refine Below.setCell ?_ (by first | (simp; done) | (simp; omega) | omega) _ | refine Below.drew ?_ | refine Below.drewN ?_ _))
  have zx : w4.heap.size + 1 ≤ (w4.alloc (.cells #[.slice aW R.ends.length cW, .slice aiW R.ids.length ciW, .slice apW R.inputs.length cpW] 29)).heap.size := by simp
  replace BA0 := BA0.new bx
  replace ownw := ownw.new bx
  have z5 := bx.size
  replace bT := bT.trans (bx.mono bT.size)
  have qBA00 := BA0.cell 0 _ rfl
  have qBA01 := BA0.cell 1 _ rfl
  have qBA02 := BA0.cell 2 _ rfl
  go_wp2_with fail
  clear qBA00 qBA01 qBA02
  generalize w4.alloc (.cells #[.slice aW R.ends.length cW, .slice aiW R.ids.length ciW, .slice apW R.inputs.length cpW] 29) = w5 at *
  clear bx
  have z6 := zx
  clear zx
  refine (toNetwork_any _ N0 _ _ (HV0.out.below bT) bT.size hS0).mono ?_
  rintro e w6 ⟨vx0, rfl, ownx0, bel⟩
  replace BA0 := BA0.new bel
  replace ownw := ownw.new bel
  replace BW := BW.new bel
  have z7 := bel.size
  replace bT := bT.trans (bel.mono bT.size)
  clear bel
  obtain ⟨aX0, cX0, aiX0, ciX0, apX0, cpX0, rfl, ownx0⟩ := ownx0.shape
  have BX0 := Bx.made w6 29 #[.slice aX0 N0.ends.length cX0, .slice aiX0 N0.ids.length ciX0, .slice apX0 N0.inputs.length cpX0]
  have bx : Below w6.heap.size w6 (w6.alloc (.cells #[.slice aX0 N0.ends.length cX0, .slice aiX0 N0.ids.length ciX0, .slice apX0 N0.inputs.length cpX0] 29)) := (by repeat (first | exact Below.refl _ _ | assumption | refine Below.alloc ?_ (by first | (simp; done) | (simp; omega) | omega) _ | refine Below.setCell ?_ (by first | (simp; done) | (simp; omega) | omega) _ | refine Below.drew ?_ | refine Below.drewN ?_ _))
  have zx : w6.heap.size + 1 ≤ (w6.alloc (.cells #[.slice aX0 N0.ends.length cX0, .slice aiX0 N0.ids.length ciX0, .slice apX0 N0.inputs.length cpX0] 29)).heap.size := by simp
  replace BA0 := BA0.new bx
  replace ownw := ownw.new bx
  replace BW := BW.new bx
  replace ownx0 := ownx0.new bx
  have z8 := bx.size
  replace bT := bT.trans (bx.mono bT.size)
  go_wp2_with fail
  generalize w6.alloc (.cells #[.slice aX0 N0.ends.length cX0, .slice aiX0 N0.ids.length ciX0, .slice apX0 N0.inputs.length cpX0] 29) = w7 at *
  clear bx
  have z9 := zx
  clear zx
  refine (HI.out _ _ _ ownx0.in_ (by omega)).mono ?_
  rintro e w8 ⟨G, rfl, owng, bel⟩
  obtain ⟨aG, cG, aiG, ciG, apG, cpG, rfl, owng⟩ := owng.shape
  replace BA0 := BA0.new bel
  replace ownw := ownw.new bel
  replace BW := BW.new bel
  replace ownx0 := ownx0.new bel
  replace BX0 := BX0.new bel
  have z10 := bel.size
  replace bT := bT.trans (bel.mono bT.size)
  clear bel
  have hbb : (ok != ok) = false := by simp
  have BG := Bx.made w8 29 #[.slice aG R.ends.length cG, .slice aiG R.ids.length ciG, .slice apG R.inputs.length cpG]
  have bx : Below w8.heap.size w8 (w8.alloc (.cells #[.slice aG R.ends.length cG, .slice aiG R.ids.length ciG, .slice apG R.inputs.length cpG] 29)) := (by repeat (first | exact Below.refl _ _ | assumption | refine Below.alloc ?_ (by first | (simp; done) | (simp; omega) | omega) _ | refine Below.setCell ?_ (by first | (simp; done) | (simp; omega) | omega) _ | refine Below.drew ?_ | refine Below.drewN ?_ _))
  have zx : w8.heap.size + 1 ≤ (w8.alloc (.cells #[.slice aG R.ends.length cG, .slice aiG R.ids.length ciG, .slice apG R.inputs.length cpG] 29)).heap.size := by simp
  replace BA0 := BA0.new bx
  replace ownw := ownw.new bx
  replace BW := BW.new bx
  replace ownx0 := ownx0.new bx
  replace BX0 := BX0.new bx
  replace owng := owng.new bx
  have z11 := bx.size
  replace bT := bT.trans (bx.mono bT.size)
  have qBW0 := BW.cell 0 _ rfl
  have qBW1 := BW.cell 1 _ rfl
  have qBW2 := BW.cell 2 _ rfl
  go_wp2_with fail
  clear qBW0 qBW1 qBW2
  generalize w8.alloc (.cells #[.slice aG R.ends.length cG, .slice aiG R.ids.length ciG, .slice apG R.inputs.length cpG] 29) = w9 at *
  clear bx
  have z12 := zx
  clear zx
  refine (eqNetwork_any _ _ R _ _ _ _ _ owng ownw (by omega) (by omega) hR).mono ?_
  rintro e w10 ⟨rfl, bel⟩
  replace BA0 := BA0.new bel
  replace ownw := ownw.new bel
  replace BW := BW.new bel
  replace ownx0 := ownx0.new bel
  replace BX0 := BX0.new bel
  replace owng := owng.new bel
  replace BG := BG.new bel
  have z13 := bel.size
  replace bT := bT.trans (bel.mono bT.size)
  clear bel
  go_wp2_with fail
  have HSS : Hid (∀ X, Below w10.heap.size w10 X → X.cell? ⟨w.heap.size, 0, none⟩ = some (.slice a0 N0.ends.length c0) ∧ X.cell? ⟨w.heap.size, 1, none⟩ = some (.slice ai0 N0.ids.length ci0) ∧ X.cell? ⟨w.heap.size, 2, none⟩ = some (.slice ap0 N0.inputs.length cp0) ∧ X.cell? ⟨w6.heap.size, 0, none⟩ = some (.slice aX0 N0.ends.length cX0) ∧ X.cell? ⟨w6.heap.size, 1, none⟩ = some (.slice aiX0 N0.ids.length ciX0) ∧ X.cell? ⟨w6.heap.size, 2, none⟩ = some (.slice apX0 N0.inputs.length cpX0) ∧ Below w10.heap.size w10 X) := fun X bX => ⟨(BA0.new bX).cell 0 _ rfl, (BA0.new bX).cell 1 _ rfl, (BA0.new bX).cell 2 _ rfl, (BX0.new bX).cell 0 _ rfl, (BX0.new bX).cell 1 _ rfl, (BX0.new bX).cell 2 _ rfl, bX⟩
  have HT : Hid (∀ X, Below w10.heap.size w10 X → Calls Try.prog 12 #[.agg #[.slice a0 N0.ends.length c0, .slice ai0 N0.ids.length ci0, .slice ap0 N0.inputs.length cp0]] X fun e w' => ∃ v', e = .returned v' ∧ NetAt w' X.heap.size w'.heap.size v' N0 ∧ Below w10.heap.size w10 w') := fun X bX => (toNetwork_any _ N0 _ _ (HV0.out.below (bT.trans (bX.mono bT.size))) (Nat.le_trans bT.size bX.size) hS0).mono fun e w' ⟨v', h1, h2, h3⟩ => ⟨v', h1, h2, bX.trans (h3.mono bX.size)⟩
  have HE : Hid (∀ X v6 lo, Below w10.heap.size w10 X → NetAt X lo X.heap.size v6 N0 → Calls Try.prog 14 #[.agg #[.slice aX0 N0.ends.length cX0, .slice aiX0 N0.ids.length ciX0, .slice apX0 N0.inputs.length cpX0], v6] X fun e w' => e = .returned (.bool true) ∧ Below w10.heap.size w10 w') := fun X v6 lo bX hX => (eqNetwork_any _ _ N0 _ _ _ _ _ (ownx0.new bX) hX (by have := bX.size; omega) (Nat.le_refl _) hS0).mono fun e w' ⟨h1, h2⟩ => ⟨h1, bX.trans (h2.mono bX.size)⟩
  have bd : Below w10.heap.size w10 w10.drew := (Below.refl _ _).drew
  go_region_held3 (fun X => X.cell? ⟨w.heap.size, 0, none⟩ = some (.slice a0 N0.ends.length c0) ∧ X.cell? ⟨w.heap.size, 1, none⟩ = some (.slice ai0 N0.ids.length ci0) ∧ X.cell? ⟨w.heap.size, 2, none⟩ = some (.slice ap0 N0.inputs.length cp0) ∧ X.cell? ⟨w6.heap.size, 0, none⟩ = some (.slice aX0 N0.ends.length cX0) ∧ X.cell? ⟨w6.heap.size, 1, none⟩ = some (.slice aiX0 N0.ids.length ciX0) ∧ X.cell? ⟨w6.heap.size, 2, none⟩ = some (.slice apX0 N0.inputs.length cpX0) ∧ Below w10.heap.size w10 X) (exact HSS.out _ (by assumption)) (first | (go_at_call 12; refine (HT.out _ (by first | assumption | (go_split_ands; assumption))).mono ?_; rintro e wa ⟨va, rfl, owna, bela⟩) | (go_at_call 14; refine (HE.out _ _ _ (by assumption) (by assumption)).mono ?_; rintro e wb0 ⟨rfl, belb⟩))
  all_goals
    clear HSS HT HE bd
    replace BA0 := BA0.new belb
    replace ownw := ownw.new belb
    replace BW := BW.new belb
    replace ownx0 := ownx0.new belb
    replace BX0 := BX0.new belb
    replace owng := owng.new belb
    replace BG := BG.new belb
    have z14 := belb.size
    replace bT := bT.trans (belb.mono bT.size)
    clear belb
    have qBX00 := BX0.cell 0 _ rfl
    have qBX01 := BX0.cell 1 _ rfl
    have qBX02 := BX0.cell 2 _ rfl
    go_wp2_with fail
    clear qBX00 qBX01 qBX02
    refine (markNetwork_any _ N0 (1) _ _ _ ownx0 (by omega) hS0 (by  omega)).mono ?_
    rintro e w11 ⟨rfl, hn9, fr⟩
    clear hn9
    clear ownx0 BX0
    replace BA0 := BA0.fr fr (by omega)
    replace ownw := ownw.fr fr (fun k h1 h2 hc => by omega)
    replace BW := BW.fr fr (by omega)
    replace owng := owng.fr fr (fun k h1 h2 hc => by omega)
    replace BG := BG.fr fr (by omega)
    have z15 := fr.size
    replace bT := bT.trans (fr.below (B := w.heap.size) (fun k h1 h2 hc => by omega) bT.size)
    clear fr
    have d9 : decide (((1 + netTot N0 : Nat) : Int) < 0) = false := decide_eq_false (by omega)
    have qBG0 := BG.cell 0 _ rfl
    have qBG1 := BG.cell 1 _ rfl
    have qBG2 := BG.cell 2 _ rfl
    have qBW0 := BW.cell 0 _ rfl
    have qBW1 := BW.cell 1 _ rfl
    have qBW2 := BW.cell 2 _ rfl
    go_wp2_with fail
    clear qBG0 qBG1 qBG2 qBW0 qBW1 qBW2
    refine (eqNetwork_any _ _ R _ _ _ _ _ owng ownw (by omega) (by omega) hR).mono ?_
    rintro e w12 ⟨rfl, bel⟩
    replace BA0 := BA0.new bel
    replace ownw := ownw.new bel
    replace BW := BW.new bel
    replace owng := owng.new bel
    replace BG := BG.new bel
    have z16 := bel.size
    replace bT := bT.trans (bel.mono bT.size)
    clear bel
    have qBG0 := BG.cell 0 _ rfl
    have qBG1 := BG.cell 1 _ rfl
    have qBG2 := BG.cell 2 _ rfl
    go_wp2_with fail
    clear qBG0 qBG1 qBG2
    refine (markNetwork_any _ R 1 _ _ _ owng (by omega) hR (by omega)).mono ?_
    rintro e w13 ⟨rfl, owngm, fr⟩
    clear owng
    replace BA0 := BA0.fr fr (by omega)
    replace ownw := ownw.fr fr (fun k h1 h2 hc => by omega)
    replace BW := BW.fr fr (by omega)
    replace BG := BG.fr fr (by omega)
    have z17 := fr.size
    replace bT := bT.trans (fr.below (B := w.heap.size) (fun k h1 h2 hc => by omega) bT.size)
    clear fr
    have qBG0 := BG.cell 0 _ rfl
    have qBG1 := BG.cell 1 _ rfl
    have qBG2 := BG.cell 2 _ rfl
    go_wp2_with fail
    clear qBG0 qBG1 qBG2
    refine (heldNetwork_any _ R 1 _ _ _ owngm (by omega) hR (by omega)).mono ?_
    rintro e w14 ⟨rfl, bel⟩
    replace BA0 := BA0.new bel
    replace ownw := ownw.new bel
    replace BW := BW.new bel
    replace BG := BG.new bel
    replace owngm := owngm.new bel
    have z18 := bel.size
    replace bT := bT.trans (bel.mono bT.size)
    clear bel
    have hlt : ¬ (((1 + netTot R : Nat) : Int) < 0) := by omega
    have qBA00 := BA0.cell 0 _ rfl
    have qBA01 := BA0.cell 1 _ rfl
    have qBA02 := BA0.cell 2 _ rfl
    go_wp2_with fail
    clear qBA00 qBA01 qBA02
    refine (toNetwork_any _ N0 _ _ (HV0.out.below bT) bT.size hS0).mono ?_
    rintro e w15 ⟨vrh0, rfl, ownh0, bel⟩
    replace BA0 := BA0.new bel
    replace ownw := ownw.new bel
    replace BW := BW.new bel
    replace BG := BG.new bel
    replace owngm := owngm.new bel
    have z19 := bel.size
    replace bT := bT.trans (bel.mono bT.size)
    clear bel
    go_wp2_with fail
    clear BA0
    refine (HI.out _ _ _ ownh0.in_ (by omega)).mono ?_
    rintro e w16 ⟨H, rfl, ownh, bel⟩
    obtain ⟨aH, cH, aiH, ciH, apH, cpH, rfl, ownh⟩ := ownh.shape
    replace ownw := ownw.new bel
    replace BW := BW.new bel
    replace BG := BG.new bel
    replace owngm := owngm.new bel
    replace ownh0 := ownh0.new bel
    have z20 := bel.size
    replace bT := bT.trans (bel.mono bT.size)
    clear bel
    clear ownh0
    have BH := Bx.made w16 29 #[.slice aH R.ends.length cH, .slice aiH R.ids.length ciH, .slice apH R.inputs.length cpH]
    have bx : Below w16.heap.size w16 (w16.alloc (.cells #[.slice aH R.ends.length cH, .slice aiH R.ids.length ciH, .slice apH R.inputs.length cpH] 29)) := (by repeat (first | exact Below.refl _ _ | assumption | refine Below.alloc ?_ (by first | (simp; done) | (simp; omega) | omega) _ | refine Below.setCell ?_ (by first | (simp; done) | (simp; omega) | omega) _ | refine Below.drew ?_ | refine Below.drewN ?_ _))
    have zx : w16.heap.size + 1 ≤ (w16.alloc (.cells #[.slice aH R.ends.length cH, .slice aiH R.ids.length ciH, .slice apH R.inputs.length cpH] 29)).heap.size := by simp
    replace ownw := ownw.new bx
    replace BW := BW.new bx
    replace BG := BG.new bx
    replace owngm := owngm.new bx
    replace ownh := ownh.new bx
    have z21 := bx.size
    replace bT := bT.trans (bx.mono bT.size)
    have qBW0 := BW.cell 0 _ rfl
    have qBW1 := BW.cell 1 _ rfl
    have qBW2 := BW.cell 2 _ rfl
    go_wp2_with fail
    clear qBW0 qBW1 qBW2
    generalize w16.alloc (.cells #[.slice aH R.ends.length cH, .slice aiH R.ids.length ciH, .slice apH R.inputs.length cpH] 29) = w17 at *
    clear bx
    have z22 := zx
    clear zx
    clear BH
    refine (eqNetwork_any _ _ R _ _ _ _ _ ownh ownw (by omega) (by omega) hR).mono ?_
    rintro e w18 ⟨rfl, bel⟩
    replace ownw := ownw.new bel
    replace BW := BW.new bel
    replace BG := BG.new bel
    replace owngm := owngm.new bel
    replace ownh := ownh.new bel
    have z23 := bel.size
    replace bT := bT.trans (bel.mono bT.size)
    clear bel
    have qBG0 := BG.cell 0 _ rfl
    have qBG1 := BG.cell 1 _ rfl
    have qBG2 := BG.cell 2 _ rfl
    go_wp2_with fail
    clear qBG0 qBG1 qBG2
    refine (heldNetwork_any _ R 1 _ _ _ owngm (by omega) hR (by omega)).mono ?_
    rintro e w19 ⟨rfl, bel⟩
    replace ownw := ownw.new bel
    replace BW := BW.new bel
    replace BG := BG.new bel
    replace owngm := owngm.new bel
    replace ownh := ownh.new bel
    have z24 := bel.size
    replace bT := bT.trans (bel.mono bT.size)
    clear bel
    go_wp2_with fail
    go_ret
    exact ⟨rfl, bT⟩
end Go.Proofs.Ytlooinhdehkcdaa
