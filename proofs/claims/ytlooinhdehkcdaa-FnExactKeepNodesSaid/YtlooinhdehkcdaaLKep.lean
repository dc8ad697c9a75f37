/- Law: KeepNodes. -/
import Derived.Test.YtlooinhdehkcdaaKepI
import Derived.Test.YtlooinhdehkcdaaSz
import Derived.Deep.RegionHeld3
namespace Go.Proofs.Ytlooinhdehkcdaa
open Go.RowKit
set_option linter.unusedVariables false
set_option linter.unusedSimpArgs false
set_option maxRecDepth 100000 in
set_option maxHeartbeats 1600000 in
theorem FnExactKeepNodes_walk (v : Value) (N : Net) (al : Option Addr) (capl : Nat) (l : List Int) (w : World) (hv : NetRd w w.heap.size v N) (hm : NetLens N) (ha : RdI w w.heap.size al l) (hI : I64s l) (hml : l.length ≤ maxLen) :
    Calls Try.prog 7 #[v, .slice al l.length capl] w fun e w' => e = .returned (.bool true) ∧ Below w.heap.size w w' := by
  unfold maxLen at hml
  have HV := Lib.hid hv
  obtain ⟨a, c, vs, ai, ci, ap, cp, rfl, h1, h2, h3⟩ := hv
  clear h1 h2 h3
  have BA := Bx.made w 25 #[.slice a N.ends.length c, .slice ai N.ids.length ci, .slice ap N.inputs.length cp]
  have b0 : Below w.heap.size w (w.alloc (.cells #[.slice a N.ends.length c, .slice ai N.ids.length ci, .slice ap N.inputs.length cp] 25)) := (by repeat (first | exact Below.refl _ _ | assumption | refine Below.alloc ?_ (by first | (simp; done) | (simp; omega) | omega) _ | refine Below.setCell ?_ (by first | (simp; done) | (simp; omega) | omega) _ | refine Below.drew ?_ | refine Below.drewN ?_ _))
  by_cases hlen : l.length ≤ 1048576
  case neg =>
    go_enter Try.func7, Try.ntmps7
    go_wp2_with fail
    go_ret
    exact ⟨rfl, b0⟩
  by_cases hsm : netSz N ≤ 1048576
  case neg =>
    go_enter Try.func7, Try.ntmps7
    go_wp2_with fail
    refine (szNetwork_any _ N _ _ (HV.out.below b0) b0.size hm).mono ?_
    rintro e w1 ⟨rfl, bel1⟩
    rw [szL_no hsm]
    go_wp2_with fail
    go_ret
    exact ⟨rfl, b0.trans (bel1.mono b0.size)⟩
  have hS : NetSmall N := hsm
  have HSM := Lib.hid hsm
  clear hsm
  have HS : Hid (∀ V X B A C, NetIn X B V N → B ≤ X.heap.size → RdI X X.heap.size A l → l.length ≤ C → Calls Try.prog 23 #[V, .slice A l.length C] X (PostN (kpN N l) (kpOk N l) X)) := Lib.hid fun V X B A C h1 h2 h3 h4 => keepS_any V N A C l X B h1 h2 h3 hlen hS
  have HI : Hid (∀ V X B A C, NetIn X B V N → B ≤ X.heap.size → RdI X X.heap.size A l → l.length ≤ C → Calls Try.prog 25 #[V, .slice A l.length C] X (PostN (kpN N l) (kpOk N l) X)) := Lib.hid fun V X B A C h1 h2 h3 h4 => keep_any V N A C l X B h1 h2 h3 hlen hS
  have hR : NetSmall (kpN N l) := kpN_sm
  generalize kpN N l = R at *
  generalize kpOk N l = ok at *
  go_enter Try.func7, Try.ntmps7
  go_wp2_with fail
  refine (szNetwork_any _ N _ _ (HV.out.below b0) b0.size hm).mono ?_
  rintro e w1 ⟨rfl, bel1⟩
  rw [szL_yes HSM.out]
  replace BA := BA.new bel1
  have bT := b0.trans (bel1.mono b0.size)
  clear b0 bel1
  have lA0 := BA.lt
  have hnn : ¬ (((1048576 - netSz N : Nat) : Int) < 0) := by omega
  have qBA0 := BA.cell 0 _ rfl
  have qBA1 := BA.cell 1 _ rfl
  have qBA2 := BA.cell 2 _ rfl
  go_wp2_with fail
  clear qBA0 qBA1 qBA2
  refine (toNetwork_any _ N _ _ (HV.out.below bT) bT.size hS).mono ?_
  rintro e w2 ⟨v2, rfl, own2, bel⟩
  replace BA := BA.new bel
  have z1 := bel.size
  replace bT := bT.trans (bel.mono bT.size)
  clear bel
  go_wp2_with fail
  refine (toIntS_any al capl l _ _ (Rd.below ha bT) bT.size (by omega)).mono ?_
  rintro e w3 ⟨rfl, ownl2, bel⟩
  replace BA := BA.new bel
  replace own2 := own2.new bel
  have z2 := bel.size
  replace bT := bT.trans (bel.mono bT.size)
  clear bel
  go_wp2_with fail
  refine (HS.out _ _ _ _ _ own2.in_ (by omega) (Rd.more ownl2.rd (by omega)) (Nat.le_refl _)).mono ?_
  rintro e w4 ⟨W, rfl, ownw, bel⟩
  obtain ⟨aW, cW, aiW, ciW, apW, cpW, rfl, ownw⟩ := ownw.shape
  replace BA := BA.new bel
  replace own2 := own2.new bel
  replace ownl2 := Ow.new ownl2 bel
  have z3 := bel.size
  replace bT := bT.trans (bel.mono bT.size)
  clear bel
  clear own2 ownl2
  have BW := Bx.made w4 29 #[.slice aW R.ends.length cW, .slice aiW R.ids.length ciW, .slice apW R.inputs.length cpW]
  have bx : Below w4.heap.size w4 (w4.alloc (.cells #[.slice aW R.ends.length cW, .slice aiW R.ids.length ciW, .slice apW R.inputs.length cpW] 29)) := (by repeat (first | exact Below.refl _ _ | assumption | refine Below.alloc ?_ (by first | (simp; done) | (simp; omega) | omega) _ | refine Below.setCell ?_ (by first | (simp; done) | (simp; omega) | omega) _ | refine Below.drew ?_ | refine Below.drewN ?_ _))
  have zx : w4.heap.size + 1 ≤ (w4.alloc (.cells #[.slice aW R.ends.length cW, .slice aiW R.ids.length ciW, .slice apW R.inputs.length cpW] 29)).heap.size := by simp
  replace BA := BA.new bx
  replace ownw := ownw.new bx
  have z4 := bx.size
  replace bT := bT.trans (bx.mono bT.size)
  have qBA0 := BA.cell 0 _ rfl
  have qBA1 := BA.cell 1 _ rfl
  have qBA2 := BA.cell 2 _ rfl
  go_wp2_with fail
  clear qBA0 qBA1 qBA2
  generalize w4.alloc (.cells #[.slice aW R.ends.length cW, .slice aiW R.ids.length ciW, .slice apW R.inputs.length cpW] 29) = w5 at *
  clear bx
  have z5 := zx
  clear zx
  refine (toNetwork_any _ N _ _ (HV.out.below bT) bT.size hS).mono ?_
  rintro e w6 ⟨v4, rfl, hn4, bel⟩
  replace BA := BA.new bel
  replace ownw := ownw.new bel
  replace BW := BW.new bel
  have z6 := bel.size
  replace bT := bT.trans (bel.mono bT.size)
  clear bel
  obtain ⟨aX, cX, aiX, ciX, apX, cpX, rfl, hn4⟩ := hn4.shape
  have BX := Bx.made w6 29 #[.slice aX N.ends.length cX, .slice aiX N.ids.length ciX, .slice apX N.inputs.length cpX]
  have bx : Below w6.heap.size w6 (w6.alloc (.cells #[.slice aX N.ends.length cX, .slice aiX N.ids.length ciX, .slice apX N.inputs.length cpX] 29)) := (by repeat (first | exact Below.refl _ _ | assumption | refine Below.alloc ?_ (by first | (simp; done) | (simp; omega) | omega) _ | refine Below.setCell ?_ (by first | (simp; done) | (simp; omega) | omega) _ | refine Below.drew ?_ | refine Below.drewN ?_ _))
  have zx : w6.heap.size + 1 ≤ (w6.alloc (.cells #[.slice aX N.ends.length cX, .slice aiX N.ids.length ciX, .slice apX N.inputs.length cpX] 29)).heap.size := by simp
  replace BA := BA.new bx
  replace ownw := ownw.new bx
  replace BW := BW.new bx
  replace hn4 := hn4.new bx
  have z7 := bx.size
  replace bT := bT.trans (bx.mono bT.size)
  go_wp2_with fail
  generalize w6.alloc (.cells #[.slice aX N.ends.length cX, .slice aiX N.ids.length ciX, .slice apX N.inputs.length cpX] 29) = w7 at *
  clear bx
  have z8 := zx
  clear zx
  refine (toIntS_any al capl l _ _ (Rd.below ha bT) bT.size (by omega)).mono ?_
  rintro e w8 ⟨rfl, ownx, bel⟩
  replace BA := BA.new bel
  replace ownw := ownw.new bel
  replace BW := BW.new bel
  replace hn4 := hn4.new bel
  replace BX := BX.new bel
  have z9 := bel.size
  replace bT := bT.trans (bel.mono bT.size)
  clear bel
  have qBX0 := BX.cell 0 _ rfl
  have qBX1 := BX.cell 1 _ rfl
  have qBX2 := BX.cell 2 _ rfl
  go_wp2_with fail
  clear qBX0 qBX1 qBX2
  refine (HI.out _ _ _ _ _ hn4.in_ (by omega) (Rd.more ownx.rd (by omega)) (Nat.le_refl _)).mono ?_
  rintro e w9 ⟨G, rfl, owng, bel⟩
  obtain ⟨aG, cG, aiG, ciG, apG, cpG, rfl, owng⟩ := owng.shape
  replace BA := BA.new bel
  replace ownw := ownw.new bel
  replace BW := BW.new bel
  replace hn4 := hn4.new bel
  replace BX := BX.new bel
  replace ownx := Ow.new ownx bel
  have z10 := bel.size
  replace bT := bT.trans (bel.mono bT.size)
  clear bel
  have hbb : (ok != ok) = false := by simp
  have BG := Bx.made w9 29 #[.slice aG R.ends.length cG, .slice aiG R.ids.length ciG, .slice apG R.inputs.length cpG]
  have bx : Below w9.heap.size w9 (w9.alloc (.cells #[.slice aG R.ends.length cG, .slice aiG R.ids.length ciG, .slice apG R.inputs.length cpG] 29)) := (by repeat (first | exact Below.refl _ _ | assumption | refine Below.alloc ?_ (by first | (simp; done) | (simp; omega) | omega) _ | refine Below.setCell ?_ (by first | (simp; done) | (simp; omega) | omega) _ | refine Below.drew ?_ | refine Below.drewN ?_ _))
  have zx : w9.heap.size + 1 ≤ (w9.alloc (.cells #[.slice aG R.ends.length cG, .slice aiG R.ids.length ciG, .slice apG R.inputs.length cpG] 29)).heap.size := by simp
  replace BA := BA.new bx
  replace ownw := ownw.new bx
  replace BW := BW.new bx
  replace hn4 := hn4.new bx
  replace BX := BX.new bx
  replace ownx := Ow.new ownx bx
  replace owng := owng.new bx
  have z11 := bx.size
  replace bT := bT.trans (bx.mono bT.size)
  have qBW0 := BW.cell 0 _ rfl
  have qBW1 := BW.cell 1 _ rfl
  have qBW2 := BW.cell 2 _ rfl
  go_wp2_with fail
  clear qBW0 qBW1 qBW2
  generalize w9.alloc (.cells #[.slice aG R.ends.length cG, .slice aiG R.ids.length ciG, .slice apG R.inputs.length cpG] 29) = w10 at *
  clear bx
  have z12 := zx
  clear zx
  refine (eqNetwork_any _ _ R _ _ _ _ _ owng ownw (by omega) (by omega) hR).mono ?_
  rintro e w11 ⟨rfl, bel⟩
  replace BA := BA.new bel
  replace ownw := ownw.new bel
  replace BW := BW.new bel
  replace hn4 := hn4.new bel
  replace BX := BX.new bel
  replace ownx := Ow.new ownx bel
  replace owng := owng.new bel
  replace BG := BG.new bel
  have z13 := bel.size
  replace bT := bT.trans (bel.mono bT.size)
  clear bel
  go_wp2_with fail
  have HSS : Hid (∀ X, Below w11.heap.size w11 X → X.cell? ⟨w.heap.size, 0, none⟩ = some (.slice a N.ends.length c) ∧ X.cell? ⟨w.heap.size, 1, none⟩ = some (.slice ai N.ids.length ci) ∧ X.cell? ⟨w.heap.size, 2, none⟩ = some (.slice ap N.inputs.length cp) ∧ X.cell? ⟨w6.heap.size, 0, none⟩ = some (.slice aX N.ends.length cX) ∧ X.cell? ⟨w6.heap.size, 1, none⟩ = some (.slice aiX N.ids.length ciX) ∧ X.cell? ⟨w6.heap.size, 2, none⟩ = some (.slice apX N.inputs.length cpX) ∧ Below w11.heap.size w11 X) := fun X bX => ⟨(BA.new bX).cell 0 _ rfl, (BA.new bX).cell 1 _ rfl, (BA.new bX).cell 2 _ rfl, (BX.new bX).cell 0 _ rfl, (BX.new bX).cell 1 _ rfl, (BX.new bX).cell 2 _ rfl, bX⟩
  have HT : Hid (∀ X, Below w11.heap.size w11 X → Calls Try.prog 12 #[.agg #[.slice a N.ends.length c, .slice ai N.ids.length ci, .slice ap N.inputs.length cp]] X fun e w' => ∃ v', e = .returned v' ∧ NetAt w' X.heap.size w'.heap.size v' N ∧ Below w11.heap.size w11 w') := fun X bX => (toNetwork_any _ N _ _ (HV.out.below (bT.trans (bX.mono bT.size))) (Nat.le_trans bT.size bX.size) hS).mono fun e w' ⟨v', h1, h2, h3⟩ => ⟨v', h1, h2, bX.trans (h3.mono bX.size)⟩
  have HE : Hid (∀ X v6 lo, Below w11.heap.size w11 X → NetAt X lo X.heap.size v6 N → Calls Try.prog 14 #[.agg #[.slice aX N.ends.length cX, .slice aiX N.ids.length ciX, .slice apX N.inputs.length cpX], v6] X fun e w' => e = .returned (.bool true) ∧ Below w11.heap.size w11 w') := fun X v6 lo bX hX => (eqNetwork_any _ _ N _ _ _ _ _ (hn4.new bX) hX (by have := bX.size; omega) (Nat.le_refl _) hS).mono fun e w' ⟨h1, h2⟩ => ⟨h1, bX.trans (h2.mono bX.size)⟩
  have bd : Below w11.heap.size w11 w11.drew := (Below.refl _ _).drew
  go_region_held3 (fun X => X.cell? ⟨w.heap.size, 0, none⟩ = some (.slice a N.ends.length c) ∧ X.cell? ⟨w.heap.size, 1, none⟩ = some (.slice ai N.ids.length ci) ∧ X.cell? ⟨w.heap.size, 2, none⟩ = some (.slice ap N.inputs.length cp) ∧ X.cell? ⟨w6.heap.size, 0, none⟩ = some (.slice aX N.ends.length cX) ∧ X.cell? ⟨w6.heap.size, 1, none⟩ = some (.slice aiX N.ids.length ciX) ∧ X.cell? ⟨w6.heap.size, 2, none⟩ = some (.slice apX N.inputs.length cpX) ∧ Below w11.heap.size w11 X) (exact HSS.out _ (by assumption)) (first | (go_at_call 12; refine (HT.out _ (by first | assumption | (go_split_ands; assumption))).mono ?_; rintro e wa ⟨va, rfl, owna, bela⟩) | (go_at_call 14; refine (HE.out _ _ _ (by assumption) (by assumption)).mono ?_; rintro e wb ⟨rfl, belb⟩))
  all_goals
    clear HSS HT HE bd
    replace BA := BA.new belb
    replace ownw := ownw.new belb
    replace BW := BW.new belb
    replace hn4 := hn4.new belb
    replace BX := BX.new belb
    replace ownx := Ow.new ownx belb
    replace owng := owng.new belb
    replace BG := BG.new belb
    have z14 := belb.size
    replace bT := bT.trans (belb.mono bT.size)
    clear belb
    go_wp2_with fail
    refine (toIntS_any al capl l _ _ (Rd.below ha bT) bT.size (by omega)).mono ?_
    rintro e w12 ⟨rfl, owny, bel⟩
    replace BA := BA.new bel
    replace ownw := ownw.new bel
    replace BW := BW.new bel
    replace hn4 := hn4.new bel
    replace BX := BX.new bel
    replace ownx := Ow.new ownx bel
    replace owng := owng.new bel
    replace BG := BG.new bel
    have z15 := bel.size
    replace bT := bT.trans (bel.mono bT.size)
    clear bel
    go_wp2_with fail
    refine (eqIntS_any _ _ _ _ l l _ _ _ ownx.rd owny.rd (by omega) (by omega)).mono ?_
    rintro e w13 ⟨rfl, mm, hh⟩
    have bel : Below w12.heap.size w12 w13 := below_of_drewN hh
    clear hh
    rw [decide_eq_true rfl]
    replace BA := BA.new bel
    replace ownw := ownw.new bel
    replace BW := BW.new bel
    replace hn4 := hn4.new bel
    replace BX := BX.new bel
    replace ownx := Ow.new ownx bel
    replace owng := owng.new bel
    replace BG := BG.new bel
    replace owny := Ow.new owny bel
    have z16 := bel.size
    replace bT := bT.trans (bel.mono bT.size)
    clear bel
    clear owny
    have qBX0 := BX.cell 0 _ rfl
    have qBX1 := BX.cell 1 _ rfl
    have qBX2 := BX.cell 2 _ rfl
    go_wp2_with fail
    clear qBX0 qBX1 qBX2
    refine (markNetwork_any _ N 1 _ _ _ hn4 (by omega) hS (by omega)).mono ?_
    rintro e w14 ⟨rfl, hn9, fr⟩
    clear hn9
    clear hn4 BX
    replace BA := BA.fr fr (by omega)
    replace ownw := ownw.fr fr (fun k h1 h2 hc => by omega)
    replace BW := BW.fr fr (by omega)
    replace ownx := Ow.fr ownx fr (fun k h1 h2 hc => by omega)
    replace owng := owng.fr fr (fun k h1 h2 hc => by omega)
    replace BG := BG.fr fr (by omega)
    have z17 := fr.size
    replace bT := bT.trans (fr.below (B := w.heap.size) (fun k h1 h2 hc => by omega) bT.size)
    clear fr
    go_wp2_with fail
    refine (markIntS_any _ _ l (1 + netTot N) _ _ _ ownx (by unfold netTot; unfold NetSmall at hS; omega)).mono ?_
    rintro e w15 ⟨rfl, own8, fr0⟩
    have fr := fr0.mono (fun k (_ : k < _) hk => Ow.blk_in ownx hk)
    clear own8 fr0
    clear ownx
    replace BA := BA.fr fr (by omega)
    replace ownw := ownw.fr fr (fun k h1 h2 hc => by omega)
    replace BW := BW.fr fr (by omega)
    replace owng := owng.fr fr (fun k h1 h2 hc => by omega)
    replace BG := BG.fr fr (by omega)
    have z18 := fr.size
    replace bT := bT.trans (fr.below (B := w.heap.size) (fun k h1 h2 hc => by omega) bT.size)
    clear fr
    have d9 : decide (((1 + netTot N + l.length : Nat) : Int) < 0) = false := decide_eq_false (by omega)
    have qBG0 := BG.cell 0 _ rfl
    have qBG1 := BG.cell 1 _ rfl
    have qBG2 := BG.cell 2 _ rfl
    have qBW0 := BW.cell 0 _ rfl
    have qBW1 := BW.cell 1 _ rfl
    have qBW2 := BW.cell 2 _ rfl
    go_wp2_with fail
    clear qBG0 qBG1 qBG2 qBW0 qBW1 qBW2
    refine (eqNetwork_any _ _ R _ _ _ _ _ owng ownw (by omega) (by omega) hR).mono ?_
    rintro e w16 ⟨rfl, bel⟩
    replace BA := BA.new bel
    replace ownw := ownw.new bel
    replace BW := BW.new bel
    replace owng := owng.new bel
    replace BG := BG.new bel
    have z19 := bel.size
    replace bT := bT.trans (bel.mono bT.size)
    clear bel
    have qBG0 := BG.cell 0 _ rfl
    have qBG1 := BG.cell 1 _ rfl
    have qBG2 := BG.cell 2 _ rfl
    go_wp2_with fail
    clear qBG0 qBG1 qBG2
    refine (markNetwork_any _ R 1 _ _ _ owng (by omega) hR (by omega)).mono ?_
    rintro e w17 ⟨rfl, owngm, fr⟩
    clear owng
    replace BA := BA.fr fr (by omega)
    replace ownw := ownw.fr fr (fun k h1 h2 hc => by omega)
    replace BW := BW.fr fr (by omega)
    replace BG := BG.fr fr (by omega)
    have z20 := fr.size
    replace bT := bT.trans (fr.below (B := w.heap.size) (fun k h1 h2 hc => by omega) bT.size)
    clear fr
    have qBG0 := BG.cell 0 _ rfl
    have qBG1 := BG.cell 1 _ rfl
    have qBG2 := BG.cell 2 _ rfl
    go_wp2_with fail
    clear qBG0 qBG1 qBG2
    refine (heldNetwork_any _ R 1 _ _ _ owngm (by omega) hR (by omega)).mono ?_
    rintro e w18 ⟨rfl, bel⟩
    replace BA := BA.new bel
    replace ownw := ownw.new bel
    replace BW := BW.new bel
    replace BG := BG.new bel
    replace owngm := owngm.new bel
    have z21 := bel.size
    replace bT := bT.trans (bel.mono bT.size)
    clear bel
    have hlt : ¬ (((1 + netTot R : Nat) : Int) < 0) := by omega
    have qBA0 := BA.cell 0 _ rfl
    have qBA1 := BA.cell 1 _ rfl
    have qBA2 := BA.cell 2 _ rfl
    go_wp2_with fail
    clear qBA0 qBA1 qBA2
    clear BA
    refine (toNetwork_any _ N _ _ (HV.out.below bT) bT.size hS).mono ?_
    rintro e w19 ⟨v13, rfl, own13, bel⟩
    replace ownw := ownw.new bel
    replace BW := BW.new bel
    replace BG := BG.new bel
    replace owngm := owngm.new bel
    have z22 := bel.size
    replace bT := bT.trans (bel.mono bT.size)
    clear bel
    go_wp2_with fail
    refine (toIntS_any al capl l _ _ (Rd.below ha bT) bT.size (by omega)).mono ?_
    rintro e w20 ⟨rfl, own14, bel⟩
    replace ownw := ownw.new bel
    replace BW := BW.new bel
    replace BG := BG.new bel
    replace owngm := owngm.new bel
    replace own13 := own13.new bel
    have z23 := bel.size
    replace bT := bT.trans (bel.mono bT.size)
    clear bel
    go_wp2_with fail
    refine (HI.out _ _ _ _ _ own13.in_ (by omega) (Rd.more own14.rd (by omega)) (Nat.le_refl _)).mono ?_
    rintro e w21 ⟨H, rfl, ownh, bel⟩
    obtain ⟨aH, cH, aiH, ciH, apH, cpH, rfl, ownh⟩ := ownh.shape
    replace ownw := ownw.new bel
    replace BW := BW.new bel
    replace BG := BG.new bel
    replace owngm := owngm.new bel
    replace own13 := own13.new bel
    replace own14 := Ow.new own14 bel
    have z24 := bel.size
    replace bT := bT.trans (bel.mono bT.size)
    clear bel
    clear own13 own14
    have BH := Bx.made w21 29 #[.slice aH R.ends.length cH, .slice aiH R.ids.length ciH, .slice apH R.inputs.length cpH]
    have bx : Below w21.heap.size w21 (w21.alloc (.cells #[.slice aH R.ends.length cH, .slice aiH R.ids.length ciH, .slice apH R.inputs.length cpH] 29)) := (by repeat (first | exact Below.refl _ _ | assumption | refine Below.alloc ?_ (by first | (simp; done) | (simp; omega) | omega) _ | refine Below.setCell ?_ (by first | (simp; done) | (simp; omega) | omega) _ | refine Below.drew ?_ | refine Below.drewN ?_ _))
    have zx : w21.heap.size + 1 ≤ (w21.alloc (.cells #[.slice aH R.ends.length cH, .slice aiH R.ids.length ciH, .slice apH R.inputs.length cpH] 29)).heap.size := by simp
    replace ownw := ownw.new bx
    replace BW := BW.new bx
    replace BG := BG.new bx
    replace owngm := owngm.new bx
    replace ownh := ownh.new bx
    have z25 := bx.size
    replace bT := bT.trans (bx.mono bT.size)
    have qBW0 := BW.cell 0 _ rfl
    have qBW1 := BW.cell 1 _ rfl
    have qBW2 := BW.cell 2 _ rfl
    go_wp2_with fail
    clear qBW0 qBW1 qBW2
    generalize w21.alloc (.cells #[.slice aH R.ends.length cH, .slice aiH R.ids.length ciH, .slice apH R.inputs.length cpH] 29) = w22 at *
    clear bx
    have z26 := zx
    clear zx
    clear BH
    refine (eqNetwork_any _ _ R _ _ _ _ _ ownh ownw (by omega) (by omega) hR).mono ?_
    rintro e w23 ⟨rfl, bel⟩
    replace ownw := ownw.new bel
    replace BW := BW.new bel
    replace BG := BG.new bel
    replace owngm := owngm.new bel
    replace ownh := ownh.new bel
    have z27 := bel.size
    replace bT := bT.trans (bel.mono bT.size)
    clear bel
    have qBG0 := BG.cell 0 _ rfl
    have qBG1 := BG.cell 1 _ rfl
    have qBG2 := BG.cell 2 _ rfl
    go_wp2_with fail
    clear qBG0 qBG1 qBG2
    refine (heldNetwork_any _ R 1 _ _ _ owngm (by omega) hR (by omega)).mono ?_
    rintro e w24 ⟨rfl, bel⟩
    replace ownw := ownw.new bel
    replace BW := BW.new bel
    replace BG := BG.new bel
    replace owngm := owngm.new bel
    replace ownh := ownh.new bel
    have z28 := bel.size
    replace bT := bT.trans (bel.mono bT.size)
    clear bel
    go_wp2_with fail
    go_ret
    exact ⟨rfl, bT⟩
end Go.Proofs.Ytlooinhdehkcdaa
