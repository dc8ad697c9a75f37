/- Laws: ViewClasses. -/
import Derived.Test.YtlooinhdehkcdaaViJ
import Derived.Test.YtlooinhdehkcdaaRet
import Derived.Test.YtlooinhdehkcdaaSz
import Derived.Deep.RegionHeld3
namespace Go.Proofs.Ytlooinhdehkcdaa
open Go.RowKit
set_option linter.unusedVariables false
set_option linter.unusedSimpArgs false


set_option maxHeartbeats 800000 in
theorem FnExactViewClasses_walk (v : Value) (N : Net) (p : Int) (w : World) (hv : NetRd w w.heap.size v N) (hm : NetLens N) (hp0 : -9223372036854775808 ≤ p) (hp1 : p ≤ 9223372036854775807) :
    Calls Try.prog 9 #[v, .int .i64 p] w fun e w' => e = .returned (.bool true) ∧ Below w.heap.size w w' := by
  have HV := Lib.hid hv
  obtain ⟨a, c, vs, ai, ci, ap, cp, rfl, h1, h2, h3⟩ := hv
  clear h1 h2 h3
  have BA := Bx.made w 25 #[.slice a N.ends.length c, .slice ai N.ids.length ci, .slice ap N.inputs.length cp]
  have b0 : Below w.heap.size w (w.alloc (.cells #[.slice a N.ends.length c, .slice ai N.ids.length ci, .slice ap N.inputs.length cp] 25)) := (by repeat (first | exact Below.refl _ _ | assumption | refine Below.alloc ?_ (by first | (simp; done) | (simp; omega) | omega) _ | refine Below.setCell ?_ (by first | (simp; done) | (simp; omega) | omega) _ | refine Below.drew ?_ | refine Below.drewN ?_ _))
  by_cases hsm : netSz N ≤ 1048576
  case neg =>
    go_enter Try.func9, Try.ntmps9
    go_wp2_with fail
    refine (szNetwork_any _ N _ _ (HV.out.below b0) b0.size hm).mono ?_
    rintro e w1 ⟨rfl, bel1⟩
    rw [szL_no hsm]
    go_wp2_with fail
    go_ret
    exact ⟨rfl, b0.trans (bel1.mono b0.size)⟩
  have hS : NetSmall N := hsm
  have HSM := Lib.hid hsm
  clear hsm
  go_enter Try.func9, Try.ntmps9
  go_wp2_with fail
  refine (szNetwork_any _ N _ _ (HV.out.below b0) b0.size hm).mono ?_
  rintro e w1 ⟨rfl, bel1⟩
  rw [szL_yes HSM.out]
  replace BA := BA.new bel1
  have b1 := b0.trans (bel1.mono b0.size)
  have z1 := b1.size
  clear b0 bel1
  have hnn : ¬ (((1048576 - netSz N : Nat) : Int) < 0) := by omega
  have cA0 := BA.cell 0 _ rfl
  have cA1 := BA.cell 1 _ rfl
  have cA2 := BA.cell 2 _ rfl
  go_wp2_with fail
  clear cA0 cA1 cA2
  refine (toNetwork_any _ N _ _ (HV.out.below b1) z1 hS).mono ?_
  rintro e w2 ⟨v2, rfl, own2, bel2⟩
  replace BA := BA.new bel2
  have b2 := b1.trans (bel2.mono z1)
  have z2 := b2.size
  have z12 := bel2.size
  clear b1 bel2
  go_wp2_with fail
  have HS : Hid (∀ V X B, NetIn X B V N → B ≤ X.heap.size → Calls Try.prog 30 #[V, .int .i64 p] X (RetI (vcR N p) (vcOk N p) X)) := Lib.hid fun V X B h1 h2 => (viewClassesS_any V N p X B h1 h2 hS).mono fun _ _ h => h.ret
  have HI : Hid (∀ V X B, NetIn X B V N → B ≤ X.heap.size → Calls Try.prog 31 #[V, .int .i64 p] X (RetI (vcR N p) (vcOk N p) X)) := Lib.hid fun V X B h1 h2 => (viewClasses_any V N p X B h1 h2 hS).mono fun _ _ h => h.ret
  have hR : SmI (vcR N p) := vcR_le
  generalize vcR N p = R at *
  generalize vcOk N p = ok at *
  refine (HS.out v2 _ _ own2.in_ (Nat.le_refl _)).mono ?_
  rintro e w3 ⟨vw, rfl, ownw, bel3⟩
  have lA : w.heap.size < w2.heap.size := BA.lt
  have z23 := bel3.size
  clear own2 HS
  replace BA := BA.new bel3
  have b3 := b2.trans (bel3.mono z2)
  clear b2 bel3
  have cA0 := BA.cell 0 _ rfl
  have cA1 := BA.cell 1 _ rfl
  have cA2 := BA.cell 2 _ rfl
  go_wp2_with fail
  clear cA0 cA1 cA2
  have z3 := b3.size
  refine (toNetwork_any _ N _ _ (HV.out.below b3) z3 hS).mono ?_
  rintro e w4 ⟨v4, rfl, own4, bel4⟩
  replace BA := BA.new bel4
  have b4 := b3.trans (bel4.mono z3)
  have z4 := b4.size
  have z34 := bel4.size
  clear b3
  obtain ⟨a4, c4, vs4, ai4, ci4, ap4, cp4, he4, hn4⟩ : ∃ a c vs ai ci ap cp, v4 = .agg #[.slice a N.ends.length c, .slice ai N.ids.length ci, .slice ap N.inputs.length cp] ∧ NetAt w4 w3.heap.size w4.heap.size (.agg #[.slice a N.ends.length c, .slice ai N.ids.length ci, .slice ap N.inputs.length cp]) N := by
    obtain ⟨a, c, vs, ai, ci, ap, cp, hv, _⟩ := id own4
    exact ⟨a, c, vs, ai, ci, ap, cp, hv, hv ▸ own4⟩
  subst he4
  clear own4
  go_wp2_with fail
  have BX := Bx.made w4 29 #[.slice a4 N.ends.length c4, .slice ai4 N.ids.length ci4, .slice ap4 N.inputs.length cp4]
  have b4' : Below w4.heap.size w4 (w4.alloc (.cells #[.slice a4 N.ends.length c4, .slice ai4 N.ids.length ci4, .slice ap4 N.inputs.length cp4] 29)) := (by repeat (first | exact Below.refl _ _ | assumption | refine Below.alloc ?_ (by first | (simp; done) | (simp; omega) | omega) _ | refine Below.setCell ?_ (by first | (simp; done) | (simp; omega) | omega) _ | refine Below.drew ?_ | refine Below.drewN ?_ _))
  replace BA := BA.new b4'
  replace hn4 := hn4.new b4'
  have b5 := b4.trans (b4'.mono z4)
  have z5 := b5.size
  have z45 := b4'.size
  clear b4
  refine (HI.out _ _ _ hn4.in_ z45).mono ?_
  rintro e w5 ⟨vg, rfl, owng, bel5⟩
  replace ownw := OwnI.new (OwnI.new (OwnI.new ownw bel4) b4') bel5
  have zg : w4.heap.size + 1 ≤ w5.heap.size := by have := bel5.size; simpa using this
  simp only [World.size_alloc] at owng
  replace BA := BA.new bel5
  replace BX := BX.new bel5
  replace hn4 := hn4.new bel5
  replace z45 := Nat.le_trans z45 bel5.size
  have b6 := b5.trans (bel5.mono z5)
  have z6 := b6.size
  clear b5 bel5 z5 bel4 b4'
  have hbb : (ok != ok) = false := by simp
  go_wp2_with fail
  refine (eqI_any owng ownw hR).mono ?_
  rintro e w6 ⟨rfl, bel6⟩
  replace ownw := OwnI.new ownw bel6
  replace owng := OwnI.new owng bel6
  replace BA := BA.new bel6
  replace BX := BX.new bel6
  replace hn4 := hn4.new bel6
  have b7 := b6.trans (bel6.mono z6)
  have z7 := b7.size
  have z67 := bel6.size
  clear b6 bel6
  go_wp2_with fail
  have HS : Hid (∀ X, Below w6.heap.size w6 X → X.cell? ⟨w.heap.size, 0, none⟩ = some (.slice a N.ends.length c) ∧ X.cell? ⟨w.heap.size, 1, none⟩ = some (.slice ai N.ids.length ci) ∧ X.cell? ⟨w.heap.size, 2, none⟩ = some (.slice ap N.inputs.length cp) ∧ X.cell? ⟨w4.heap.size, 0, none⟩ = some (.slice a4 N.ends.length c4) ∧ X.cell? ⟨w4.heap.size, 1, none⟩ = some (.slice ai4 N.ids.length ci4) ∧ X.cell? ⟨w4.heap.size, 2, none⟩ = some (.slice ap4 N.inputs.length cp4) ∧ Below w6.heap.size w6 X) :=
    fun X bX => ⟨(BA.new bX).cell 0 _ rfl, (BA.new bX).cell 1 _ rfl, (BA.new bX).cell 2 _ rfl, (BX.new bX).cell 0 _ rfl, (BX.new bX).cell 1 _ rfl, (BX.new bX).cell 2 _ rfl, bX⟩
  have HT : Hid (∀ X, Below w6.heap.size w6 X → Calls Try.prog 12 #[.agg #[.slice a N.ends.length c, .slice ai N.ids.length ci, .slice ap N.inputs.length cp]] X fun e w' => ∃ v', e = .returned v' ∧ NetAt w' X.heap.size w'.heap.size v' N ∧ Below w6.heap.size w6 w') :=
    fun X bX => (toNetwork_any _ N _ _ (HV.out.below (b7.trans (bX.mono z7))) (Nat.le_trans z7 bX.size) hS).mono fun e w' ⟨v', h1, h2, h3⟩ => ⟨v', h1, h2, bX.trans (h3.mono bX.size)⟩
  have HE : Hid (∀ X v6 lo, Below w6.heap.size w6 X → NetAt X lo X.heap.size v6 N → Calls Try.prog 14 #[.agg #[.slice a4 N.ends.length c4, .slice ai4 N.ids.length ci4, .slice ap4 N.inputs.length cp4], v6] X fun e w' => e = .returned (.bool true) ∧ Below w6.heap.size w6 w') :=
    fun X v6 lo bX hX => (eqNetwork_any _ _ N _ _ _ _ _ (hn4.new bX) hX (by have := bX.size; omega) (Nat.le_refl _) hS).mono fun e w' ⟨h1, h2⟩ => ⟨h1, bX.trans (h2.mono bX.size)⟩
  have bd : Below w6.heap.size w6 w6.drew := (Below.refl _ _).drew
  go_region_held3 (fun X => X.cell? ⟨w.heap.size, 0, none⟩ = some (.slice a N.ends.length c) ∧ X.cell? ⟨w.heap.size, 1, none⟩ = some (.slice ai N.ids.length ci) ∧ X.cell? ⟨w.heap.size, 2, none⟩ = some (.slice ap N.inputs.length cp) ∧ X.cell? ⟨w4.heap.size, 0, none⟩ = some (.slice a4 N.ends.length c4) ∧ X.cell? ⟨w4.heap.size, 1, none⟩ = some (.slice ai4 N.ids.length ci4) ∧ X.cell? ⟨w4.heap.size, 2, none⟩ = some (.slice ap4 N.inputs.length cp4) ∧ Below w6.heap.size w6 X) (exact HS.out _ (by assumption)) (first | (go_at_call 12; refine (HT.out _ (by first | assumption | (go_split_ands; assumption))).mono ?_; rintro e w7 ⟨v7, rfl, own7, bel7⟩) | (go_at_call 14; refine (HE.out _ _ _ (by assumption) (by assumption)).mono ?_; rintro e w8 ⟨rfl, bel8⟩))
  all_goals
    clear HS HT HE bd
    have y8 := bel8.size
    replace BA := BA.new bel8
    replace BX := BX.new bel8
    replace hn4 := hn4.new bel8
    replace ownw := OwnI.new ownw bel8
    replace owng := OwnI.new owng bel8
    have b8 := b7.trans (bel8.mono z7)
    clear b7 bel8
    have cX0 := BX.cell 0 _ rfl
    have cX1 := BX.cell 1 _ rfl
    have cX2 := BX.cell 2 _ rfl
    go_wp2_with fail
    clear cX0 cX1 cX2
    refine (markNetwork_any _ N 1 _ _ _ hn4 (by omega) hS (by omega)).mono ?_
    rintro e w9 ⟨rfl, hn9, fr9⟩
    clear hn9 hn4 BX
    have z89 := fr9.size
    replace BA := BA.fr fr9 (by omega)
    replace ownw := OwnI.fr ownw fr9 (fun k h1 h2 hc => by omega)
    replace owng := OwnI.fr owng fr9 (fun k h1 h2 hc => by omega)
    have b9 := b8.trans (fr9.below (B := w.heap.size) (fun k h1 h2 hc => by omega) (by omega))
    have z9 := b9.size
    clear b8 fr9
    have d9 : decide (((1 + netTot N : Nat) : Int) < 0) = false := decide_eq_false (by omega)
    go_wp2_with fail
    refine (eqI_any owng ownw hR).mono ?_
    rintro e w10 ⟨rfl, bel10⟩
    replace ownw := OwnI.new ownw bel10
    replace owng := OwnI.new owng bel10
    replace BA := BA.new bel10
    have b10 := b9.trans (bel10.mono z9)
    have z10 := b10.size
    have y10 := bel10.size
    clear b9 bel10
    go_wp2_with fail
    refine (markI_any owng hR).mono ?_
    rintro e w11 ⟨rfl, owngm, fr11⟩
    replace BA := BA.fr fr11 (by omega)
    replace ownw := OwnI.fr ownw fr11 (fun k h1 h2 hc => by omega)
    have b11 := b10.trans (fr11.below (B := w.heap.size) (fun k h1 h2 hc => by omega) (by omega))
    have z11 := b11.size
    clear b10 fr11 owng
    go_wp2_with fail
    refine (heldI_any owngm hR).mono ?_
    rintro e w12 ⟨rfl, bel12⟩
    replace BA := BA.new bel12
    replace ownw := OwnI.new ownw bel12
    replace owngm := OwnI.new owngm bel12
    have b12 := b11.trans (bel12.mono z11)
    have z12' := b12.size
    clear b11 bel12
    have cA0 := BA.cell 0 _ rfl
    have cA1 := BA.cell 1 _ rfl
    have cA2 := BA.cell 2 _ rfl
    have hlt : ¬ (((1 + totI R : Nat) : Int) < 0) := by omega
    go_wp2_with fail
    clear cA0 cA1 cA2 BA
    refine (toNetwork_any _ N _ _ (HV.out.below b12) z12' hS).mono ?_
    rintro e w13 ⟨v13, rfl, own13, bel13⟩
    replace ownw := OwnI.new ownw bel13
    replace owngm := OwnI.new owngm bel13
    have b13 := b12.trans (bel13.mono z12')
    have z13 := b13.size
    clear b12 bel13
    go_wp2_with fail
    refine (HI.out _ _ _ own13.in_ (Nat.le_refl _)).mono ?_
    rintro e w14 ⟨vh, rfl, ownh, bel14⟩
    replace ownw := OwnI.new ownw bel14
    replace owngm := OwnI.new owngm bel14
    have b14 := b13.trans (bel14.mono z13)
    have z14 := b14.size
    clear b13 bel14 own13
    go_wp2_with fail
    refine (eqI_any ownh ownw hR).mono ?_
    rintro e w15 ⟨rfl, bel15⟩
    replace owngm := OwnI.new owngm bel15
    have b15 := b14.trans (bel15.mono z14)
    have z15 := b15.size
    clear b14 bel15 ownh ownw
    go_wp2_with fail
    refine (heldI_any owngm hR).mono ?_
    rintro e w16 ⟨rfl, bel16⟩
    go_wp2_with fail
    go_ret
    exact ⟨rfl, b15.trans (bel16.mono z15)⟩
end Go.Proofs.Ytlooinhdehkcdaa
