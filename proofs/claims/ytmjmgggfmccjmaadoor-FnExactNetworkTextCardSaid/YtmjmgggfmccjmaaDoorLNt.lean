/- Laws: NetworkText. -/
import Derived.Test.YtmjmgggfmccjmaaDoorNtF
import Derived.Test.YtmjmgggfmccjmaaDoorSz
import Derived.Deep.RegionHeld3
namespace Go.Proofs.YtmjmgggfmccjmaaDoor
open Go.RowKit
set_option linter.unusedVariables false
set_option linter.unusedSimpArgs false

set_option maxHeartbeats 800000 in
theorem FnExactNetworkText_walk (v : Value) (N : Net)  (w : World) (hv : NetRd w w.heap.size v N) (hm : NetLens N) (htab : PTab w) :
    Calls Tryd.prog 3 #[v] w fun e w' => e = .returned (.bool true) ∧ Below w.heap.size w w' := by
  have HV := Lib.hid hv
  obtain ⟨a, c, vs, ai, ci, ap, cp, rfl, h1, h2, h3⟩ := hv
  clear h1 h2 h3
  have BA := Bx.made w 25 #[.slice a N.ends.length c, .slice ai N.ids.length ci, .slice ap N.inputs.length cp]
  have b0 : Below w.heap.size w (w.alloc (.cells #[.slice a N.ends.length c, .slice ai N.ids.length ci, .slice ap N.inputs.length cp] 25)) := (by repeat (first | exact Below.refl _ _ | assumption | refine Below.alloc ?_ (by first | (simp; done) | (simp; omega) | omega) _ | refine Below.setCell ?_ (by first | (simp; done) | (simp; omega) | omega) _ | refine Below.drew ?_ | refine Below.drewN ?_ _))
  by_cases hsm : netSz N ≤ 1048576
  case neg =>
    go_enter Tryd.func3, Tryd.ntmps3
    go_wp2_with fail
    refine (szNetwork_any _ N _ _ (HV.out.below b0) b0.size hm).mono ?_
    rintro e w1 ⟨rfl, bel1⟩
    rw [szL_no hsm]
    go_wp2_with fail
    go_ret
    exact ⟨rfl, b0.trans (bel1.mono b0.size)⟩
  have hS : NetSmall N := hsm
  have HSM := Lib.hid hsm
  clear hsm
  go_enter Tryd.func3, Tryd.ntmps3
  go_wp2_with fail
  refine (szNetwork_any _ N _ _ (HV.out.below b0) b0.size hm).mono ?_
  rintro e w1 ⟨rfl, bel1⟩
  rw [szL_yes HSM.out]
  replace BA := BA.new bel1
  have b1 := b0.trans (bel1.mono b0.size)
  have z1 := b1.size
  clear b0 bel1
  have hnn : ¬ (((1048576 - netSz N : Nat) : Int) < 0) := by omega
  have cA0 := BA.cell 0 _ rfl
  have cA1 := BA.cell 1 _ rfl
  have cA2 := BA.cell 2 _ rfl
  go_wp2_with fail
  clear cA0 cA1 cA2
  refine (toNetwork_any _ N _ _ (HV.out.below b1) z1 hS).mono ?_
  rintro e w2 ⟨v2, rfl, own2, bel2⟩
  replace BA := BA.new bel2
  have b2 := b1.trans (bel2.mono z1)
  have z2 := b2.size
  have z12 := bel2.size
  clear b1 bel2
  go_wp2_with fail
  refine (specNt_any v2 N _ _ own2.in_ (Nat.le_refl _) hS).mono ?_
  rintro e w3 ⟨rfl, bel3⟩
  clear own2
  replace BA := BA.new bel3
  have b3 := b2.trans (bel3.mono z2)
  clear b2 bel3
  have cA0 := BA.cell 0 _ rfl
  have cA1 := BA.cell 1 _ rfl
  have cA2 := BA.cell 2 _ rfl
  go_wp2_with fail
  clear cA0 cA1 cA2
  have z3 := b3.size
  refine (toNetwork_any _ N _ _ (HV.out.below b3) z3 hS).mono ?_
  rintro e w4 ⟨v4, rfl, own4, bel4⟩
  replace BA := BA.new bel4
  have b4 := b3.trans (bel4.mono z3)
  have z4 := b4.size
  have z34 := bel4.size
  clear b3
  obtain ⟨a4, c4, vs4, ai4, ci4, ap4, cp4, he4, hn4⟩ : ∃ a c vs ai ci ap cp, v4 = .agg #[.slice a N.ends.length c, .slice ai N.ids.length ci, .slice ap N.inputs.length cp] ∧ NetAt w4 w3.heap.size w4.heap.size (.agg #[.slice a N.ends.length c, .slice ai N.ids.length ci, .slice ap N.inputs.length cp]) N := by
    obtain ⟨a, c, vs, ai, ci, ap, cp, hv, _⟩ := id own4
    exact ⟨a, c, vs, ai, ci, ap, cp, hv, hv ▸ own4⟩
  subst he4
  clear own4
  go_wp2_with fail
  have BX := Bx.made w4 31 #[.slice a4 N.ends.length c4, .slice ai4 N.ids.length ci4, .slice ap4 N.inputs.length cp4]
  have b4' : Below w4.heap.size w4 (w4.alloc (.cells #[.slice a4 N.ends.length c4, .slice ai4 N.ids.length ci4, .slice ap4 N.inputs.length cp4] 31)) := (by repeat (first | exact Below.refl _ _ | assumption | refine Below.alloc ?_ (by first | (simp; done) | (simp; omega) | omega) _ | refine Below.setCell ?_ (by first | (simp; done) | (simp; omega) | omega) _ | refine Below.drew ?_ | refine Below.drewN ?_ _))
  replace BA := BA.new b4'
  replace hn4 := hn4.new b4'
  have b5 := b4.trans (b4'.mono z4)
  have z5 := b5.size
  have z45 := b4'.size
  clear b4
  refine (implNt_any _ N _ _ hn4.in_ z45 hS (htab.below b5)).mono ?_
  rintro e w5 ⟨rfl, bel5⟩
  replace BA := BA.new bel5
  replace BX := BX.new bel5
  replace hn4 := hn4.new bel5
  replace z45 := Nat.le_trans z45 bel5.size
  have b6 := b5.trans (bel5.mono z5)
  have z6 := b6.size
  clear b5 bel5 z5
  generalize ntR N = rr at *
  generalize netB N = oo at *
  have hbb : (rr.toList == rr.toList) = true := by simp
  have hbc : (oo != oo) = false := by simp
  go_wp2_with fail
  have HS : Hid (∀ X, Below w5.heap.size w5 X → X.cell? ⟨w.heap.size, 0, none⟩ = some (.slice a N.ends.length c) ∧ X.cell? ⟨w.heap.size, 1, none⟩ = some (.slice ai N.ids.length ci) ∧ X.cell? ⟨w.heap.size, 2, none⟩ = some (.slice ap N.inputs.length cp) ∧ X.cell? ⟨w4.heap.size, 0, none⟩ = some (.slice a4 N.ends.length c4) ∧ X.cell? ⟨w4.heap.size, 1, none⟩ = some (.slice ai4 N.ids.length ci4) ∧ X.cell? ⟨w4.heap.size, 2, none⟩ = some (.slice ap4 N.inputs.length cp4) ∧ Below w5.heap.size w5 X) :=
    fun X bX => ⟨(BA.new bX).cell 0 _ rfl, (BA.new bX).cell 1 _ rfl, (BA.new bX).cell 2 _ rfl, (BX.new bX).cell 0 _ rfl, (BX.new bX).cell 1 _ rfl, (BX.new bX).cell 2 _ rfl, bX⟩
  have HT : Hid (∀ X, Below w5.heap.size w5 X → Calls Tryd.prog 11 #[.agg #[.slice a N.ends.length c, .slice ai N.ids.length ci, .slice ap N.inputs.length cp]] X fun e w' => ∃ v', e = .returned v' ∧ NetAt w' X.heap.size w'.heap.size v' N ∧ Below w5.heap.size w5 w') :=
    fun X bX => (toNetwork_any _ N _ _ (HV.out.below (b6.trans (bX.mono z6))) (Nat.le_trans z6 bX.size) hS).mono fun e w' ⟨v', h1, h2, h3⟩ => ⟨v', h1, h2, bX.trans (h3.mono bX.size)⟩
  have HE : Hid (∀ X v6 lo, Below w5.heap.size w5 X → NetAt X lo X.heap.size v6 N → Calls Tryd.prog 13 #[.agg #[.slice a4 N.ends.length c4, .slice ai4 N.ids.length ci4, .slice ap4 N.inputs.length cp4], v6] X fun e w' => e = .returned (.bool true) ∧ Below w5.heap.size w5 w') :=
    fun X v6 lo bX hX => (eqNetwork_any _ _ N _ _ _ _ _ (hn4.new bX) hX (Nat.le_trans z45 bX.size) (Nat.le_refl _) hS).mono fun e w' ⟨h1, h2⟩ => ⟨h1, bX.trans (h2.mono bX.size)⟩
  have bd : Below w5.heap.size w5 w5.drew := (Below.refl _ _).drew
  go_region_held3 (fun X => X.cell? ⟨w.heap.size, 0, none⟩ = some (.slice a N.ends.length c) ∧ X.cell? ⟨w.heap.size, 1, none⟩ = some (.slice ai N.ids.length ci) ∧ X.cell? ⟨w.heap.size, 2, none⟩ = some (.slice ap N.inputs.length cp) ∧ X.cell? ⟨w4.heap.size, 0, none⟩ = some (.slice a4 N.ends.length c4) ∧ X.cell? ⟨w4.heap.size, 1, none⟩ = some (.slice ai4 N.ids.length ci4) ∧ X.cell? ⟨w4.heap.size, 2, none⟩ = some (.slice ap4 N.inputs.length cp4) ∧ Below w5.heap.size w5 X) (exact HS.out _ (by assumption)) (first | (go_at_call 11; refine (HT.out _ (by first | assumption | (go_split_ands; assumption))).mono ?_; rintro e w7 ⟨v7, rfl, own7, bel7⟩) | (go_at_call 13; refine (HE.out _ _ _ (by assumption) (by assumption)).mono ?_; rintro e w8 ⟨rfl, bel8⟩))
  all_goals
    go_wp2_with fail
    go_ret
    exact ⟨rfl, b6.trans (bel8.mono z6)⟩
theorem nt_facts {W : World} (h : laidMetH Tryd.prog Rows.fnExactNetworkTextRow.laid W) : PTab W := by
  rw [MakeChecks.laidMetH_plain _ _ _ (by kernel_rfl)] at h
  have h1 : laidMet Tryd.prog [("math/bits.deBruijn32tab", Rows.laid_math_bits_deBruijn32tab), ("math/bits.deBruijn64tab", Rows.laid_math_bits_deBruijn64tab), ("internal/strconv.uint64pow10", Lib.tabData .u64 Lib.pow10Tab)] W := h
  exact ptab_of h1
end Go.Proofs.YtmjmgggfmccjmaaDoor
