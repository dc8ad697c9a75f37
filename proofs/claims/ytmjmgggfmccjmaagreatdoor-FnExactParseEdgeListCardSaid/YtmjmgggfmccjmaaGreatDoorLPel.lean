/- ParseEdgeList: the law's walk. -/
import Derived.Test.YtmjmgggfmccjmaaGreatDoorPelI
import Derived.Test.YtmjmgggfmccjmaaGreatDoorErrZ
import Derived.Test.YtmjmgggfmccjmaaGreatDoorSz
namespace Go.Proofs.YtmjmgggfmccjmaaGreatDoor
open Go.RowKit
set_option linter.unusedVariables false
set_option linter.unusedSimpArgs false
theorem pelR_sm (L : List UInt8) : NetSmall (pelR L) := by
  unfold pelR
  refine ifN_small fun h => ?_
  unfold pelOk pelGood at h
  rw [Bool.and_eq_true, Bool.and_eq_true, Bool.and_eq_true] at h
  obtain ⟨⟨h1, h2⟩, h3, _⟩ := h
  have h1 := of_decide_eq_true h1
  have h2 := congrArg List.length (of_decide_eq_true h2)
  obtain ⟨_, h4, _⟩ := pelK_bd h3
  have h5 := pelLs_len (pelBody L)
  have h6 := spl_cnt 10 (pelBody L)
  simp at h2
  exact (pel_facts _ _ _).small h4 (by omega)
set_option maxRecDepth 100000 in
set_option maxHeartbeats 1600000 in
theorem FnExactParseEdgeList_walk (s : ByteArray) (w : World) (hsz : s.size ≤ maxLen) (hF : PTab w ∧ SErr w ∧ MLen w) :
    Calls Tryz.prog 3 #[.string s] w fun e w' => e = .returned (.bool true) ∧ Below w.heap.size w w' := by
  by_cases hs : s.size ≤ 1048576
  · have HS : Hid (∀ w, Calls Tryz.prog 4 #[.string s] w (PostN (pelR s.data.toList) (pelOk s.data.toList) w)) := fun X => specPel_any s X hs
    have HI : Hid (∀ X, Below w.heap.size w X → Calls Tryz.prog 5 #[.string s] X (PostN (pelR s.data.toList) (pelOk s.data.toList) X)) := fun X b => implPel_any s X ⟨hF.1.below b, hF.2.1.below b, hF.2.2.below b⟩ hs
    have hR : NetSmall (pelR s.data.toList) := pelR_sm _
    generalize pelR s.data.toList = R at *
    generalize pelOk s.data.toList = ok at *
    clear hF
    go_enter Tryz.func3, Tryz.ntmps3
    go_wp2_with fail
    refine (HS.out _).mono ?_
    rintro e w1 ⟨vw, rfl, ownw, bel1⟩
    obtain ⟨aw, cw, aiw, ciw, apw, cpw, rfl, ownw⟩ := ownw.shape
    have z1 := bel1.size
    have BW := Bx.made w1 25 #[.slice aw R.ends.length cw, .slice aiw R.ids.length ciw, .slice apw R.inputs.length cpw]
    have bx1 : Below w1.heap.size w1 (w1.alloc (.cells #[.slice aw R.ends.length cw, .slice aiw R.ids.length ciw, .slice apw R.inputs.length cpw] 25)) := (by repeat (first | exact Below.refl _ _ | assumption | refine Below.alloc ?_ (by first | (simp; done) | (simp; omega) | omega) _ | refine Below.setCell ?_ (by first | (simp; done) | (simp; omega) | omega) _ | refine Below.drew ?_ | refine Below.drewN ?_ _))
    go_wp2_with fail
    refine (HI.out _ (bel1.trans (bx1.mono z1))).mono ?_
    rintro e w2 ⟨vg, rfl, owng, bel2⟩
    obtain ⟨ag, cg, aig, cig, apg, cpg, rfl, owng⟩ := owng.shape
    simp only [World.size_alloc] at owng
    have z2 : w1.heap.size + 1 ≤ w2.heap.size := by have := bel2.size; simpa using this
    replace ownw := (ownw.new bx1).new bel2
    replace BW := BW.new bel2
    have b2 := bel1.trans ((bx1.mono z1).trans (bel2.mono (by have := bx1.size; omega)))
    clear bel1 bx1 bel2
    have BG := Bx.made w2 25 #[.slice ag R.ends.length cg, .slice aig R.ids.length cig, .slice apg R.inputs.length cpg]
    have bx2 : Below w2.heap.size w2 (w2.alloc (.cells #[.slice ag R.ends.length cg, .slice aig R.ids.length cig, .slice apg R.inputs.length cpg] 25)) := (by repeat (first | exact Below.refl _ _ | assumption | refine Below.alloc ?_ (by first | (simp; done) | (simp; omega) | omega) _ | refine Below.setCell ?_ (by first | (simp; done) | (simp; omega) | omega) _ | refine Below.drew ?_ | refine Below.drewN ?_ _))
    replace BW := BW.new bx2
    have cW0 := BW.cell 0 _ rfl
    have cW1 := BW.cell 1 _ rfl
    have cW2 := BW.cell 2 _ rfl
    go_wp2_with fail
    clear cW0 cW1 cW2
    have zx2 : w2.heap.size + 1 ≤ (w2.alloc (.cells #[.slice ag R.ends.length cg, .slice aig R.ids.length cig, .slice apg R.inputs.length cpg] 25)).heap.size := by simp
    replace ownw := ownw.new bx2
    replace owng := owng.new bx2
    have b3 := b2.trans (bx2.mono b2.size)
    have HBB : Hid ((ok != ok) = false) := by show _ = _; simp
    generalize w2.alloc (.cells #[.slice ag R.ends.length cg, .slice aig R.ids.length cig, .slice apg R.inputs.length cpg] 25) = x2 at *
    clear bx2 b2
    refine (eqNetwork_any _ _ R _ _ _ _ _ owng ownw (by omega) (by omega) hR).mono ?_
    rintro e w3 ⟨rfl, bel3⟩
    replace ownw := ownw.new bel3
    replace owng := owng.new bel3
    replace BW := BW.new bel3
    replace BG := BG.new bel3
    have z3 := bel3.size
    have b4 := b3.trans (bel3.mono b3.size)
    clear b3 bel3
    have cG0 := BG.cell 0 _ rfl
    have cG1 := BG.cell 1 _ rfl
    have cG2 := BG.cell 2 _ rfl
    have hbb := HBB.out
    go_wp2_with fail
    clear cG0 cG1 cG2
    refine (markNetwork_any _ R 1 _ _ _ owng (by omega) hR (by omega)).mono ?_
    rintro e w4 ⟨rfl, owngm, fr4⟩
    replace ownw := ownw.fr fr4 (fun k h1 h2 hc => by omega)
    replace BW := BW.fr fr4 (by omega)
    replace BG := BG.fr fr4 (by omega)
    have z4 := fr4.size
    have b5 := b4.trans (fr4.below (B := w.heap.size) (fun k h1 h2 hc => by omega) (by omega))
    clear b4 fr4 owng
    have cG0 := BG.cell 0 _ rfl
    have cG1 := BG.cell 1 _ rfl
    have cG2 := BG.cell 2 _ rfl
    go_wp2_with fail
    clear cG0 cG1 cG2
    refine (heldNetwork_any _ R 1 _ _ _ owngm (by omega) hR (by omega)).mono ?_
    rintro e w5 ⟨rfl, bel5⟩
    replace ownw := ownw.new bel5
    replace owngm := owngm.new bel5
    replace BW := BW.new bel5
    replace BG := BG.new bel5
    have z5 := bel5.size
    have b6 := b5.trans (bel5.mono b5.size)
    clear b5 bel5
    have hlt : ¬ (((1 + netTot R : Nat) : Int) < 0) := by omega
    go_wp2_with fail
    refine (HI.out _ b6).mono ?_
    rintro e w6 ⟨vh, rfl, ownh, bel6⟩
    obtain ⟨ah, chh, aih, cih, aph, cph, rfl, ownh⟩ := ownh.shape
    replace ownw := ownw.new bel6
    replace owngm := owngm.new bel6
    replace BW := BW.new bel6
    replace BG := BG.new bel6
    have z6 := bel6.size
    have b7 := b6.trans (bel6.mono b6.size)
    clear b6 bel6
    have bx6 : Below w6.heap.size w6 (w6.alloc (.cells #[.slice ah R.ends.length chh, .slice aih R.ids.length cih, .slice aph R.inputs.length cph] 25)) := (by repeat (first | exact Below.refl _ _ | assumption | refine Below.alloc ?_ (by first | (simp; done) | (simp; omega) | omega) _ | refine Below.setCell ?_ (by first | (simp; done) | (simp; omega) | omega) _ | refine Below.drew ?_ | refine Below.drewN ?_ _))
    replace BW := BW.new bx6
    replace BG := BG.new bx6
    have cW0 := BW.cell 0 _ rfl
    have cW1 := BW.cell 1 _ rfl
    have cW2 := BW.cell 2 _ rfl
    go_wp2_with fail
    clear cW0 cW1 cW2
    replace ownw := ownw.new bx6
    replace owngm := owngm.new bx6
    replace ownh := ownh.new bx6
    have b8 := b7.trans (bx6.mono b7.size)
    have zx6 := bx6.size
    generalize w6.alloc (.cells #[.slice ah R.ends.length chh, .slice aih R.ids.length cih, .slice aph R.inputs.length cph] 25) = x6 at *
    clear bx6 b7
    refine (eqNetwork_any _ _ R _ _ _ _ _ ownh ownw (by omega) (by omega) hR).mono ?_
    rintro e w7 ⟨rfl, bel7⟩
    replace owngm := owngm.new bel7
    replace BG := BG.new bel7
    have z7 := bel7.size
    have b9 := b8.trans (bel7.mono b8.size)
    clear b8 bel7
    have cG0 := BG.cell 0 _ rfl
    have cG1 := BG.cell 1 _ rfl
    have cG2 := BG.cell 2 _ rfl
    go_wp2_with fail
    clear cG0 cG1 cG2
    refine (heldNetwork_any _ R 1 _ _ _ owngm (by omega) hR (by omega)).mono ?_
    rintro e w8 ⟨rfl, bel8⟩
    go_wp2_with fail
    go_ret
    exact ⟨rfl, b9.trans (bel8.mono b9.size)⟩
  · go_enter Tryz.func3, Tryz.ntmps3
    go_wp2_with fail
    go_ret
    exact ⟨rfl, Below.refl _ _⟩
end Go.Proofs.YtmjmgggfmccjmaaGreatDoor
