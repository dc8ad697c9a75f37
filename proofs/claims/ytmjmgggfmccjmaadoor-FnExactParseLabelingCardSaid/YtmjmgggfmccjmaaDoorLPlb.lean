/- ParseLabeling: the law's walk. -/
import Derived.Test.YtmjmgggfmccjmaaDoorPlbS
import Derived.Test.YtmjmgggfmccjmaaDoorErr
namespace Go.Proofs.YtmjmgggfmccjmaaDoor
open Go.RowKit
set_option linter.unusedVariables false
set_option linter.unusedSimpArgs false
theorem total_le6 : ∀ (R : List (List Int)) (m : Nat), (∀ j, j < R.length → (rowOf R j).length ≤ m) → Total R ≤ R.length * m
  | [], _, _ => Nat.zero_le _
  | r :: R, m, h => by
    have ih := total_le6 R m fun j hj => by have := h (j + 1) (by simp; omega); simpa [rowOf] using this
    have h0 : r.length ≤ m := by have := h 0 (by simp); simpa [rowOf] using this
    have e : Total (r :: R) = r.length + Total R := by simp [Total]
    rw [e, List.length_cons, Nat.add_mul]
    omega
theorem plR_sm (l : List UInt8) : SmSS (plR l) := by
  unfold SmSS
  by_cases hd : l = [45]
  · rw [plR_dash hd]
    exact ⟨Nat.zero_le _, fun j hj => absurd hj (by simp), by decide⟩
  · cases h : labOk (rdRows l) with
    | false => rw [plR_f hd h]; exact ⟨Nat.zero_le _, fun j hj => absurd hj (by simp), by decide⟩
    | true =>
      rw [plR_t hd h]
      obtain ⟨h1, h2⟩ := labOk_at h
      have h3 := total_le6 (rdRows l) 6 fun j hj => (h2 j hj).1
      exact ⟨by omega, fun j hj => by have := (h2 j hj).1; omega, by omega⟩
set_option maxRecDepth 100000 in
set_option maxHeartbeats 1600000 in
theorem FnExactParseLabeling_walk (s : ByteArray) (w : World) (hsz : s.size ≤ maxLen) (hF : PTab w ∧ SErr w ∧ MLen w) :
    Calls Tryd.prog 4 #[.string s] w fun e w' => e = .returned (.bool true) ∧ Below w.heap.size w w' := by
  by_cases hs : s.size ≤ 1048576
  · have HS : Hid (∀ X, Calls Tryd.prog 14 #[.string s] X (RetSS (plR s.data.toList) (plOk s.data.toList) X)) := fun X => specPlb_any s X hs
    have HI : Hid (∀ X, Below w.heap.size w X → Calls Tryd.prog 15 #[.string s] X (RetSS (plR s.data.toList) (plOk s.data.toList) X)) := fun X b => implPlb_any s X ⟨hF.1.below b, hF.2.1.below b, hF.2.2.below b⟩ hs
    have hR : SmSS (plR s.data.toList) := plR_sm _
    generalize plR s.data.toList = R at *
    generalize plOk s.data.toList = ok at *
    clear hF
    have hbb : (ok != ok) = false := by simp
    go_enter Tryd.func4, Tryd.ntmps4
    go_wp2_with fail
    refine (HS.out _).mono ?_
    rintro e w1 ⟨vw, rfl, ownw, b1⟩
    have z1 := b1.size
    go_wp2_with fail
    refine (HI.out _ b1).mono ?_
    rintro e w2 ⟨vg, rfl, owng, bel2⟩
    replace ownw := OwnSS.new ownw bel2
    have b2 := b1.trans (bel2.mono z1)
    have z2 := b2.size
    have z12 := bel2.size
    clear b1 bel2
    go_wp2_with fail
    refine (eqSS_any owng ownw hR).mono ?_
    rintro e w6 ⟨rfl, bel6⟩
    replace ownw := OwnSS.new ownw bel6
    replace owng := OwnSS.new owng bel6
    have b6 := b2.trans (bel6.mono z2)
    have z6 := b6.size
    have z26 := bel6.size
    clear b2 bel6
    go_wp2_with fail
    refine (markSS_any owng hR).mono ?_
    rintro e w11 ⟨rfl, owngm, fr11⟩
    replace ownw := OwnSS.fr ownw fr11 (fun k h1 h2 hc => by omega)
    have b11 := b6.trans (fr11.below (B := w.heap.size) (fun k h1 h2 hc => by omega) (by omega))
    have z11 := b11.size
    clear b6 fr11 owng
    go_wp2_with fail
    refine (heldSS_any owngm hR).mono ?_
    rintro e w12 ⟨rfl, bel12⟩
    replace ownw := OwnSS.new ownw bel12
    replace owngm := OwnSS.new owngm bel12
    have b12 := b11.trans (bel12.mono z11)
    have z12' := b12.size
    clear b11 bel12
    have hlt : ¬ (((1 + totSS R : Nat) : Int) < 0) := by omega
    go_wp2_with fail
    refine (HI.out _ b12).mono ?_
    rintro e w14 ⟨vh, rfl, ownh, bel14⟩
    replace ownw := OwnSS.new ownw bel14
    replace owngm := OwnSS.new owngm bel14
    have b14 := b12.trans (bel14.mono z12')
    have z14 := b14.size
    clear b12 bel14
    go_wp2_with fail
    refine (eqSS_any ownh ownw hR).mono ?_
    rintro e w15 ⟨rfl, bel15⟩
    replace owngm := OwnSS.new owngm bel15
    have b15 := b14.trans (bel15.mono z14)
    have z15 := b15.size
    clear b14 bel15 ownh ownw
    go_wp2_with fail
    refine (heldSS_any owngm hR).mono ?_
    rintro e w16 ⟨rfl, bel16⟩
    go_wp2_with fail
    go_ret
    exact ⟨rfl, b15.trans (bel16.mono z15)⟩
  · go_enter Tryd.func4, Tryd.ntmps4
    go_wp2_with fail
    go_ret
    exact ⟨rfl, Below.refl _ _⟩
end Go.Proofs.YtmjmgggfmccjmaaDoor
