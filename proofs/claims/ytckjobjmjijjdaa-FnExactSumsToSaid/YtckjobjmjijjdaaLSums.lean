
/- The law SumsTo. -/
import Derived.Test.YtckjobjmjijjdaaParts
namespace Go.Proofs.Ytckjobjmjijjdaa
open Go.RowKit
set_option linter.unusedVariables false
set_option maxRecDepth 100000 in
set_option maxHeartbeats 1000000 in
theorem FnExactSumsTo_walk (a : Option Addr) (cap : Nat) (l : List Int) (n : Int) (w : World) (ha : RdI w w.heap.size a l) (hi : I64s l) (hm : l.length ≤ maxLen) (_ : -9223372036854775808 ≤ n) (_ : n ≤ 9223372036854775807) :
    Calls Try.prog 6 #[.slice a l.length cap, .int .i64 n] w fun e w' => e = .returned (.bool true) ∧ Below w.heap.size w w' := by
  unfold maxLen at hm
  by_cases hlen : l.length ≤ 1048576
  · have HS : Hid (∀ A C W, RdI W W.heap.size A l → l.length ≤ C → Calls Try.prog 25 #[.slice A l.length C, .int .i64 n] W (PostI (stR l n) (stOk l n) W)) := fun A C W h1 h2 => specSumsTo_any A C l n W _ h1 (Nat.le_refl _) hlen h2
    have HI : Hid (∀ A C W, RdI W W.heap.size A l → l.length ≤ C → Calls Try.prog 26 #[.slice A l.length C, .int .i64 n] W (PostI (stR l n) (stOk l n) W)) := fun A C W h1 h2 => implSumsTo_any A C l n W _ h1 (Nat.le_refl _) hlen h2
    have hR : (stR l n).length ≤ 1048576 := stR_le l n hlen
    generalize stR l n = R at *
    generalize stOk l n = ok at *
    go_enter Try.func6, Try.ntmps6
    go_wp2_with fail
    refine (toIntS_any a cap l _ _ ha (Nat.le_refl _) (by omega)).mono ?_
    rintro e w1 ⟨rfl, own1, bel1⟩
    go_wp2_with fail
    refine (HS.out _ _ _ own1.rd (Nat.le_refl _)).mono ?_
    rintro e w2 ⟨aw, cw, rfl, ownw, bel2⟩
    have z1 := bel1.size
    have z2 := bel2.size
    have B2 := bel1.trans (bel2.mono z1)
    clear own1 bel1 bel2
    go_wp2_with fail
    refine (toIntS_any a cap l _ _ (ha.below B2) (by omega) (by omega)).mono ?_
    rintro e w3 ⟨rfl, ownx, bel3⟩
    replace ownw := Ow.new ownw bel3
    have z3 := bel3.size
    have B3 := B2.trans (bel3.mono (by omega))
    clear B2 bel3
    go_wp2_with fail
    refine (HI.out _ _ _ ownx.rd (Nat.le_refl _)).mono ?_
    rintro e w4 ⟨ag, cg, rfl, owng, bel4⟩
    replace ownw := Ow.new ownw bel4
    replace ownx := Ow.new ownx bel4
    have z4 := bel4.size
    have B4 := B3.trans (bel4.mono (by omega))
    clear B3 bel4
    go_wp2_with fail
    refine (eqIntS_any _ _ _ _ R R _ _ _ owng.rd ownw.rd (by omega) (by omega)).mono ?_
    rintro e w5 ⟨rfl, m5, h5⟩
    have bel5 : Below w4.heap.size w4 w5 := below_of_drewN h5
    have z5 := Nat.le_of_eq (size_of_drewN h5)
    have y5 := bel5.size
    clear h5
    replace ownw := Ow.new ownw bel5
    replace ownx := Ow.new ownx bel5
    replace owng := Ow.new owng bel5
    have B5 := B4.trans (bel5.mono (by omega))
    clear B4 bel5
    rw [decide_eq_true rfl]
    go_wp2_with fail
    refine (toIntS_any a cap l _ _ (ha.below B5) (by omega) (by omega)).mono ?_
    rintro e w6 ⟨rfl, own6, bel6⟩
    replace ownw := Ow.new ownw bel6
    replace ownx := Ow.new ownx bel6
    replace owng := Ow.new owng bel6
    have z6 := bel6.size
    have B6 := B5.trans (bel6.mono (by omega))
    clear B5 bel6
    go_wp2_with fail
    refine (eqIntS_any _ _ _ _ l l _ _ _ ownx.rd own6.rd (by omega) (by omega)).mono ?_
    rintro e w7 ⟨rfl, m7, h7⟩
    have bel7 : Below w6.heap.size w6 w7 := below_of_drewN h7
    have z7 := Nat.le_of_eq (size_of_drewN h7)
    have y7 := bel7.size
    clear h7 own6
    replace ownw := Ow.new ownw bel7
    replace ownx := Ow.new ownx bel7
    replace owng := Ow.new owng bel7
    have B7 := B6.trans (bel7.mono (by omega))
    clear B6 bel7
    rw [decide_eq_true rfl]
    go_wp2_with fail
    refine (markIntS_any _ _ l 1 _ _ _ ownx (by omega)).mono ?_
    rintro e w8 ⟨rfl, own8, fr8⟩
    replace ownw := Ow.fr ownw fr8 (fun k h1 h2 hc => by have := (Ow.blk_in ownx hc).1; omega)
    replace owng := Ow.fr owng fr8 (fun k h1 h2 hc => by have := (Ow.blk_in ownx hc).2; omega)
    have bel8 : Below w.heap.size w7 w8 := fr8.below (fun k h1 h2 hc => by have := (Ow.blk_in ownx hc).1; omega) (by omega)
    have z8 := fr8.size
    have B8 := B7.trans bel8
    clear B7 bel8 fr8 own8 ownx
    have hk : decide (((1 + l.length : Nat) : Int) < 0) = false := decide_eq_false (by omega)
    go_wp2_with fail
    refine (eqIntS_any _ _ _ _ R R _ _ _ owng.rd ownw.rd (by omega) (by omega)).mono ?_
    rintro e w9 ⟨rfl, m9, h9⟩
    have bel9 : Below w8.heap.size w8 w9 := below_of_drewN h9
    have z9 := Nat.le_of_eq (size_of_drewN h9)
    have y9 := bel9.size
    clear h9
    replace ownw := Ow.new ownw bel9
    replace owng := Ow.new owng bel9
    have B9 := B8.trans (bel9.mono (by omega))
    clear B8 bel9
    rw [decide_eq_true rfl]
    go_wp2_with fail
    refine (markIntS_any ag cg R 1 _ _ _ owng (by omega)).mono ?_
    rintro e w10 ⟨rfl, own10, fr10⟩
    replace ownw := Ow.fr ownw fr10 (fun k h1 h2 hc => by have := (Ow.blk_in owng hc).1; omega)
    have bel10 : Below w.heap.size w9 w10 := fr10.below (fun k h1 h2 hc => by have := (Ow.blk_in owng hc).1; omega) (by omega)
    have z10 := fr10.size
    have B10 := B9.trans bel10
    clear B9 bel10 fr10 owng
    go_wp2_with fail
    refine (heldIntS_any ag cg R.length 1 _ _ own10.rd (by omega)).mono ?_
    rintro e w11 ⟨rfl, m11, h11⟩
    have bel11 : Below w10.heap.size w10 w11 := below_of_drewN h11
    have z11 := Nat.le_of_eq (size_of_drewN h11)
    have y11 := bel11.size
    clear h11
    replace ownw := Ow.new ownw bel11
    replace own10 := Ow.new own10 bel11
    have B11 := B10.trans (bel11.mono (by omega))
    clear B10 bel11
    go_wp2_with fail
    refine (toIntS_any a cap l _ _ (ha.below B11) (by omega) (by omega)).mono ?_
    rintro e w12 ⟨rfl, own12, bel12⟩
    replace ownw := Ow.new ownw bel12
    replace own10 := Ow.new own10 bel12
    have z12 := bel12.size
    have B12 := B11.trans (bel12.mono (by omega))
    clear B11 bel12
    go_wp2_with fail
    refine (HI.out _ _ _ own12.rd (Nat.le_refl _)).mono ?_
    rintro e w13 ⟨ah, chh, rfl, ownh, bel13⟩
    replace ownw := Ow.new ownw bel13
    replace own10 := Ow.new own10 bel13
    have z13 := bel13.size
    have B13 := B12.trans (bel13.mono (by omega))
    clear B12 bel13 own12
    go_wp2_with fail
    refine (eqIntS_any _ _ _ _ R R _ _ _ ownh.rd ownw.rd (by omega) (by omega)).mono ?_
    rintro e w14 ⟨rfl, m14, h14⟩
    have bel14 : Below w13.heap.size w13 w14 := below_of_drewN h14
    have z14 := Nat.le_of_eq (size_of_drewN h14)
    have y14 := bel14.size
    clear h14
    replace own10 := Ow.new own10 bel14
    have B14 := B13.trans (bel14.mono (by omega))
    clear B13 bel14 ownh ownw
    rw [decide_eq_true rfl]
    go_wp2_with fail
    refine (heldIntS_any ag cg R.length 1 _ _ own10.rd (by omega)).mono ?_
    rintro e w15 ⟨rfl, m15, h15⟩
    have bel15 : Below w14.heap.size w14 w15 := below_of_drewN h15
    clear h15
    go_wp2_with fail
    go_ret
    exact ⟨rfl, B14.trans (bel15.mono (by omega))⟩
  · go_enter Try.func6, Try.ntmps6
    go_wp2_with fail
    go_ret
    exact ⟨rfl, Below.refl _ _⟩
end Go.Proofs.Ytckjobjmjijjdaa
