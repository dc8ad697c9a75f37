/- LabelingText: the law's walk. -/
import Derived.Test.YtmjmgggfmccjmaaDoorLab
namespace Go.Proofs.YtmjmgggfmccjmaaDoor
open Go.RowKit
set_option linter.unusedVariables false
set_option linter.unusedSimpArgs false
theorem RowsI.rdII {w : World} {lo hi : Nat} {a : Option Addr} {cap : Nat} {rows : List (List Int)} {vs : Nat → Option Addr × Nat} (h : RowsI w lo hi a cap rows vs) : RdII w hi a rows vs :=
  ⟨Ow.rd h.1, fun j hj => OwI.rd (h.2.1 j hj)⟩
theorem RowsI.new {w w' : World} {lo hi : Nat} {a : Option Addr} {cap : Nat} {rows : List (List Int)} {vs : Nat → Option Addr × Nat} (h : RowsI w lo hi a cap rows vs) (hb : Below w.heap.size w w') : RowsI w' lo hi a cap rows vs := RowsAt.new h hb
set_option maxRecDepth 100000 in
set_option maxHeartbeats 800000 in
theorem specLab_any (a : Option Addr) (cap : Nat) (rows : List (List Int)) (vs : Nat → Option Addr × Nat) (w : World) (B : Nat) (ha : RdII w B a rows vs) (hB : B ≤ w.heap.size) (hl : rows.length ≤ 1048600) (hl2 : ∀ j, j < rows.length → (rowOf rows j).length ≤ 1048600) :
    Calls Tryd.prog 23 #[.slice a rows.length cap] w fun e w' => e = .returned (.tuple #[.string (labR rows), .bool (labOk rows)]) ∧ Below w.heap.size w w' := by
  have HA := Lib.hid ha
  have HL2 := Lib.hid hl2
  clear hl2 ha
  cases hok : labOk rows with
  | false =>
    have HO := Lib.hid hok
    go_enter Tryd.func23, Tryd.ntmps23
    go_wp2_with (go_at_call 43; refine (txLabels_any a cap rows vs _ B HA.out hB hl HL2.out).mono ?_; rintro e w1 ⟨rfl, hq⟩; rw [HO.out])
    refine bodyPost_ret (v := .tuple #[.string ⟨#[]⟩, .bool false]) (by simp [results, Tryd.results23, go_sem]) rfl ?_
    exact ⟨by rw [labR_f HO.out]; first | done | rfl, hq.below _⟩
  | true =>
    have HO := Lib.hid hok
    go_enter Tryd.func23, Tryd.ntmps23
    go_upto_region 3 with (go_at_call 43; refine (txLabels_any a cap rows vs _ B HA.out hB hl HL2.out).mono ?_; rintro e w1 ⟨rfl, hq⟩; rw [HO.out])
    have ha1 : RdII w1 B a rows vs := HA.out.below (hq.below _)
    have hb1 : Below w.heap.size w w1 := hq.below _
    have hs1 := hb1.size
    go_wp2_with fail
    refine (txLabeling_any a cap rows vs _ B ha1 (by omega) HO.out).mono ?_
    rintro e w2 ⟨rfl, bel2⟩
    go_wp2_with fail
    refine bodyPost_ret (v := .tuple #[.string (bs (labT rows)), .bool true]) (by simp [results, Tryd.results23, go_sem]) rfl ?_
    exact ⟨by rw [labR_t HO.out], hb1.trans (bel2.mono hs1)⟩
theorem no_laid {W : World} (h : laidMetH Tryd.prog Rows.fnExactLabelingTextRow.laid W) : True := trivial
set_option maxRecDepth 100000 in
set_option maxHeartbeats 1600000 in
theorem FnExactLabelingText_walk (a : Option Addr) (cap : Nat) (rows : List (List Int)) (vs : Nat → Option Addr × Nat) (w : World) (ha : RdII w w.heap.size a rows vs) (hl : rows.length ≤ maxLen) (hm : ∀ j, j < rows.length → (rowOf rows j).length ≤ maxLen) (hT : True) :
    Calls Tryd.prog 6 #[.slice a rows.length cap] w fun e w' => e = .returned (.bool true) ∧ Below w.heap.size w w' := by
  have HA := Lib.hid ha
  have HM := Lib.hid hm
  have hl' : rows.length ≤ 9223372036854775807 := hl
  clear ha hm hl
  by_cases hz : rows.length + Total rows ≤ 1048576
  · have HZ := Lib.hid (szL_yes hz)
    have hl1 : rows.length ≤ 1048576 := by omega
    have HL2 : Hid (∀ j, j < rows.length → (rowOf rows j).length ≤ 1048576) := fun j hj => by have := row_le_total rows j hj; omega
    have hz2 : Total rows + 1 ≤ 4611686018427387904 := by omega
    have hd : decide (((1048576 - (rows.length + Total rows) : Nat) : Int) < 0) = false := decide_eq_false (by omega)
    clear hz
    go_enter Tryd.func6, Tryd.ntmps6
    go_upto_region 5 with (go_at_call 22; refine (szIntSS_any a cap rows vs 1048576 _ _ HA.out hl' HM.out (by decide)).mono ?_; rintro e w1 ⟨rfl, rfl⟩; rw [HZ.out])
    clear hd
    go_wp2_with fail
    refine (toIntSS_any a cap rows vs _ _ HA.out (Nat.le_refl _) hl1 HL2.out).mono ?_
    rintro e w1 ⟨vs1, rfl, r1, b1⟩
    have d1 := RowsI.rdII r1
    go_wp2_with fail
    refine (specLab_any _ _ rows vs1 _ _ d1 (Nat.le_refl _) (by omega) (fun j hj => Nat.le_trans (HL2.out j hj) (by decide))).mono ?_
    rintro e w2 ⟨rfl, bel2⟩
    replace b1 := b1.trans (bel2.mono b1.size)
    clear r1 d1 bel2
    have ha2 := HA.out.below b1
    have z2 := b1.size
    go_wp2_with fail
    refine (toIntSS_any a cap rows vs _ _ ha2 z2 hl1 HL2.out).mono ?_
    rintro e w3 ⟨vs3, rfl, r3, b3⟩
    have b13 := b1.trans (b3.mono z2)
    have z3 := b3.size
    go_wp2_with fail
    refine (implLab_any _ _ rows vs3 _ _ (RowsI.rdII r3) (Nat.le_refl _) (by omega) (fun j hj => Nat.le_trans (HL2.out j hj) (by decide))).mono ?_
    rintro e w4 ⟨rfl, bel4⟩
    have r4 := RowsI.new r3 bel4
    have b4 := b13.trans (bel4.mono (by omega))
    have z4 := bel4.size
    have ha4 := HA.out.below b4
    clear r3 b3 bel4 ha2
    generalize labR rows = R at *
    generalize labOk rows = ok at *
    go_upto_region 10 with fail
    go_wp2_with fail
    refine (toIntSS_any a cap rows vs _ _ ha4 (by omega) hl1 HL2.out).mono ?_
    rintro e w5 ⟨vs5, rfl, r5, b5⟩
    have r6 := RowsI.new r4 b5
    have b6 := b4.trans (b5.mono (by omega))
    go_wp2_with fail
    refine (eqIntSS_any _ _ _ _ rows rows vs3 vs5 _ _ _ _ _ r6 r5 hl1 hl1 HL2.out HL2.out rfl).mono ?_
    rintro e w6 ⟨rfl, q6⟩
    go_wp2_with fail
    go_ret
    refine ⟨rfl, ?_⟩
    obtain ⟨m, rfl⟩ := q6
    exact Below.drewN b6 m
  · have HZ := Lib.hid (szL_no hz)
    clear hz
    go_enter Tryd.func6, Tryd.ntmps6
    go_wp2_with (go_at_call 22; refine (szIntSS_any a cap rows vs 1048576 _ _ HA.out hl' HM.out (by decide)).mono ?_; rintro e w1 ⟨rfl, rfl⟩; rw [HZ.out])
    go_ret
    exact ⟨rfl, Below.refl _ _⟩
end Go.Proofs.YtmjmgggfmccjmaaDoor
