/- NetworkText: the two functions. -/
import Derived.Test.YtmjmgggfmccjmaaDoorNtI
namespace Go.Proofs.YtmjmgggfmccjmaaDoor
open Go.RowKit
set_option linter.unusedVariables false
set_option linter.unusedSimpArgs false
set_option maxRecDepth 100000 in
set_option maxHeartbeats 800000 in
theorem specNt_any (V : Value) (N : Net) (w : World) (B : Nat) (hv : NetIn w B V N) (hB : B ≤ w.heap.size) (hs : NetSmall N) :
    Calls Tryd.prog 10 #[V] w fun e w' => e = .returned (.tuple #[.string (ntR N), .bool (netB N)]) ∧ Below w.heap.size w w' := by
  have HV := Lib.hid hv
  have HS := Lib.hid hs
  obtain ⟨a, c, vs, ai, ci, ap, cp, rfl, h1, h2, h3, _⟩ := hv
  have BA := Bx.made w 31 #[.slice a N.ends.length c, .slice ai N.ids.length ci, .slice ap N.inputs.length cp]
  have b0 : Below w.heap.size w (w.alloc (.cells #[.slice a N.ends.length c, .slice ai N.ids.length ci, .slice ap N.inputs.length cp] 31)) := (by repeat (first | exact Below.refl _ _ | assumption | refine Below.alloc ?_ (by first | (simp; done) | (simp; omega) | omega) _ | refine Below.setCell ?_ (by first | (simp; done) | (simp; omega) | omega) _ | refine Below.drew ?_ | refine Below.drewN ?_ _))
  clear hs h1 h2 h3
  go_enter Tryd.func10, Tryd.ntmps10
  go_upto_region 1 with fail
  generalize w.alloc (.cells #[.slice a N.ends.length c, .slice ai N.ids.length ci, .slice ap N.inputs.length cp] 31) = w0 at *
  have q0 := BA.cell 0 _ rfl
  have q1 := BA.cell 1 _ rfl
  have q2 := BA.cell 2 _ rfl
  go_wp2_with fail
  refine (neGood_any _ N w0 B (HV.out.below (b0.mono hB)) (Nat.le_trans hB b0.size) HS.out).mono ?_
  rintro e w1 ⟨rfl, bel1⟩
  replace BA := BA.new bel1
  have b1 := b0.trans (bel1.mono b0.size)
  have z1 := b1.size
  clear b0 bel1 q0 q1 q2
  cases hn : netB N with
  | false =>
    have HF := Lib.hid hn
    clear hn
    go_wp2_with fail
    refine bodyPost_ret (v := .tuple #[.string ⟨#[]⟩, .bool false]) (by simp [results, Tryd.results10, go_sem]) rfl ?_
    exact ⟨by rw [ntR_f HF.out, HF.out]; first | done | rfl, b1⟩
  | true =>
    have HN := Lib.hid (ntR_t hn)
    have HNB := Lib.hid hn
    have HT := Lib.hid (fun V X B h1 h2 => txNet_any V N X B h1 h2 HS.out hn)
    obtain ⟨R, hR⟩ : ∃ R, R = ntR N := ⟨_, rfl⟩
    have HRR := Lib.hid hR
    rw [← HN.out, ← hR] at HT
    clear hn HN hR
    have q0 := BA.cell 0 _ rfl
    have q1 := BA.cell 1 _ rfl
    have q2 := BA.cell 2 _ rfl
    go_wp2_with fail
    refine (HT.out _ w1 B (HV.out.below (b1.mono hB)) (Nat.le_trans hB z1)).mono ?_
    rintro e w2 ⟨rfl, bel2⟩
    go_wp2_with fail
    refine bodyPost_ret (v := .tuple #[.string R, .bool true]) (by simp [results, Tryd.results10, go_sem]) rfl ?_
    exact ⟨by rw [HNB.out, HRR.out], b1.trans (bel2.mono z1)⟩
set_option maxRecDepth 100000 in
set_option maxHeartbeats 800000 in
theorem implNt_any (V : Value) (N : Net) (w : World) (B : Nat) (hv : NetIn w B V N) (hB : B ≤ w.heap.size) (hs : NetSmall N) (htab : PTab w) :
    Calls Tryd.prog 12 #[V] w fun e w' => e = .returned (.tuple #[.string (ntR N), .bool (netB N)]) ∧ Below w.heap.size w w' := by
  have HV := Lib.hid hv
  have HS := Lib.hid hs
  obtain ⟨a, c, vs, ai, ci, ap, cp, rfl, h1, h2, h3, _⟩ := hv
  have BA := Bx.made w 31 #[.slice a N.ends.length c, .slice ai N.ids.length ci, .slice ap N.inputs.length cp]
  have b0 : Below w.heap.size w (w.alloc (.cells #[.slice a N.ends.length c, .slice ai N.ids.length ci, .slice ap N.inputs.length cp] 31)) := (by repeat (first | exact Below.refl _ _ | assumption | refine Below.alloc ?_ (by first | (simp; done) | (simp; omega) | omega) _ | refine Below.setCell ?_ (by first | (simp; done) | (simp; omega) | omega) _ | refine Below.drew ?_ | refine Below.drewN ?_ _))
  clear hs h1 h2 h3
  go_enter Tryd.func12, Tryd.ntmps12
  go_upto_region 1 with fail
  generalize w.alloc (.cells #[.slice a N.ends.length c, .slice ai N.ids.length ci, .slice ap N.inputs.length cp] 31) = w0 at *
  have q0 := BA.cell 0 _ rfl
  have q1 := BA.cell 1 _ rfl
  have q2 := BA.cell 2 _ rfl
  go_wp2_with fail
  refine (isNetwork_any _ N w0 B (HV.out.below (b0.mono hB)).rd (Nat.le_trans hB b0.size) HS.out).mono ?_
  rintro e w1 ⟨rfl, bel1⟩
  replace BA := BA.new bel1
  have b1 := b0.trans (bel1.mono b0.size)
  have z1 := b1.size
  clear b0 bel1 q0 q1 q2
  cases hn : netB N with
  | false =>
    have HF := Lib.hid hn
    clear hn
    go_wp2_with fail
    refine bodyPost_ret (v := .tuple #[.string ⟨#[]⟩, .bool false]) (by simp [results, Tryd.results12, go_sem]) rfl ?_
    exact ⟨by rw [ntR_f HF.out, HF.out]; first | done | rfl, b1⟩
  | true =>
    have HN := Lib.hid (ntR_t hn)
    have HNB := Lib.hid hn
    have HT := Lib.hid (fun V X B h1 h2 h3 => netText_any V N X B h1 h2 HS.out hn h3)
    obtain ⟨R, hR⟩ : ∃ R, R = ntR N := ⟨_, rfl⟩
    have HRR := Lib.hid hR
    rw [← HN.out, ← hR] at HT
    clear hn HN hR
    have q0 := BA.cell 0 _ rfl
    have q1 := BA.cell 1 _ rfl
    have q2 := BA.cell 2 _ rfl
    go_wp2_with fail
    refine (HT.out _ w1 B (HV.out.below (b1.mono hB)) (Nat.le_trans hB z1) (htab.below b1)).mono ?_
    rintro e w2 ⟨rfl, bel2⟩
    go_wp2_with fail
    refine bodyPost_ret (v := .tuple #[.string R, .bool true]) (by simp [results, Tryd.results12, go_sem]) rfl ?_
    exact ⟨by rw [HNB.out, HRR.out], b1.trans (bel2.mono z1)⟩
end Go.Proofs.YtmjmgggfmccjmaaDoor
