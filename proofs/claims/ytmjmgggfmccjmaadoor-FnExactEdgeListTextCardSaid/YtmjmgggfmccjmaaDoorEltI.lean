/- EdgeListText: impl's walk and spec's law function. -/
import Derived.Test.YtmjmgggfmccjmaaDoorEltS
namespace Go.Proofs.YtmjmgggfmccjmaaDoor
open Go.RowKit
set_option linter.unusedVariables false
set_option linter.unusedSimpArgs false
theorem stub_any (a b c d : Int) (w : World) : Calls Tryd.prog 60 #[.agg #[.int .i64 a, .int .i64 b, .int .i64 c, .int .i64 d]] w fun e w' => e = .returned (.bool (decide (a = c ∧ b = d))) ∧ Below w.heap.size w w' := by
  by_cases h1 : a = c
  · by_cases h2 : b = d
    · have H := Lib.hid (show decide (a = c ∧ b = d) = true from decide_eq_true ⟨h1, h2⟩)
      have e1 : (a == c) = true := by simp [h1]
      have e2 : (b == d) = true := by simp [h2]
      clear h1 h2
      go_enter Tryd.func60, Tryd.ntmps60
      go_wp2_with fail
      go_ret
      exact ⟨ret_bool H.out.symm, (by repeat (first | exact Below.refl _ _ | assumption | refine Below.alloc ?_ (by first | (simp; done) | (simp; omega) | omega) _ | refine Below.setCell ?_ (by first | (simp; done) | (simp; omega) | omega) _ | refine Below.drew ?_ | refine Below.drewN ?_ _))⟩
    · have H := Lib.hid (show decide (a = c ∧ b = d) = false from decide_eq_false fun h => h2 h.2)
      have e1 : (a == c) = true := by simp [h1]
      have e2 : (b == d) = false := by simp [h2]
      clear h1 h2
      go_enter Tryd.func60, Tryd.ntmps60
      go_wp2_with fail
      go_ret
      exact ⟨ret_bool H.out.symm, (by repeat (first | exact Below.refl _ _ | assumption | refine Below.alloc ?_ (by first | (simp; done) | (simp; omega) | omega) _ | refine Below.setCell ?_ (by first | (simp; done) | (simp; omega) | omega) _ | refine Below.drew ?_ | refine Below.drewN ?_ _))⟩
  · have H := Lib.hid (show decide (a = c ∧ b = d) = false from decide_eq_false fun h => h1 h.1)
    have e1 : (a == c) = false := by simp [h1]
    clear h1
    go_enter Tryd.func60, Tryd.ntmps60
    go_wp2_with fail
    go_ret
    exact ⟨ret_bool H.out.symm, (by repeat (first | exact Below.refl _ _ | assumption | refine Below.alloc ?_ (by first | (simp; done) | (simp; omega) | omega) _ | refine Below.setCell ?_ (by first | (simp; done) | (simp; omega) | omega) _ | refine Below.drew ?_ | refine Below.drewN ?_ _))⟩
set_option maxRecDepth 100000 in
set_option maxHeartbeats 1600000 in
theorem implElt_any (V : Value) (N : Net) (w : World) (B : Nat) (hv : NetIn w B V N) (hB : B ≤ w.heap.size) (hs : NetSmall N) (htab : PTab w) :
    Calls Tryd.prog 30 #[V] w fun e w' => e = .returned (.tuple #[.string (eltR N), .bool (netB N)]) ∧ Below w.heap.size w w' := by
  have HV := Lib.hid hv
  have HS := Lib.hid hs
  obtain ⟨a, c, vs, ai, ci, ap, cp, rfl, h1, h2, h3, _⟩ := hv
  have BA := Bx.made w 31 #[.slice a N.ends.length c, .slice ai N.ids.length ci, .slice ap N.inputs.length cp]
  have b0 : Below w.heap.size w (w.alloc (.cells #[.slice a N.ends.length c, .slice ai N.ids.length ci, .slice ap N.inputs.length cp] 31)) := (by repeat (first | exact Below.refl _ _ | assumption | refine Below.alloc ?_ (by first | (simp; done) | (simp; omega) | omega) _ | refine Below.setCell ?_ (by first | (simp; done) | (simp; omega) | omega) _ | refine Below.drew ?_ | refine Below.drewN ?_ _))
  have hql := edQ_le hs
  have HED := Lib.hid (fun V X B h1 h2 => edges_any V N X B h1 h2 hs)
  clear hs h1 h2 h3
  go_enter Tryd.func30, Tryd.ntmps30
  go_upto_region 1 with fail
  generalize w.alloc (.cells #[.slice a N.ends.length c, .slice ai N.ids.length ci, .slice ap N.inputs.length cp] 31) = w0 at *
  have q0 := BA.cell 0 _ rfl
  have q1 := BA.cell 1 _ rfl
  have q2 := BA.cell 2 _ rfl
  go_wp2_with fail
  refine (isNetwork_any _ N w0 B (HV.out.below (b0.mono hB)).rd (Nat.le_trans hB b0.size) HS.out).mono ?_
  rintro e w1 ⟨rfl, bel1⟩
  replace BA := BA.new bel1
  have b1 := b0.trans (bel1.mono b0.size)
  have z1 := b1.size
  clear b0 bel1 q0 q1 q2
  cases hn : netB N with
  | false =>
    have HF := Lib.hid hn
    clear hn
    go_wp2_with fail
    refine bodyPost_ret (v := .tuple #[.string ⟨#[]⟩, .bool false]) (by simp [results, Tryd.results30, go_sem]) rfl ?_
    exact ⟨by rw [eltR_f HF.out, HF.out]; first | done | rfl, b1⟩
  | true =>
  have HN := Lib.hid (eltR_t hn)
  have HNB := Lib.hid hn
  have hn40 : N.ends.length ≤ 40 := (netB_small hn).1
  have HOK := Lib.hid (fun k hk => edQ_ok hn (k := k) hk)
  have hdn := dec_two (show N.ends.length < 100 by omega)
  have HADD := Lib.hid (fun k x y hk hx hy hx2 hy2 => elAdd (qs := edQ N.ends) hn40 HOK.out hql (k := k) (x := x) (y := y) hk hx hy hx2 hy2)
  obtain ⟨TT, hTT⟩ : ∃ TT : Nat → ByteArray, TT = fun k => bs (elT N.ends.length (edQ N.ends) k) := ⟨_, rfl⟩
  have HT0 : ∀ X : World, (Op.stringOp .add (decB N.ends.length) ⟨#[10]⟩).run Tryd.prog X = .ok (.string (TT 0)) X := fun X => by rw [hTT]; exact str_add _ [10] X (by simp; omega)
  have HADD2 : Hid (∀ k x y, k < (edQ N.ends).length → (nthQ (edQ N.ends) k).a = ((x : Nat) : Int) → (nthQ (edQ N.ends) k).c = ((y : Nat) : Int) → x < 100 → y < 100 → ∃ u1 v1 u2, ElAdd (nthQ (edQ N.ends) k) x y (TT k) u1 v1 u2 (TT (k + 1))) := fun k x y h1 h2 h3 h4 h5 => by rw [hTT]; exact HADD.out k x y h1 h2 h3 h4 h5
  have HEND : Hid (bs (elT N.ends.length (edQ N.ends) (edQ N.ends).length) = TT (edQ N.ends).length) := by show _ = _; rw [hTT]
  rw [HEND.out] at HN
  clear hTT HADD HEND hn hdn
  generalize edQ N.ends = qs at *
  have q0 := BA.cell 0 _ rfl
  obtain ⟨t0, ht0⟩ : ∃ t0, t0 = TT 0 := ⟨_, rfl⟩
  rw [← ht0] at HT0
  have HTT0 := Lib.hid ht0
  clear ht0
  go_upto_region 4 with (go_at_call 51; refine (itoa_any N.ends.length _ (by omega) (htab.below b1)).mono ?_; rintro e w2 ⟨rfl, bel2⟩)
  replace BA := BA.new bel2
  have b2 := b1.trans (bel2.mono z1)
  have z2 := b2.size
  clear q0 HT0 b1 bel2 z1
  have q0 := BA.cell 0 _ rfl
  have q1 := BA.cell 1 _ rfl
  have q2 := BA.cell 2 _ rfl
  go_wp2_with fail
  refine (HED.out _ _ _ (HV.out.below (b2.mono hB)) (Nat.le_trans hB z2)).mono ?_
  rintro e w3 ⟨ae, ce, rfl, own3, bel3⟩
  have b3 := b2.trans (bel3.mono z2)
  have z3 := b3.size
  have HOWN := Lib.hid own3
  clear q0 q1 q2 BA b2 bel3 own3 HED z2
  go_wp2_with fail
  go_loopw [4, 18] (fun tv iv wr => ∃ k : Nat, k ≤ qs.length ∧ iv = .int .i64 k ∧ tv = .string (TT k) ∧ Below w3.heap.size w3 wr) (fun _ iv _ => qs.length - (intOf iv).toNat)
  case atStart => exact ⟨0, Nat.zero_le _, rfl, by rw [HTT0.out], Below.refl _ _⟩
  case round =>
    obtain ⟨k, hk, rfl, rfl, bel⟩ := hrel
    have zw := bel.size
    by_cases hlt : k < qs.length
    · obtain ⟨g, rfl, e0, e1, e2, e3⟩ := RdQ.at HOWN.out hlt
      have s0 := (bel.cell (World.block_lt_of_cell? _ _ e0)).trans e0
      have s1 := (bel.cell (World.block_lt_of_cell? _ _ e1)).trans e1
      have s2 := (bel.cell (World.block_lt_of_cell? _ _ e2)).trans e2
      have s3 := (bel.cell (World.block_lt_of_cell? _ _ e3)).trans e3
      clear e0 e1 e2 e3
      obtain ⟨⟨x, hx, hx2⟩, ⟨y, hy, hy2⟩⟩ := HOK.out k hlt
      obtain ⟨u1, v1, u2, HA⟩ := HADD2.out k x y hlt hx hy (by omega) (by omega)
      have hx3 : x < 1000000 := by omega
      have hy3 : y < 1000000 := by omega
      rw [hx] at s0
      rw [hy] at s2
      have HST := Lib.hid (show elStub (nthQ qs k) = decide ((x : Int) = (y : Int) ∧ (nthQ qs k).b = (nthQ qs k).d) by rw [elStub, hx, hy])
      generalize TT k = tk at *
      obtain ⟨tn, htn⟩ : ∃ tn, tn = TT (k + 1) := ⟨_, rfl⟩
      rw [← htn] at HA
      have HTN := Lib.hid htn
      generalize (nthQ qs k).b = bb at *
      generalize (nthQ qs k).d = dd at *
      clear hx hy htn
      have h1 := HA.one
      have h2 := HA.blank
      have h3 := HA.two
      have HES := Lib.hid HA.endS
      have HEE := Lib.hid HA.endE
      have BQ := Bx.made wr 80 #[.int .i64 (x : Int), .int .i64 bb, .int .i64 (y : Int), .int .i64 dd]
      have bQ : Below w3.heap.size w3 (wr.alloc (.cells #[.int .i64 (x : Int), .int .i64 bb, .int .i64 (y : Int), .int .i64 dd] 80)) := bel.alloc zw _
      go_upto_region 7 with fail
      generalize wr.alloc (.cells #[.int .i64 (x : Int), .int .i64 bb, .int .i64 (y : Int), .int .i64 dd] 80) = wq at *
      have zq := bQ.size
      have q0 := BQ.cell 0 _ rfl
      clear s0 s1 s2 s3 zw bel
      go_upto_region 8 with (go_at_call 51; refine (itoa_any x _ hx3 (htab.below (b3.trans (bQ.mono z3)))).mono ?_; rintro e w4 ⟨rfl, bel4⟩)
      have BQ4 := BQ.new bel4
      have b4 := bQ.trans (bel4.mono zq)
      have z4 := b4.size
      clear q0 BQ bQ bel4 zq h1
      have q0 := BQ4.cell 0 _ rfl
      have q1 := BQ4.cell 1 _ rfl
      have q2 := BQ4.cell 2 _ rfl
      have q3 := BQ4.cell 3 _ rfl
      cases hst : decide ((x : Int) = (y : Int) ∧ bb = dd) with
      | true =>
        have h4 := HES.out (by rw [HST.out, hst])
        have HS1 : Hid (∀ X, Calls Tryd.prog 60 #[.agg #[.int .i64 (x : Int), .int .i64 bb, .int .i64 (y : Int), .int .i64 dd]] X fun e w' => e = .returned (.bool true) ∧ Below X.heap.size X w') := fun X => by have := stub_any x bb y dd X; rw [hst] at this; exact this
        clear hst
        go_wp2_with (go_at_call 60; refine (HS1.out _).mono ?_; rintro e w5 ⟨rfl, bel5⟩)
        go_roundw
        case rel => exact ⟨k + 1, by omega, by go_num, by rw [HTN.out], b4.trans (bel5.mono z4)⟩
        case measure => simp [intOf]; omega
      | false =>
        have h4 := HEE.out (by rw [HST.out, hst])
        have HS1 : Hid (∀ X, Calls Tryd.prog 60 #[.agg #[.int .i64 (x : Int), .int .i64 bb, .int .i64 (y : Int), .int .i64 dd]] X fun e w' => e = .returned (.bool false) ∧ Below X.heap.size X w') := fun X => by have := stub_any x bb y dd X; rw [hst] at this; exact this
        clear hst
        go_upto_region 9 with (go_at_call 60; refine (HS1.out _).mono ?_; rintro e w5 ⟨rfl, bel5⟩)
        have BQ5 := BQ4.new bel5
        have b5 := b4.trans (bel5.mono z4)
        have z5 := b5.size
        clear q0 q1 q2 q3 BQ4 b4 bel5
        have q2 := BQ5.cell 2 _ rfl
        go_wp2_with (go_at_call 51; refine (itoa_any y _ hy3 (htab.below (b3.trans (b5.mono z3)))).mono ?_; rintro e w6 ⟨rfl, bel6⟩)
        go_roundw
        case rel => exact ⟨k + 1, by omega, by go_num, by rw [HTN.out], b5.trans (bel6.mono z5)⟩
        case measure => simp [intOf]; omega
    · obtain rfl : k = qs.length := by omega
      obtain ⟨tk, htk⟩ : ∃ tk, tk = TT qs.length := ⟨_, rfl⟩
      rw [← htk] at HN ⊢
      clear htk
      go_wp2_with fail
      refine bodyPost_ret (v := .tuple #[.string tk, .bool true]) (by simp [results, Tryd.results30, go_sem]) rfl ?_
      exact ⟨by rw [HN.out, HNB.out], b3.trans (bel.mono z3)⟩
set_option maxRecDepth 100000 in
set_option maxHeartbeats 800000 in
theorem specElt_any (V : Value) (N : Net) (w : World) (B : Nat) (hv : NetIn w B V N) (hB : B ≤ w.heap.size) (hs : NetSmall N) :
    Calls Tryd.prog 29 #[V] w fun e w' => e = .returned (.tuple #[.string (eltR N), .bool (netB N)]) ∧ Below w.heap.size w w' := by
  have HV := Lib.hid hv
  have HS := Lib.hid hs
  obtain ⟨a, c, vs, ai, ci, ap, cp, rfl, h1, h2, h3, _⟩ := hv
  have BA := Bx.made w 31 #[.slice a N.ends.length c, .slice ai N.ids.length ci, .slice ap N.inputs.length cp]
  have b0 : Below w.heap.size w (w.alloc (.cells #[.slice a N.ends.length c, .slice ai N.ids.length ci, .slice ap N.inputs.length cp] 31)) := (by repeat (first | exact Below.refl _ _ | assumption | refine Below.alloc ?_ (by first | (simp; done) | (simp; omega) | omega) _ | refine Below.setCell ?_ (by first | (simp; done) | (simp; omega) | omega) _ | refine Below.drew ?_ | refine Below.drewN ?_ _))
  clear hs h1 h2 h3
  go_enter Tryd.func29, Tryd.ntmps29
  go_upto_region 1 with fail
  generalize w.alloc (.cells #[.slice a N.ends.length c, .slice ai N.ids.length ci, .slice ap N.inputs.length cp] 31) = w0 at *
  have q0 := BA.cell 0 _ rfl
  have q1 := BA.cell 1 _ rfl
  have q2 := BA.cell 2 _ rfl
  go_wp2_with fail
  refine (neGood_any _ N w0 B (HV.out.below (b0.mono hB)) (Nat.le_trans hB b0.size) HS.out).mono ?_
  rintro e w1 ⟨rfl, bel1⟩
  replace BA := BA.new bel1
  have b1 := b0.trans (bel1.mono b0.size)
  have z1 := b1.size
  clear b0 bel1 q0 q1 q2
  cases hn : netB N with
  | false =>
    have HF := Lib.hid hn
    clear hn
    go_wp2_with fail
    refine bodyPost_ret (v := .tuple #[.string ⟨#[]⟩, .bool false]) (by simp [results, Tryd.results29, go_sem]) rfl ?_
    exact ⟨by rw [eltR_f HF.out, HF.out]; first | done | rfl, b1⟩
  | true =>
    have HN := Lib.hid (eltR_t hn)
    have HNB := Lib.hid hn
    have HT := Lib.hid (fun V X B h1 h2 => txEdges_any V N X B h1 h2 HS.out hn)
    obtain ⟨R, hR⟩ : ∃ R, R = eltR N := ⟨_, rfl⟩
    have HRR := Lib.hid hR
    rw [← HN.out, ← hR] at HT
    clear hn HN hR
    have q0 := BA.cell 0 _ rfl
    have q1 := BA.cell 1 _ rfl
    have q2 := BA.cell 2 _ rfl
    go_wp2_with fail
    refine (HT.out _ w1 B (HV.out.below (b1.mono hB)) (Nat.le_trans hB z1)).mono ?_
    rintro e w2 ⟨rfl, bel2⟩
    go_wp2_with fail
    refine bodyPost_ret (v := .tuple #[.string R, .bool true]) (by simp [results, Tryd.results29, go_sem]) rfl ?_
    exact ⟨by rw [HNB.out, HRR.out], b1.trans (bel2.mono z1)⟩
end Go.Proofs.YtmjmgggfmccjmaaDoor
