/- SubdivideEdges: the functions. -/
import Derived.Test.YtabpimhkjgojhaaDblP
import Derived.Test.YtabpimhkjgojhaaNBxA
import Derived.Test.YtabpimhkjgojhaaOwn
import Derived.Test.YtabpimhkjgojhaaCopy
import Derived.Test.YtabpimhkjgojhaaFit
import Derived.StillTailTactics
namespace Go.Proofs.Ytabpimhkjgojhaa
open Go.RowKit
set_option linter.unusedVariables false
set_option linter.unusedSimpArgs false


theorem NetSmall.fit {N : Net} (h : NetSmall N) : NetFit N := by
  have hr := h.row
  unfold NetSmall at h
  exact ⟨by omega, by omega, by omega, hr⟩
theorem Ow.oneRow {w : World} {lo hi b : Nat} {t : TypeId} {u : Value} (h : Bx w b t #[u]) (hl : lo ≤ b) (hh : b < hi) : Ow w lo hi t 1 (some ⟨b, 0, none⟩) 1 1 (fun _ => u) := by
  refine Ow.of_row (F := fun _ => u) ⟨_, h, rfl, fun i hi => ?_⟩ hl hh (Nat.le_refl _) (by decide) fun j _ => rfl
  match i, hi with
  | 0, _ => rfl
theorem Ow.twoEnds {w : World} {lo hi b : Nat} {t : TypeId} {x y p q : Int} (h : Bx w b t #[.int .i64 x, .int .i64 y, .int .i64 p, .int .i64 q]) (hl : lo ≤ b) (hh : b < hi) : Ow w lo hi t 2 (some ⟨b, 0, none⟩) 2 2 (cellE [(x, y), (p, q)]) := by
  refine Ow.of_row (F := cellE [(x, y), (p, q)]) ⟨_, h, rfl, fun i hi => ?_⟩ hl hh (Nat.le_refl _) (by decide) fun j _ => rfl
  match i, hi with
  | 0, _ => rfl
  | 1, _ => rfl
  | 2, _ => rfl
  | 3, _ => rfl
theorem qL_at (qs : List Q4) (j : Nat) (hj : j < qs.length) : rowOf (qL qs) j = (nthQ qs j).list := by
  unfold qL nthQ
  rw [rowOf_eq_getElem _ _ (by simpa using hj), List.getElem_map, List.getD_eq_getElem?_getD, List.getElem?_eq_getElem hj]
  rfl
theorem sdT_yes {N : Net} {k : Nat} {q : Q4} (he : nthQ (edQ N.ends) k = q) (h : stubQ q = true) : sdT N (k + 1) = sdT N k := by rw [sdT, he, h]; rfl
theorem sdT_no {N : Net} {k : Nat} {q : Q4} (he : nthQ (edQ N.ends) k = q) (h : stubQ q = false) : sdT N (k + 1) = { ends := sdS (sdT N k).ends q, ids := [], inputs := (sdT N k).inputs ++ [0] } := by rw [sdT, he, h]; rfl
set_option maxHeartbeats 400000 in
theorem stub_any (a b c d : Int) (w : World) : Calls Try.prog 88 #[.agg #[.int .i64 a, .int .i64 b, .int .i64 c, .int .i64 d]] w fun e w' => e = .returned (.bool (stubQ ⟨a, b, c, d⟩)) ∧ Below w.heap.size w w' := by
  have b0 : Below w.heap.size w (w.alloc (.cells #[.int .i64 a, .int .i64 b, .int .i64 c, .int .i64 d] 92)) := (by repeat (first | exact Below.refl _ _ | assumption | refine Below.alloc ?_ (by first | (simp; done) | (simp; omega) | omega) _ | refine Below.setCell ?_ (by first | (simp; done) | (simp; omega) | omega) _ | refine Below.drew ?_ | refine Below.drewN ?_ _))
  by_cases h1 : a = c
  · subst h1
    by_cases h2 : b = d
    · subst h2
      go_enter Try.func88, Try.ntmps88
      go_wp2_with fail
      go_ret
      exact ⟨ret_bool (by simp [stubQ]), b0⟩
    · have HS := Lib.hid (show stubQ ⟨a, b, a, d⟩ = false from decide_eq_false (fun h => h2 h.2))
      go_enter Try.func88, Try.ntmps88
      go_wp2_with fail
      go_ret
      exact ⟨ret_bool (by rw [HS.out]; simp [h2]), b0⟩
  · have HS := Lib.hid (show stubQ ⟨a, b, c, d⟩ = false from decide_eq_false (fun h => h1 h.1))
    go_enter Try.func88, Try.ntmps88
    go_wp2_with fail
    go_ret
    exact ⟨ret_bool (by rw [HS.out]), b0⟩
set_option maxRecDepth 100000 in
set_option maxHeartbeats 3200000 in
theorem sub_any (V : Value) (N : Net) (w : World) (B : Nat) (hv : NetIn w B V N) (hB : B ≤ w.heap.size) (hs : NetSmall N) :
    Calls Try.prog 36 #[V] w (PostN (sdR N) (sdOk N) w) := by
  have HV := Lib.hid hv
  have HS := Lib.hid hs
  obtain ⟨a, c, vs, ai, ci, ap, cp, rfl, h1, _⟩ := hv
  have hl : N.ends.length ≤ 1048576 := by unfold NetSmall at hs; omega
  have BA := (Bx.made w 25 #[.slice a N.ends.length c, .slice ai N.ids.length ci, .slice ap N.inputs.length cp]).alloc (.cells #[.slice none 0 0, .slice none 0 0, .slice none 0 0] 25)
  have BR := Bx.made (w.alloc (.cells #[.slice a N.ends.length c, .slice ai N.ids.length ci, .slice ap N.inputs.length cp] 25)) 25 #[.slice none 0 0, .slice none 0 0, .slice none 0 0]
  have b0 : Below w.heap.size w ((w.alloc (.cells #[.slice a N.ends.length c, .slice ai N.ids.length ci, .slice ap N.inputs.length cp] 25)).alloc (.cells #[.slice none 0 0, .slice none 0 0, .slice none 0 0] 25)) := (by repeat (first | exact Below.refl _ _ | assumption | refine Below.alloc ?_ (by first | (simp; done) | (simp; omega) | omega) _ | refine Below.setCell ?_ (by first | (simp; done) | (simp; omega) | omega) _ | refine Below.drew ?_ | refine Below.drewN ?_ _))
  have z0 : w.heap.size + 1 + 1 ≤ ((w.alloc (.cells #[.slice a N.ends.length c, .slice ai N.ids.length ci, .slice ap N.inputs.length cp] 25)).alloc (.cells #[.slice none 0 0, .slice none 0 0, .slice none 0 0] 25)).heap.size := by simp
  rw [World.size_alloc] at BR
  clear hs h1
  go_enter Try.func36, Try.ntmps36
  go_wp2_with fail
  generalize (w.alloc (.cells #[.slice a N.ends.length c, .slice ai N.ids.length ci, .slice ap N.inputs.length cp] 25)).alloc (.cells #[.slice none 0 0, .slice none 0 0, .slice none 0 0] 25) = w0 at *
  refine (isNetwork_any _ N _ B (HV.out.below (b0.mono hB)).rd (Nat.le_trans hB b0.size) HS.out).mono ?_
  rintro e w1 ⟨rfl, bel1⟩
  replace BA := BA.new bel1
  replace BR := BR.new bel1
  have z1 := bel1.size
  have bb := b0.trans (bel1.mono b0.size)
  clear b0 bel1
  cases hn : netB N with
  | false =>
    have HF := Lib.hid (sdOk_f hn)
    clear hn
    have e0 := BR.cell 0 _ rfl
    have e1 := BR.cell 1 _ rfl
    have e2 := BR.cell 2 _ rfl
    have f0 := BR.frozen 0
    have f1 := BR.frozen 1
    have f2 := BR.frozen 2
    go_wp2_with fail
    clear e0 e1 e2 f0 f1 f2
    generalize hW : World.setCell _ _ _ = W
    have B6 : Bx W (w.heap.size + 1) 25 #[.slice none 0 0, .slice none 0 0, .slice none 0 0] := by rw [← hW]; exact ((BR.set 0 _).set 1 _).set 2 _
    have fr6 : Fr (fun k => k = w.heap.size + 1) w1 W := by rw [← hW]; exact fr3 _ _ _ _ _
    clear hW
    have z6 := fr6.size
    have d0 := B6.cell 0 _ rfl
    have d1 := B6.cell 1 _ rfl
    have d2 := B6.cell 2 _ rfl
    refine bodyPost_ret (v := .tuple #[.agg #[.slice none 0 0, .slice none 0 0, .slice none 0 0], .bool false]) (by simp [results, Try.results36, go_sem, d0, d1, d2]) rfl ?_
    rw [sdR_f HF.out, id HF.out]
    exact ⟨_, rfl, NetAt.nilN _ _ _, bb.trans (fr6.below (fun k h1 h2 hc => by omega) bb.size)⟩
  | true =>
    have HN := Lib.hid hn
    have HSM := Lib.hid (netB_small hn)
    have HE240 := Lib.hid (edQ_240 hn)
    clear hn
    have c0 := BA.cell 0 _ rfl
    have c1 := BA.cell 1 _ rfl
    have c2 := BA.cell 2 _ rfl
    go_wp2_with fail
    refine (copyNetwork_any _ N _ B (HV.out.below (bb.mono hB)) (Nat.le_trans hB bb.size) HS.out).mono ?_
    rintro e w2 ⟨x2, rfl, own2, bel2⟩
    replace BA := BA.new bel2
    replace BR := BR.new bel2
    replace bb := bb.trans (bel2.mono bb.size)
    have z2 := bel2.size
    clear c0 c1 c2 bel2
    obtain ⟨a2, c2', vs2, ai2, ci2, ap2, cp2, rfl, hE, owni, ownp, hdis⟩ := own2
    go_upto_region 4 with fail
    have hbx := Bx.made w2 25 #[.slice a2 N.ends.length c2', .slice ai2 N.ids.length ci2, .slice ap2 N.inputs.length cp2]
    have b3 : Below w2.heap.size w2 (w2.alloc (.cells #[.slice a2 N.ends.length c2', .slice ai2 N.ids.length ci2, .slice ap2 N.inputs.length cp2] 25)) := (by repeat (first | exact Below.refl _ _ | assumption | refine Below.alloc ?_ (by first | (simp; done) | (simp; omega) | omega) _ | refine Below.setCell ?_ (by first | (simp; done) | (simp; omega) | omega) _ | refine Below.drew ?_ | refine Below.drewN ?_ _))
    have z3 : w2.heap.size + 1 ≤ (w2.alloc (.cells #[.slice a2 N.ends.length c2', .slice ai2 N.ids.length ci2, .slice ap2 N.inputs.length cp2] 25)).heap.size := by simp
    generalize w2.alloc (.cells #[.slice a2 N.ends.length c2', .slice ai2 N.ids.length ci2, .slice ap2 N.inputs.length cp2] 25) = w3 at *
    obtain ⟨b, hb⟩ : ∃ b, b = w2.heap.size := ⟨_, rfl⟩
    obtain ⟨lo, hlo0⟩ : ∃ lo, lo = w1.heap.size := ⟨_, rfl⟩
    rw [← hlo0] at hE owni ownp
    rw [← hb] at hbx ⊢
    replace BA := BA.new b3
    replace BR := BR.new b3
    replace bb := bb.trans (b3.mono bb.size)
    have hNB : NBx w3 lo b N := ⟨a2, c2', vs2, ai2, ci2, ap2, cp2, hbx, RowsAt.top (RowsAt.new hE b3), Ow.top (Ow.new owni b3), Ow.top (Ow.new ownp b3), hdis⟩
    have hlo : lo ≤ w3.heap.size := by omega
    have zb : lo ≤ b := by omega
    have zl : w.heap.size + 1 + 1 ≤ lo := by omega
    have q1 := hbx.cell 1 _ rfl
    have f1 := hbx.frozen 1
    clear hb hlo0 b3 z3 hbx hE owni ownp hdis
    obtain ⟨hNB4, hfr4⟩ := NBx.noIds hNB zb
    go_upto_region 5 with fail
    clear q1 f1 hNB
    generalize w3.setCell ⟨b, 1, none⟩ (.slice none 0 0) = w4 at *
    replace BA := BA.fr hfr4 (by omega)
    replace BR := BR.fr hfr4 (by omega)
    replace bb := bb.trans (hfr4.below (B := w.heap.size) (fun x h1 h2 hc => by omega) bb.size)
    have zlo := Nat.le_trans hlo hfr4.size
    clear hfr4
    have c0 := BA.cell 0 _ rfl
    have c1 := BA.cell 1 _ rfl
    have c2 := BA.cell 2 _ rfl
    go_wp2_with fail
    clear c0 c1 c2
    refine (edges_any _ N _ B (HV.out.below (bb.mono hB)) (Nat.le_trans hB bb.size) HS.out).mono ?_
    rintro e w5 ⟨aq, cq, rfl, ownq, bel5⟩
    replace BR := BR.new bel5
    replace bb := bb.trans (bel5.mono bb.size)
    replace hNB4 := hNB4.new bel5
    have zlo5 := Nat.le_trans zlo bel5.size
    clear bel5 BA
    have HFAC := Lib.hid (fun k hk => sdT_facts HN.out k hk)
    have HEQ := Lib.hid (fun j hj => edQ_at HN.out (j := j) hj)
    go_wp2_with fail
    go_loopw [18] (fun iv wr => ∃ k : Nat, k ≤ (edQ N.ends).length ∧ iv = .int .i64 k ∧ NBx wr lo b (sdT N k) ∧ (Ow wr w4.heap.size w5.heap.size 92 4 aq (edQ N.ends).length cq (cellQ (edQ N.ends))) ∧ Bx wr (w.heap.size + 1) 25 #[.slice none 0 0, .slice none 0 0, .slice none 0 0] ∧ Below w.heap.size w wr ∧ lo ≤ wr.heap.size) (fun iv _ => (edQ N.ends).length - (intOf iv).toNat)
    case atStart => exact ⟨0, Nat.zero_le _, rfl, hNB4, ownq, BR, bb, zlo5⟩
    case round =>
      obtain ⟨k, hk, rfl, hNB, ownq, BR, bb, zlo⟩ := hrel
      by_cases hlt : k < (edQ N.ends).length
      · obtain ⟨v, i, p, q, heq, hv, hi, hp, hq⟩ := HEQ.out k hlt
        obtain ⟨F1, F2, F3, F4, F5⟩ := HFAC.out k hk
        have z240 := HE240.out
        have hbw := hNB.lt
        have HF3 := Lib.hid F3
        have HF4 := Lib.hid F4
        have HF5 := Lib.hid F5
        clear F3 F4 F5
        obtain ⟨gq, rfl, k0, k1, k2, k3⟩ := RdQ.at ownq hlt
        rw [heq] at k0 k1 k2 k3
        have HQ := Lib.hid heq
        clear heq
        have BE := Bx.made wr 92 #[.int .i64 (v : Int), .int .i64 (i : Int), .int .i64 (p : Int), .int .i64 (q : Int)]
        have bE : Below wr.heap.size wr (wr.alloc (.cells #[.int .i64 (v : Int), .int .i64 (i : Int), .int .i64 (p : Int), .int .i64 (q : Int)] 92)) := (by repeat (first | exact Below.refl _ _ | assumption | refine Below.alloc ?_ (by first | (simp; done) | (simp; omega) | omega) _ | refine Below.setCell ?_ (by first | (simp; done) | (simp; omega) | omega) _ | refine Below.drew ?_ | refine Below.drewN ?_ _))
        go_upto_region 8 with fail
        clear k0 k1 k2 k3
        have zE := BE.lt
        obtain ⟨ge, hge⟩ : ∃ ge, ge = wr.heap.size := ⟨_, rfl⟩
        have zge : wr.heap.size ≤ ge := by omega
        rw [← hge] at BE zE ⊢
        clear hge
        generalize wr.alloc (.cells #[.int .i64 (v : Int), .int .i64 (i : Int), .int .i64 (p : Int), .int .i64 (q : Int)] 92) = w6 at *
        have d0 := BE.cell 0 _ rfl
        have d1 := BE.cell 1 _ rfl
        have d2 := BE.cell 2 _ rfl
        have d3 := BE.cell 3 _ rfl
        go_wp2_with fail
        clear d0 d1 d2 d3
        refine (stub_any (v : Int) (i : Int) (p : Int) (q : Int) w6).mono ?_
        rintro e w7 ⟨rfl, bel7⟩
        replace BE := BE.new bel7
        replace bE := bE.trans (bel7.mono bE.size)
        have z7 := bel7.size
        replace BR := BR.new bE
        replace bb := bb.trans (bE.mono bb.size)
        replace hNB := hNB.new bE
        replace ownq := Ow.new ownq bE
        replace zlo := Nat.le_trans zlo bE.size
        clear bel7 bE
        cases hst : stubQ ⟨(v : Int), (i : Int), (p : Int), (q : Int)⟩ with
        | true =>
          have HST := Lib.hid (sdT_yes HQ.out hst)
          clear hst
          go_wp2_with fail
          go_roundw
          case rel => exact ⟨k + 1, by omega, by go_num, by rw [HST.out]; exact hNB, ownq, BR, bb, zlo⟩
          case measure => simp [intOf]; omega
        | false =>
          have HST := Lib.hid (sdT_no HQ.out hst)
          clear hst
          obtain ⟨a3, c3, v3, ai3, ci3, ap3, cp3, hbx, hE, owni, ownp, hdis⟩ := hNB
          have z40 := HSM.out.1
          have q0 := hbx.cell 0 _ rfl
          have d0 := BE.cell 0 _ rfl
          have d1 := BE.cell 1 _ rfl
          have d2 := BE.cell 2 _ rfl
          have d3 := BE.cell 3 _ rfl
          have f0 := hbx.frozen 0
          obtain ⟨wb, hwb⟩ : ∃ wb, wb = (w7.alloc (.cells #[.int .i64 (v : Int), .int .i64 (i : Int), .int .i64 (p : Int), .int .i64 (q : Int)] 62)).alloc (.cells #[.slice (some ⟨w7.heap.size, 0, none⟩) 2 2] 60) := ⟨_, rfl⟩
          have bwb : Below w7.heap.size w7 wb := by rw [hwb]; exact (by repeat (first | exact Below.refl _ _ | assumption | refine Below.alloc ?_ (by first | (simp; done) | (simp; omega) | omega) _ | refine Below.setCell ?_ (by first | (simp; done) | (simp; omega) | omega) _ | refine Below.drew ?_ | refine Below.drewN ?_ _))
          have zwb : w7.heap.size + 1 + 1 ≤ wb.heap.size := by rw [hwb]; simp
          have hrw : Ow wb w7.heap.size wb.heap.size 62 2 (some ⟨w7.heap.size, 0, none⟩) 2 2 (cellE [((v : Int), (i : Int)), ((p : Int), (q : Int))]) := by rw [hwb]; exact Ow.twoEnds ((Bx.made w7 _ _).alloc _) (Nat.le_refl _) (by simp; omega)
          have hnw : ∀ jj uu, [Value.slice (some ⟨w7.heap.size, 0, none⟩) 2 2][jj]? = some uu → wb.cell? (Addr.add ⟨w7.heap.size + 1, 0, none⟩ jj) = some uu := by
            rw [hwb]
            have h := cell_one_new (w7.alloc (.cells #[.int .i64 (v : Int), .int .i64 (i : Int), .int .i64 (p : Int), .int .i64 (q : Int)] 62)) (.slice (some ⟨w7.heap.size, 0, none⟩) 2 2) 60
            rw [World.size_alloc] at h
            exact h
          have HWB := Lib.hid hwb
          clear hwb
          go_upto_region 11 with (at_builtin; rw [← HWB.out]; refine wpList_app rfl _ _ _ rfl 60 (.slice none 0 0) 1 24 Try.underlying23 ends_info rfl (by decide) lo w7.heap.size a3 (sdT N k).ends.length c3 _ rfl (Ow.new hE.1 bwb) ⟨w7.heap.size + 1, 0, none⟩ 1 1 [.slice (some ⟨w7.heap.size, 0, none⟩) 2 2] rfl rfl hnw (by simp [Value.oneCell']) (by decide) (by unfold maxLen; omega) (by omega) (by omega) ?_; intro g' cap' w8 own8 hgr _ _; obtain ⟨hbx8, hNB8, hfr8⟩ := NBx.addRow (r := [((v : Int), (i : Int)), ((p : Int), (q : Int))]) (hbx.new bwb) (RowsAt.new hE bwb) (Ow.new owni bwb) (Ow.new ownp bwb) hdis zlo (by omega) zb hrw hgr own8; have q8 := hbx8.cell 0 _ rfl; have f8 := hbx8.frozen 0; clear q0 f0)
          obtain ⟨w9, hw9⟩ : ∃ w9, w9 = w8.setCell ⟨b, 0, none⟩ (.slice (some ⟨g', 0, none⟩) ((sdT N k).ends.length + 1) cap') := ⟨_, rfl⟩
          rw [← hw9] at hNB8 hfr8 ⊢
          clear hw9 q8 f8 d0 d1 d2 d3
          have hC8 : ∀ x, (some x = blk a3 c3 ∨ x = b) → lo ≤ x := fun x hx => hx.elim (fun h => (hE.1.blk_in h.symm).1) (fun h => by omega)
          have BE9 := (BE.new bwb).fr hfr8 (fun h => h.elim (fun h => (BE.new bwb).ne_row (RowsAt.new hE bwb).1 (by decide) h.symm) (fun h => by omega))
          have ownq9 := Ow.frB (Ow.new ownq bwb) hfr8 (fun x hx hc => hc.elim (fun h => ne_of_or ((Ow.new ownq bwb).ne_of_type (RowsAt.new hE bwb).1 (by decide)) hx h.symm) (fun h => (hbx.new bwb).ne_row (Ow.new ownq bwb) (by decide) (h ▸ hx)))
          have BR9 := (BR.new bwb).fr hfr8 (fun h => by have := hC8 _ h; omega)
          have bb9 := (bb.trans (bwb.mono bb.size)).trans (hfr8.below (B := w.heap.size) (fun x h1 h2 hc => by have := hC8 _ hc; omega) (Nat.le_trans bb.size bwb.size))
          have zlo9 := Nat.le_trans (Nat.le_trans zlo bwb.size) hfr8.size
          have hN9 : NBx w9 lo b { ends := (sdT N k).ends ++ [[((v : Int), (i : Int)), ((p : Int), (q : Int))]], ids := (sdT N k).ids, inputs := (sdT N k).inputs } := hNB8
          clear hNB8 hfr8 hC8 hgr own8 hbx8 hrw hnw hbx hE owni ownp hdis BE ownq BR bb zlo HWB zwb bwb
          obtain ⟨M9, hM9⟩ : ∃ M : Net, M = { ends := (sdT N k).ends ++ [[((v : Int), (i : Int)), ((p : Int), (q : Int))]], ids := (sdT N k).ids, inputs := (sdT N k).inputs } := ⟨_, rfl⟩
          rw [← hM9] at hN9
          have HM9 := Lib.hid hM9
          have hMi : M9.inputs.length ≤ 1000 := by rw [hM9]; show (sdT N k).inputs.length ≤ 1000; have := HF5.out; omega
          clear hM9
          obtain ⟨a4, c4, v4, ai4, ci4, ap4, cp4, hbx, hE, owni, ownp, hdis⟩ := hN9
          have q2 := hbx.cell 2 _ rfl
          have f2 := hbx.frozen 2
          obtain ⟨wb, hwb⟩ : ∃ wb, wb = w9.alloc (.cells #[.int .i64 0] 3) := ⟨_, rfl⟩
          have bwb : Below w9.heap.size w9 wb := by rw [hwb]; exact (by repeat (first | exact Below.refl _ _ | assumption | refine Below.alloc ?_ (by first | (simp; done) | (simp; omega) | omega) _ | refine Below.setCell ?_ (by first | (simp; done) | (simp; omega) | omega) _ | refine Below.drew ?_ | refine Below.drewN ?_ _))
          have hnw : ∀ jj uu, [Value.int .i64 0][jj]? = some uu → wb.cell? (Addr.add ⟨w9.heap.size, 0, none⟩ jj) = some uu := by
            rw [hwb]
            exact cell_one_new w9 (.int .i64 0) 3
          have HWB := Lib.hid hwb
          clear hwb
          have zwb := bwb.size
          go_upto_region 12 with (at_builtin; rw [← HWB.out]; refine wpList_app rfl _ _ _ rfl 3 (.int .i64 0) 1 8 Try.underlying22 int_info rfl (by decide) lo w9.heap.size ap4 M9.inputs.length cp4 _ rfl (Ow.new ownp bwb) ⟨w9.heap.size, 0, none⟩ 1 1 [.int .i64 0] rfl rfl hnw (by simp [Value.oneCell']) (by decide) (by unfold maxLen; omega) (by omega) (by omega) ?_; intro g2' cap2' w10 own10 hgr hnew _; obtain ⟨hbx8, hNB8, hfr8⟩ := NBx.addInput (z := 0) (hbx.new bwb) (RowsAt.wide (RowsAt.new hE bwb) (Nat.le_refl _) bwb.size) (Ow.wide (Ow.new owni bwb) (Nat.le_refl _) bwb.size) (Ow.wide (Ow.new ownp bwb) (Nat.le_refl _) bwb.size) hdis (Nat.le_refl _) zb hgr hnew own10; have q8 := hbx8.cell 2 _ rfl; have f8 := hbx8.frozen 2; clear q2 f2)
          obtain ⟨w11, hw11⟩ : ∃ w11, w11 = w10.setCell ⟨b, 2, none⟩ (.slice (some ⟨g2', 0, none⟩) (M9.inputs.length + 1) cap2') := ⟨_, rfl⟩
          rw [← hw11] at hNB8 hfr8 ⊢
          clear hw11 q8 f8
          have hC8 : ∀ x, (some x = blk ap4 cp4 ∨ x = b) → lo ≤ x := fun x hx => hx.elim (fun h => (Ow.blk_in ownp h.symm).1) (fun h => by omega)
          have BE11 := (BE9.new bwb).fr hfr8 (fun h => h.elim (fun h => (BE9.new bwb).ne_row (Ow.new ownp bwb) (by decide) h.symm) (fun h => by omega))
          have ownq11 := Ow.frB (Ow.new ownq9 bwb) hfr8 (fun x hx hc => hc.elim (fun h => ne_of_or ((Ow.new ownq9 bwb).ne_of_type (Ow.new ownp bwb) (by decide)) hx h.symm) (fun h => (hbx.new bwb).ne_row (Ow.new ownq9 bwb) (by decide) (h ▸ hx)))
          have BR11 := (BR9.new bwb).fr hfr8 (fun h => by have := hC8 _ h; omega)
          have bb11 := (bb9.trans (bwb.mono bb9.size)).trans (hfr8.below (B := w.heap.size) (fun x h1 h2 hc => by have := hC8 _ hc; omega) (Nat.le_trans bb9.size bwb.size))
          have zlo11 := Nat.le_trans (Nat.le_trans zlo9 bwb.size) hfr8.size
          have hN11 : NBx w11 lo b { ends := (sdT N k).ends ++ [[((v : Int), (i : Int)), ((p : Int), (q : Int))]], ids := (sdT N k).ids, inputs := (sdT N k).inputs ++ [0] } := by
            have h9 := hNB8
            rw [HM9.out] at h9
            exact h9
          clear hNB8 hfr8 hC8 hgr hnew own10 hbx8 hnw hbx hE owni ownp hdis BE9 ownq9 BR9 bb9 zlo9 HWB zwb bwb HM9 hMi
          generalize hR : (sdT N k).ends ++ [[((v : Int), (i : Int)), ((p : Int), (q : Int))]] = R at *
          have HRL := Lib.hid (show R.length = (sdT N k).ends.length + 1 by rw [← hR, List.length_append]; rfl)
          have HRR := Lib.hid (fun j (hj : j < N.ends.length) => show (rowOf R j).length = (rowOf N.ends j).length by rw [← hR, rowOf_append_left _ _ _ (by omega)]; exact HF3.out j hj)
          have HR := Lib.hid hR
          clear hR
          have hvR : v < R.length := by have := HRL.out; omega
          have hpR : p < R.length := by have := HRL.out; omega
          have hiR : i < (rowOf R v).length := by rw [HRR.out v hv]; exact hi
          have hqR : q < (rowOf R p).length := by rw [HRR.out p hp]; exact hq
          obtain ⟨A, cA, g1, cg1, k0, k1, k2, k3, kf, kg, hNB5, hfr5, hAg, hbg, hA9, hg9, hty1, hbt1⟩ := NBx.setEndT (w := w11.drew) (v := v) (i := i) ((sdT N k).ends.length : Int) 0 hN11 ((Below.refl _ _).drew) hvR hiR
          obtain ⟨A', cA', g2, cg2, j0, j1, j2, j3, jf, jg, _, _, _, _, _, _, hty2, hbt2⟩ := NBx.setEndT (w := w11.drew) (v := p) (i := q) ((sdT N k).ends.length : Int) 1 hN11 ((Below.refl _ _).drew) hpR hqR
          have e0 := k0.symm.trans j0
          simp only [Option.some.injEq, Value.slice.injEq, Addr.mk.injEq, and_true, true_and] at e0
          obtain ⟨rfl, rfl⟩ := e0
          have hqR2 : q < (rowOf (R.set v ((rowOf R v).set i (((sdT N k).ends.length : Int), 0))) p).length := by
            have := setRE_len R v i p (((sdT N k).ends.length : Int), 0) hvR
            unfold setRE at this
            rw [this]; exact hqR
          obtain ⟨A2, cA2, g3, cg3, l0, l1, l2, l3, lf, lg, hNB6, hfr6, hAg6, hbg6, _, _, hty3, hbt3⟩ := NBx.setEndT (v := p) (i := q) ((sdT N k).ends.length : Int) 1 hNB5 (Below.refl _ _) (by show p < (R.set v _).length; rw [List.length_set]; exact hpR) hqR2
          have hbl : b < w11.drew.heap.size := World.block_lt_of_cell? w11.drew _ k0
          have hAl : A < w11.drew.heap.size := World.block_lt_of_cell? w11.drew _ k1
          have e1 := ((hfr5.cellB (p := ⟨b, 0, none⟩) hbl hbg).trans k0).symm.trans l0
          simp only [Option.some.injEq, Value.slice.injEq, Addr.mk.injEq, and_true, true_and] at e1
          obtain ⟨rfl, -, -⟩ := e1
          have e2 := ((hfr5.cellB (p := ⟨A, p, none⟩) hAl hAg).trans j1).symm.trans l1
          simp only [Option.some.injEq, Value.slice.injEq, Addr.mk.injEq, and_true, true_and] at e2
          obtain ⟨rfl, -, -⟩ := e2
          have k0' : w11.cell? ⟨b, 0, none⟩ = some (.slice (some ⟨A, 0, none⟩) R.length cA) := k0
          have k1' : w11.cell? ⟨A, v, none⟩ = some (.slice (some ⟨g1, 0, none⟩) (rowOf R v).length cg1) := k1
          have j1' : w11.cell? ⟨A, p, none⟩ = some (.slice (some ⟨g2, 0, none⟩) (rowOf R p).length cg2) := j1
          have d0 := BE11.cell 0 _ rfl
          have d1 := BE11.cell 1 _ rfl
          have d2 := BE11.cell 2 _ rfl
          have d3 := BE11.cell 3 _ rfl
          have k0d := k0
          have k1d := k1
          have j1d := j1
          clear k0 k1 j0 j1 j2 j3 jf l0 l1
          clear d0 d1 d2 d3
          have BEd : Bx w11.drew ge 92 #[.int .i64 (v : Int), .int .i64 (i : Int), .int .i64 (p : Int), .int .i64 (q : Int)] := BE11
          have hge1 : ge ≠ g1 := hbt1 _ _ _ BEd (by decide)
          have hge2 : ge ≠ g2 := hbt2 _ _ _ BEd (by decide)
          have BE5 := BEd.fr hfr5 hge1
          have BE6 := BE5.fr hfr6 hge2
          have k15 := (hfr5.cellB (p := ⟨A, v, none⟩) hAl hAg).trans k1d
          have j15 := (hfr5.cellB (p := ⟨A, p, none⟩) hAl hAg).trans j1d
          have k05 := (hfr5.cellB (p := ⟨b, 0, none⟩) hbl hbg).trans k0d
          have hAl5 : A < (((w11.drew).setCell ⟨g1, i * 2, none⟩ (.int .i64 ((sdT N k).ends.length : Int))).setCell ⟨g1, i * 2 + 1, none⟩ (.int .i64 0)).heap.size := Nat.lt_of_lt_of_le hAl hfr5.size
          have hbl5 : b < (((w11.drew).setCell ⟨g1, i * 2, none⟩ (.int .i64 ((sdT N k).ends.length : Int))).setCell ⟨g1, i * 2 + 1, none⟩ (.int .i64 0)).heap.size := Nat.lt_of_lt_of_le hbl hfr5.size
          have k16 := (hfr6.cellB (p := ⟨A, v, none⟩) hAl5 hAg6).trans k15
          have j16 := (hfr6.cellB (p := ⟨A, p, none⟩) hAl5 hAg6).trans j15
          have k06 := (hfr6.cellB (p := ⟨b, 0, none⟩) hbl5 hbg6).trans k05
          refine wp_region_held_drew (S := fun X => X.cell? ⟨b, 0, none⟩ = some (.slice (some ⟨A, 0, none⟩) R.length cA) ∧ X.cell? ⟨A, v, none⟩ = some (.slice (some ⟨g1, 0, none⟩) (rowOf R v).length cg1) ∧ X.cell? ⟨A, p, none⟩ = some (.slice (some ⟨g2, 0, none⟩) (rowOf R p).length cg2) ∧ X.cell? ⟨ge, 0, none⟩ = some (.int .i64 (v : Int)) ∧ X.cell? ⟨ge, 1, none⟩ = some (.int .i64 (i : Int)) ∧ X.cell? ⟨ge, 2, none⟩ = some (.int .i64 (p : Int)) ∧ X.cell? ⟨ge, 3, none⟩ = some (.int .i64 (q : Int))) (by kernel_rfl) ⟨k0d, k1d, j1d, BEd.cell 0 _ rfl, BEd.cell 1 _ rfl, BEd.cell 2 _ rfl, BEd.cell 3 _ rfl⟩ (fun hHeld => ?_)
          have BR12 : Bx w11.drew (w.heap.size + 1) 25 #[.slice none 0 0, .slice none 0 0, .slice none 0 0] := BR11
          have ownq12 := Ow.new ownq11 ((Below.refl _ w11).drew)
          have bb12 := bb11.drew
          have zlo12 : lo ≤ w11.drew.heap.size := zlo11
          clear BR11 ownq11 bb11 zlo11 BE11 hN11 k0' k1' j1'
          generalize w11.drew = wd at *
          have kf1 := kf (i * 2)
          have kf2 := kf (i * 2 + 1)
          have lf1 := lf (q * 2)
          have lf2 := lf (q * 2 + 1)
          refine wpAnyH_take (i := 0) (v := ?_) rfl (by kernel_rfl) (by kernel_rfl) (by kernel_rfl) (fun _ _ _ h => h) (Or.inl ⟨by rfl, ?_⟩) (by assumption) ?_
          rotate_left
          · (intro w hSw; (try dsimp only at hSw); go_simp; try with_reducible rfl)
          try simp only [Act.put, List.getElem_toArray, List.getElem_cons_zero, List.getElem_cons_succ, List.setIfInBounds_toArray, List.set_cons_zero, List.set_cons_succ]
          refine wpAnyH_take (i := 1) (v := ?_) rfl (by kernel_rfl) (by kernel_rfl) (by kernel_rfl) (fun _ _ _ h => h) (Or.inl ⟨by rfl, ?_⟩) (by assumption) ?_
          rotate_left
          · (intro w hSw; (try dsimp only at hSw); go_simp; try with_reducible rfl)
          try simp only [Act.put, List.getElem_toArray, List.getElem_cons_zero, List.getElem_cons_succ, List.setIfInBounds_toArray, List.set_cons_zero, List.set_cons_succ]
          refine wpAnyH_take (i := 2) (v := ?_) rfl (by kernel_rfl) (by kernel_rfl) (by kernel_rfl) (fun _ _ _ h => h) (Or.inl ⟨by rfl, ?_⟩) (by assumption) ?_
          rotate_left
          · (intro w hSw; (try dsimp only at hSw); go_simp; try with_reducible rfl)
          try simp only [Act.put, List.getElem_toArray, List.getElem_cons_zero, List.getElem_cons_succ, List.setIfInBounds_toArray, List.set_cons_zero, List.set_cons_succ]
          refine wpAnyH_take (i := 3) (v := ?_) rfl (by kernel_rfl) (by kernel_rfl) (by kernel_rfl) (fun _ _ _ h => h) (Or.inl ⟨by rfl, ?_⟩) (by assumption) ?_
          rotate_left
          · (intro w hSw; (try dsimp only at hSw); go_simp; try with_reducible rfl)
          try simp only [Act.put, List.getElem_toArray, List.getElem_cons_zero, List.getElem_cons_succ, List.setIfInBounds_toArray, List.set_cons_zero, List.set_cons_succ]
          refine wpAnyH_take (i := 4) (v := ?_) rfl (by kernel_rfl) (by kernel_rfl) (by kernel_rfl) (fun _ _ _ h => h) (Or.inl ⟨by rfl, ?_⟩) (by assumption) ?_
          rotate_left
          · (intro w hSw; (try dsimp only at hSw); go_simp; try with_reducible rfl)
          try simp only [Act.put, List.getElem_toArray, List.getElem_cons_zero, List.getElem_cons_succ, List.setIfInBounds_toArray, List.set_cons_zero, List.set_cons_succ]
          refine wpAnyH_take (i := 5) (v := ?_) rfl (by kernel_rfl) (by kernel_rfl) (by kernel_rfl) (fun _ _ _ h => h) (Or.inl ⟨by rfl, ?_⟩) (by assumption) ?_
          rotate_left
          · (intro w hSw; (try dsimp only at hSw); go_simp; try with_reducible rfl)
          try simp only [Act.put, List.getElem_toArray, List.getElem_cons_zero, List.getElem_cons_succ, List.setIfInBounds_toArray, List.set_cons_zero, List.set_cons_succ]
          refine wpAnyH_take (i := 6) (v := ?_) rfl (by kernel_rfl) (by kernel_rfl) (by kernel_rfl) (fun _ _ _ h => h) (Or.inl ⟨by rfl, ?_⟩) (by assumption) ?_
          rotate_left
          · (intro w hSw; (try dsimp only at hSw); go_simp; try with_reducible rfl)
          try simp only [Act.put, List.getElem_toArray, List.getElem_cons_zero, List.getElem_cons_succ, List.setIfInBounds_toArray, List.set_cons_zero, List.set_cons_succ]
          refine wpAnyH_take (i := 7) (v := ?_) rfl (by kernel_rfl) (by kernel_rfl) (by kernel_rfl) (fun _ _ _ h => h) (Or.inl ⟨by rfl, ?_⟩) (by assumption) ?_
          rotate_left
          · (intro w hSw; (try dsimp only at hSw); go_simp; try with_reducible rfl)
          try simp only [Act.put, List.getElem_toArray, List.getElem_cons_zero, List.getElem_cons_succ, List.setIfInBounds_toArray, List.set_cons_zero, List.set_cons_succ]
          refine wpAnyH_take (i := 8) (v := ?_) rfl (by kernel_rfl) (by kernel_rfl) (by kernel_rfl) (fun _ _ _ h => h) (Or.inl ⟨by rfl, ?_⟩) (by assumption) ?_
          rotate_left
          · (intro w hSw; (try dsimp only at hSw); go_simp; try with_reducible rfl)
          try simp only [Act.put, List.getElem_toArray, List.getElem_cons_zero, List.getElem_cons_succ, List.setIfInBounds_toArray, List.set_cons_zero, List.set_cons_succ]
          refine wpAnyH_take (i := 9) (v := ?_) rfl (by kernel_rfl) (by kernel_rfl) (by kernel_rfl) (fun _ _ _ h => h) (Or.inl ⟨by rfl, ?_⟩) (by assumption) ?_
          rotate_left
          · (intro w hSw; (try dsimp only at hSw); go_simp; try with_reducible rfl)
          try simp only [Act.put, List.getElem_toArray, List.getElem_cons_zero, List.getElem_cons_succ, List.setIfInBounds_toArray, List.set_cons_zero, List.set_cons_succ]
          refine wpAnyH_take (i := 10) (v := ?_) rfl (by kernel_rfl) (by kernel_rfl) (by kernel_rfl) (fun _ _ _ h => h) (Or.inl ⟨by rfl, ?_⟩) (by assumption) ?_
          rotate_left
          · (intro w hSw; (try dsimp only at hSw); go_simp; try with_reducible rfl)
          try simp only [Act.put, List.getElem_toArray, List.getElem_cons_zero, List.getElem_cons_succ, List.setIfInBounds_toArray, List.set_cons_zero, List.set_cons_succ]
          refine wpAnyH_take (i := 11) (v := ?_) rfl (by kernel_rfl) (by kernel_rfl) (by kernel_rfl) (fun _ _ _ h => h) (Or.inl ⟨by rfl, ?_⟩) (by assumption) ?_
          rotate_left
          · (intro w hSw; (try dsimp only at hSw); go_simp; try with_reducible rfl)
          try simp only [Act.put, List.getElem_toArray, List.getElem_cons_zero, List.getElem_cons_succ, List.setIfInBounds_toArray, List.set_cons_zero, List.set_cons_succ]
          refine wpAnyH_take (i := 12) (v := ?_) rfl (by kernel_rfl) (by kernel_rfl) (by kernel_rfl) (fun _ _ _ h => h) (Or.inl ⟨by rfl, ?_⟩) (by assumption) ?_
          rotate_left
          · (intro w hSw; (try dsimp only at hSw); go_simp; try with_reducible rfl)
          try simp only [Act.put, List.getElem_toArray, List.getElem_cons_zero, List.getElem_cons_succ, List.setIfInBounds_toArray, List.set_cons_zero, List.set_cons_succ]
          refine wpAnyH_take (i := 13) (v := ?_) rfl (by kernel_rfl) (by kernel_rfl) (by kernel_rfl) (fun _ _ _ h => h) (Or.inl ⟨by rfl, ?_⟩) (by assumption) ?_
          rotate_left
          · (intro w hSw; (try dsimp only at hSw); go_simp; try with_reducible rfl)
          try simp only [Act.put, List.getElem_toArray, List.getElem_cons_zero, List.getElem_cons_succ, List.setIfInBounds_toArray, List.set_cons_zero, List.set_cons_succ]
          refine wpAnyH_take (i := 14) (v := ?_) rfl (by kernel_rfl) (by kernel_rfl) (by kernel_rfl) (fun _ _ _ h => h) (Or.inl ⟨by rfl, ?_⟩) (by assumption) ?_
          rotate_left
          · (intro w hSw; (try dsimp only at hSw); go_simp; try with_reducible rfl)
          try simp only [Act.put, List.getElem_toArray, List.getElem_cons_zero, List.getElem_cons_succ, List.setIfInBounds_toArray, List.set_cons_zero, List.set_cons_succ]
          refine wpAnyH_take (i := 15) (v := ?_) rfl (by kernel_rfl) (by kernel_rfl) (by kernel_rfl) (fun _ _ _ h => h) (Or.inl ⟨by rfl, ?_⟩) (by assumption) ?_
          rotate_left
          · (intro w hSw; (try dsimp only at hSw); go_simp; try with_reducible rfl)
          try simp only [Act.put, List.getElem_toArray, List.getElem_cons_zero, List.getElem_cons_succ, List.setIfInBounds_toArray, List.set_cons_zero, List.set_cons_succ]
          refine wpAnyH_take (i := 16) (v := ?_) rfl (by kernel_rfl) (by kernel_rfl) (by kernel_rfl) (fun _ _ _ h => h) (Or.inl ⟨by rfl, ?_⟩) (by assumption) ?_
          rotate_left
          · (intro w hSw; (try dsimp only at hSw); go_simp; try with_reducible rfl)
          try simp only [Act.put, List.getElem_toArray, List.getElem_cons_zero, List.getElem_cons_succ, List.setIfInBounds_toArray, List.set_cons_zero, List.set_cons_succ]
          refine wpAnyH_take (i := 17) (v := ?_) rfl (by kernel_rfl) (by kernel_rfl) (by kernel_rfl) (fun _ _ _ h => h) (Or.inl ⟨by rfl, ?_⟩) (by assumption) ?_
          rotate_left
          · (intro w hSw; (try dsimp only at hSw); go_simp; try with_reducible rfl)
          try simp only [Act.put, List.getElem_toArray, List.getElem_cons_zero, List.getElem_cons_succ, List.setIfInBounds_toArray, List.set_cons_zero, List.set_cons_succ]
          refine wpAnyH_take (i := 18) (v := ?_) rfl (by kernel_rfl) (by kernel_rfl) (by kernel_rfl) (fun _ _ _ h => h) (Or.inl ⟨by rfl, ?_⟩) (by assumption) ?_
          rotate_left
          · (intro w hSw; (try dsimp only at hSw); go_simp; try with_reducible rfl)
          try simp only [Act.put, List.getElem_toArray, List.getElem_cons_zero, List.getElem_cons_succ, List.setIfInBounds_toArray, List.set_cons_zero, List.set_cons_succ]
          refine wpAnyH_take (i := 19) (v := ?_) rfl (by kernel_rfl) (by kernel_rfl) (by kernel_rfl) (fun _ _ _ h => h) (Or.inl ⟨by rfl, ?_⟩) (by assumption) ?_
          rotate_left
          · (intro w hSw; (try dsimp only at hSw); go_simp; try with_reducible rfl)
          try simp only [Act.put, List.getElem_toArray, List.getElem_cons_zero, List.getElem_cons_succ, List.setIfInBounds_toArray, List.set_cons_zero, List.set_cons_succ]
          refine wpAnyH_take (i := 20) (v := ?_) rfl (by kernel_rfl) (by kernel_rfl) (by kernel_rfl) (fun _ _ _ h => h) (Or.inl ⟨by rfl, ?_⟩) (by assumption) ?_
          rotate_left
          · (intro w hSw; (try dsimp only at hSw); go_simp; try with_reducible rfl)
          try simp only [Act.put, List.getElem_toArray, List.getElem_cons_zero, List.getElem_cons_succ, List.setIfInBounds_toArray, List.set_cons_zero, List.set_cons_succ]
          refine wpAnyH_ready (rs := [21]) (by kernel_rfl) (by simp) ?_
          refine AllReadyH.cons (o := _) rfl (fun K hK => ?_) AllReadyH.nil
          go_simp
          refine hK.out _ _ (⟨k05, k15, j15, BE5.cell 0 _ rfl, BE5.cell 1 _ rfl, BE5.cell 2 _ rfl, BE5.cell 3 _ rfl⟩) (fun hHeld => ?_)
          clear hK K
          try simp only [Act.put, List.getElem_toArray, List.getElem_cons_zero, List.getElem_cons_succ, List.setIfInBounds_toArray, List.set_cons_zero, List.set_cons_succ]
          refine wpAnyH_take (i := 22) (v := ?_) rfl (by kernel_rfl) (by kernel_rfl) (by kernel_rfl) (fun _ _ _ h => h) (Or.inl ⟨by rfl, ?_⟩) (by assumption) ?_
          rotate_left
          · (intro w hSw; (try dsimp only at hSw); go_simp; try with_reducible rfl)
          try simp only [Act.put, List.getElem_toArray, List.getElem_cons_zero, List.getElem_cons_succ, List.setIfInBounds_toArray, List.set_cons_zero, List.set_cons_succ]
          refine wpAnyH_ready (rs := [23]) (by kernel_rfl) (by simp) ?_
          refine AllReadyH.cons (o := _) rfl (fun K hK => ?_) AllReadyH.nil
          go_simp
          refine hK.out _ _ (⟨k06, k16, j16, BE6.cell 0 _ rfl, BE6.cell 1 _ rfl, BE6.cell 2 _ rfl, BE6.cell 3 _ rfl⟩) (fun hHeld => ?_)
          clear hK K
          try simp only [Act.put, List.getElem_toArray, List.getElem_cons_zero, List.getElem_cons_succ, List.setIfInBounds_toArray, List.set_cons_zero, List.set_cons_succ]
          refine wpAnyH_done (by kernel_rfl) ?_ _
          clear hHeld k05 k15 j15 k06 k16 j16 BE5 BE6 BEd k0d k1d j1d
          have ownq13 := Ow.frB ownq12 hfr5 (fun x hx hc => hty1 _ _ _ _ _ _ _ _ ownq12 (by decide) x hx hc)
          have ownq14 := Ow.frB ownq13 hfr6 (fun x hx hc => hty3 _ _ _ _ _ _ _ _ ownq13 (by decide) x hx hc)
          have BR14 := (BR12.fr hfr5 (by omega)).fr hfr6 (by omega)
          have bb14 := (bb12.trans (hfr5.below (B := w.heap.size) (fun x h1 h2 hc => by omega) bb12.size)).trans (hfr6.below (B := w.heap.size) (fun x h1 h2 hc => by omega) (Nat.le_trans bb12.size hfr5.size))
          have zlo14 := Nat.le_trans (Nat.le_trans zlo12 hfr5.size) hfr6.size
          have HFIN := Lib.hid (fun X (h9 : NBx X lo b { ends := (R.set v ((rowOf R v).set i (((sdT N k).ends.length : Int), 0))).set p ((rowOf (R.set v ((rowOf R v).set i (((sdT N k).ends.length : Int), 0))) p).set q (((sdT N k).ends.length : Int), 1)), ids := (sdT N k).ids, inputs := (sdT N k).inputs ++ [0] }) => show NBx X lo b (sdT N (k + 1)) by
            have h8 : ({ ends := (R.set v ((rowOf R v).set i (((sdT N k).ends.length : Int), 0))).set p ((rowOf (R.set v ((rowOf R v).set i (((sdT N k).ends.length : Int), 0))) p).set q (((sdT N k).ends.length : Int), 1)), ids := (sdT N k).ids, inputs := (sdT N k).inputs ++ [0] } : Net) = sdT N (k + 1) := by
              rw [HST.out, sdT_ids]
              unfold sdS setRE
              rw [HR.out]
              simp only [Int.toNat_natCast]
            rw [← h8]
            exact h9)
          clear hty1 hty2 hty3 kf lf
          go_wp2_with fail
          go_roundw
          case rel => exact ⟨k + 1, by omega, by go_num, HFIN.out _ hNB6, ownq14, BR14, bb14, zlo14⟩
          case measure => simp [intOf]; omega
      · have HKE := Lib.hid (show k = (edQ N.ends).length by omega)
        rw [HKE.out] at hNB
        obtain ⟨ax, cx, aix, cix, apx, cpx, BO, own9⟩ := hNB.at_
        have HSML := Lib.hid (sdT_small HN.out _ (Nat.le_refl _))
        have HNN := Lib.hid (show sdN N = sdT N (edQ N.ends).length from rfl)
        generalize sdT N (edQ N.ends).length = QQ at *
        have q0 := BO.cell 0 _ rfl
        have q1 := BO.cell 1 _ rfl
        have q2 := BO.cell 2 _ rfl
        go_wp2_with fail
        clear q0 q1 q2
        refine (network_any _ QQ _ _ _ own9 (Nat.le_refl _) (by omega) HSML.out).mono ?_
        rintro e w19 ⟨x9, rfl, own19, bel19⟩
        replace BR := BR.new bel19
        replace bb := bb.trans (bel19.mono bb.size)
        have z19 := bel19.size
        clear bel19
        obtain ⟨ax, cx, aix, cix, apx, cpx, rfl, own19⟩ := own19.shape
        generalize hRR : ifN (netB (QQ)) (QQ) = RR at *
        generalize hOO : netB (QQ) = oo at *
        have HRR := Lib.hid hRR
        have HOO := Lib.hid hOO
        clear hRR hOO
        have e0 := BR.cell 0 _ rfl
        have e1 := BR.cell 1 _ rfl
        have e2 := BR.cell 2 _ rfl
        have f0 := BR.frozen 0
        have f1 := BR.frozen 1
        have f2 := BR.frozen 2
        go_wp2_with fail
        clear e0 e1 e2 f0 f1 f2
        generalize hW : World.setCell _ _ _ = W
        have B6 : Bx W (w.heap.size + 1) 25 #[.slice ax RR.ends.length cx, .slice aix RR.ids.length cix, .slice apx RR.inputs.length cpx] := by rw [← hW]; exact ((BR.set 0 _).set 1 _).set 2 _
        have fr6 : Fr (fun k => k = w.heap.size + 1) w19 W := by rw [← hW]; exact fr3 _ _ _ _ _
        clear hW
        have z6 := fr6.size
        have d0 := B6.cell 0 _ rfl
        have d1 := B6.cell 1 _ rfl
        have d2 := B6.cell 2 _ rfl
        refine bodyPost_ret (v := .tuple #[.agg #[.slice ax RR.ends.length cx, .slice aix RR.ids.length cix, .slice apx RR.inputs.length cpx], .bool oo]) (by simp [results, Try.results36, go_sem, d0, d1, d2]) rfl ?_
        rw [sdR_t HN.out, sdOk_t HN.out, HNN.out, HOO.out, HRR.out]
        exact ⟨_, rfl, (own19.frBx BR fr6).wide (lo' := w.heap.size) (hi' := W.heap.size) (by omega) (by omega), bb.trans (fr6.below (fun k h1 h2 hc => by omega) bb.size)⟩
set_option maxRecDepth 100000 in
set_option maxHeartbeats 3200000 in
theorem subS_any (V : Value) (N : Net) (w : World) (B : Nat) (hv : NetIn w B V N) (hB : B ≤ w.heap.size) (hs : NetSmall N) :
    Calls Try.prog 35 #[V] w (PostN (sdR N) (sdOk N) w) := by
  have HV := Lib.hid hv
  have HS := Lib.hid hs
  obtain ⟨a, c, vs, ai, ci, ap, cp, rfl, h1, _⟩ := hv
  have hl : N.ends.length ≤ 1048576 := by unfold NetSmall at hs; omega
  have BA := (Bx.made w 25 #[.slice a N.ends.length c, .slice ai N.ids.length ci, .slice ap N.inputs.length cp]).alloc (.cells #[.slice none 0 0, .slice none 0 0, .slice none 0 0] 25)
  have BR := Bx.made (w.alloc (.cells #[.slice a N.ends.length c, .slice ai N.ids.length ci, .slice ap N.inputs.length cp] 25)) 25 #[.slice none 0 0, .slice none 0 0, .slice none 0 0]
  have b0 : Below w.heap.size w ((w.alloc (.cells #[.slice a N.ends.length c, .slice ai N.ids.length ci, .slice ap N.inputs.length cp] 25)).alloc (.cells #[.slice none 0 0, .slice none 0 0, .slice none 0 0] 25)) := (by repeat (first | exact Below.refl _ _ | assumption | refine Below.alloc ?_ (by first | (simp; done) | (simp; omega) | omega) _ | refine Below.setCell ?_ (by first | (simp; done) | (simp; omega) | omega) _ | refine Below.drew ?_ | refine Below.drewN ?_ _))
  have z0 : w.heap.size + 1 + 1 ≤ ((w.alloc (.cells #[.slice a N.ends.length c, .slice ai N.ids.length ci, .slice ap N.inputs.length cp] 25)).alloc (.cells #[.slice none 0 0, .slice none 0 0, .slice none 0 0] 25)).heap.size := by simp
  rw [World.size_alloc] at BR
  clear hs h1
  go_enter Try.func35, Try.ntmps35
  go_wp2_with fail
  generalize (w.alloc (.cells #[.slice a N.ends.length c, .slice ai N.ids.length ci, .slice ap N.inputs.length cp] 25)).alloc (.cells #[.slice none 0 0, .slice none 0 0, .slice none 0 0] 25) = w0 at *
  refine (neGood_any _ N _ B (HV.out.below (b0.mono hB)) (Nat.le_trans hB b0.size) HS.out).mono ?_
  rintro e w1 ⟨rfl, bel1⟩
  replace BA := BA.new bel1
  replace BR := BR.new bel1
  have z1 := bel1.size
  have bb := b0.trans (bel1.mono b0.size)
  clear b0 bel1
  cases hn : netB N with
  | false =>
    have HF := Lib.hid (sdOk_f hn)
    clear hn
    have e0 := BR.cell 0 _ rfl
    have e1 := BR.cell 1 _ rfl
    have e2 := BR.cell 2 _ rfl
    have f0 := BR.frozen 0
    have f1 := BR.frozen 1
    have f2 := BR.frozen 2
    go_wp2_with fail
    clear e0 e1 e2 f0 f1 f2
    generalize hW : World.setCell _ _ _ = W
    have B6 : Bx W (w.heap.size + 1) 25 #[.slice none 0 0, .slice none 0 0, .slice none 0 0] := by rw [← hW]; exact ((BR.set 0 _).set 1 _).set 2 _
    have fr6 : Fr (fun k => k = w.heap.size + 1) w1 W := by rw [← hW]; exact fr3 _ _ _ _ _
    clear hW
    have z6 := fr6.size
    have d0 := B6.cell 0 _ rfl
    have d1 := B6.cell 1 _ rfl
    have d2 := B6.cell 2 _ rfl
    refine bodyPost_ret (v := .tuple #[.agg #[.slice none 0 0, .slice none 0 0, .slice none 0 0], .bool false]) (by simp [results, Try.results35, go_sem, d0, d1, d2]) rfl ?_
    rw [sdR_f HF.out, id HF.out]
    exact ⟨_, rfl, NetAt.nilN _ _ _, bb.trans (fr6.below (fun k h1 h2 hc => by omega) bb.size)⟩
  | true =>
    have HN := Lib.hid hn
    have HSM := Lib.hid (netB_small hn)
    have HE240 := Lib.hid (edQ_240 hn)
    clear hn
    have c0 := BA.cell 0 _ rfl
    have c1 := BA.cell 1 _ rfl
    have c2 := BA.cell 2 _ rfl
    go_wp2_with fail
    refine (neOwn_any _ N _ B (HV.out.below (bb.mono hB)) (Nat.le_trans hB bb.size) HS.out).mono ?_
    rintro e w2 ⟨x2, rfl, own2, bel2⟩
    replace BA := BA.new bel2
    replace BR := BR.new bel2
    replace bb := bb.trans (bel2.mono bb.size)
    have z2 := bel2.size
    clear c0 c1 c2 bel2
    obtain ⟨a2, c2', vs2, ai2, ci2, ap2, cp2, rfl, hE, owni, ownp, hdis⟩ := own2
    go_upto_region 4 with fail
    have hbx := Bx.made w2 25 #[.slice a2 N.ends.length c2', .slice ai2 N.ids.length ci2, .slice ap2 N.inputs.length cp2]
    have b3 : Below w2.heap.size w2 (w2.alloc (.cells #[.slice a2 N.ends.length c2', .slice ai2 N.ids.length ci2, .slice ap2 N.inputs.length cp2] 25)) := (by repeat (first | exact Below.refl _ _ | assumption | refine Below.alloc ?_ (by first | (simp; done) | (simp; omega) | omega) _ | refine Below.setCell ?_ (by first | (simp; done) | (simp; omega) | omega) _ | refine Below.drew ?_ | refine Below.drewN ?_ _))
    have z3 : w2.heap.size + 1 ≤ (w2.alloc (.cells #[.slice a2 N.ends.length c2', .slice ai2 N.ids.length ci2, .slice ap2 N.inputs.length cp2] 25)).heap.size := by simp
    generalize w2.alloc (.cells #[.slice a2 N.ends.length c2', .slice ai2 N.ids.length ci2, .slice ap2 N.inputs.length cp2] 25) = w3 at *
    obtain ⟨b, hb⟩ : ∃ b, b = w2.heap.size := ⟨_, rfl⟩
    obtain ⟨lo, hlo0⟩ : ∃ lo, lo = w1.heap.size := ⟨_, rfl⟩
    rw [← hlo0] at hE owni ownp
    rw [← hb] at hbx ⊢
    replace BA := BA.new b3
    replace BR := BR.new b3
    replace bb := bb.trans (b3.mono bb.size)
    have hNB : NBx w3 lo b N := ⟨a2, c2', vs2, ai2, ci2, ap2, cp2, hbx, RowsAt.top (RowsAt.new hE b3), Ow.top (Ow.new owni b3), Ow.top (Ow.new ownp b3), hdis⟩
    have hlo : lo ≤ w3.heap.size := by omega
    have zb : lo ≤ b := by omega
    have zl : w.heap.size + 1 + 1 ≤ lo := by omega
    have q1 := hbx.cell 1 _ rfl
    have f1 := hbx.frozen 1
    clear hb hlo0 b3 z3 hbx hE owni ownp hdis
    obtain ⟨hNB4, hfr4⟩ := NBx.noIds hNB zb
    go_upto_region 5 with fail
    clear q1 f1 hNB
    generalize w3.setCell ⟨b, 1, none⟩ (.slice none 0 0) = w4 at *
    replace BA := BA.fr hfr4 (by omega)
    replace BR := BR.fr hfr4 (by omega)
    replace bb := bb.trans (hfr4.below (B := w.heap.size) (fun x h1 h2 hc => by omega) bb.size)
    have zlo := Nat.le_trans hlo hfr4.size
    clear hfr4
    have c0 := BA.cell 0 _ rfl
    have c1 := BA.cell 1 _ rfl
    have c2 := BA.cell 2 _ rfl
    go_wp2_with fail
    clear c0 c1 c2
    refine (neEdges_any _ N _ B (HV.out.below (bb.mono hB)) (Nat.le_trans hB bb.size) HS.out).mono ?_
    rintro e w5 ⟨aq, cq, vq, rfl, ownq, bel5⟩
    have z45 := bel5.size
    have HIO5 : Hid (∃ apx npx cpx, w5.cell? ⟨b, 2, none⟩ = some (.slice apx npx cpx) ∧ ∀ x, blk apx cpx = some x → x < w4.heap.size ∨ w5.heap.size ≤ x) := by
      obtain ⟨_, _, _, _, _, apx, cpx, hbx, _, _, ownp, _⟩ := hNB4
      exact Lib.hid ⟨_, _, _, (bel5.cell (p := ⟨b, 2, none⟩) hbx.lt).trans (hbx.cell 2 _ rfl), fun x hx => .inl (Ow.blk_in ownp hx).2⟩
    have hb4 : b < w4.heap.size := hNB4.lt
    replace BR := BR.new bel5
    replace bb := bb.trans (bel5.mono bb.size)
    replace hNB4 := hNB4.new bel5
    have zlo5 := Nat.le_trans zlo bel5.size
    clear bel5 BA
    rw [qL_length]
    obtain ⟨ownq1, ownq2, _⟩ := ownq
    rw [qL_length] at ownq1
    have HQL := Lib.hid (fun j (hj : j < (edQ N.ends).length) => ownq2 j (by rw [qL_length]; exact hj))
    clear ownq2
    have HFAC := Lib.hid (fun k hk => sdT_facts HN.out k hk)
    have HEQ := Lib.hid (fun j hj => edQ_at HN.out (j := j) hj)
    go_wp2_with fail
    go_loopw [18] (fun iv wr => ∃ k : Nat, k ≤ (edQ N.ends).length ∧ iv = .int .i64 k ∧ NBx wr lo b (sdT N k) ∧ (Ow wr w4.heap.size w5.heap.size 22 1 aq (edQ N.ends).length cq (fun j => .slice (vq j).1 (rowOf (qL (edQ N.ends)) j).length (vq j).2) ∧ (∀ j, j < (edQ N.ends).length → Ow wr w4.heap.size w5.heap.size 3 1 (vq j).1 (rowOf (qL (edQ N.ends)) j).length (vq j).2 (cellI (rowOf (qL (edQ N.ends)) j)))) ∧ Bx wr (w.heap.size + 1) 25 #[.slice none 0 0, .slice none 0 0, .slice none 0 0] ∧ Below w.heap.size w wr ∧ lo ≤ wr.heap.size ∧ w5.heap.size ≤ wr.heap.size ∧ (∃ apx npx cpx, wr.cell? ⟨b, 2, none⟩ = some (.slice apx npx cpx) ∧ ∀ x, blk apx cpx = some x → x < w4.heap.size ∨ w5.heap.size ≤ x)) (fun iv _ => (edQ N.ends).length - (intOf iv).toNat)
    case atStart => exact ⟨0, Nat.zero_le _, rfl, hNB4, ⟨ownq1, HQL.out⟩, BR, bb, zlo5, Nat.le_refl _, HIO5.out⟩
    case round =>
      obtain ⟨k, hk, rfl, hNB, ⟨ownq1, ownq2⟩, BR, bb, zlo, z5r, HIO⟩ := hrel
      by_cases hlt : k < (edQ N.ends).length
      · obtain ⟨v, i, p, q, heq, hv, hi, hp, hq⟩ := HEQ.out k hlt
        obtain ⟨F1, F2, F3, F4, F5⟩ := HFAC.out k hk
        have z240 := HE240.out
        have hbw := hNB.lt
        have HF3 := Lib.hid F3
        have HF4 := Lib.hid F4
        have HF5 := Lib.hid F5
        clear F3 F4 F5
        obtain ⟨gq, hgq, hgq2, hgq1⟩ := Ow.addr (ownq2 k hlt) (by rw [qL_row _ _ hlt]; omega)
        have hq4 : Ow wr w4.heap.size w5.heap.size 3 1 (vq k).1 4 (vq k).2 (cellI [(v : Int), (i : Int), (p : Int), (q : Int)]) := by
          have h9 := ownq2 k hlt
          have h8 : rowOf (qL (edQ N.ends)) k = [(v : Int), (i : Int), (p : Int), (q : Int)] := by rw [qL_at _ _ hlt, heq]; rfl
          rw [h8] at h9
          exact h9
        have HSC := Lib.hid (fun (X : World) (hX : X.heap[gq]? = wr.heap[gq]?) => show X.cell? ⟨gq, 0, none⟩ = some (.int .i64 (v : Int)) ∧ X.cell? ⟨gq, 1, none⟩ = some (.int .i64 (i : Int)) ∧ X.cell? ⟨gq, 2, none⟩ = some (.int .i64 (p : Int)) ∧ X.cell? ⟨gq, 3, none⟩ = some (.int .i64 (q : Int)) by
          have h9 : ∀ j, j < 4 → X.cell? ⟨gq, j, none⟩ = some (cellI [(v : Int), (i : Int), (p : Int), (q : Int)] j) := by
            intro j hj
            obtain ⟨g9, o9, hae, _, hc9⟩ := Rd.at (Ow.rd hq4) hj
            rw [hgq] at hae
            obtain ⟨rfl, rfl⟩ : gq = g9 ∧ 0 = o9 := by injection hae with h; injection h with h1 h2; exact ⟨h1, h2⟩
            rw [Nat.zero_add] at hc9
            rw [← hc9]
            unfold World.cell?
            rw [hX]
          exact ⟨h9 0 (by omega), h9 1 (by omega), h9 2 (by omega), h9 3 (by omega)⟩)
        have hkq : wr.cell? ⟨gq, 0, none⟩ = some (.int .i64 (v : Int)) := (HSC.out wr rfl).1
        obtain ⟨go, rfl, _⟩ := Ow.addr ownq1 (by omega)
        have hko : wr.cell? ⟨go, k, none⟩ = some (.slice (some ⟨gq, 0, none⟩) 4 (vq k).2) := by
          obtain ⟨g9, o9, hae, _, hc9⟩ := Rd.at (Ow.rd ownq1) hlt
          obtain ⟨rfl, rfl⟩ : go = g9 ∧ 0 = o9 := by injection hae with h; injection h with h1 h2; exact ⟨h1, h2⟩
          rw [Nat.zero_add, qL_row _ _ hlt, hgq] at hc9
          exact hc9
        have HQ := Lib.hid heq
        have HQB := Lib.hid (show blk (vq k).1 (vq k).2 = some gq by have := hq4.1; rw [hgq, blk, if_neg (by omega)]; rfl)
        clear heq hq4 hkq hgq
        have HQ2 := Lib.hid (ownq2 k hlt)
        obtain ⟨cq2, hcq2⟩ : ∃ c, c = (vq k).2 := ⟨_, rfl⟩
        rw [← hcq2] at hko
        clear hcq2
        go_upto_region 8 with fail
        clear hko
        cases hst : stubQ ⟨(v : Int), (i : Int), (p : Int), (q : Int)⟩ with
        | true =>
          have HST := Lib.hid (sdT_yes HQ.out hst)
          obtain ⟨h1, h2⟩ := of_decide_eq_true hst
          have hb1 : ((v : Int) == (p : Int)) = true := beq_iff_eq.2 h1
          have hb2 : ((i : Int) == (q : Int)) = true := beq_iff_eq.2 h2
          clear hst h1 h2
          refine wp_region_held_drew (S := fun X => X.cell? ⟨gq, 0, none⟩ = some (.int .i64 (v : Int)) ∧ X.cell? ⟨gq, 1, none⟩ = some (.int .i64 (i : Int)) ∧ X.cell? ⟨gq, 2, none⟩ = some (.int .i64 (p : Int)) ∧ X.cell? ⟨gq, 3, none⟩ = some (.int .i64 (q : Int))) (by kernel_rfl) (HSC.out _ rfl) (fun hHeld => ?_)
          refine wpAnyH_take (i := 0) (v := ?_) rfl (by kernel_rfl) (by kernel_rfl) (by kernel_rfl) (fun _ _ _ h => h) (Or.inl ⟨by rfl, ?_⟩) (by assumption) ?_
          rotate_left
          · (intro w hSw; (try dsimp only at hSw); go_simp; try with_reducible rfl)
          try simp only [Act.put, List.getElem_toArray, List.getElem_cons_zero, List.getElem_cons_succ, List.setIfInBounds_toArray, List.set_cons_zero, List.set_cons_succ]
          refine wpAnyH_take (i := 1) (v := ?_) rfl (by kernel_rfl) (by kernel_rfl) (by kernel_rfl) (fun _ _ _ h => h) (Or.inl ⟨by rfl, ?_⟩) (by assumption) ?_
          rotate_left
          · (intro w hSw; (try dsimp only at hSw); go_simp; try with_reducible rfl)
          try simp only [Act.put, List.getElem_toArray, List.getElem_cons_zero, List.getElem_cons_succ, List.setIfInBounds_toArray, List.set_cons_zero, List.set_cons_succ]
          refine wpAnyH_take (i := 2) (v := ?_) rfl (by kernel_rfl) (by kernel_rfl) (by kernel_rfl) (fun _ _ _ h => h) (Or.inl ⟨by rfl, ?_⟩) (by assumption) ?_
          rotate_left
          · (intro w hSw; (try dsimp only at hSw); go_simp; try with_reducible rfl)
          try simp only [Act.put, List.getElem_toArray, List.getElem_cons_zero, List.getElem_cons_succ, List.setIfInBounds_toArray, List.set_cons_zero, List.set_cons_succ]
          refine wpAnyH_take (i := 3) (v := ?_) rfl (by kernel_rfl) (by kernel_rfl) (by kernel_rfl) (fun _ _ _ h => h) (Or.inl ⟨by rfl, ?_⟩) (by assumption) ?_
          rotate_left
          · (intro w hSw; (try dsimp only at hSw); go_simp; try with_reducible rfl)
          try simp only [Act.put, List.getElem_toArray, List.getElem_cons_zero, List.getElem_cons_succ, List.setIfInBounds_toArray, List.set_cons_zero, List.set_cons_succ]
          refine wpAnyH_take (i := 4) (v := ?_) rfl (by kernel_rfl) (by kernel_rfl) (by kernel_rfl) (fun _ _ _ h => h) (Or.inl ⟨by rfl, ?_⟩) (by assumption) ?_
          rotate_left
          · (intro w hSw; (try dsimp only at hSw); go_simp; try with_reducible rfl)
          try simp only [Act.put, List.getElem_toArray, List.getElem_cons_zero, List.getElem_cons_succ, List.setIfInBounds_toArray, List.set_cons_zero, List.set_cons_succ]
          refine wpAnyH_take (i := 5) (v := ?_) rfl (by kernel_rfl) (by kernel_rfl) (by kernel_rfl) (fun _ _ _ h => h) (Or.inl ⟨by rfl, ?_⟩) (by assumption) ?_
          rotate_left
          · (intro w hSw; (try dsimp only at hSw); go_simp; try with_reducible rfl)
          try simp only [Act.put, List.getElem_toArray, List.getElem_cons_zero, List.getElem_cons_succ, List.setIfInBounds_toArray, List.set_cons_zero, List.set_cons_succ]
          refine wpAnyH_take (i := 6) (v := ?_) rfl (by kernel_rfl) (by kernel_rfl) (by kernel_rfl) (fun _ _ _ h => h) (Or.inl ⟨by rfl, ?_⟩) (by assumption) ?_
          rotate_left
          · (intro w hSw; (try dsimp only at hSw); go_simp; try with_reducible rfl)
          try simp only [Act.put, List.getElem_toArray, List.getElem_cons_zero, List.getElem_cons_succ, List.setIfInBounds_toArray, List.set_cons_zero, List.set_cons_succ]
          refine wpAnyH_take (i := 7) (v := ?_) rfl (by kernel_rfl) (by kernel_rfl) (by kernel_rfl) (fun _ _ _ h => h) (Or.inl ⟨by rfl, ?_⟩) (by assumption) ?_
          rotate_left
          · (intro w hSw; (try dsimp only at hSw); go_simp; try with_reducible rfl)
          try simp only [Act.put, List.getElem_toArray, List.getElem_cons_zero, List.getElem_cons_succ, List.setIfInBounds_toArray, List.set_cons_zero, List.set_cons_succ]
          refine wpAnyH_take (i := 8) (v := ?_) rfl (by kernel_rfl) (by kernel_rfl) (by kernel_rfl) (fun _ _ _ h => h) (Or.inl ⟨by rfl, ?_⟩) (by assumption) ?_
          rotate_left
          · (intro w hSw; (try dsimp only at hSw); go_simp; try with_reducible rfl)
          try simp only [Act.put, List.getElem_toArray, List.getElem_cons_zero, List.getElem_cons_succ, List.setIfInBounds_toArray, List.set_cons_zero, List.set_cons_succ]
          refine wpAnyH_take (i := 9) (v := ?_) rfl (by kernel_rfl) (by kernel_rfl) (by kernel_rfl) (fun _ _ _ h => h) (Or.inl ⟨by rfl, ?_⟩) (by assumption) ?_
          rotate_left
          · (intro w hSw; (try dsimp only at hSw); go_simp; try with_reducible rfl)
          try simp only [Act.put, List.getElem_toArray, List.getElem_cons_zero, List.getElem_cons_succ, List.setIfInBounds_toArray, List.set_cons_zero, List.set_cons_succ]
          refine wpAnyH_take (i := 10) (v := ?_) rfl (by kernel_rfl) (by kernel_rfl) (by kernel_rfl) (fun _ _ _ h => h) (Or.inl ⟨by rfl, ?_⟩) (by assumption) ?_
          rotate_left
          · (intro w hSw; (try dsimp only at hSw); go_simp; try with_reducible rfl)
          try simp only [Act.put, List.getElem_toArray, List.getElem_cons_zero, List.getElem_cons_succ, List.setIfInBounds_toArray, List.set_cons_zero, List.set_cons_succ]
          refine wpAnyH_take (i := 11) (v := ?_) rfl (by kernel_rfl) (by kernel_rfl) (by kernel_rfl) (fun _ _ _ h => h) (Or.inl ⟨by rfl, ?_⟩) (by assumption) ?_
          rotate_left
          · (intro w hSw; (try dsimp only at hSw); go_simp; try with_reducible rfl)
          try simp only [Act.put, List.getElem_toArray, List.getElem_cons_zero, List.getElem_cons_succ, List.setIfInBounds_toArray, List.set_cons_zero, List.set_cons_succ]
          refine wpAnyH_take (i := 12) (v := ?_) rfl (by kernel_rfl) (by kernel_rfl) (by kernel_rfl) (fun _ _ _ h => h) (Or.inl ⟨by rfl, ?_⟩) (by assumption) ?_
          rotate_left
          · (intro w hSw; (try dsimp only at hSw); go_simp; try with_reducible rfl)
          try simp only [Act.put, List.getElem_toArray, List.getElem_cons_zero, List.getElem_cons_succ, List.setIfInBounds_toArray, List.set_cons_zero, List.set_cons_succ]
          refine wpAnyH_take (i := 13) (v := ?_) rfl (by kernel_rfl) (by kernel_rfl) (by kernel_rfl) (fun _ _ _ h => h) (Or.inl ⟨by rfl, ?_⟩) (by assumption) ?_
          rotate_left
          · (intro w hSw; (try dsimp only at hSw); go_simp; try with_reducible rfl)
          try simp only [Act.put, List.getElem_toArray, List.getElem_cons_zero, List.getElem_cons_succ, List.setIfInBounds_toArray, List.set_cons_zero, List.set_cons_succ]
          refine wpAnyH_take (i := 14) (v := ?_) rfl (by kernel_rfl) (by kernel_rfl) (by kernel_rfl) (fun _ _ _ h => h) (Or.inl ⟨by rfl, ?_⟩) (by assumption) ?_
          rotate_left
          · (intro w hSw; (try dsimp only at hSw); go_simp; try with_reducible rfl)
          try simp only [Act.put, List.getElem_toArray, List.getElem_cons_zero, List.getElem_cons_succ, List.setIfInBounds_toArray, List.set_cons_zero, List.set_cons_succ]
          refine wpAnyH_take (i := 15) (v := ?_) rfl (by kernel_rfl) (by kernel_rfl) (by kernel_rfl) (fun _ _ _ h => h) (Or.inl ⟨by rfl, ?_⟩) (by assumption) ?_
          rotate_left
          · (intro w hSw; (try dsimp only at hSw); go_simp; try with_reducible rfl)
          try simp only [Act.put, List.getElem_toArray, List.getElem_cons_zero, List.getElem_cons_succ, List.setIfInBounds_toArray, List.set_cons_zero, List.set_cons_succ]
          refine wpAnyH_done (by kernel_rfl) ?_ _
          clear hHeld
          go_wp2_with fail
          go_roundw
          case rel => exact ⟨k + 1, by omega, by go_num, by rw [HST.out]; exact hNB.new ((Below.refl _ _).drew), ⟨Ow.new ownq1 ((Below.refl _ _).drew), fun j hj => Ow.new (ownq2 j hj) ((Below.refl _ _).drew)⟩, BR.new ((Below.refl _ _).drew), bb.drew, zlo, z5r, HIO⟩
          case measure => simp [intOf]; omega
        | false =>
          have HST := Lib.hid (sdT_no HQ.out hst)
          have hne : ¬ (v : Int) = (p : Int) ∨ ((v : Int) = (p : Int) ∧ ¬ (i : Int) = (q : Int)) := by
            by_cases h1 : (v : Int) = (p : Int)
            · exact .inr ⟨h1, fun h2 => by rw [show stubQ ⟨(v : Int), (i : Int), (p : Int), (q : Int)⟩ = true from decide_eq_true ⟨h1, h2⟩] at hst; cases hst⟩
            · exact .inl h1
          have hbb : (((v : Int) == (p : Int)) = false) ∨ ((((v : Int) == (p : Int)) = true) ∧ (((i : Int) == (q : Int)) = false)) := hne.elim (fun h => .inl (beq_eq_false_iff_ne.2 h)) (fun h => .inr ⟨beq_iff_eq.2 h.1, beq_eq_false_iff_ne.2 h.2⟩)
          clear hst hne
          rcases hbb with hb1 | ⟨hb1, hb2⟩
          refine wp_region_held_drew (S := fun X => X.cell? ⟨gq, 0, none⟩ = some (.int .i64 (v : Int)) ∧ X.cell? ⟨gq, 1, none⟩ = some (.int .i64 (i : Int)) ∧ X.cell? ⟨gq, 2, none⟩ = some (.int .i64 (p : Int)) ∧ X.cell? ⟨gq, 3, none⟩ = some (.int .i64 (q : Int))) (by kernel_rfl) (HSC.out _ rfl) (fun hHeld => ?_)
          refine wpAnyH_take (i := 0) (v := ?_) rfl (by kernel_rfl) (by kernel_rfl) (by kernel_rfl) (fun _ _ _ h => h) (Or.inl ⟨by rfl, ?_⟩) (by assumption) ?_
          rotate_left
          · (intro w hSw; (try dsimp only at hSw); go_simp; try with_reducible rfl)
          try simp only [Act.put, List.getElem_toArray, List.getElem_cons_zero, List.getElem_cons_succ, List.setIfInBounds_toArray, List.set_cons_zero, List.set_cons_succ]
          refine wpAnyH_take (i := 1) (v := ?_) rfl (by kernel_rfl) (by kernel_rfl) (by kernel_rfl) (fun _ _ _ h => h) (Or.inl ⟨by rfl, ?_⟩) (by assumption) ?_
          rotate_left
          · (intro w hSw; (try dsimp only at hSw); go_simp; try with_reducible rfl)
          try simp only [Act.put, List.getElem_toArray, List.getElem_cons_zero, List.getElem_cons_succ, List.setIfInBounds_toArray, List.set_cons_zero, List.set_cons_succ]
          refine wpAnyH_take (i := 2) (v := ?_) rfl (by kernel_rfl) (by kernel_rfl) (by kernel_rfl) (fun _ _ _ h => h) (Or.inl ⟨by rfl, ?_⟩) (by assumption) ?_
          rotate_left
          · (intro w hSw; (try dsimp only at hSw); go_simp; try with_reducible rfl)
          try simp only [Act.put, List.getElem_toArray, List.getElem_cons_zero, List.getElem_cons_succ, List.setIfInBounds_toArray, List.set_cons_zero, List.set_cons_succ]
          refine wpAnyH_take (i := 3) (v := ?_) rfl (by kernel_rfl) (by kernel_rfl) (by kernel_rfl) (fun _ _ _ h => h) (Or.inl ⟨by rfl, ?_⟩) (by assumption) ?_
          rotate_left
          · (intro w hSw; (try dsimp only at hSw); go_simp; try with_reducible rfl)
          try simp only [Act.put, List.getElem_toArray, List.getElem_cons_zero, List.getElem_cons_succ, List.setIfInBounds_toArray, List.set_cons_zero, List.set_cons_succ]
          refine wpAnyH_take (i := 4) (v := ?_) rfl (by kernel_rfl) (by kernel_rfl) (by kernel_rfl) (fun _ _ _ h => h) (Or.inl ⟨by rfl, ?_⟩) (by assumption) ?_
          rotate_left
          · (intro w hSw; (try dsimp only at hSw); go_simp; try with_reducible rfl)
          try simp only [Act.put, List.getElem_toArray, List.getElem_cons_zero, List.getElem_cons_succ, List.setIfInBounds_toArray, List.set_cons_zero, List.set_cons_succ]
          refine wpAnyH_take (i := 5) (v := ?_) rfl (by kernel_rfl) (by kernel_rfl) (by kernel_rfl) (fun _ _ _ h => h) (Or.inl ⟨by rfl, ?_⟩) (by assumption) ?_
          rotate_left
          · (intro w hSw; (try dsimp only at hSw); go_simp; try with_reducible rfl)
          try simp only [Act.put, List.getElem_toArray, List.getElem_cons_zero, List.getElem_cons_succ, List.setIfInBounds_toArray, List.set_cons_zero, List.set_cons_succ]
          refine wpAnyH_take (i := 6) (v := ?_) rfl (by kernel_rfl) (by kernel_rfl) (by kernel_rfl) (fun _ _ _ h => h) (Or.inl ⟨by rfl, ?_⟩) (by assumption) ?_
          rotate_left
          · (intro w hSw; (try dsimp only at hSw); go_simp; try with_reducible rfl)
          try simp only [Act.put, List.getElem_toArray, List.getElem_cons_zero, List.getElem_cons_succ, List.setIfInBounds_toArray, List.set_cons_zero, List.set_cons_succ]
          refine wpAnyH_take (i := 7) (v := ?_) rfl (by kernel_rfl) (by kernel_rfl) (by kernel_rfl) (fun _ _ _ h => h) (Or.inl ⟨by rfl, ?_⟩) (by assumption) ?_
          rotate_left
          · (intro w hSw; (try dsimp only at hSw); go_simp; try with_reducible rfl)
          try simp only [Act.put, List.getElem_toArray, List.getElem_cons_zero, List.getElem_cons_succ, List.setIfInBounds_toArray, List.set_cons_zero, List.set_cons_succ]
          refine wpAnyH_take (i := 8) (v := undef) rfl (by kernel_rfl) (by kernel_rfl) (by kernel_rfl) (fun _ _ _ h => h) (Or.inr ⟨by rfl, rfl⟩) (by assumption) ?_
          try simp only [Act.put, List.getElem_toArray, List.getElem_cons_zero, List.getElem_cons_succ, List.setIfInBounds_toArray, List.set_cons_zero, List.set_cons_succ]
          refine wpAnyH_take (i := 9) (v := undef) rfl (by kernel_rfl) (by kernel_rfl) (by kernel_rfl) (fun _ _ _ h => h) (Or.inr ⟨by rfl, rfl⟩) (by assumption) ?_
          try simp only [Act.put, List.getElem_toArray, List.getElem_cons_zero, List.getElem_cons_succ, List.setIfInBounds_toArray, List.set_cons_zero, List.set_cons_succ]
          refine wpAnyH_take (i := 10) (v := undef) rfl (by kernel_rfl) (by kernel_rfl) (by kernel_rfl) (fun _ _ _ h => h) (Or.inr ⟨by rfl, rfl⟩) (by assumption) ?_
          try simp only [Act.put, List.getElem_toArray, List.getElem_cons_zero, List.getElem_cons_succ, List.setIfInBounds_toArray, List.set_cons_zero, List.set_cons_succ]
          refine wpAnyH_take (i := 11) (v := undef) rfl (by kernel_rfl) (by kernel_rfl) (by kernel_rfl) (fun _ _ _ h => h) (Or.inr ⟨by rfl, rfl⟩) (by assumption) ?_
          try simp only [Act.put, List.getElem_toArray, List.getElem_cons_zero, List.getElem_cons_succ, List.setIfInBounds_toArray, List.set_cons_zero, List.set_cons_succ]
          refine wpAnyH_take (i := 12) (v := undef) rfl (by kernel_rfl) (by kernel_rfl) (by kernel_rfl) (fun _ _ _ h => h) (Or.inr ⟨by rfl, rfl⟩) (by assumption) ?_
          try simp only [Act.put, List.getElem_toArray, List.getElem_cons_zero, List.getElem_cons_succ, List.setIfInBounds_toArray, List.set_cons_zero, List.set_cons_succ]
          refine wpAnyH_take (i := 13) (v := undef) rfl (by kernel_rfl) (by kernel_rfl) (by kernel_rfl) (fun _ _ _ h => h) (Or.inr ⟨by rfl, rfl⟩) (by assumption) ?_
          try simp only [Act.put, List.getElem_toArray, List.getElem_cons_zero, List.getElem_cons_succ, List.setIfInBounds_toArray, List.set_cons_zero, List.set_cons_succ]
          refine wpAnyH_take (i := 14) (v := undef) rfl (by kernel_rfl) (by kernel_rfl) (by kernel_rfl) (fun _ _ _ h => h) (Or.inr ⟨by rfl, rfl⟩) (by assumption) ?_
          try simp only [Act.put, List.getElem_toArray, List.getElem_cons_zero, List.getElem_cons_succ, List.setIfInBounds_toArray, List.set_cons_zero, List.set_cons_succ]
          refine wpAnyH_take (i := 15) (v := ?_) rfl (by kernel_rfl) (by kernel_rfl) (by kernel_rfl) (fun _ _ _ h => h) (Or.inl ⟨by rfl, ?_⟩) (by assumption) ?_
          rotate_left
          · (intro w hSw; (try dsimp only at hSw); go_simp; try with_reducible rfl)
          try simp only [Act.put, List.getElem_toArray, List.getElem_cons_zero, List.getElem_cons_succ, List.setIfInBounds_toArray, List.set_cons_zero, List.set_cons_succ]
          refine wpAnyH_done (by kernel_rfl) ?_ _
          clear hHeld
          clear hb1
          rotate_left
          refine wp_region_held_drew (S := fun X => X.cell? ⟨gq, 0, none⟩ = some (.int .i64 (v : Int)) ∧ X.cell? ⟨gq, 1, none⟩ = some (.int .i64 (i : Int)) ∧ X.cell? ⟨gq, 2, none⟩ = some (.int .i64 (p : Int)) ∧ X.cell? ⟨gq, 3, none⟩ = some (.int .i64 (q : Int))) (by kernel_rfl) (HSC.out _ rfl) (fun hHeld => ?_)
          refine wpAnyH_take (i := 0) (v := ?_) rfl (by kernel_rfl) (by kernel_rfl) (by kernel_rfl) (fun _ _ _ h => h) (Or.inl ⟨by rfl, ?_⟩) (by assumption) ?_
          rotate_left
          · (intro w hSw; (try dsimp only at hSw); go_simp; try with_reducible rfl)
          try simp only [Act.put, List.getElem_toArray, List.getElem_cons_zero, List.getElem_cons_succ, List.setIfInBounds_toArray, List.set_cons_zero, List.set_cons_succ]
          refine wpAnyH_take (i := 1) (v := ?_) rfl (by kernel_rfl) (by kernel_rfl) (by kernel_rfl) (fun _ _ _ h => h) (Or.inl ⟨by rfl, ?_⟩) (by assumption) ?_
          rotate_left
          · (intro w hSw; (try dsimp only at hSw); go_simp; try with_reducible rfl)
          try simp only [Act.put, List.getElem_toArray, List.getElem_cons_zero, List.getElem_cons_succ, List.setIfInBounds_toArray, List.set_cons_zero, List.set_cons_succ]
          refine wpAnyH_take (i := 2) (v := ?_) rfl (by kernel_rfl) (by kernel_rfl) (by kernel_rfl) (fun _ _ _ h => h) (Or.inl ⟨by rfl, ?_⟩) (by assumption) ?_
          rotate_left
          · (intro w hSw; (try dsimp only at hSw); go_simp; try with_reducible rfl)
          try simp only [Act.put, List.getElem_toArray, List.getElem_cons_zero, List.getElem_cons_succ, List.setIfInBounds_toArray, List.set_cons_zero, List.set_cons_succ]
          refine wpAnyH_take (i := 3) (v := ?_) rfl (by kernel_rfl) (by kernel_rfl) (by kernel_rfl) (fun _ _ _ h => h) (Or.inl ⟨by rfl, ?_⟩) (by assumption) ?_
          rotate_left
          · (intro w hSw; (try dsimp only at hSw); go_simp; try with_reducible rfl)
          try simp only [Act.put, List.getElem_toArray, List.getElem_cons_zero, List.getElem_cons_succ, List.setIfInBounds_toArray, List.set_cons_zero, List.set_cons_succ]
          refine wpAnyH_take (i := 4) (v := ?_) rfl (by kernel_rfl) (by kernel_rfl) (by kernel_rfl) (fun _ _ _ h => h) (Or.inl ⟨by rfl, ?_⟩) (by assumption) ?_
          rotate_left
          · (intro w hSw; (try dsimp only at hSw); go_simp; try with_reducible rfl)
          try simp only [Act.put, List.getElem_toArray, List.getElem_cons_zero, List.getElem_cons_succ, List.setIfInBounds_toArray, List.set_cons_zero, List.set_cons_succ]
          refine wpAnyH_take (i := 5) (v := ?_) rfl (by kernel_rfl) (by kernel_rfl) (by kernel_rfl) (fun _ _ _ h => h) (Or.inl ⟨by rfl, ?_⟩) (by assumption) ?_
          rotate_left
          · (intro w hSw; (try dsimp only at hSw); go_simp; try with_reducible rfl)
          try simp only [Act.put, List.getElem_toArray, List.getElem_cons_zero, List.getElem_cons_succ, List.setIfInBounds_toArray, List.set_cons_zero, List.set_cons_succ]
          refine wpAnyH_take (i := 6) (v := ?_) rfl (by kernel_rfl) (by kernel_rfl) (by kernel_rfl) (fun _ _ _ h => h) (Or.inl ⟨by rfl, ?_⟩) (by assumption) ?_
          rotate_left
          · (intro w hSw; (try dsimp only at hSw); go_simp; try with_reducible rfl)
          try simp only [Act.put, List.getElem_toArray, List.getElem_cons_zero, List.getElem_cons_succ, List.setIfInBounds_toArray, List.set_cons_zero, List.set_cons_succ]
          refine wpAnyH_take (i := 7) (v := ?_) rfl (by kernel_rfl) (by kernel_rfl) (by kernel_rfl) (fun _ _ _ h => h) (Or.inl ⟨by rfl, ?_⟩) (by assumption) ?_
          rotate_left
          · (intro w hSw; (try dsimp only at hSw); go_simp; try with_reducible rfl)
          try simp only [Act.put, List.getElem_toArray, List.getElem_cons_zero, List.getElem_cons_succ, List.setIfInBounds_toArray, List.set_cons_zero, List.set_cons_succ]
          refine wpAnyH_take (i := 8) (v := ?_) rfl (by kernel_rfl) (by kernel_rfl) (by kernel_rfl) (fun _ _ _ h => h) (Or.inl ⟨by rfl, ?_⟩) (by assumption) ?_
          rotate_left
          · (intro w hSw; (try dsimp only at hSw); go_simp; try with_reducible rfl)
          try simp only [Act.put, List.getElem_toArray, List.getElem_cons_zero, List.getElem_cons_succ, List.setIfInBounds_toArray, List.set_cons_zero, List.set_cons_succ]
          refine wpAnyH_take (i := 9) (v := ?_) rfl (by kernel_rfl) (by kernel_rfl) (by kernel_rfl) (fun _ _ _ h => h) (Or.inl ⟨by rfl, ?_⟩) (by assumption) ?_
          rotate_left
          · (intro w hSw; (try dsimp only at hSw); go_simp; try with_reducible rfl)
          try simp only [Act.put, List.getElem_toArray, List.getElem_cons_zero, List.getElem_cons_succ, List.setIfInBounds_toArray, List.set_cons_zero, List.set_cons_succ]
          refine wpAnyH_take (i := 10) (v := ?_) rfl (by kernel_rfl) (by kernel_rfl) (by kernel_rfl) (fun _ _ _ h => h) (Or.inl ⟨by rfl, ?_⟩) (by assumption) ?_
          rotate_left
          · (intro w hSw; (try dsimp only at hSw); go_simp; try with_reducible rfl)
          try simp only [Act.put, List.getElem_toArray, List.getElem_cons_zero, List.getElem_cons_succ, List.setIfInBounds_toArray, List.set_cons_zero, List.set_cons_succ]
          refine wpAnyH_take (i := 11) (v := ?_) rfl (by kernel_rfl) (by kernel_rfl) (by kernel_rfl) (fun _ _ _ h => h) (Or.inl ⟨by rfl, ?_⟩) (by assumption) ?_
          rotate_left
          · (intro w hSw; (try dsimp only at hSw); go_simp; try with_reducible rfl)
          try simp only [Act.put, List.getElem_toArray, List.getElem_cons_zero, List.getElem_cons_succ, List.setIfInBounds_toArray, List.set_cons_zero, List.set_cons_succ]
          refine wpAnyH_take (i := 12) (v := ?_) rfl (by kernel_rfl) (by kernel_rfl) (by kernel_rfl) (fun _ _ _ h => h) (Or.inl ⟨by rfl, ?_⟩) (by assumption) ?_
          rotate_left
          · (intro w hSw; (try dsimp only at hSw); go_simp; try with_reducible rfl)
          try simp only [Act.put, List.getElem_toArray, List.getElem_cons_zero, List.getElem_cons_succ, List.setIfInBounds_toArray, List.set_cons_zero, List.set_cons_succ]
          refine wpAnyH_take (i := 13) (v := ?_) rfl (by kernel_rfl) (by kernel_rfl) (by kernel_rfl) (fun _ _ _ h => h) (Or.inl ⟨by rfl, ?_⟩) (by assumption) ?_
          rotate_left
          · (intro w hSw; (try dsimp only at hSw); go_simp; try with_reducible rfl)
          try simp only [Act.put, List.getElem_toArray, List.getElem_cons_zero, List.getElem_cons_succ, List.setIfInBounds_toArray, List.set_cons_zero, List.set_cons_succ]
          refine wpAnyH_take (i := 14) (v := ?_) rfl (by kernel_rfl) (by kernel_rfl) (by kernel_rfl) (fun _ _ _ h => h) (Or.inl ⟨by rfl, ?_⟩) (by assumption) ?_
          rotate_left
          · (intro w hSw; (try dsimp only at hSw); go_simp; try with_reducible rfl)
          try simp only [Act.put, List.getElem_toArray, List.getElem_cons_zero, List.getElem_cons_succ, List.setIfInBounds_toArray, List.set_cons_zero, List.set_cons_succ]
          refine wpAnyH_take (i := 15) (v := ?_) rfl (by kernel_rfl) (by kernel_rfl) (by kernel_rfl) (fun _ _ _ h => h) (Or.inl ⟨by rfl, ?_⟩) (by assumption) ?_
          rotate_left
          · (intro w hSw; (try dsimp only at hSw); go_simp; try with_reducible rfl)
          try simp only [Act.put, List.getElem_toArray, List.getElem_cons_zero, List.getElem_cons_succ, List.setIfInBounds_toArray, List.set_cons_zero, List.set_cons_succ]
          refine wpAnyH_done (by kernel_rfl) ?_ _
          clear hHeld
          clear hb1 hb2
          rotate_left
          all_goals
            have bdr : Below wr.heap.size wr wr.drew := (Below.refl _ _).drew
            replace hNB := hNB.new bdr
            replace ownq1 := Ow.new ownq1 bdr
            have ownq2' := fun j hj => Ow.new (ownq2 j hj) bdr
            replace BR := BR.new bdr
            replace bb := bb.drew
            replace zlo : lo ≤ wr.drew.heap.size := zlo
            replace z5r : w5.heap.size ≤ wr.drew.heap.size := z5r
            replace HIO : ∃ apx npx cpx, wr.drew.cell? ⟨b, 2, none⟩ = some (.slice apx npx cpx) ∧ ∀ x, blk apx cpx = some x → x < w4.heap.size ∨ w5.heap.size ≤ x := HIO
            replace HSC : Hid (∀ X : World, X.heap[gq]? = wr.drew.heap[gq]? → X.cell? ⟨gq, 0, none⟩ = some (.int .i64 (v : Int)) ∧ X.cell? ⟨gq, 1, none⟩ = some (.int .i64 (i : Int)) ∧ X.cell? ⟨gq, 2, none⟩ = some (.int .i64 (p : Int)) ∧ X.cell? ⟨gq, 3, none⟩ = some (.int .i64 (q : Int))) := HSC
            clear ownq2 bdr
            have ownq2 := ownq2'
            clear ownq2'
            generalize wr.drew = wt at *
            obtain ⟨a3, c3, v3, ai3, ci3, ap3, cp3, hbx, hE, owni, ownp, hdis⟩ := hNB
            have z40 := HSM.out.1
            have hb5 : b < w4.heap.size := hb4
            have hap : ∀ x, blk ap3 cp3 = some x → x < w4.heap.size ∨ w5.heap.size ≤ x := by
              obtain ⟨apx, npx, cpx, h8, h9⟩ := HIO
              have h7 := h8.symm.trans (hbx.cell 2 _ rfl)
              simp only [List.getElem_toArray, List.getElem_cons_zero, List.getElem_cons_succ, Option.some.injEq, Value.slice.injEq] at h7
              obtain ⟨rfl, -, rfl⟩ := h7
              exact h9
            have HAP := Lib.hid hap
            clear HIO hap
            have q0 := hbx.cell 0 _ rfl
            go_upto_region 10 with fail
            clear q0
            obtain ⟨wd, hwd⟩ : ∃ wd, wd = wt.drew := ⟨_, rfl⟩
            have bwd : Below wt.heap.size wt wd := by rw [hwd]; exact (Below.refl _ _).drew
            have hhd : ∀ x : Nat, wd.heap[x]? = wt.heap[x]? := by rw [hwd]; exact fun _ => rfl
            have hzd : wd.heap.size ≤ wt.heap.size := by rw [hwd]; exact Nat.le_refl _
            obtain ⟨wb, hwb⟩ : ∃ wb, wb = (wd.alloc (.cells #[.int .i64 (v : Int), .int .i64 (i : Int), .int .i64 (p : Int), .int .i64 (q : Int)] 62)).alloc (.cells #[.slice (some ⟨wd.heap.size, 0, none⟩) 2 2] 60) := ⟨_, rfl⟩
            have bwb : Below wd.heap.size wd wb := by rw [hwb]; exact (by repeat (first | exact Below.refl _ _ | assumption | refine Below.alloc ?_ (by first | (simp; done) | (simp; omega) | omega) _ | refine Below.setCell ?_ (by first | (simp; done) | (simp; omega) | omega) _ | refine Below.drew ?_ | refine Below.drewN ?_ _))
            have bwa : Below wd.heap.size wd (wd.alloc (.cells #[.int .i64 (v : Int), .int .i64 (i : Int), .int .i64 (p : Int), .int .i64 (q : Int)] 62)) := (by repeat (first | exact Below.refl _ _ | assumption | refine Below.alloc ?_ (by first | (simp; done) | (simp; omega) | omega) _ | refine Below.setCell ?_ (by first | (simp; done) | (simp; omega) | omega) _ | refine Below.drew ?_ | refine Below.drewN ?_ _))
            have zwb : wd.heap.size + 1 + 1 ≤ wb.heap.size := by rw [hwb]; simp
            have hrw : Ow wb wd.heap.size wb.heap.size 62 2 (some ⟨wd.heap.size, 0, none⟩) 2 2 (cellE [((v : Int), (i : Int)), ((p : Int), (q : Int))]) := by rw [hwb]; exact Ow.twoEnds ((Bx.made wd _ _).alloc _) (Nat.le_refl _) (by simp; omega)
            have hnw : ∀ jj uu, [Value.slice (some ⟨wd.heap.size, 0, none⟩) 2 2][jj]? = some uu → wb.cell? (Addr.add ⟨wd.heap.size + 1, 0, none⟩ jj) = some uu := by
              rw [hwb]
              have h := cell_one_new (wd.alloc (.cells #[.int .i64 (v : Int), .int .i64 (i : Int), .int .i64 (p : Int), .int .i64 (q : Int)] 62)) (.slice (some ⟨wd.heap.size, 0, none⟩) 2 2) 60
              rw [World.size_alloc] at h
              exact h
            have hdz := bwd.size
            have hEt := hE
            replace hbx := hbx.new bwd
            replace hE := RowsAt.new hE bwd
            replace owni := Ow.new owni bwd
            replace ownp := Ow.new ownp bwd
            have hSd := HSC.out wd (hhd gq)
            have hSa := HSC.out (wd.alloc (.cells #[.int .i64 (v : Int), .int .i64 (i : Int), .int .i64 (p : Int), .int .i64 (q : Int)] 62)) ((bwa.block gq (by omega)).trans (hhd gq))
            have hSb := HSC.out wb ((bwb.block gq (by omega)).trans (hhd gq))
            have qd := hbx.cell 0 _ rfl
            have qa := (hbx.new bwa).cell 0 _ rfl
            have qb := (hbx.new bwb).cell 0 _ rfl
            have HWB := Lib.hid hwb
            clear hwb
            refine wp_region_held_drew (S := fun X => X.cell? ⟨gq, 0, none⟩ = some (.int .i64 (v : Int)) ∧ X.cell? ⟨gq, 1, none⟩ = some (.int .i64 (i : Int)) ∧ X.cell? ⟨gq, 2, none⟩ = some (.int .i64 (p : Int)) ∧ X.cell? ⟨gq, 3, none⟩ = some (.int .i64 (q : Int))) (by kernel_rfl) (HSC.out _ rfl) (fun hHeld => ?_)
            rw [← hwd]
            clear hwd
            refine wpAnyH_take (i := 0) (v := ?_) rfl (by kernel_rfl) (by kernel_rfl) (by kernel_rfl) (fun _ _ _ h => h) (Or.inl ⟨by rfl, ?_⟩) (by assumption) ?_
            rotate_left
            · (intro w hSw; (try dsimp only at hSw); go_simp; try with_reducible rfl)
            try simp only [Act.put, List.getElem_toArray, List.getElem_cons_zero, List.getElem_cons_succ, List.setIfInBounds_toArray, List.set_cons_zero, List.set_cons_succ]
            refine wpAnyH_take (i := 2) (v := ?_) rfl (by kernel_rfl) (by kernel_rfl) (by kernel_rfl) (fun _ _ _ h => h) (Or.inl ⟨by rfl, ?_⟩) (by assumption) ?_
            rotate_left
            · (intro w hSw; (try dsimp only at hSw); go_simp; try with_reducible rfl)
            try simp only [Act.put, List.getElem_toArray, List.getElem_cons_zero, List.getElem_cons_succ, List.setIfInBounds_toArray, List.set_cons_zero, List.set_cons_succ]
            refine wpAnyH_take (i := 3) (v := ?_) rfl (by kernel_rfl) (by kernel_rfl) (by kernel_rfl) (fun _ _ _ h => h) (Or.inl ⟨by rfl, ?_⟩) (by assumption) ?_
            rotate_left
            · (intro w hSw; (try dsimp only at hSw); go_simp; try with_reducible rfl)
            try simp only [Act.put, List.getElem_toArray, List.getElem_cons_zero, List.getElem_cons_succ, List.setIfInBounds_toArray, List.set_cons_zero, List.set_cons_succ]
            refine wpAnyH_take (i := 4) (v := ?_) rfl (by kernel_rfl) (by kernel_rfl) (by kernel_rfl) (fun _ _ _ h => h) (Or.inl ⟨by rfl, ?_⟩) (by assumption) ?_
            rotate_left
            · (intro w hSw; (try dsimp only at hSw); go_simp; try with_reducible rfl)
            try simp only [Act.put, List.getElem_toArray, List.getElem_cons_zero, List.getElem_cons_succ, List.setIfInBounds_toArray, List.set_cons_zero, List.set_cons_succ]
            refine wpAnyH_take (i := 5) (v := ?_) rfl (by kernel_rfl) (by kernel_rfl) (by kernel_rfl) (fun _ _ _ h => h) (Or.inl ⟨by rfl, ?_⟩) (by assumption) ?_
            rotate_left
            · (intro w hSw; (try dsimp only at hSw); go_simp; try with_reducible rfl)
            try simp only [Act.put, List.getElem_toArray, List.getElem_cons_zero, List.getElem_cons_succ, List.setIfInBounds_toArray, List.set_cons_zero, List.set_cons_succ]
            refine wpAnyH_take (i := 6) (v := ?_) rfl (by kernel_rfl) (by kernel_rfl) (by kernel_rfl) (fun _ _ _ h => h) (Or.inl ⟨by rfl, ?_⟩) (by assumption) ?_
            rotate_left
            · (intro w hSw; (try dsimp only at hSw); go_simp; try with_reducible rfl)
            try simp only [Act.put, List.getElem_toArray, List.getElem_cons_zero, List.getElem_cons_succ, List.setIfInBounds_toArray, List.set_cons_zero, List.set_cons_succ]
            refine wpAnyH_take (i := 7) (v := ?_) rfl (by kernel_rfl) (by kernel_rfl) (by kernel_rfl) (fun _ _ _ h => h) (Or.inl ⟨by rfl, ?_⟩) (by assumption) ?_
            rotate_left
            · (intro w hSw; (try dsimp only at hSw); go_simp; try with_reducible rfl)
            try simp only [Act.put, List.getElem_toArray, List.getElem_cons_zero, List.getElem_cons_succ, List.setIfInBounds_toArray, List.set_cons_zero, List.set_cons_succ]
            refine wpAnyH_take (i := 8) (v := ?_) rfl (by kernel_rfl) (by kernel_rfl) (by kernel_rfl) (fun _ _ _ h => h) (Or.inl ⟨by rfl, ?_⟩) (by assumption) ?_
            rotate_left
            · (intro w hSw; (try dsimp only at hSw); go_simp; try with_reducible rfl)
            try simp only [Act.put, List.getElem_toArray, List.getElem_cons_zero, List.getElem_cons_succ, List.setIfInBounds_toArray, List.set_cons_zero, List.set_cons_succ]
            refine wpAnyH_take (i := 9) (v := ?_) rfl (by kernel_rfl) (by kernel_rfl) (by kernel_rfl) (fun _ _ _ h => h) (Or.inl ⟨by rfl, ?_⟩) (by assumption) ?_
            rotate_left
            · (intro w hSw; (try dsimp only at hSw); go_simp; try with_reducible rfl)
            try simp only [Act.put, List.getElem_toArray, List.getElem_cons_zero, List.getElem_cons_succ, List.setIfInBounds_toArray, List.set_cons_zero, List.set_cons_succ]
            refine wpAnyH_take (i := 10) (v := ?_) rfl (by kernel_rfl) (by kernel_rfl) (by kernel_rfl) (fun _ _ _ h => h) (Or.inl ⟨by rfl, ?_⟩) (by assumption) ?_
            rotate_left
            · (intro w hSw; (try dsimp only at hSw); go_simp; try with_reducible rfl)
            try simp only [Act.put, List.getElem_toArray, List.getElem_cons_zero, List.getElem_cons_succ, List.setIfInBounds_toArray, List.set_cons_zero, List.set_cons_succ]
            refine wpAnyH_take (i := 11) (v := ?_) rfl (by kernel_rfl) (by kernel_rfl) (by kernel_rfl) (fun _ _ _ h => h) (Or.inl ⟨by rfl, ?_⟩) (by assumption) ?_
            rotate_left
            · (intro w hSw; (try dsimp only at hSw); go_simp; try with_reducible rfl)
            try simp only [Act.put, List.getElem_toArray, List.getElem_cons_zero, List.getElem_cons_succ, List.setIfInBounds_toArray, List.set_cons_zero, List.set_cons_succ]
            refine wpAnyH_take (i := 12) (v := ?_) rfl (by kernel_rfl) (by kernel_rfl) (by kernel_rfl) (fun _ _ _ h => h) (Or.inl ⟨by rfl, ?_⟩) (by assumption) ?_
            rotate_left
            · (intro w hSw; (try dsimp only at hSw); go_simp; try with_reducible rfl)
            try simp only [Act.put, List.getElem_toArray, List.getElem_cons_zero, List.getElem_cons_succ, List.setIfInBounds_toArray, List.set_cons_zero, List.set_cons_succ]
            refine wpAnyH_take (i := 13) (v := ?_) rfl (by kernel_rfl) (by kernel_rfl) (by kernel_rfl) (fun _ _ _ h => h) (Or.inl ⟨by rfl, ?_⟩) (by assumption) ?_
            rotate_left
            · (intro w hSw; (try dsimp only at hSw); go_simp; try with_reducible rfl)
            try simp only [Act.put, List.getElem_toArray, List.getElem_cons_zero, List.getElem_cons_succ, List.setIfInBounds_toArray, List.set_cons_zero, List.set_cons_succ]
            refine wpAnyH_take (i := 14) (v := ?_) rfl (by kernel_rfl) (by kernel_rfl) (by kernel_rfl) (fun _ _ _ h => h) (Or.inl ⟨by rfl, ?_⟩) (by assumption) ?_
            rotate_left
            · (intro w hSw; (try dsimp only at hSw); go_simp; try with_reducible rfl)
            try simp only [Act.put, List.getElem_toArray, List.getElem_cons_zero, List.getElem_cons_succ, List.setIfInBounds_toArray, List.set_cons_zero, List.set_cons_succ]
            refine wpAnyH_take (i := 15) (v := ?_) rfl (by kernel_rfl) (by kernel_rfl) (by kernel_rfl) (fun _ _ _ h => h) (Or.inl ⟨by rfl, ?_⟩) (by assumption) ?_
            rotate_left
            · (intro w hSw; (try dsimp only at hSw); go_simp; try with_reducible rfl)
            try simp only [Act.put, List.getElem_toArray, List.getElem_cons_zero, List.getElem_cons_succ, List.setIfInBounds_toArray, List.set_cons_zero, List.set_cons_succ]
            refine wpAnyH_ready (rs := [1, 16]) (by kernel_rfl) (by simp) ?_
            refine AllReadyH.cons (o := _) rfl (fun K hK => ?_) (AllReadyH.cons (o := _) rfl (fun K hK => ?_) AllReadyH.nil)
            go_simp
            refine hK.out _ _ (hSd) (fun hHeld => ?_)
            clear hK K
            try simp only [Act.put, List.getElem_toArray, List.getElem_cons_zero, List.getElem_cons_succ, List.setIfInBounds_toArray, List.set_cons_zero, List.set_cons_succ]
            refine wpAnyH_ready (rs := [16]) (by kernel_rfl) (by simp) ?_
            refine AllReadyH.cons (o := _) rfl (fun K hK => ?_) AllReadyH.nil
            go_simp
            refine hK.out _ _ (hSa) (fun hHeld => ?_)
            clear hK K
            try simp only [Act.put, List.getElem_toArray, List.getElem_cons_zero, List.getElem_cons_succ, List.setIfInBounds_toArray, List.set_cons_zero, List.set_cons_succ]
            refine wpAnyH_ready (rs := [17]) (by kernel_rfl) (by simp) ?_
            refine AllReadyH.cons (o := _) rfl (fun K hK => ?_) AllReadyH.nil
            go_simp
            rw [← HWB.out]
            refine hK.out _ _ (hSb) (fun hHeld => ?_)
            clear hK K
            try simp only [Act.put, List.getElem_toArray, List.getElem_cons_zero, List.getElem_cons_succ, List.setIfInBounds_toArray, List.set_cons_zero, List.set_cons_succ]
            refine wpAnyH_ready (rs := [18]) (by kernel_rfl) (by simp) ?_
            refine AllReadyH.cons (o := _) rfl (fun K hK => ?_) AllReadyH.nil
            rw [if_pos (by rfl)]
            refine step_app _ _ _ rfl 60 (.slice none 0 0) 1 24 Try.underlying23 ends_info rfl (by decide) lo wt.heap.size a3 (sdT N k).ends.length c3 _ rfl (Ow.new hE.1 bwb) ⟨wd.heap.size + 1, 0, none⟩ 1 1 [.slice (some ⟨wd.heap.size, 0, none⟩) 2 2] rfl rfl hnw (by simp [Value.oneCell']) (by decide) (by unfold maxLen; omega) (by omega) (by omega) ?_
            intro g' cap' w8 own8 hgr _ _
            obtain ⟨hbx8, hNB8, hfr8⟩ := NBx.addRow (r := [((v : Int), (i : Int)), ((p : Int), (q : Int))]) (hi := wd.heap.size) (hbx.new bwb) (RowsAt.wide (RowsAt.new hE bwb) (Nat.le_refl _) hdz) (Ow.wide (Ow.new owni bwb) (Nat.le_refl _) hdz) (Ow.wide (Ow.new ownp bwb) (Nat.le_refl _) hdz) hdis (by omega) (by omega) zb hrw hgr own8
            have q8 := hbx8.cell 0 _ rfl
            have f8 := hbx8.frozen 0
            have hgqb : ∀ x, (some x = blk a3 c3 ∨ x = b) → x ≠ gq := fun x hx hxq => hx.elim (fun h => ne_of_or ((ownq2 k hlt).ne_of_type hEt.1 (by decide)) HQB.out (by rw [← h, hxq])) (fun h => by omega)
            have hS8 := HSC.out w8 (((Fr.of_grown hgr).block gq (by omega) (fun h => hgqb gq (.inl h) rfl)).trans ((bwb.block gq (by omega)).trans (hhd gq)))
            have hS9 := HSC.out _ ((hfr8.block gq (by omega) (fun h => hgqb gq h rfl)).trans ((bwb.block gq (by omega)).trans (hhd gq)))
            refine hK.out _ _ (hS8) (fun hHeld => ?_)
            clear hK K
            try simp only [Act.put, List.getElem_toArray, List.getElem_cons_zero, List.getElem_cons_succ, List.setIfInBounds_toArray, List.set_cons_zero, List.set_cons_succ]
            refine wpAnyH_take (i := 19) (v := ?_) rfl (by kernel_rfl) (by kernel_rfl) (by kernel_rfl) (fun _ _ _ h => h) (Or.inl ⟨by rfl, ?_⟩) (by assumption) ?_
            rotate_left
            · (intro w hSw; (try dsimp only at hSw); go_simp; try with_reducible rfl)
            try simp only [Act.put, List.getElem_toArray, List.getElem_cons_zero, List.getElem_cons_succ, List.setIfInBounds_toArray, List.set_cons_zero, List.set_cons_succ]
            refine wpAnyH_ready (rs := [20]) (by kernel_rfl) (by simp) ?_
            refine AllReadyH.cons (o := _) rfl (fun K hK => ?_) AllReadyH.nil
            go_simp
            refine hK.out _ _ (hS9) (fun hHeld => ?_)
            clear hK K
            try simp only [Act.put, List.getElem_toArray, List.getElem_cons_zero, List.getElem_cons_succ, List.setIfInBounds_toArray, List.set_cons_zero, List.set_cons_succ]
            refine wpAnyH_done (by kernel_rfl) ?_ _
            clear hHeld hS8 hS9 q8 f8
            rotate_left
            go_simp
            refine hK.out _ _ (hSa) (fun hHeld => ?_)
            clear hK K
            try simp only [Act.put, List.getElem_toArray, List.getElem_cons_zero, List.getElem_cons_succ, List.setIfInBounds_toArray, List.set_cons_zero, List.set_cons_succ]
            refine wpAnyH_ready (rs := [1, 17]) (by kernel_rfl) (by simp) ?_
            refine AllReadyH.cons (o := _) rfl (fun K hK => ?_) (AllReadyH.cons (o := _) rfl (fun K hK => ?_) AllReadyH.nil)
            go_simp
            refine hK.out _ _ (hSa) (fun hHeld => ?_)
            clear hK K
            try simp only [Act.put, List.getElem_toArray, List.getElem_cons_zero, List.getElem_cons_succ, List.setIfInBounds_toArray, List.set_cons_zero, List.set_cons_succ]
            refine wpAnyH_ready (rs := [17]) (by kernel_rfl) (by simp) ?_
            refine AllReadyH.cons (o := _) rfl (fun K hK => ?_) AllReadyH.nil
            go_simp
            rw [← HWB.out]
            refine hK.out _ _ (hSb) (fun hHeld => ?_)
            clear hK K
            try simp only [Act.put, List.getElem_toArray, List.getElem_cons_zero, List.getElem_cons_succ, List.setIfInBounds_toArray, List.set_cons_zero, List.set_cons_succ]
            refine wpAnyH_ready (rs := [18]) (by kernel_rfl) (by simp) ?_
            refine AllReadyH.cons (o := _) rfl (fun K hK => ?_) AllReadyH.nil
            rw [if_pos (by rfl)]
            refine step_app _ _ _ rfl 60 (.slice none 0 0) 1 24 Try.underlying23 ends_info rfl (by decide) lo wt.heap.size a3 (sdT N k).ends.length c3 _ rfl (Ow.new hE.1 bwb) ⟨wd.heap.size + 1, 0, none⟩ 1 1 [.slice (some ⟨wd.heap.size, 0, none⟩) 2 2] rfl rfl hnw (by simp [Value.oneCell']) (by decide) (by unfold maxLen; omega) (by omega) (by omega) ?_
            intro g' cap' w8 own8 hgr _ _
            obtain ⟨hbx8, hNB8, hfr8⟩ := NBx.addRow (r := [((v : Int), (i : Int)), ((p : Int), (q : Int))]) (hi := wd.heap.size) (hbx.new bwb) (RowsAt.wide (RowsAt.new hE bwb) (Nat.le_refl _) hdz) (Ow.wide (Ow.new owni bwb) (Nat.le_refl _) hdz) (Ow.wide (Ow.new ownp bwb) (Nat.le_refl _) hdz) hdis (by omega) (by omega) zb hrw hgr own8
            have q8 := hbx8.cell 0 _ rfl
            have f8 := hbx8.frozen 0
            have hgqb : ∀ x, (some x = blk a3 c3 ∨ x = b) → x ≠ gq := fun x hx hxq => hx.elim (fun h => ne_of_or ((ownq2 k hlt).ne_of_type hEt.1 (by decide)) HQB.out (by rw [← h, hxq])) (fun h => by omega)
            have hS8 := HSC.out w8 (((Fr.of_grown hgr).block gq (by omega) (fun h => hgqb gq (.inl h) rfl)).trans ((bwb.block gq (by omega)).trans (hhd gq)))
            have hS9 := HSC.out _ ((hfr8.block gq (by omega) (fun h => hgqb gq h rfl)).trans ((bwb.block gq (by omega)).trans (hhd gq)))
            refine hK.out _ _ (hS8) (fun hHeld => ?_)
            clear hK K
            try simp only [Act.put, List.getElem_toArray, List.getElem_cons_zero, List.getElem_cons_succ, List.setIfInBounds_toArray, List.set_cons_zero, List.set_cons_succ]
            refine wpAnyH_take (i := 19) (v := ?_) rfl (by kernel_rfl) (by kernel_rfl) (by kernel_rfl) (fun _ _ _ h => h) (Or.inl ⟨by rfl, ?_⟩) (by assumption) ?_
            rotate_left
            · (intro w hSw; (try dsimp only at hSw); go_simp; try with_reducible rfl)
            try simp only [Act.put, List.getElem_toArray, List.getElem_cons_zero, List.getElem_cons_succ, List.setIfInBounds_toArray, List.set_cons_zero, List.set_cons_succ]
            refine wpAnyH_ready (rs := [20]) (by kernel_rfl) (by simp) ?_
            refine AllReadyH.cons (o := _) rfl (fun K hK => ?_) AllReadyH.nil
            go_simp
            refine hK.out _ _ (hS9) (fun hHeld => ?_)
            clear hK K
            try simp only [Act.put, List.getElem_toArray, List.getElem_cons_zero, List.getElem_cons_succ, List.setIfInBounds_toArray, List.set_cons_zero, List.set_cons_succ]
            refine wpAnyH_done (by kernel_rfl) ?_ _
            clear hHeld hS8 hS9 q8 f8
            rotate_left
            go_simp
            rw [← HWB.out]
            refine hK.out _ _ (hSb) (fun hHeld => ?_)
            clear hK K
            try simp only [Act.put, List.getElem_toArray, List.getElem_cons_zero, List.getElem_cons_succ, List.setIfInBounds_toArray, List.set_cons_zero, List.set_cons_succ]
            refine wpAnyH_ready (rs := [1]) (by kernel_rfl) (by simp) ?_
            refine AllReadyH.cons (o := _) rfl (fun K hK => ?_) AllReadyH.nil
            go_simp
            refine hK.out _ _ (hSb) (fun hHeld => ?_)
            clear hK K
            try simp only [Act.put, List.getElem_toArray, List.getElem_cons_zero, List.getElem_cons_succ, List.setIfInBounds_toArray, List.set_cons_zero, List.set_cons_succ]
            refine wpAnyH_ready (rs := [18]) (by kernel_rfl) (by simp) ?_
            refine AllReadyH.cons (o := _) rfl (fun K hK => ?_) AllReadyH.nil
            rw [if_pos (by rfl)]
            refine step_app _ _ _ rfl 60 (.slice none 0 0) 1 24 Try.underlying23 ends_info rfl (by decide) lo wt.heap.size a3 (sdT N k).ends.length c3 _ rfl (Ow.new hE.1 bwb) ⟨wd.heap.size + 1, 0, none⟩ 1 1 [.slice (some ⟨wd.heap.size, 0, none⟩) 2 2] rfl rfl hnw (by simp [Value.oneCell']) (by decide) (by unfold maxLen; omega) (by omega) (by omega) ?_
            intro g' cap' w8 own8 hgr _ _
            obtain ⟨hbx8, hNB8, hfr8⟩ := NBx.addRow (r := [((v : Int), (i : Int)), ((p : Int), (q : Int))]) (hi := wd.heap.size) (hbx.new bwb) (RowsAt.wide (RowsAt.new hE bwb) (Nat.le_refl _) hdz) (Ow.wide (Ow.new owni bwb) (Nat.le_refl _) hdz) (Ow.wide (Ow.new ownp bwb) (Nat.le_refl _) hdz) hdis (by omega) (by omega) zb hrw hgr own8
            have q8 := hbx8.cell 0 _ rfl
            have f8 := hbx8.frozen 0
            have hgqb : ∀ x, (some x = blk a3 c3 ∨ x = b) → x ≠ gq := fun x hx hxq => hx.elim (fun h => ne_of_or ((ownq2 k hlt).ne_of_type hEt.1 (by decide)) HQB.out (by rw [← h, hxq])) (fun h => by omega)
            have hS8 := HSC.out w8 (((Fr.of_grown hgr).block gq (by omega) (fun h => hgqb gq (.inl h) rfl)).trans ((bwb.block gq (by omega)).trans (hhd gq)))
            have hS9 := HSC.out _ ((hfr8.block gq (by omega) (fun h => hgqb gq h rfl)).trans ((bwb.block gq (by omega)).trans (hhd gq)))
            refine hK.out _ _ (hS8) (fun hHeld => ?_)
            clear hK K
            try simp only [Act.put, List.getElem_toArray, List.getElem_cons_zero, List.getElem_cons_succ, List.setIfInBounds_toArray, List.set_cons_zero, List.set_cons_succ]
            refine wpAnyH_take (i := 19) (v := ?_) rfl (by kernel_rfl) (by kernel_rfl) (by kernel_rfl) (fun _ _ _ h => h) (Or.inl ⟨by rfl, ?_⟩) (by assumption) ?_
            rotate_left
            · (intro w hSw; (try dsimp only at hSw); go_simp; try with_reducible rfl)
            try simp only [Act.put, List.getElem_toArray, List.getElem_cons_zero, List.getElem_cons_succ, List.setIfInBounds_toArray, List.set_cons_zero, List.set_cons_succ]
            refine wpAnyH_ready (rs := [20]) (by kernel_rfl) (by simp) ?_
            refine AllReadyH.cons (o := _) rfl (fun K hK => ?_) AllReadyH.nil
            go_simp
            refine hK.out _ _ (hS9) (fun hHeld => ?_)
            clear hK K
            try simp only [Act.put, List.getElem_toArray, List.getElem_cons_zero, List.getElem_cons_succ, List.setIfInBounds_toArray, List.set_cons_zero, List.set_cons_succ]
            refine wpAnyH_done (by kernel_rfl) ?_ _
            clear hHeld hS8 hS9 q8 f8
            rotate_left
            all_goals
              clear hSd hSa hSb qd qa qb
              obtain ⟨w9, hw9⟩ : ∃ w9, w9 = w8.setCell ⟨b, 0, none⟩ (.slice (some ⟨g', 0, none⟩) ((sdT N k).ends.length + 1) cap') := ⟨_, rfl⟩
              rw [← hw9] at hNB8 hfr8 ⊢
              have hc29 : w9.cell? ⟨b, 2, none⟩ = some (.slice ap3 (sdT N k).inputs.length cp3) := by rw [hw9]; exact (hbx8.set 0 _).cell 2 _ rfl
              clear hw9
              have hC8 : ∀ x, (some x = blk a3 c3 ∨ x = b) → lo ≤ x := fun x hx => hx.elim (fun h => (hEt.1.blk_in h.symm).1) (fun h => by omega)
              have bwt := bwd.trans (bwb.mono bwd.size)
              have own19 := Ow.frB (Ow.new ownq1 bwt) hfr8 (fun x hx hc => hc.elim (fun h => ne_of_or ((Ow.new ownq1 bwt).ne_of_type (RowsAt.new hEt bwt).1 (by decide)) hx h.symm) (fun h => (hbx.new bwb).ne_row (Ow.new ownq1 bwt) (by decide) (h ▸ hx)))
              have own29 := fun j hj => Ow.frB (Ow.new (ownq2 j hj) bwt) hfr8 (fun x hx hc => hc.elim (fun h => ne_of_or ((Ow.new (ownq2 j hj) bwt).ne_of_type (RowsAt.new hEt bwt).1 (by decide)) hx h.symm) (fun h => (hbx.new bwb).ne_row (Ow.new (ownq2 j hj) bwt) (by decide) (h ▸ hx)))
              have BR9 := (BR.new bwt).fr hfr8 (fun h => by have := hC8 _ h; omega)
              have bb9 := (bb.trans (bwt.mono bb.size)).trans (hfr8.below (B := w.heap.size) (fun x h1 h2 hc => by have := hC8 _ hc; omega) (Nat.le_trans bb.size bwt.size))
              have zlo9 := Nat.le_trans (Nat.le_trans zlo bwt.size) hfr8.size
              have z59 := Nat.le_trans (Nat.le_trans z5r bwt.size) hfr8.size
              have HS9 : Hid (w9.heap[gq]? = wt.heap[gq]?) := Lib.hid ((hfr8.block gq (by omega) (fun h => hgqb gq h rfl)).trans ((bwb.block gq (by omega)).trans (hhd gq)))
              have hN9 : NBx w9 lo b { ends := (sdT N k).ends ++ [[((v : Int), (i : Int)), ((p : Int), (q : Int))]], ids := (sdT N k).ids, inputs := (sdT N k).inputs } := hNB8
              clear hNB8 hfr8 hC8 hgr own8 hbx8 hrw hnw hbx hE owni ownp hdis ownq1 ownq2 BR bb zlo z5r HWB zwb bwb bwa bwt hhd hzd hdz bwd hEt hgqb
              obtain ⟨M9, hM9⟩ : ∃ M : Net, M = { ends := (sdT N k).ends ++ [[((v : Int), (i : Int)), ((p : Int), (q : Int))]], ids := (sdT N k).ids, inputs := (sdT N k).inputs } := ⟨_, rfl⟩
              rw [← hM9] at hN9
              have HM9 := Lib.hid hM9
              have hMi : M9.inputs.length ≤ 1000 := by rw [hM9]; show (sdT N k).inputs.length ≤ 1000; have := HF5.out; omega
              clear hM9
              obtain ⟨a4, c4, v4, ai4, ci4, ap4, cp4, hbx, hE, owni, ownp, hdis⟩ := hN9
              have q2 := hbx.cell 2 _ rfl
              have f2 := hbx.frozen 2
              have HAP4 : Hid (∀ x, blk ap4 cp4 = some x → x < w4.heap.size ∨ w5.heap.size ≤ x) := by
                have h7 := hc29.symm.trans q2
                simp only [List.getElem_toArray, List.getElem_cons_zero, List.getElem_cons_succ, Option.some.injEq, Value.slice.injEq] at h7
                obtain ⟨rfl, -, rfl⟩ := h7
                exact HAP
              clear hc29
              obtain ⟨wc, hwc⟩ : ∃ wc, wc = w9.alloc (.cells #[.int .i64 0] 3) := ⟨_, rfl⟩
              have bwc : Below w9.heap.size w9 wc := by rw [hwc]; exact (by repeat (first | exact Below.refl _ _ | assumption | refine Below.alloc ?_ (by first | (simp; done) | (simp; omega) | omega) _ | refine Below.setCell ?_ (by first | (simp; done) | (simp; omega) | omega) _ | refine Below.drew ?_ | refine Below.drewN ?_ _))
              have hnw : ∀ jj uu, [Value.int .i64 0][jj]? = some uu → wc.cell? (Addr.add ⟨w9.heap.size, 0, none⟩ jj) = some uu := by
                rw [hwc]
                exact cell_one_new w9 (.int .i64 0) 3
              have HWC := Lib.hid hwc
              clear hwc
              have zwc := bwc.size
              go_upto_region 12 with (at_builtin; rw [← HWC.out]; refine wpList_app rfl _ _ _ rfl 3 (.int .i64 0) 1 8 Try.underlying22 int_info rfl (by decide) lo w9.heap.size ap4 M9.inputs.length cp4 _ rfl (Ow.new ownp bwc) ⟨w9.heap.size, 0, none⟩ 1 1 [.int .i64 0] rfl rfl hnw (by simp [Value.oneCell']) (by decide) (by unfold maxLen; omega) (by omega) (by omega) ?_; intro g2' cap2' w10 own10 hgr hnew _; obtain ⟨hbx8, hNB8, hfr8⟩ := NBx.addInput (z := 0) (hbx.new bwc) (RowsAt.wide (RowsAt.new hE bwc) (Nat.le_refl _) bwc.size) (Ow.wide (Ow.new owni bwc) (Nat.le_refl _) bwc.size) (Ow.wide (Ow.new ownp bwc) (Nat.le_refl _) bwc.size) hdis (Nat.le_refl _) zb hgr hnew own10; have q8 := hbx8.cell 2 _ rfl; have f8 := hbx8.frozen 2; clear q2 f2)
              obtain ⟨w11, hw11⟩ : ∃ w11, w11 = w10.setCell ⟨b, 2, none⟩ (.slice (some ⟨g2', 0, none⟩) (M9.inputs.length + 1) cap2') := ⟨_, rfl⟩
              rw [← hw11] at hNB8 hfr8 ⊢
              have hc211 : w11.cell? ⟨b, 2, none⟩ = some (.slice (some ⟨g2', 0, none⟩) (M9.inputs.length + 1) cap2') := by rw [hw11]; exact (hbx8.set 2 _).cell 2 _ rfl
              clear hw11 q8 f8
              have hC8 : ∀ x, (some x = blk ap4 cp4 ∨ x = b) → lo ≤ x ∧ (x < w4.heap.size ∨ w5.heap.size ≤ x) := fun x hx => hx.elim (fun h => ⟨(Ow.blk_in ownp h.symm).1, HAP4.out x h.symm⟩) (fun h => by omega)
              have HAP11 : Hid (∀ x, blk (some (⟨g2', 0, none⟩ : Addr)) cap2' = some x → x < w4.heap.size ∨ w5.heap.size ≤ x) := Lib.hid fun x hx => by
                obtain ⟨_, y, hy, hyk⟩ := blk_some hx
                injection hy with hy
                subst hy
                simp only at hyk
                subst hyk
                exact hnew.elim (fun h => HAP4.out _ h) (fun h => by omega)
              have own111 := Ow.frB (Ow.new own19 bwc) hfr8 (fun x hx hc => hc.elim (fun h => ne_of_or ((Ow.new own19 bwc).ne_of_type (Ow.new ownp bwc) (by decide)) hx h.symm) (fun h => (hbx.new bwc).ne_row (Ow.new own19 bwc) (by decide) (h ▸ hx)))
              have own211 := fun j hj => Ow.frB (Ow.new (own29 j hj) bwc) hfr8 (fun x hx hc => by have h5 := hC8 x hc; have h6 := Ow.blk_in (own29 j hj) hx; omega)
              have BR11 := (BR9.new bwc).fr hfr8 (fun h => by have := hC8 _ h; omega)
              have bb11 := (bb9.trans (bwc.mono bb9.size)).trans (hfr8.below (B := w.heap.size) (fun x h1 h2 hc => by have := hC8 _ hc; omega) (Nat.le_trans bb9.size bwc.size))
              have zlo11 := Nat.le_trans (Nat.le_trans zlo9 bwc.size) hfr8.size
              have z511 := Nat.le_trans (Nat.le_trans z59 bwc.size) hfr8.size
              have HS11 : Hid (w11.heap[gq]? = wt.heap[gq]?) := Lib.hid ((hfr8.block gq (by omega) (fun h => by have := hC8 _ h; omega)).trans ((bwc.block gq (by omega)).trans HS9.out))
              have hN11 : NBx w11 lo b { ends := (sdT N k).ends ++ [[((v : Int), (i : Int)), ((p : Int), (q : Int))]], ids := (sdT N k).ids, inputs := (sdT N k).inputs ++ [0] } := by
                have h9 := hNB8
                rw [HM9.out] at h9
                exact h9
              clear hNB8 hfr8 hC8 hgr hnew own10 hbx8 hnw hbx hE owni ownp hdis own19 own29 BR9 bb9 zlo9 z59 HWC zwc bwc HM9 hMi HAP HAP4
              generalize hR : (sdT N k).ends ++ [[((v : Int), (i : Int)), ((p : Int), (q : Int))]] = R at *
              have HRL := Lib.hid (show R.length = (sdT N k).ends.length + 1 by rw [← hR, List.length_append]; rfl)
              have HRR := Lib.hid (fun j (hj : j < N.ends.length) => show (rowOf R j).length = (rowOf N.ends j).length by rw [← hR, rowOf_append_left _ _ _ (by omega)]; exact HF3.out j hj)
              have HR := Lib.hid hR
              clear hR
              have hvR : v < R.length := by have := HRL.out; omega
              have hpR : p < R.length := by have := HRL.out; omega
              have hiR : i < (rowOf R v).length := by rw [HRR.out v hv]; exact hi
              have hqR : q < (rowOf R p).length := by rw [HRR.out p hp]; exact hq
              obtain ⟨A, cA, g1, cg1, k0, k1, k2, k3, kf, kg, hNB5, hfr5, hAg, hbg, hA9, hg9, hty1, hbt1⟩ := NBx.setEndT (w := w11.drew) (v := v) (i := i) ((sdT N k).ends.length : Int) 0 hN11 ((Below.refl _ _).drew) hvR hiR
              have k0' : w11.cell? ⟨b, 0, none⟩ = some (.slice (some ⟨A, 0, none⟩) R.length cA) := k0
              have k1' : w11.cell? ⟨A, v, none⟩ = some (.slice (some ⟨g1, 0, none⟩) (rowOf R v).length cg1) := k1
              have hS := HSC.out w11 HS11.out
              clear k0 k1
              go_still_tail 13, (by kernel_rfl)
              change wpList _ _ _ _ _ w11.drew
              clear k0' k1' hS
              have BR12 : Bx w11.drew (w.heap.size + 1) 25 #[.slice none 0 0, .slice none 0 0, .slice none 0 0] := BR11
              have own112 := Ow.new own111 ((Below.refl _ w11).drew)
              have own212 := fun j hj => Ow.new (own211 j hj) ((Below.refl _ w11).drew)
              have bb12 := bb11.drew
              have zlo12 : lo ≤ w11.drew.heap.size := zlo11
              have z512 : w5.heap.size ≤ w11.drew.heap.size := z511
              have HS12 : Hid (w11.drew.heap[gq]? = wt.heap[gq]?) := HS11
              have hc212 : w11.drew.cell? ⟨b, 2, none⟩ = some (.slice (some ⟨g2', 0, none⟩) (M9.inputs.length + 1) cap2') := hc211
              clear BR11 own111 own211 bb11 zlo11 z511 hN11 HS11 hc211
              generalize w11.drew = wx at *
              have kf1 := kf (i * 2)
              have kf2 := kf (i * 2 + 1)
              have hq12 : gq ≠ g1 := hty1 _ _ _ _ _ _ _ _ (own212 k hlt) (by decide) gq HQB.out
              have own113 := Ow.frB own112 hfr5 (fun x hx hc => hty1 _ _ _ _ _ _ _ _ own112 (by decide) x hx hc)
              have own213 := fun j hj => Ow.frB (own212 j hj) hfr5 (fun x hx hc => hty1 _ _ _ _ _ _ _ _ (own212 j hj) (by decide) x hx hc)
              have BR13 := BR12.fr hfr5 (by omega)
              have bb13 := bb12.trans (hfr5.below (B := w.heap.size) (fun x h1 h2 hc => by omega) bb12.size)
              have zlo13 := Nat.le_trans zlo12 hfr5.size
              have z513 := Nat.le_trans z512 hfr5.size
              have HS13 := Lib.hid ((hfr5.block gq (by omega) hq12).trans HS12.out)
              have hc213 := (hfr5.cellB (p := ⟨b, 2, none⟩) (World.block_lt_of_cell? wx _ hc212) hbg).trans hc212
              go_upto_region 13 with fail
              clear kf1 kf2 kf k2 k3 hty1 hbt1 own112 own212 BR12 bb12 zlo12 z512 HS12 hc212 hfr5 hq12
              generalize (wx.setCell ⟨g1, i * 2, none⟩ (.int .i64 ((sdT N k).ends.length : Int))).setCell ⟨g1, i * 2 + 1, none⟩ (.int .i64 0) = wy at *
              have hqR2 : q < (rowOf (R.set v ((rowOf R v).set i (((sdT N k).ends.length : Int), 0))) p).length := by
                have := setRE_len R v i p (((sdT N k).ends.length : Int), 0) hvR
                unfold setRE at this
                rw [this]; exact hqR
              have HR2 := Lib.hid (show (R.set v ((rowOf R v).set i (((sdT N k).ends.length : Int), 0))).length = R.length from List.length_set ..)
              have HR3 := Lib.hid (show (rowOf (R.set v ((rowOf R v).set i (((sdT N k).ends.length : Int), 0))) p).length = (rowOf R p).length from setRE_len R v i p (((sdT N k).ends.length : Int), 0) hvR)
              obtain ⟨A2, cA2, g3, cg3, l0, l1, l2, l3, lf, lg, hNB6, hfr6, hAg6, hbg6, _, _, hty3, hbt3⟩ := NBx.setEndT (w := wy.drew) (v := p) (i := q) ((sdT N k).ends.length : Int) 1 hNB5 ((Below.refl _ _).drew) (by show p < (R.set v _).length; rw [HR2.out]; exact hpR) hqR2
              have l0' : wy.cell? ⟨b, 0, none⟩ = some (.slice (some ⟨A2, 0, none⟩) R.length cA2) := by rw [← HR2.out]; exact l0
              have l1' : wy.cell? ⟨A2, p, none⟩ = some (.slice (some ⟨g3, 0, none⟩) (rowOf R p).length cg3) := by rw [← HR3.out]; exact l1
              have hS := HSC.out wy HS13.out
              clear l0 l1
              go_still_tail 13, (by kernel_rfl)
              change wpList _ _ _ _ _ wy.drew
              clear l0' l1' hS
              have BR14 : Bx wy.drew (w.heap.size + 1) 25 #[.slice none 0 0, .slice none 0 0, .slice none 0 0] := BR13
              have own114 := Ow.new own113 ((Below.refl _ wy).drew)
              have own214 := fun j hj => Ow.new (own213 j hj) ((Below.refl _ wy).drew)
              have bb14 := bb13.drew
              have zlo14 : lo ≤ wy.drew.heap.size := zlo13
              have z514 : w5.heap.size ≤ wy.drew.heap.size := z513
              have hc214 : wy.drew.cell? ⟨b, 2, none⟩ = some (.slice (some ⟨g2', 0, none⟩) (M9.inputs.length + 1) cap2') := hc213
              clear BR13 own113 own213 bb13 zlo13 z513 hNB5 HS13 hc213
              generalize wy.drew = wz at *
              have lf1 := lf (q * 2)
              have lf2 := lf (q * 2 + 1)
              have own115 := Ow.frB own114 hfr6 (fun x hx hc => hty3 _ _ _ _ _ _ _ _ own114 (by decide) x hx hc)
              have own215 := fun j hj => Ow.frB (own214 j hj) hfr6 (fun x hx hc => hty3 _ _ _ _ _ _ _ _ (own214 j hj) (by decide) x hx hc)
              have BR15 := BR14.fr hfr6 (by omega)
              have bb15 := bb14.trans (hfr6.below (B := w.heap.size) (fun x h1 h2 hc => by omega) bb14.size)
              have zlo15 := Nat.le_trans zlo14 hfr6.size
              have z515 := Nat.le_trans z514 hfr6.size
              have hc215 := (hfr6.cellB (p := ⟨b, 2, none⟩) (World.block_lt_of_cell? wz _ hc214) hbg6).trans hc214
              have HFIN := Lib.hid (fun X (h9 : NBx X lo b { ends := (R.set v ((rowOf R v).set i (((sdT N k).ends.length : Int), 0))).set p ((rowOf (R.set v ((rowOf R v).set i (((sdT N k).ends.length : Int), 0))) p).set q (((sdT N k).ends.length : Int), 1)), ids := (sdT N k).ids, inputs := (sdT N k).inputs ++ [0] }) => show NBx X lo b (sdT N (k + 1)) by
                have h8 : ({ ends := (R.set v ((rowOf R v).set i (((sdT N k).ends.length : Int), 0))).set p ((rowOf (R.set v ((rowOf R v).set i (((sdT N k).ends.length : Int), 0))) p).set q (((sdT N k).ends.length : Int), 1)), ids := (sdT N k).ids, inputs := (sdT N k).inputs ++ [0] } : Net) = sdT N (k + 1) := by
                  rw [HST.out, sdT_ids]
                  unfold sdS setRE
                  rw [HR.out]
                  simp only [Int.toNat_natCast]
                rw [← h8]
                exact h9)
              have HC := Lib.hid hc215
              clear hty3 hbt3 lf own114 own214 BR14 bb14 zlo14 z514 hc214 hc215
              go_wp2_with fail
              go_roundw
              case rel => exact ⟨k + 1, by omega, by go_num, HFIN.out _ hNB6, ⟨own115, own215⟩, BR15, bb15, zlo15, z515, _, _, _, HC.out, HAP11.out⟩
              case measure => simp [intOf]; omega
      · have HKE := Lib.hid (show k = (edQ N.ends).length by omega)
        rw [HKE.out] at hNB
        obtain ⟨ax, cx, aix, cix, apx, cpx, BO, own9⟩ := hNB.at_
        have HSML := Lib.hid (sdT_small HN.out _ (Nat.le_refl _))
        have HNN := Lib.hid (show sdN N = sdT N (edQ N.ends).length from rfl)
        generalize sdT N (edQ N.ends).length = QQ at *
        have q0 := BO.cell 0 _ rfl
        have q1 := BO.cell 1 _ rfl
        have q2 := BO.cell 2 _ rfl
        go_wp2_with fail
        clear q0 q1 q2
        refine (neIf_any _ QQ _ _ _ own9 (Nat.le_refl _) (by omega) HSML.out).mono ?_
        rintro e w19 ⟨x9, rfl, own19, bel19⟩
        replace BR := BR.new bel19
        replace bb := bb.trans (bel19.mono bb.size)
        have z19 := bel19.size
        clear bel19
        obtain ⟨ax, cx, aix, cix, apx, cpx, rfl, own19⟩ := own19.shape
        generalize hRR : ifN (netB (QQ)) (QQ) = RR at *
        generalize hOO : netB (QQ) = oo at *
        have HRR := Lib.hid hRR
        have HOO := Lib.hid hOO
        clear hRR hOO
        have e0 := BR.cell 0 _ rfl
        have e1 := BR.cell 1 _ rfl
        have e2 := BR.cell 2 _ rfl
        have f0 := BR.frozen 0
        have f1 := BR.frozen 1
        have f2 := BR.frozen 2
        go_wp2_with fail
        clear e0 e1 e2 f0 f1 f2
        generalize hW : World.setCell _ _ _ = W
        have B6 : Bx W (w.heap.size + 1) 25 #[.slice ax RR.ends.length cx, .slice aix RR.ids.length cix, .slice apx RR.inputs.length cpx] := by rw [← hW]; exact ((BR.set 0 _).set 1 _).set 2 _
        have fr6 : Fr (fun k => k = w.heap.size + 1) w19 W := by rw [← hW]; exact fr3 _ _ _ _ _
        clear hW
        have z6 := fr6.size
        have d0 := B6.cell 0 _ rfl
        have d1 := B6.cell 1 _ rfl
        have d2 := B6.cell 2 _ rfl
        refine bodyPost_ret (v := .tuple #[.agg #[.slice ax RR.ends.length cx, .slice aix RR.ids.length cix, .slice apx RR.inputs.length cpx], .bool oo]) (by simp [results, Try.results35, go_sem, d0, d1, d2]) rfl ?_
        rw [sdR_t HN.out, sdOk_t HN.out, HNN.out, HOO.out, HRR.out]
        exact ⟨_, rfl, (own19.frBx BR fr6).wide (lo' := w.heap.size) (hi' := W.heap.size) (by omega) (by omega), bb.trans (fr6.below (fun k h1 h2 hc => by omega) bb.size)⟩
end Go.Proofs.Ytabpimhkjgojhaa
