/- PermutePorts: the walks. -/
import Derived.Test.YtabpimhkjgojhaaRenP
import Derived.Test.YtabpimhkjgojhaaNBx
import Derived.Test.YtabpimhkjgojhaaOwn
import Derived.Test.YtabpimhkjgojhaaCopy
import Derived.StillTailTactics
namespace Go.Proofs.Ytabpimhkjgojhaa
open Go.RowKit
set_option linter.unusedVariables false
set_option linter.unusedSimpArgs false


/-- 'n.Ends[v][i] = End{x, y}' at a network that is older than the world at hand -/
theorem NBx.setEndA {w0 w : World} {lo b v i : Nat} {N : Net} (x y : Int) (h : NBx w0 lo b N) (hb : Below w0.heap.size w0 w) (hv : v < N.ends.length) (hi : i < (rowOf N.ends v).length) :
    ∃ A c g cg, w.cell? ⟨b, 0, none⟩ = some (.slice (some ⟨A, 0, none⟩) N.ends.length c) ∧ w.cell? ⟨A, v, none⟩ = some (.slice (some ⟨g, 0, none⟩) (rowOf N.ends v).length cg) ∧
      w.cell? ⟨g, i * 2, none⟩ = some (.int .i64 (nthE (rowOf N.ends v) i).1) ∧ w.cell? ⟨g, i * 2 + 1, none⟩ = some (.int .i64 (nthE (rowOf N.ends v) i).2) ∧ (∀ j, w.frozen? ⟨g, j, none⟩ = false) ∧ lo ≤ g ∧
      NBx ((w.setCell ⟨g, i * 2, none⟩ (.int .i64 x)).setCell ⟨g, i * 2 + 1, none⟩ (.int .i64 y)) lo b { N with ends := N.ends.set v ((rowOf N.ends v).set i (x, y)) } ∧
      Fr (fun k => k = g) w ((w.setCell ⟨g, i * 2, none⟩ (.int .i64 x)).setCell ⟨g, i * 2 + 1, none⟩ (.int .i64 y)) ∧ A ≠ g ∧ b ≠ g ∧ A < w0.heap.size ∧ g < w0.heap.size := by
  obtain ⟨a, c, vs, ai, ci, ap, cp, hbx, hE, owni, ownp, hdis⟩ := h
  replace hE := RowsAt.new hE hb
  replace owni := Ow.new owni hb
  replace ownp := Ow.new ownp hb
  replace hbx := hbx.new hb
  obtain ⟨A, hA, hA2, hA1⟩ := Ow.addr hE.1 (by omega)
  subst hA
  obtain ⟨hc, hf⟩ := RowsE.head hE hv
  obtain ⟨g, cg, hvs, hg1, hg2, k1, k2, hfz, hnb, hno, hE', hfr⟩ := setE_mem x y hE hv hi
  have hbA : blk (some (⟨A, 0, none⟩ : Addr)) c = some A := by have := hE.1.1; rw [blk, if_neg (by omega)]; rfl
  have hbg : blk (vs v).1 (vs v).2 = some g := by have := (hE.2.1 v hv).1; rw [hvs] at this ⊢; rw [blk, if_neg (by simp at this ⊢; omega)]; rfl
  have hAg : A ≠ g := fun hAg => by
    rcases hE.1.ne_of_type (hE.2.1 v hv) (by decide) with h3 | h3
    · rw [hbA] at h3; cases h3
    · exact h3 (by rw [hbA, hbg, hAg])
  rw [hvs] at hc
  have hlen : (N.ends.set v ((rowOf N.ends v).set i (x, y))).length = N.ends.length := List.length_set ..
  refine ⟨A, c, g, cg, hbx.cell 0 _ rfl, hc, k1, k2, hfz, hg1, ⟨some ⟨A, 0, none⟩, c, vs, ai, ci, ap, cp, ?_, RowsAt.top hE', Ow.top (Ow.frB owni hfr (fun k hk => hno _ _ _ _ _ _ owni k hk)), Ow.top (Ow.frB ownp hfr (fun k hk => hno _ _ _ _ _ _ ownp k hk)), hdis⟩, hfr, hAg, hnb _ _ _ hbx (by decide), hA2, hg2⟩
  show Bx _ b _ #[.slice _ (N.ends.set v ((rowOf N.ends v).set i (x, y))).length c, _, _]
  rw [hlen]
  exact hbx.fr hfr (hnb _ _ _ hbx (by decide))
theorem psN_zero {N : Net} (h : netB N = true) (v : Nat) (l : List Int) : psN N v l 0 = N := by unfold psN; rw [psT_zero h]
set_option maxRecDepth 100000 in
set_option maxHeartbeats 1600000 in
theorem nePorts_any (V : Value) (N : Net) (v : Nat) (al : Option Addr) (capl : Nat) (l : List Int) (w : World) (B B2 : Nat) (hv : NetIn w B V N) (hB : B ≤ w.heap.size) (ha : RdI w B2 al l) (hB2 : B2 ≤ w.heap.size) (hs : NetSmall N) (hnet : netB N = true) (hvl : v < N.ends.length) (hp : permB l (rowOf N.ends v).length = true) :
    Calls Try.prog 71 #[V, .int .i64 v, .slice al l.length capl] w fun e w' => ∃ x, e = .returned x ∧ NetAt w' w.heap.size w'.heap.size x (psN N v l (rowOf N.ends v).length) ∧ Below w.heap.size w w' := by
  have HV := Lib.hid hv
  have HS := Lib.hid hs
  have HN := Lib.hid hnet
  have HP := Lib.hid hp
  have HA := Lib.hid ha
  have HVL := Lib.hid hvl
  have HLL := Lib.hid (permB_len hp)
  have HROW := Lib.hid hs.row
  have HSM := Lib.hid (netB_small hnet)
  have HNI := Lib.hid (show N.ids.length = 0 ∨ N.ids.length = N.ends.length by
    have h9 := hnet
    unfold netB at h9
    simp only [Bool.and_eq_true] at h9
    exact (of_decide_eq_true h9.1.1.2).2.2)
  obtain ⟨a0, c0, vs0, ai0, ci0, ap0, cp0, rfl, h1, h2, h3, _⟩ := hv
  have BA := (Bx.made w 25 #[.slice a0 N.ends.length c0, .slice ai0 N.ids.length ci0, .slice ap0 N.inputs.length cp0]).alloc (.cells #[.slice none 0 0, .slice none 0 0, .slice none 0 0] 25)
  have BR := Bx.made (w.alloc (.cells #[.slice a0 N.ends.length c0, .slice ai0 N.ids.length ci0, .slice ap0 N.inputs.length cp0] 25)) 25 #[.slice none 0 0, .slice none 0 0, .slice none 0 0]
  have b0 : Below w.heap.size w ((w.alloc (.cells #[.slice a0 N.ends.length c0, .slice ai0 N.ids.length ci0, .slice ap0 N.inputs.length cp0] 25)).alloc (.cells #[.slice none 0 0, .slice none 0 0, .slice none 0 0] 25)) := (by repeat (first | exact Below.refl _ _ | assumption | refine Below.alloc ?_ (by first | (simp; done) | (simp; omega) | omega) _ | refine Below.setCell ?_ (by first | (simp; done) | (simp; omega) | omega) _ | refine Below.drew ?_ | refine Below.drewN ?_ _))
  rw [World.size_alloc] at BR
  have hle : N.ends.length ≤ 40 := HSM.out.1
  obtain ⟨g0, off0, rfl, hg0, hc0⟩ := h1.1 (by have := HSM.out.2.1; omega)
  have hrow0 := h1.2
  have HC0 := Lib.hid hc0
  have HR0 := Lib.hid hrow0
  have HI0 := Lib.hid h2
  clear hs hnet hp h1 h2 h3 hc0 hrow0 ha
  go_enter Try.func71, Try.ntmps71
  go_wp2_with fail
  refine (neOwn_any _ N _ B (HV.out.below (b0.mono hB)) (Nat.le_trans hB b0.size) HS.out).mono ?_
  rintro e w1 ⟨x1, rfl, own1, bel1⟩
  replace BA := BA.new bel1
  replace BR := BR.new bel1
  have z0 : w.heap.size + 1 + 1 ≤ w1.heap.size := by have := bel1.size; simpa using this
  have b1 := b0.trans (bel1.mono b0.size)
  obtain ⟨a, c, vs, ai, ci, ap, cp, rfl, hE, owni, ownp, hdis⟩ := own1
  simp only [World.size_alloc] at hE owni ownp
  clear b0 bel1
  go_upto_region 2 with fail
  have hbx := Bx.made w1 25 #[.slice a N.ends.length c, .slice ai N.ids.length ci, .slice ap N.inputs.length cp]
  have b2 : Below w1.heap.size w1 (w1.alloc (.cells #[.slice a N.ends.length c, .slice ai N.ids.length ci, .slice ap N.inputs.length cp] 25)) := (by repeat (first | exact Below.refl _ _ | assumption | refine Below.alloc ?_ (by first | (simp; done) | (simp; omega) | omega) _ | refine Below.setCell ?_ (by first | (simp; done) | (simp; omega) | omega) _ | refine Below.drew ?_ | refine Below.drewN ?_ _))
  have z1 : w1.heap.size + 1 ≤ (w1.alloc (.cells #[.slice a N.ends.length c, .slice ai N.ids.length ci, .slice ap N.inputs.length cp] 25)).heap.size := by simp
  generalize w1.alloc (.cells #[.slice a N.ends.length c, .slice ai N.ids.length ci, .slice ap N.inputs.length cp] 25) = w2 at *
  obtain ⟨b, hb⟩ : ∃ b, b = w1.heap.size := ⟨_, rfl⟩
  obtain ⟨lo, hlo0⟩ : ∃ lo, lo = w.heap.size + 1 + 1 := ⟨_, rfl⟩
  rw [← hlo0] at hE owni ownp
  rw [← hb] at hbx ⊢
  replace BA := BA.new b2
  replace BR := BR.new b2
  have hNB0 : NBx w2 lo b N := ⟨a, c, vs, ai, ci, ap, cp, hbx, RowsAt.top (RowsAt.new hE b2), Ow.top (Ow.new owni b2), Ow.top (Ow.new ownp b2), hdis⟩
  have bb := b1.trans (b2.mono b1.size)
  have hlo : lo ≤ w2.heap.size := by omega
  have zb : lo ≤ b := by omega
  have zl : w.heap.size + 1 + 1 ≤ lo := by omega
  clear hb hlo0 b1 b2 z1 hbx hE owni ownp hdis
  have hNB : NBx w2 lo b (psN N v l 0) := by rw [psN_zero HN.out]; exact hNB0
  clear hNB0
  have q0 := BA.cell 0 _ rfl
  have hc1 := (bb.cell (p := ⟨g0, off0 + v, none⟩) (by show g0 < _; omega)).trans (HC0.out v hvl)
  have hrow := HR0.out v hvl
  have hL1 := net_row HN.out hvl
  have HBK := Lib.hid (fun j (hj : j < (rowOf N.ends v).length) => net_back HN.out hvl hj)
  have HST := Lib.hid (fun i p q pi hi he hpi => psT_set HN.out (v := v) (i := i) (p := p) (q := q) (pi := pi) hvl hi l he hpi)
  have HLN := Lib.hid (fun i j (hj : j < N.ends.length) => psT_len N.ends v l i j hj)
  have HL0 := Lib.hid (fun i => psT_length N.ends v l i)
  generalize hes : rowOf N.ends v = es at *
  have HES := Lib.hid hes
  clear hes
  generalize (vs0 v).1 = ax at *
  generalize (vs0 v).2 = cx at *
  go_wp2_with fail
  clear q0 hc1
  go_loopw [18] (fun iv wr => ∃ k : Nat, k ≤ es.length ∧ iv = .int .i64 k ∧ NBx wr lo b (psN N v l k) ∧ Bx wr (w.heap.size + 1) 25 #[.slice none 0 0, .slice none 0 0, .slice none 0 0] ∧ Below w.heap.size w wr ∧ lo ≤ wr.heap.size) (fun iv _ => es.length - (intOf iv).toNat)
  case atStart => exact ⟨0, Nat.zero_le _, rfl, hNB, BR, bb, hlo⟩
  case round =>
    obtain ⟨k, hk, rfl, hNB, BR, bb, zlo⟩ := hrel
    have hwr : w.heap.size ≤ wr.heap.size := bb.size
    by_cases hlt : k < es.length
    · obtain ⟨p, q, hpq, hp, hq, _⟩ := HBK.out k hlt
      obtain ⟨pk, hpk, hpk2⟩ := permB_at HP.out hlt
      have HPK := Lib.hid hpk
      have HS2 := Lib.hid (HST.out k p q pk hlt hpq hpk)
      obtain ⟨gl, offl, rfl, hgl, hcl⟩ := HA.out (by have := HLL.out; omega)
      obtain ⟨g1, off1, rfl, _, e1, e2⟩ := RdE.at (hrow.below (bb.mono hB)) hlt
      rw [hpq] at e1 e2
      clear hpq hpk
      have hck : wr.cell? ⟨gl, offl + k, none⟩ = some (.int .i64 (pk : Int)) := ((bb.cell (p := ⟨gl, offl + k, none⟩) (by show gl < _; omega)).trans (hcl k (by have := HLL.out; omega))).trans (by show some (Value.int .i64 (nth l k)) = _; rw [HPK.out])
      have hkl : k < l.length := by have := HLL.out; omega
      have HCQ := Lib.hid (fun (hql : q < l.length) => (bb.cell (p := ⟨gl, offl + q, none⟩) (by show gl < _; omega)).trans (hcl q hql))
      clear hcl
      have BE := Bx.made wr 62 #[.int .i64 (p : Int), .int .i64 (q : Int)]
      have bE : Below wr.heap.size wr (wr.alloc (.cells #[.int .i64 (p : Int), .int .i64 (q : Int)] 62)) := (by repeat (first | exact Below.refl _ _ | assumption | refine Below.alloc ?_ (by first | (simp; done) | (simp; omega) | omega) _ | refine Below.setCell ?_ (by first | (simp; done) | (simp; omega) | omega) _ | refine Below.drew ?_ | refine Below.drewN ?_ _))
      go_upto_region 5 with fail
      clear e1 e2
      have hck' := (bE.cell (p := ⟨gl, offl + k, none⟩) (World.block_lt_of_cell? wr _ hck)).trans hck
      replace BR := BR.new bE
      have bb2 := bb.trans (bE.mono bb.size)
      have zlo2 := Nat.le_trans zlo bE.size
      have HCQ2 := Lib.hid (fun (hql : q < l.length) => (bE.cell (p := ⟨gl, offl + q, none⟩) (by show gl < _; omega)).trans (HCQ.out hql))
      have zg : wr.heap.size < (wr.alloc (.cells #[.int .i64 (p : Int), .int .i64 (q : Int)] 62)).heap.size := BE.lt
      clear hck HCQ
      generalize wr.alloc (.cells #[.int .i64 (p : Int), .int .i64 (q : Int)] 62) = wy at *
      have d0 := BE.cell 0 _ rfl
      have d1 := BE.cell 1 _ rfl
      have hpl9 : pk < (rowOf (psT N.ends v l k) v).length := by rw [HLN.out _ _ HVL.out, HES.out]; exact hpk2
      have hvl9 : v < (psT N.ends v l k).length := by rw [HL0.out]; exact HVL.out
      by_cases hpv : v = p
      · subst hpv
        have hql : q < l.length := by have := HLL.out; have h9 := HES.out; rw [h9] at hq; omega
        have hcq := HCQ2.out hql
        have f1 := BE.frozen 1
        go_upto_region 8 with fail
        clear d0 d1 hcq f1
        have hfr1 := fr_set wy wr.heap.size 1 (.int .i64 (nth l q))
        replace BE : Bx (wy.setCell ⟨wr.heap.size, 1, none⟩ (.int .i64 (nth l q))) wr.heap.size 62 #[.int .i64 (v : Int), .int .i64 (nth l q)] := BE.set 1 (.int .i64 (nth l q))
        replace bE := bE.trans (hfr1.below (B := wr.heap.size) (fun x h1 h2 hc => by omega) (by omega))
        have hNB0 := hNB
        replace BR := BR.fr hfr1 (by omega)
        replace bb2 := bb2.trans (hfr1.below (B := w.heap.size) (fun x h1 h2 hc => by omega) bb2.size)
        replace zlo2 := Nat.le_trans zlo2 hfr1.size
        replace hck' := (hfr1.below (B := wr.heap.size) (fun x h1 h2 hc => by omega) (by omega)).cell (p := ⟨gl, offl + k, none⟩) (by show gl < _; omega) |>.trans hck'
        clear hfr1 HCQ2
        generalize wy.setCell ⟨wr.heap.size, 1, none⟩ (.int .i64 (nth l q)) = wz at *
        obtain ⟨A, cA, g, cg, k0, k1, k2, k3, kf, kg, hNB5, hfr5, hAg, hbg, _, _⟩ := NBx.setEndA (w := wz.drew) (v := v) (i := pk) (v : Int) (nth l q) hNB0 bE.drew hvl9 hpl9
        have k0' : wz.cell? ⟨b, 0, none⟩ = some (.slice (some ⟨A, 0, none⟩) N.ends.length cA) := by rw [← HL0.out k]; exact k0
        have k1' : wz.cell? ⟨A, v, none⟩ = some (.slice (some ⟨g, 0, none⟩) es.length cg) := by rw [← HES.out, ← HLN.out k v HVL.out]; exact k1
        clear k0 k1
        have HFIN := Lib.hid (fun X (h9 : NBx X lo b { psN N v l k with ends := (psT N.ends v l k).set v ((rowOf (psT N.ends v l k) v).set pk ((v : Int), nth l q)) }) => show NBx X lo b (psN N v l (k + 1)) by
          have h8 := HS2.out
          rw [if_pos rfl, if_pos rfl] at h8
          unfold psN
          rw [← h8]
          exact h9)
        have hBR' : Bx wz.drew (w.heap.size + 1) 25 #[.slice none 0 0, .slice none 0 0, .slice none 0 0] := BR
        have bbd := bb2.drew
        have zd : lo ≤ wz.drew.heap.size := zlo2
        have e0 := BE.cell 0 _ rfl
        have e1 := BE.cell 1 _ rfl
        go_still_tail 11, (by kernel_rfl)
        change wpList _ _ _ _ _ wz.drew
        clear e0 e1 k0' k1' hck' BR bb2 zlo2 BE bE
        generalize wz.drew = wd at *
        have hBR6 := hBR'.fr hfr5 (by omega)
        have bb6 := bbd.trans (hfr5.below (B := w.heap.size) (fun x h1 h2 hc => by omega) bbd.size)
        have z6 := Nat.le_trans zd hfr5.size
        have kf1 := kf (pk * 2)
        have kf2 := kf (pk * 2 + 1)
        go_wp2_with fail
        go_roundw
        case rel => exact ⟨k + 1, by omega, by go_num, HFIN.out _ hNB5, hBR6, bb6, z6⟩
        case measure => simp [intOf]; omega
      · have hpv2 : ¬ (p : Int) = (v : Int) := by omega
        have hq9 : q < (rowOf (psT N.ends v l k) p).length := by rw [HLN.out _ _ hp]; exact hq
        have hp9 : p < (psT N.ends v l k).length := by rw [HL0.out]; exact hp
        obtain ⟨A, cA, g, cg, k0, k1, k2, k3, kf, kg, hNB5, hfr5, hAg, hbg, hA9, hg9⟩ := NBx.setEndA (w := wy.drew) (v := p) (i := q) (v : Int) (pk : Int) hNB bE.drew hp9 hq9
        have k0' : wy.cell? ⟨b, 0, none⟩ = some (.slice (some ⟨A, 0, none⟩) N.ends.length cA) := by rw [← HL0.out k]; exact k0
        have k1' : wy.cell? ⟨A, p, none⟩ = some (.slice (some ⟨g, 0, none⟩) (rowOf N.ends p).length cg) := by rw [← HLN.out k p hp]; exact k1
        clear k0 k1
        go_upto_region 7 with fail
        go_still_tail 15, (by kernel_rfl)
        change wpList _ _ _ _ _ wy.drew
        have BE' : Bx wy.drew wr.heap.size 62 #[.int .i64 (p : Int), .int .i64 (q : Int)] := BE
        have bE' := bE.drew
        have hBR' : Bx wy.drew (w.heap.size + 1) 25 #[.slice none 0 0, .slice none 0 0, .slice none 0 0] := BR
        have bbd := bb2.drew
        have zd : lo ≤ wy.drew.heap.size := zlo2
        have hckd : wy.drew.cell? ⟨gl, offl + k, none⟩ = some (.int .i64 (pk : Int)) := hck'
        clear d0 d1 k0' k1' hck' BR bb2 zlo2 BE bE hNB
        generalize wy.drew = wd at *
        replace BE' := BE'.fr hfr5 (by omega)
        replace hBR' := hBR'.fr hfr5 (by omega)
        have BR := hBR'
        have bb2 := bbd.trans (hfr5.below (B := w.heap.size) (fun x h1 h2 hc => by omega) bbd.size)
        have zlo2 := Nat.le_trans zd hfr5.size
        have hck' := ((hfr5.below (B := lo) (fun x h1 h2 hc => by omega) zd).cell (p := ⟨gl, offl + k, none⟩) (by show gl < _; omega)).trans hckd
        have BE := BE'
        have kf1 := kf (q * 2)
        have kf2 := kf (q * 2 + 1)
        go_upto_region 8 with fail
        clear kf1 kf2 kf k2 k3 BE' hBR' bbd zd hckd hfr5
        generalize (wd.setCell ⟨g, q * 2, none⟩ (.int .i64 (v : Int))).setCell ⟨g, q * 2 + 1, none⟩ (.int .i64 (pk : Int)) = wz at *
        have hrv : rowOf ((psT N.ends v l k).set p ((rowOf (psT N.ends v l k) p).set q ((v : Int), (pk : Int)))) v = rowOf (psT N.ends v l k) v := by rw [rowOf_set _ _ _ _ hp9, if_neg hpv]
        have HFIN := Lib.hid (fun X (h9 : NBx X lo b { psN N v l k with ends := ((psT N.ends v l k).set p ((rowOf (psT N.ends v l k) p).set q ((v : Int), (pk : Int)))).set v ((rowOf ((psT N.ends v l k).set p ((rowOf (psT N.ends v l k) p).set q ((v : Int), (pk : Int)))) v).set pk ((p : Int), (q : Int))) }) => show NBx X lo b (psN N v l (k + 1)) by
          have h8 := HS2.out
          rw [if_neg (fun h => hpv h.symm), if_neg (fun h => hpv h.symm)] at h8
          rw [hrv] at h9
          unfold psN
          rw [← h8]
          exact h9)
        have hvl10 : v < ((psT N.ends v l k).set p ((rowOf (psT N.ends v l k) p).set q ((v : Int), (pk : Int)))).length := by rw [List.length_set]; exact hvl9
        have HRV := Lib.hid hrv
        clear hrv
        have hpl10 : pk < (rowOf ((psT N.ends v l k).set p ((rowOf (psT N.ends v l k) p).set q ((v : Int), (pk : Int)))) v).length := by rw [HRV.out]; exact hpl9
        have HM := Lib.hid (show ((psT N.ends v l k).set p ((rowOf (psT N.ends v l k) p).set q ((v : Int), (pk : Int)))).length = N.ends.length by rw [List.length_set, HL0.out])
        obtain ⟨A, cA, g, cg, k0, k1, k2, k3, kf, kg, hNB6, hfr5, hAg2, hbg2, _, _⟩ := NBx.setEndA (w := wz.drew) (v := v) (i := pk) (p : Int) (q : Int) hNB5 ((Below.refl _ _).drew) hvl10 hpl10
        have k0' : wz.cell? ⟨b, 0, none⟩ = some (.slice (some ⟨A, 0, none⟩) N.ends.length cA) := by rw [← HM.out]; exact k0
        have k1' : wz.cell? ⟨A, v, none⟩ = some (.slice (some ⟨g, 0, none⟩) es.length cg) := by rw [← HES.out, ← HLN.out k v HVL.out, ← HRV.out]; exact k1
        clear k0 k1 hNB5
        have hNB5 := hNB6
        have bE := Below.refl wz.heap.size wz
        have hBR' : Bx wz.drew (w.heap.size + 1) 25 #[.slice none 0 0, .slice none 0 0, .slice none 0 0] := BR
        have bbd := bb2.drew
        have zd : lo ≤ wz.drew.heap.size := zlo2
        have e0 := BE.cell 0 _ rfl
        have e1 := BE.cell 1 _ rfl
        go_still_tail 11, (by kernel_rfl)
        change wpList _ _ _ _ _ wz.drew
        clear e0 e1 k0' k1' hck' BR bb2 zlo2 BE bE
        generalize wz.drew = wd at *
        have hBR6 := hBR'.fr hfr5 (by omega)
        have bb6 := bbd.trans (hfr5.below (B := w.heap.size) (fun x h1 h2 hc => by omega) bbd.size)
        have z6 := Nat.le_trans zd hfr5.size
        have kf1 := kf (pk * 2)
        have kf2 := kf (pk * 2 + 1)
        go_wp2_with fail
        go_roundw
        case rel => exact ⟨k + 1, by omega, by go_num, HFIN.out _ hNB5, hBR6, bb6, z6⟩
        case measure => simp [intOf]; omega
    · have HKE := Lib.hid (show k = es.length by omega)
      rw [HKE.out] at hNB
      obtain ⟨ax, cx, aix, cix, apx, cpx, BO, own9⟩ := hNB.at_
      have HL9 := Lib.hid (show (psN N v l es.length).ends.length = N.ends.length from HL0.out _)
      rw [HL9.out] at BO own9
      have q0 := BO.cell 0 _ rfl
      have q1 := BO.cell 1 _ rfl
      have q2 := BO.cell 2 _ rfl
      have e0 := BR.cell 0 _ rfl
      have e1 := BR.cell 1 _ rfl
      have e2 := BR.cell 2 _ rfl
      have f0 := BR.frozen 0
      have f1 := BR.frozen 1
      have f2 := BR.frozen 2
      go_wp2_with fail
      clear q0 q1 q2 e0 e1 e2 f0 f1 f2
      generalize hW : World.setCell _ _ _ = W
      have B6 : Bx W (w.heap.size + 1) 25 #[.slice ax N.ends.length cx, .slice aix N.ids.length cix, .slice apx N.inputs.length cpx] := by rw [← hW]; exact ((BR.set 0 _).set 1 _).set 2 _
      have fr6 : Fr (fun k => k = w.heap.size + 1) wr W := by rw [← hW]; exact fr3 _ _ _ _ _
      clear hW
      have z6 := fr6.size
      have d0 := B6.cell 0 _ rfl
      have d1 := B6.cell 1 _ rfl
      have d2 := B6.cell 2 _ rfl
      refine bodyPost_ret (v := .agg #[.slice ax N.ends.length cx, .slice aix N.ids.length cix, .slice apx N.inputs.length cpx]) (by simp [results, Try.results71, go_sem, d0, d1, d2]) rfl ?_
      rw [HES.out]
      exact ⟨_, rfl, (own9.frBx BR fr6).wide (lo' := w.heap.size) (by omega) (by omega), bb.trans (fr6.below (fun k h1 h2 hc => by omega) bb.size)⟩
end Go.Proofs.Ytabpimhkjgojhaa
