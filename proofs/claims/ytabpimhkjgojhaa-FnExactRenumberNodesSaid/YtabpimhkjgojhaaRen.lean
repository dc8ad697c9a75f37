/- RenumberNodes: the walks. -/
import Derived.Test.YtabpimhkjgojhaaRenP
import Derived.Test.YtabpimhkjgojhaaNBx
import Derived.Test.YtabpimhkjgojhaaOwn
import Derived.Test.YtabpimhkjgojhaaCopy
import Derived.StillTailTactics
namespace Go.Proofs.Ytabpimhkjgojhaa
open Go.RowKit
set_option linter.unusedVariables false
set_option linter.unusedSimpArgs false


theorem Ow.setN {w : World} {lo hi : Nat} {e : TypeId} {g cap : Nat} {es : List (Int × Int)} {i : Nat} (x : Int) (h : Ow w lo hi e 2 (some ⟨g, 0, none⟩) es.length cap (cellE es)) (hi' : i < es.length) :
    Ow (w.setCell ⟨g, i * 2, none⟩ (.int .i64 x)) lo hi e 2 (some ⟨g, 0, none⟩) (es.set i (x, (nthE es i).2)).length cap (cellE (es.set i (x, (nthE es i).2))) := by
  rw [List.length_set]
  obtain ⟨h1, h2, h3⟩ := h
  refine ⟨h1, h2, fun hc => ?_⟩
  obtain ⟨g', F, e1, e2, e3, e4, e5⟩ := h3 hc
  obtain rfl : g = g' := by injection e1 with e1; injection e1
  refine ⟨g, _, rfl, e2, e3, e4.set (i * 2) _, fun j hj => ?_⟩
  show (if j = i * 2 then _ else F j) = _
  by_cases c2 : j = i * 2
  · subst c2; rw [if_pos rfl, cellE_fst, nthE_set _ _ _ _ hi', if_pos rfl]
  · rw [if_neg c2, e5 j hj]
    obtain ⟨k, rfl | rfl⟩ : ∃ k, j = k * 2 ∨ j = k * 2 + 1 := ⟨j / 2, by omega⟩
    · rw [cellE_fst, cellE_fst, nthE_set _ _ _ _ hi', if_neg (by omega)]
    · rw [cellE_snd, cellE_snd, nthE_set _ _ _ _ hi']
      by_cases c : k = i
      · rw [if_pos c, c]
      · rw [if_neg c]
set_option maxRecDepth 100000 in
set_option maxHeartbeats 1600000 in
theorem neRenumber_any (V : Value) (N : Net) (al : Option Addr) (capl : Nat) (l : List Int) (w : World) (B B2 : Nat) (hv : NetIn w B V N) (hB : B ≤ w.heap.size) (ha : RdI w B2 al l) (hB2 : B2 ≤ w.heap.size) (hs : NetSmall N) (hnet : netB N = true) (hp : permB l N.ends.length = true) :
    Calls Try.prog 76 #[V, .slice al l.length capl] w fun e w' => ∃ x, e = .returned x ∧ NetAt w' w.heap.size w'.heap.size x (rnN N l) ∧ Below w.heap.size w w' := by
  have HV := Lib.hid hv
  have HS := Lib.hid hs
  have HN := Lib.hid hnet
  have HP := Lib.hid hp
  have HLL := Lib.hid (permB_len hp)
  have HROW := Lib.hid hs.row
  have HSM := Lib.hid (netB_small hnet)
  have HNI := Lib.hid (show N.ids.length = 0 ∨ N.ids.length = N.ends.length by
    have h9 := hnet
    unfold netB at h9
    simp only [Bool.and_eq_true] at h9
    exact (of_decide_eq_true h9.1.1.2).2.2)
  obtain ⟨a0, c0, vs0, ai0, ci0, ap0, cp0, rfl, h1, h2, h3, _⟩ := hv
  have BA := (Bx.made w 25 #[.slice a0 N.ends.length c0, .slice ai0 N.ids.length ci0, .slice ap0 N.inputs.length cp0]).alloc (.cells #[.slice none 0 0, .slice none 0 0, .slice none 0 0] 25)
  have BR := Bx.made (w.alloc (.cells #[.slice a0 N.ends.length c0, .slice ai0 N.ids.length ci0, .slice ap0 N.inputs.length cp0] 25)) 25 #[.slice none 0 0, .slice none 0 0, .slice none 0 0]
  have b0 : Below w.heap.size w ((w.alloc (.cells #[.slice a0 N.ends.length c0, .slice ai0 N.ids.length ci0, .slice ap0 N.inputs.length cp0] 25)).alloc (.cells #[.slice none 0 0, .slice none 0 0, .slice none 0 0] 25)) := (by repeat (first | exact Below.refl _ _ | assumption | refine Below.alloc ?_ (by first | (simp; done) | (simp; omega) | omega) _ | refine Below.setCell ?_ (by first | (simp; done) | (simp; omega) | omega) _ | refine Below.drew ?_ | refine Below.drewN ?_ _))
  rw [World.size_alloc] at BR
  have hle : N.ends.length ≤ 40 := HSM.out.1
  obtain ⟨g0, off0, rfl, hg0, hc0⟩ := h1.1 (by have := HSM.out.2.1; omega)
  have hrow0 := h1.2
  obtain ⟨gl, offl, rfl, hgl, hcl⟩ := ha (by have := HLL.out; have := HSM.out.2.1; omega)
  obtain ⟨gp, offp, rfl, hgp, hcp⟩ := h3 (by have := HSM.out; omega)
  have HC0 := Lib.hid hc0
  have HCL := Lib.hid hcl
  have HCP := Lib.hid hcp
  have HR0 := Lib.hid hrow0
  have HI0 := Lib.hid h2
  clear hs hnet hp h1 h2 h3 hc0 hcl hcp hrow0
  go_enter Try.func76, Try.ntmps76
  go_wp2_with fail
  refine (neOwn_any _ N _ B (HV.out.below (b0.mono hB)) (Nat.le_trans hB b0.size) HS.out).mono ?_
  rintro e w1 ⟨x1, rfl, own1, bel1⟩
  replace BA := BA.new bel1
  replace BR := BR.new bel1
  have z0 : w.heap.size + 1 + 1 ≤ w1.heap.size := by have := bel1.size; simpa using this
  have b1 := b0.trans (bel1.mono b0.size)
  obtain ⟨a, c, vs, ai, ci, ap, cp, rfl, hE, owni, ownp, hdis⟩ := own1
  simp only [World.size_alloc] at hE owni ownp
  clear b0 bel1
  go_upto_region 2 with fail
  have hbx := Bx.made w1 25 #[.slice a N.ends.length c, .slice ai N.ids.length ci, .slice ap N.inputs.length cp]
  have b2 : Below w1.heap.size w1 (w1.alloc (.cells #[.slice a N.ends.length c, .slice ai N.ids.length ci, .slice ap N.inputs.length cp] 25)) := (by repeat (first | exact Below.refl _ _ | assumption | refine Below.alloc ?_ (by first | (simp; done) | (simp; omega) | omega) _ | refine Below.setCell ?_ (by first | (simp; done) | (simp; omega) | omega) _ | refine Below.drew ?_ | refine Below.drewN ?_ _))
  have z1 : w1.heap.size + 1 ≤ (w1.alloc (.cells #[.slice a N.ends.length c, .slice ai N.ids.length ci, .slice ap N.inputs.length cp] 25)).heap.size := by simp
  generalize w1.alloc (.cells #[.slice a N.ends.length c, .slice ai N.ids.length ci, .slice ap N.inputs.length cp] 25) = w2 at *
  obtain ⟨b, hb⟩ : ∃ b, b = w1.heap.size := ⟨_, rfl⟩
  obtain ⟨lo, hlo0⟩ : ∃ lo, lo = w.heap.size + 1 + 1 := ⟨_, rfl⟩
  rw [← hlo0] at hE owni ownp
  rw [← hb] at hbx ⊢
  replace BA := BA.new b2
  replace BR := BR.new b2
  have hNB : NBx w2 lo b (rnT N l 0) := ⟨a, c, vs, ai, ci, ap, cp, hbx, RowsAt.top (RowsAt.new hE b2), Ow.top (Ow.new owni b2), Ow.top (Ow.new ownp b2), hdis⟩
  have bb := b1.trans (b2.mono b1.size)
  have hlo : lo ≤ w2.heap.size := by omega
  have zb : lo ≤ b := by omega
  have zl : w.heap.size + 1 + 1 ≤ lo := by omega
  clear hb hlo0 b1 b2 z1 hbx hE owni ownp hdis
  have q0 := BA.cell 0 _ rfl
  go_wp2_with fail
  clear q0
  go_loopw [16] (fun iv wr => ∃ k : Nat, k ≤ N.ends.length ∧ iv = .int .i64 k ∧ NBx wr lo b (rnT N l k) ∧ Bx wr w.heap.size 25 #[.slice (some ⟨g0, off0, none⟩) N.ends.length c0, .slice ai0 N.ids.length ci0, .slice (some ⟨gp, offp, none⟩) N.inputs.length cp0] ∧ Bx wr (w.heap.size + 1) 25 #[.slice none 0 0, .slice none 0 0, .slice none 0 0] ∧ Below w.heap.size w wr ∧ lo ≤ wr.heap.size) (fun iv _ => N.ends.length - (intOf iv).toNat)
  case atStart => exact ⟨0, Nat.zero_le _, rfl, hNB, BA, BR, bb, hlo⟩
  case round =>
    obtain ⟨k, hk, rfl, hNB, BA, BR, bb, zlo⟩ := hrel
    by_cases hlt : k < N.ends.length
    · have hc1 := (bb.cell (p := ⟨g0, off0 + k, none⟩) (by show g0 < _; omega)).trans (HC0.out k hlt)
      have hrow := (HR0.out k hlt).below (bb.mono hB)
      have hL1 := net_row HN.out hlt
      have HBK := Lib.hid (fun j (hj : j < (rowOf N.ends k).length) => net_back HN.out hlt hj)
      have HRT := Lib.hid (show rnT N l (k + 1) = { ends := (rnT N l k).ends.set (nth l k).toNat (rnRow l (rowOf N.ends k)), ids := if 0 < N.ids.length then (rnT N l k).ids.set (nth l k).toNat (nth N.ids k) else (rnT N l k).ids, inputs := (rnT N l k).inputs.set (nth l k).toNat (nth N.inputs k) } from rfl)
      obtain ⟨pk, hpk, hpk2⟩ := permB_at HP.out hlt
      have HPK := Lib.hid hpk
      clear hpk
      generalize (vs0 k).1 = ax at *
      generalize (vs0 k).2 = cx at *
      generalize rowOf N.ends k = es at *
      obtain ⟨wk, hwk⟩ : ∃ wk, wk = wr := ⟨_, rfl⟩
      subst hwk
      go_wp2_with fail
      clear hc1
      go_loopw [8, 23] (fun v i wr => ∃ j : Nat, j ≤ es.length ∧ i = .int .i64 j ∧ (∃ x cx, v = .slice x j cx ∧ Ow wr wk.heap.size wr.heap.size 62 2 x (rnRow l (es.take j)).length cx (cellE (rnRow l (es.take j)))) ∧ Below wk.heap.size wk wr) (fun _ i _ => es.length - (intOf i).toNat)
      case atStart => exact ⟨0, Nat.zero_le _, rfl, ⟨none, 0, rfl, Ow.nil _ _ _ _ _ _ _⟩, Below.refl _ _⟩
      case round =>
        obtain ⟨j, hj, rfl, ⟨x2, cx2, rfl, own2⟩, bel⟩ := hrel
        have hDw := bel.size
        by_cases hjlt : j < es.length
        · obtain ⟨p, q, hpq, hp, hq, _⟩ := HBK.out j hjlt
          have hwk : w.heap.size ≤ wk.heap.size := bb.size
          obtain ⟨g1, off1, hae, _, e1, e2⟩ := RdE.at (hrow.below (bel.mono (by omega))) hjlt
          rw [hpq] at e1 e2
          have HPQ := Lib.hid hpq
          clear hpq
          subst hae
          have hcl : wr.cell? ⟨gl, offl + p, none⟩ = some (.int .i64 (nth l p)) := ((bb.trans (bel.mono bb.size)).cell (p := ⟨gl, offl + p, none⟩) (by show gl < _; omega)).trans (HCL.out p (by have := HLL.out; omega))
          have hpl : p < l.length := by have := HLL.out; omega
          have hlk : (rnRow l (es.take j)).length = j := by rw [rnRow_length, List.length_take]; omega
          have own2' : Ow wr wk.heap.size wr.heap.size 62 2 x2 j cx2 (cellE (rnRow l (es.take j))) := by have := own2; rwa [hlk] at this
          have HLK := Lib.hid hlk
          clear hlk
          have BE := Bx.made wr 62 #[.int .i64 (p : Int), .int .i64 (q : Int)]
          have bE : Below wr.heap.size wr (wr.alloc (.cells #[.int .i64 (p : Int), .int .i64 (q : Int)] 62)) := (by repeat (first | exact Below.refl _ _ | assumption | refine Below.alloc ?_ (by first | (simp; done) | (simp; omega) | omega) _ | refine Below.setCell ?_ (by first | (simp; done) | (simp; omega) | omega) _ | refine Below.drew ?_ | refine Below.drewN ?_ _))
          go_upto_region 9 with fail
          clear e1 e2
          have hcl' : (wr.alloc (.cells #[.int .i64 (p : Int), .int .i64 (q : Int)] 62)).cell? ⟨gl, offl + p, none⟩ = some (.int .i64 (nth l p)) := (bE.cell (p := ⟨gl, offl + p, none⟩) (World.block_lt_of_cell? wr _ hcl)).trans hcl
          clear hcl
          generalize wr.alloc (.cells #[.int .i64 (p : Int), .int .i64 (q : Int)] 62) = wy at *
          have hS0 : wy.drew.cell? ⟨wr.heap.size, 0, none⟩ = some (.int .i64 (p : Int)) ∧ wy.drew.cell? ⟨wr.heap.size, 1, none⟩ = some (.int .i64 (q : Int)) ∧ wy.drew.cell? ⟨gl, offl + p, none⟩ = some (.int .i64 (nth l p)) := ⟨BE.cell 0 _ rfl, BE.cell 1 _ rfl, hcl'⟩
          have own3 := Ow.new own2' bE.drew
          have bel3 := bel.trans (bE.drew.mono hDw)
          have zE : wr.heap.size + 1 ≤ wy.drew.heap.size := BE.lt
          have BEd : Bx wy.drew wr.heap.size 62 #[.int .i64 (p : Int), .int .i64 (q : Int)] := BE
          have zgl : gl < wr.heap.size := by omega
          refine wp_region_held_drew (S := fun X => X.cell? ⟨wr.heap.size, 0, none⟩ = some (.int .i64 (p : Int)) ∧ X.cell? ⟨wr.heap.size, 1, none⟩ = some (.int .i64 (q : Int)) ∧ X.cell? ⟨gl, offl + p, none⟩ = some (.int .i64 (nth l p))) (by kernel_rfl) hS0 (fun hHeld => ?_)
          clear BE bE own2 own2' hcl'
          generalize wy.drew = wz at *
          refine wpAnyH_take (i := 0) (v := ?_) rfl (by kernel_rfl) (by kernel_rfl) (by kernel_rfl) (fun _ _ _ h => h) (Or.inl ⟨by rfl, ?_⟩) (by assumption) ?_
          rotate_left
          · (intro w hSw; (try dsimp only at hSw); go_simp; try with_reducible rfl)
          try simp only [Act.put, List.getElem_toArray, List.getElem_cons_zero, List.getElem_cons_succ, List.setIfInBounds_toArray, List.set_cons_zero, List.set_cons_succ]
          refine wpAnyH_take (i := 1) (v := ?_) rfl (by kernel_rfl) (by kernel_rfl) (by kernel_rfl) (fun _ _ _ h => h) (Or.inl ⟨by rfl, ?_⟩) (by assumption) ?_
          rotate_left
          · (intro w hSw; (try dsimp only at hSw); go_simp; try with_reducible rfl)
          try simp only [Act.put, List.getElem_toArray, List.getElem_cons_zero, List.getElem_cons_succ, List.setIfInBounds_toArray, List.set_cons_zero, List.set_cons_succ]
          refine wpAnyH_take (i := 2) (v := ?_) rfl (by kernel_rfl) (by kernel_rfl) (by kernel_rfl) (fun _ _ _ h => h) (Or.inl ⟨by rfl, ?_⟩) (by assumption) ?_
          rotate_left
          · (intro w hSw; (try dsimp only at hSw); go_simp; try with_reducible rfl)
          try simp only [Act.put, List.getElem_toArray, List.getElem_cons_zero, List.getElem_cons_succ, List.setIfInBounds_toArray, List.set_cons_zero, List.set_cons_succ]
          refine wpAnyH_take (i := 3) (v := ?_) rfl (by kernel_rfl) (by kernel_rfl) (by kernel_rfl) (fun _ _ _ h => h) (Or.inl ⟨by rfl, ?_⟩) (by assumption) ?_
          rotate_left
          · (intro w hSw; (try dsimp only at hSw); go_simp; try with_reducible rfl)
          try simp only [Act.put, List.getElem_toArray, List.getElem_cons_zero, List.getElem_cons_succ, List.setIfInBounds_toArray, List.set_cons_zero, List.set_cons_succ]
          refine wpAnyH_take (i := 4) (v := ?_) rfl (by kernel_rfl) (by kernel_rfl) (by kernel_rfl) (fun _ _ _ h => h) (Or.inl ⟨by rfl, ?_⟩) (by assumption) ?_
          rotate_left
          · (intro w hSw; (try dsimp only at hSw); go_simp; try with_reducible rfl)
          try simp only [Act.put, List.getElem_toArray, List.getElem_cons_zero, List.getElem_cons_succ, List.setIfInBounds_toArray, List.set_cons_zero, List.set_cons_succ]
          refine wpAnyH_take (i := 5) (v := ?_) rfl (by kernel_rfl) (by kernel_rfl) (by kernel_rfl) (fun _ _ _ h => h) (Or.inl ⟨by rfl, ?_⟩) (by assumption) ?_
          rotate_left
          · (intro w hSw; (try dsimp only at hSw); go_simp; try with_reducible rfl)
          try simp only [Act.put, List.getElem_toArray, List.getElem_cons_zero, List.getElem_cons_succ, List.setIfInBounds_toArray, List.set_cons_zero, List.set_cons_succ]
          refine wpAnyH_take (i := 6) (v := ?_) rfl (by kernel_rfl) (by kernel_rfl) (by kernel_rfl) (fun _ _ _ h => h) (Or.inl ⟨by rfl, ?_⟩) (by assumption) ?_
          rotate_left
          · (intro w hSw; (try dsimp only at hSw); go_simp; try with_reducible rfl)
          try simp only [Act.put, List.getElem_toArray, List.getElem_cons_zero, List.getElem_cons_succ, List.setIfInBounds_toArray, List.set_cons_zero, List.set_cons_succ]
          refine wpAnyH_take (i := 7) (v := ?_) rfl (by kernel_rfl) (by kernel_rfl) (by kernel_rfl) (fun _ _ _ h => h) (Or.inl ⟨by rfl, ?_⟩) (by assumption) ?_
          rotate_left
          · (intro w hSw; (try dsimp only at hSw); go_simp; try with_reducible rfl)
          try simp only [Act.put, List.getElem_toArray, List.getElem_cons_zero, List.getElem_cons_succ, List.setIfInBounds_toArray, List.set_cons_zero, List.set_cons_succ]
          refine wpAnyH_take (i := 8) (v := ?_) rfl (by kernel_rfl) (by kernel_rfl) (by kernel_rfl) (fun _ _ _ h => h) (Or.inl ⟨by rfl, ?_⟩) (by assumption) ?_
          rotate_left
          · (intro w hSw; (try dsimp only at hSw); go_simp; try with_reducible rfl)
          try simp only [Act.put, List.getElem_toArray, List.getElem_cons_zero, List.getElem_cons_succ, List.setIfInBounds_toArray, List.set_cons_zero, List.set_cons_succ]
          have bz : Below wz.heap.size wz (wz.alloc (.cells #[.int .i64 (nth l p), .int .i64 (q : Int)] 62)) := (by repeat (first | exact Below.refl _ _ | assumption | refine Below.alloc ?_ (by first | (simp; done) | (simp; omega) | omega) _ | refine Below.setCell ?_ (by first | (simp; done) | (simp; omega) | omega) _ | refine Below.drew ?_ | refine Below.drewN ?_ _))
          have BEz := BEd.new bz
          have cz : (wz.alloc (.cells #[.int .i64 (nth l p), .int .i64 (q : Int)] 62)).cell? ⟨gl, offl + p, none⟩ = some (.int .i64 (nth l p)) := (bz.cell (p := ⟨gl, offl + p, none⟩) (by show gl < _; omega)).trans hS0.2.2
          refine wpAnyH_ready (rs := [9]) (by kernel_rfl) (by simp) ?_
          refine AllReadyH.cons (o := _) rfl (fun K hK => ?_) AllReadyH.nil
          go_simp
          refine hK.out _ _ ⟨BEz.cell 0 _ rfl, BEz.cell 1 _ rfl, cz⟩ (fun hHeld => ?_)
          clear hK K
          try simp only [Act.put, List.getElem_toArray, List.getElem_cons_zero, List.getElem_cons_succ, List.setIfInBounds_toArray, List.set_cons_zero, List.set_cons_succ]
          refine wpAnyH_ready (rs := [10]) (by kernel_rfl) (by simp) ?_
          refine AllReadyH.cons (o := _) rfl (fun K hK => ?_) AllReadyH.nil
          rw [if_pos (by rfl)]
          refine step_app _ _ _ rfl 62 (.agg #[.int .i64 0, .int .i64 0]) 2 16 Try.underlying60 end_info rfl (by decide) wk.heap.size wr.heap.size x2 j cx2 _ rfl (Ow.alloc own3 _) ⟨wz.heap.size, 0, none⟩ 1 1 [.int .i64 (nth l p), .int .i64 (q : Int)] rfl rfl (news2 _ _ _ _) (by simp [Value.oneCell']) (by decide) (by unfold maxLen; omega) (by omega) (by simp; omega) ?_
          intro g' cap' w5 own5 hgr _ _
          have hnb : ∀ x, some x = blk x2 cx2 → wk.heap.size ≤ x ∧ x < wr.heap.size := fun x hx => Ow.blk_in own3 hx.symm
          have BE5 := BEz.fr (Fr.of_grown hgr) (fun hc => by have := (hnb _ hc).2; omega)
          have c5 : w5.cell? ⟨gl, offl + p, none⟩ = some (.int .i64 (nth l p)) := ((Fr.below (B := wk.heap.size) (Fr.of_grown hgr) (fun x hx _ hc => by have := (hnb _ hc).1; omega) (by simp; omega)).cell (p := ⟨gl, offl + p, none⟩) (by show gl < _; omega)).trans cz
          refine hK.out _ _ ⟨BE5.cell 0 _ rfl, BE5.cell 1 _ rfl, c5⟩ (fun hHeld => ?_)
          clear hK K
          try simp only [Act.put, List.getElem_toArray, List.getElem_cons_zero, List.getElem_cons_succ, List.setIfInBounds_toArray, List.set_cons_zero, List.set_cons_succ]
          refine wpAnyH_ready (rs := [11]) (by kernel_rfl) (by simp) ?_
          refine AllReadyH.cons (o := _) rfl (fun K hK => ?_) AllReadyH.nil
          go_simp
          refine hK.out _ _ ⟨BE5.cell 0 _ rfl, BE5.cell 1 _ rfl, c5⟩ (fun hHeld => ?_)
          clear hK K
          try simp only [Act.put, List.getElem_toArray, List.getElem_cons_zero, List.getElem_cons_succ, List.setIfInBounds_toArray, List.set_cons_zero, List.set_cons_succ]
          refine wpAnyH_done (by kernel_rfl) ?_ _
          clear hHeld BE5 BEz BEd c5 cz hS0
          go_wp2_with fail
          go_roundw
          case rel =>
            refine ⟨j + 1, by omega, by go_num, ⟨some ⟨g', 0, none⟩, cap', rfl, ?_⟩, ?_⟩
            · have he : rnE l (nthE es j) = (nth l p, (q : Int)) := by rw [HPQ.out]; rfl
              rw [rnRow_snoc _ _ _ hjlt, he]
              apply cellE_snoc
              rw [HLK.out]
              exact own5
            · exact below_app (bel3.alloc (by omega) _) (Ow.alloc own3 _) hgr (Nat.le_refl _) (by simp; omega)
          case measure => simp [intOf]; omega
        · have hjE : j = es.length := by omega
          have own4 : Ow wr wk.heap.size wr.heap.size 62 2 x2 (rnRow l es).length cx2 (cellE (rnRow l es)) := by have h := own2; rwa [hjE, List.take_length] at h
          have HRL := Lib.hid (show (rnRow l es).length = j by rw [rnRow_length, hjE])
          rw [HRL.out] at own4
          clear hjE own2
          have hwk : w.heap.size ≤ wk.heap.size := bb.size
          have bbr := bb.trans (bel.mono bb.size)
          have hBA := BA.new bel
          have hBR := BR.new bel
          have hck : wr.cell? ⟨gl, offl + k, none⟩ = some (.int .i64 (pk : Int)) := ((bbr.cell (p := ⟨gl, offl + k, none⟩) (by show gl < _; omega)).trans (HCL.out k (by have := HLL.out; omega))).trans (by rw [HPK.out])
          have hkl : k < l.length := by have := HLL.out; omega
          have hck' : wr.drew.cell? ⟨gl, offl + k, none⟩ = some (.int .i64 (pk : Int)) := hck
          obtain ⟨A, cA, u, k0, k1, k2, kA, hNB3, hfr3⟩ := NBx.setRow (w := wr.drew) (v := pk) (r := rnRow l es) hNB bel.drew (by rw [(rnT_len N l k).1]; exact hpk2) zlo (by rw [HRL.out]; exact own4)
          rw [(rnT_len N l k).1] at k0
          rw [HRL.out] at hNB3 hfr3
          have k0' : wr.cell? ⟨b, 0, none⟩ = some (.slice (some ⟨A, 0, none⟩) N.ends.length cA) := k0
          have hBA' : Bx wr.drew w.heap.size 25 #[.slice (some ⟨g0, off0, none⟩) N.ends.length c0, .slice ai0 N.ids.length ci0, .slice (some ⟨gp, offp, none⟩) N.inputs.length cp0] := hBA
          have hBR' : Bx wr.drew (w.heap.size + 1) 25 #[.slice none 0 0, .slice none 0 0, .slice none 0 0] := hBR
          have bbr' := bbr.drew
          have zr : lo ≤ wr.drew.heap.size := Nat.le_trans zlo bel.drew.size
          go_upto_region 11 with fail
          go_still_tail 8, (by kernel_rfl)
          change wpList _ _ _ _ _ wr.drew
          clear hck k0' hBA hBR own4
          generalize wr.drew = wd at *
          go_upto_region 12 with fail
          have hBA6 := hBA'.fr hfr3 (by omega)
          have hBR6 := hBR'.fr hfr3 (by omega)
          have bb6 := bbr'.trans (hfr3.below (B := w.heap.size) (fun x h1 h2 hc => by omega) bbr'.size)
          have z6 : lo ≤ (wd.setCell ⟨A, pk, none⟩ (.slice x2 (j) cx2)).heap.size := Nat.le_trans zr hfr3.size
          clear hBA' hBR' k0 k1 k2 hck' bbr' hfr3 zr
          generalize wd.setCell ⟨A, pk, none⟩ (.slice x2 (j) cx2) = w6 at *
          have hck6 : w6.cell? ⟨gl, offl + k, none⟩ = some (.int .i64 (pk : Int)) := ((bb6.cell (p := ⟨gl, offl + k, none⟩) (by show gl < _; omega)).trans (HCL.out k (by have := HLL.out; omega))).trans (by rw [HPK.out])
          have hki : k < N.inputs.length := by have := HSM.out; omega
          have hpi : pk < N.inputs.length := by have := HSM.out; omega
          have hcp6 : w6.cell? ⟨gp, offp + k, none⟩ = some (.int .i64 (nth N.inputs k)) := (bb6.cell (p := ⟨gp, offp + k, none⟩) (by show gp < _; omega)).trans (HCP.out k hki)
          obtain ⟨P, cP, k0, k1, k2, kP, hNB4, hfr4⟩ := NBx.setInput (w := w6.drew) (i := pk) (nth N.inputs k) (NBx.new hNB3 ((Below.refl _ _).drew)) (by show pk < (rnT N l k).inputs.length; rw [(rnT_len N l k).2.2]; exact hpi)
          have k0' : w6.cell? ⟨b, 2, none⟩ = some (.slice (some ⟨P, 0, none⟩) N.inputs.length cP) := by rw [← (rnT_len N l k).2.2]; exact k0
          have q2 := hBA6.cell 2 _ rfl
          have hBA7 : Bx w6.drew w.heap.size 25 #[.slice (some ⟨g0, off0, none⟩) N.ends.length c0, .slice ai0 N.ids.length ci0, .slice (some ⟨gp, offp, none⟩) N.inputs.length cp0] := hBA6
          have hBR7 : Bx w6.drew (w.heap.size + 1) 25 #[.slice none 0 0, .slice none 0 0, .slice none 0 0] := hBR6
          have bb7 := bb6.drew
          have z7 : lo ≤ w6.drew.heap.size := z6
          clear k0
          go_still_tail 12, (by kernel_rfl)
          change wpList _ _ _ _ _ w6.drew
          clear hck6 hcp6 k0' q2 hBA6 hBR6 bb6 z6 hNB3
          generalize w6.drew = w7 at *
          have hBA8 := hBA7.fr hfr4 (by omega)
          have hBR8 := hBR7.fr hfr4 (by omega)
          have bb8 := bb7.trans (hfr4.below (B := w.heap.size) (fun x h1 h2 hc => by omega) bb7.size)
          have z8 : lo ≤ (w7.setCell ⟨P, pk, none⟩ (.int .i64 (nth N.inputs k))).heap.size := Nat.le_trans z7 hfr4.size
          go_upto_region 13 with fail
          clear hBA7 hBR7 k1 k2 bb7 hfr4 z7
          generalize w7.setCell ⟨P, pk, none⟩ (.int .i64 (nth N.inputs k)) = w8 at *
          have q1 := hBA8.cell 1 _ rfl
          by_cases hids : 0 < N.ids.length
          · have hgt : (0 : Int) < (N.ids.length : Int) := by omega
            obtain ⟨gi, offi, rfl, hgi, hci⟩ := HI0.out hids
            have hki2 : k < N.ids.length := by have := HNI.out; omega
            have hpi2 : pk < N.ids.length := by have := HNI.out; omega
            have hck8 : w8.cell? ⟨gl, offl + k, none⟩ = some (.int .i64 (pk : Int)) := ((bb8.cell (p := ⟨gl, offl + k, none⟩) (by show gl < _; omega)).trans (HCL.out k (by have := HLL.out; omega))).trans (by rw [HPK.out])
            have hci8 : w8.cell? ⟨gi, offi + k, none⟩ = some (.int .i64 (nth N.ids k)) := (bb8.cell (p := ⟨gi, offi + k, none⟩) (by show gi < _; omega)).trans (hci k hki2)
            obtain ⟨I, cI, k0, k1, k2, kI, hNB5, hfr5⟩ := NBx.setId (w := w8.drew) (i := pk) (nth N.ids k) (NBx.new hNB4 ((Below.refl _ _).drew)) (by show pk < (rnT N l k).ids.length; rw [(rnT_len N l k).2.1]; exact hpi2)
            have k0' : w8.cell? ⟨b, 1, none⟩ = some (.slice (some ⟨I, 0, none⟩) N.ids.length cI) := by rw [← (rnT_len N l k).2.1]; exact k0
            go_upto_region 14 with fail
            have hBA9 : Bx w8.drew w.heap.size 25 #[.slice (some ⟨g0, off0, none⟩) N.ends.length c0, .slice (some ⟨gi, offi, none⟩) N.ids.length ci0, .slice (some ⟨gp, offp, none⟩) N.inputs.length cp0] := hBA8
            have hBR9 : Bx w8.drew (w.heap.size + 1) 25 #[.slice none 0 0, .slice none 0 0, .slice none 0 0] := hBR8
            have bb9 := bb8.drew
            have z9 : lo ≤ w8.drew.heap.size := z8
            clear k0
            go_still_tail 12, (by kernel_rfl)
            change wpList _ _ _ _ _ w8.drew
            clear hck8 hci8 k0' q1 hBA8 hBR8 bb8 z8 hNB4 hci
            generalize w8.drew = w9 at *
            have hBA10 := hBA9.fr hfr5 (by omega)
            have hBR10 := hBR9.fr hfr5 (by omega)
            have bb10 := bb9.trans (hfr5.below (B := w.heap.size) (fun x h1 h2 hc => by omega) bb9.size)
            have z10 := Nat.le_trans z9 hfr5.size
            go_wp2_with fail
            go_roundw
            case rel =>
              exact ⟨k + 1, by omega, by go_num, by rw [HRT.out, HPK.out, Int.toNat_natCast, if_pos hids]; exact hNB5, hBA10, hBR10, bb10, z10⟩
            case measure => simp [intOf]; omega
          · have hgt : ¬ (0 : Int) < (N.ids.length : Int) := by omega
            go_wp2_with fail
            go_roundw
            case rel =>
              exact ⟨k + 1, by omega, by go_num, by rw [HRT.out, HPK.out, Int.toNat_natCast, if_neg hids]; exact hNB4, hBA8, hBR8, bb8, z8⟩
            case measure => simp [intOf]; omega
    · have HKE := Lib.hid (show k = N.ends.length by omega)
      rw [HKE.out] at hNB
      obtain ⟨ax, cx, aix, cix, apx, cpx, BO, own9⟩ := hNB.at_
      rw [(rnT_len N l N.ends.length).1, (rnT_len N l N.ends.length).2.1, (rnT_len N l N.ends.length).2.2] at BO own9
      have q0 := BO.cell 0 _ rfl
      have q1 := BO.cell 1 _ rfl
      have q2 := BO.cell 2 _ rfl
      have e0 := BR.cell 0 _ rfl
      have e1 := BR.cell 1 _ rfl
      have e2 := BR.cell 2 _ rfl
      have f0 := BR.frozen 0
      have f1 := BR.frozen 1
      have f2 := BR.frozen 2
      go_wp2_with fail
      clear q0 q1 q2 e0 e1 e2 f0 f1 f2
      generalize hW : World.setCell _ _ _ = W
      have B6 : Bx W (w.heap.size + 1) 25 #[.slice ax N.ends.length cx, .slice aix N.ids.length cix, .slice apx N.inputs.length cpx] := by rw [← hW]; exact ((BR.set 0 _).set 1 _).set 2 _
      have fr6 : Fr (fun k => k = w.heap.size + 1) wr W := by rw [← hW]; exact fr3 _ _ _ _ _
      clear hW
      have z6 := fr6.size
      have d0 := B6.cell 0 _ rfl
      have d1 := B6.cell 1 _ rfl
      have d2 := B6.cell 2 _ rfl
      refine bodyPost_ret (v := .agg #[.slice ax N.ends.length cx, .slice aix N.ids.length cix, .slice apx N.inputs.length cpx]) (by simp [results, Try.results76, go_sem, d0, d1, d2]) rfl ?_
      exact ⟨_, rfl, (own9.frBx BR fr6).wide (by omega) (by omega), bb.trans (fr6.below (fun k h1 h2 hc => by omega) bb.size)⟩
set_option maxRecDepth 100000 in
set_option maxHeartbeats 1600000 in
theorem renumber_any (V : Value) (N : Net) (al : Option Addr) (capl : Nat) (l : List Int) (w : World) (B B2 : Nat) (hv : NetIn w B V N) (hB : B ≤ w.heap.size) (ha : RdI w B2 al l) (hB2 : B2 ≤ w.heap.size) (hs : NetSmall N) (hnet : netB N = true) (hp : permB l N.ends.length = true) :
    Calls Try.prog 77 #[V, .slice al l.length capl] w fun e w' => ∃ x, e = .returned x ∧ NetAt w' w.heap.size w'.heap.size x (rnN N l) ∧ Below w.heap.size w w' := by
  have HV := Lib.hid hv
  have HS := Lib.hid hs
  have HN := Lib.hid hnet
  have HP := Lib.hid hp
  have HLL := Lib.hid (permB_len hp)
  have HROW := Lib.hid hs.row
  have HSM := Lib.hid (netB_small hnet)
  have HNI := Lib.hid (show N.ids.length = 0 ∨ N.ids.length = N.ends.length by
    have h9 := hnet
    unfold netB at h9
    simp only [Bool.and_eq_true] at h9
    exact (of_decide_eq_true h9.1.1.2).2.2)
  obtain ⟨a0, c0, vs0, ai0, ci0, ap0, cp0, rfl, h1, h2, h3, _⟩ := hv
  have BA := (Bx.made w 25 #[.slice a0 N.ends.length c0, .slice ai0 N.ids.length ci0, .slice ap0 N.inputs.length cp0]).alloc (.cells #[.slice none 0 0, .slice none 0 0, .slice none 0 0] 25)
  have BR := Bx.made (w.alloc (.cells #[.slice a0 N.ends.length c0, .slice ai0 N.ids.length ci0, .slice ap0 N.inputs.length cp0] 25)) 25 #[.slice none 0 0, .slice none 0 0, .slice none 0 0]
  have b0 : Below w.heap.size w ((w.alloc (.cells #[.slice a0 N.ends.length c0, .slice ai0 N.ids.length ci0, .slice ap0 N.inputs.length cp0] 25)).alloc (.cells #[.slice none 0 0, .slice none 0 0, .slice none 0 0] 25)) := (by repeat (first | exact Below.refl _ _ | assumption | refine Below.alloc ?_ (by first | (simp; done) | (simp; omega) | omega) _ | refine Below.setCell ?_ (by first | (simp; done) | (simp; omega) | omega) _ | refine Below.drew ?_ | refine Below.drewN ?_ _))
  rw [World.size_alloc] at BR
  have hle : N.ends.length ≤ 40 := HSM.out.1
  obtain ⟨g0, off0, rfl, hg0, hc0⟩ := h1.1 (by have := HSM.out.2.1; omega)
  have hrow0 := h1.2
  obtain ⟨gl, offl, rfl, hgl, hcl⟩ := ha (by have := HLL.out; have := HSM.out.2.1; omega)
  obtain ⟨gp, offp, rfl, hgp, hcp⟩ := h3 (by have := HSM.out; omega)
  have HC0 := Lib.hid hc0
  have HCL := Lib.hid hcl
  have HCP := Lib.hid hcp
  have HR0 := Lib.hid hrow0
  have HI0 := Lib.hid h2
  clear hs hnet hp h1 h2 h3 hc0 hcl hcp hrow0
  go_enter Try.func77, Try.ntmps77
  go_wp2_with fail
  refine (copyNetwork_any _ N _ B (HV.out.below (b0.mono hB)) (Nat.le_trans hB b0.size) HS.out).mono ?_
  rintro e w1 ⟨x1, rfl, own1, bel1⟩
  replace BA := BA.new bel1
  replace BR := BR.new bel1
  have z0 : w.heap.size + 1 + 1 ≤ w1.heap.size := by have := bel1.size; simpa using this
  have b1 := b0.trans (bel1.mono b0.size)
  obtain ⟨a, c, vs, ai, ci, ap, cp, rfl, hE, owni, ownp, hdis⟩ := own1
  simp only [World.size_alloc] at hE owni ownp
  clear b0 bel1
  go_upto_region 2 with fail
  have hbx := Bx.made w1 25 #[.slice a N.ends.length c, .slice ai N.ids.length ci, .slice ap N.inputs.length cp]
  have b2 : Below w1.heap.size w1 (w1.alloc (.cells #[.slice a N.ends.length c, .slice ai N.ids.length ci, .slice ap N.inputs.length cp] 25)) := (by repeat (first | exact Below.refl _ _ | assumption | refine Below.alloc ?_ (by first | (simp; done) | (simp; omega) | omega) _ | refine Below.setCell ?_ (by first | (simp; done) | (simp; omega) | omega) _ | refine Below.drew ?_ | refine Below.drewN ?_ _))
  have z1 : w1.heap.size + 1 ≤ (w1.alloc (.cells #[.slice a N.ends.length c, .slice ai N.ids.length ci, .slice ap N.inputs.length cp] 25)).heap.size := by simp
  generalize w1.alloc (.cells #[.slice a N.ends.length c, .slice ai N.ids.length ci, .slice ap N.inputs.length cp] 25) = w2 at *
  obtain ⟨b, hb⟩ : ∃ b, b = w1.heap.size := ⟨_, rfl⟩
  obtain ⟨lo, hlo0⟩ : ∃ lo, lo = w.heap.size + 1 + 1 := ⟨_, rfl⟩
  rw [← hlo0] at hE owni ownp
  rw [← hb] at hbx ⊢
  replace BA := BA.new b2
  replace BR := BR.new b2
  have hNB : NBx w2 lo b (rnT N l 0) := ⟨a, c, vs, ai, ci, ap, cp, hbx, RowsAt.top (RowsAt.new hE b2), Ow.top (Ow.new owni b2), Ow.top (Ow.new ownp b2), hdis⟩
  have bb := b1.trans (b2.mono b1.size)
  have hlo : lo ≤ w2.heap.size := by omega
  have zb : lo ≤ b := by omega
  have zl : w.heap.size + 1 + 1 ≤ lo := by omega
  clear hb hlo0 b1 b2 z1 hbx hE owni ownp hdis
  have q0 := BA.cell 0 _ rfl
  go_wp2_with fail
  clear q0
  go_loopw [15] (fun iv wr => ∃ k : Nat, k ≤ N.ends.length ∧ iv = .int .i64 k ∧ NBx wr lo b (rnT N l k) ∧ Bx wr w.heap.size 25 #[.slice (some ⟨g0, off0, none⟩) N.ends.length c0, .slice ai0 N.ids.length ci0, .slice (some ⟨gp, offp, none⟩) N.inputs.length cp0] ∧ Bx wr (w.heap.size + 1) 25 #[.slice none 0 0, .slice none 0 0, .slice none 0 0] ∧ Below w.heap.size w wr ∧ lo ≤ wr.heap.size) (fun iv _ => N.ends.length - (intOf iv).toNat)
  case atStart => exact ⟨0, Nat.zero_le _, rfl, hNB, BA, BR, bb, hlo⟩
  case round =>
    obtain ⟨k, hk, rfl, hNB, BA, BR, bb, zlo⟩ := hrel
    by_cases hlt : k < N.ends.length
    · have hc1 := (bb.cell (p := ⟨g0, off0 + k, none⟩) (by show g0 < _; omega)).trans (HC0.out k hlt)
      have hrow := (HR0.out k hlt).below (bb.mono hB)
      have hL1 := net_row HN.out hlt
      have HBK := Lib.hid (fun j (hj : j < (rowOf N.ends k).length) => net_back HN.out hlt hj)
      have HRT := Lib.hid (show rnT N l (k + 1) = { ends := (rnT N l k).ends.set (nth l k).toNat (rnRow l (rowOf N.ends k)), ids := if 0 < N.ids.length then (rnT N l k).ids.set (nth l k).toNat (nth N.ids k) else (rnT N l k).ids, inputs := (rnT N l k).inputs.set (nth l k).toNat (nth N.inputs k) } from rfl)
      obtain ⟨pk, hpk, hpk2⟩ := permB_at HP.out hlt
      have HPK := Lib.hid hpk
      clear hpk
      generalize (vs0 k).1 = ax at *
      generalize (vs0 k).2 = cx at *
      generalize rowOf N.ends k = es at *
      obtain ⟨wk, hwk⟩ : ∃ wk, wk = wr := ⟨_, rfl⟩
      subst hwk
      go_wp2_with fail
      clear hc1
      have hwk0 : w.heap.size ≤ wk.heap.size := bb.size
      refine (cloneE_any ax cx es wk B hrow (by omega) (by omega)).mono ?_
      rintro e w3 ⟨x2, cx2, rfl, own2, bel2⟩
      go_wp2_with fail
      have z3 := bel2.size
      go_loopw [24] (fun i wr => ∃ j : Nat, j ≤ es.length ∧ i = .int .i64 j ∧ Ow wr wk.heap.size wr.heap.size 62 2 x2 es.length cx2 (cellE (rnTo l es j)) ∧ Below wk.heap.size wk wr) (fun i _ => es.length - (intOf i).toNat)
      case atStart => exact ⟨0, Nat.zero_le _, rfl, by rw [rnTo_zero]; exact own2, bel2⟩
      case round =>
        obtain ⟨j, hj, rfl, own3, bel⟩ := hrel
        have hDw := bel.size
        by_cases hjlt : j < es.length
        · obtain ⟨p, q, hpq, hp, hq, _⟩ := HBK.out j hjlt
          obtain ⟨g2, rfl, hg2, hg1⟩ := Ow.addr own3 (by omega)
          have own3' : Ow wr wk.heap.size wr.heap.size 62 2 (some ⟨g2, 0, none⟩) (rnTo l es j).length cx2 (cellE (rnTo l es j)) := by rw [rnTo_length]; exact own3
          obtain ⟨g3, off3, hae, _, e1, e2⟩ := RdE.at (Ow.rdE own3') (by rw [rnTo_length]; exact hjlt)
          obtain ⟨rfl, rfl⟩ : g2 = g3 ∧ 0 = off3 := by injection hae with h; injection h with h1 h2; exact ⟨h1, h2⟩
          rw [rnTo_at _ _ _ hjlt, hpq, Nat.zero_add] at e1
          have f1 := Ow.frozen own3' (by rw [rnTo_length]; omega) (j * 2)
          have hset := Ow.setN (nth l p) own3' (by rw [rnTo_length]; exact hjlt)
          have he : rnE l (nthE es j) = (nth l p, (q : Int)) := by rw [hpq]; rfl
          rw [rnTo_at _ _ _ hjlt, hpq, ← he, rnTo_set _ _ _ hjlt, rnTo_length] at hset
          clear hae e2 hpq he
          have hcl : wr.cell? ⟨gl, offl + p, none⟩ = some (.int .i64 (nth l p)) := ((bb.trans (bel.mono bb.size)).cell (p := ⟨gl, offl + p, none⟩) (by show gl < _; omega)).trans (HCL.out p (by have := HLL.out; omega))
          have hpl : p < l.length := by have := HLL.out; omega
          go_wp2_with fail
          go_roundw
          case rel => exact ⟨j + 1, by omega, by go_num, Ow.wide hset (Nat.le_refl _) (by rw [size_set]; exact Nat.le_refl _), bel.trans ((fr_set wr g2 (j * 2) _).below (fun x h1 h2 hc => by omega) hDw)⟩
          case measure => simp [intOf]; omega
        · have hjE : j = es.length := by omega
          have own4 : Ow wr wk.heap.size wr.heap.size 62 2 x2 es.length cx2 (cellE (rnRow l es)) := by have h := own3; rwa [hjE, rnTo_all] at h
          have HRL := Lib.hid (rnRow_length l es)
          clear hjE own3
          have hwk : w.heap.size ≤ wk.heap.size := bb.size
          have bbr := bb.trans (bel.mono bb.size)
          have hBA := BA.new bel
          have hBR := BR.new bel
          have hck : wr.cell? ⟨gl, offl + k, none⟩ = some (.int .i64 (pk : Int)) := ((bbr.cell (p := ⟨gl, offl + k, none⟩) (by show gl < _; omega)).trans (HCL.out k (by have := HLL.out; omega))).trans (by rw [HPK.out])
          have hkl : k < l.length := by have := HLL.out; omega
          have hck' : wr.drew.cell? ⟨gl, offl + k, none⟩ = some (.int .i64 (pk : Int)) := hck
          obtain ⟨A, cA, u, k0, k1, k2, kA, hNB3, hfr3⟩ := NBx.setRow (w := wr.drew) (v := pk) (r := rnRow l es) hNB bel.drew (by rw [(rnT_len N l k).1]; exact hpk2) zlo (by rw [HRL.out]; exact own4)
          rw [(rnT_len N l k).1] at k0
          rw [HRL.out] at hNB3 hfr3
          have k0' : wr.cell? ⟨b, 0, none⟩ = some (.slice (some ⟨A, 0, none⟩) N.ends.length cA) := k0
          have hBA' : Bx wr.drew w.heap.size 25 #[.slice (some ⟨g0, off0, none⟩) N.ends.length c0, .slice ai0 N.ids.length ci0, .slice (some ⟨gp, offp, none⟩) N.inputs.length cp0] := hBA
          have hBR' : Bx wr.drew (w.heap.size + 1) 25 #[.slice none 0 0, .slice none 0 0, .slice none 0 0] := hBR
          have bbr' := bbr.drew
          have zr : lo ≤ wr.drew.heap.size := Nat.le_trans zlo bel.drew.size
          go_upto_region 11 with fail
          go_still_tail 8, (by kernel_rfl)
          change wpList _ _ _ _ _ wr.drew
          clear hck k0' hBA hBR own4
          generalize wr.drew = wd at *
          go_upto_region 12 with fail
          have hBA6 := hBA'.fr hfr3 (by omega)
          have hBR6 := hBR'.fr hfr3 (by omega)
          have bb6 := bbr'.trans (hfr3.below (B := w.heap.size) (fun x h1 h2 hc => by omega) bbr'.size)
          have z6 : lo ≤ (wd.setCell ⟨A, pk, none⟩ (.slice x2 (es.length) cx2)).heap.size := Nat.le_trans zr hfr3.size
          clear hBA' hBR' k0 k1 k2 hck' bbr' hfr3 zr
          generalize wd.setCell ⟨A, pk, none⟩ (.slice x2 (es.length) cx2) = w6 at *
          have hck6 : w6.cell? ⟨gl, offl + k, none⟩ = some (.int .i64 (pk : Int)) := ((bb6.cell (p := ⟨gl, offl + k, none⟩) (by show gl < _; omega)).trans (HCL.out k (by have := HLL.out; omega))).trans (by rw [HPK.out])
          have hki : k < N.inputs.length := by have := HSM.out; omega
          have hpi : pk < N.inputs.length := by have := HSM.out; omega
          have hcp6 : w6.cell? ⟨gp, offp + k, none⟩ = some (.int .i64 (nth N.inputs k)) := (bb6.cell (p := ⟨gp, offp + k, none⟩) (by show gp < _; omega)).trans (HCP.out k hki)
          obtain ⟨P, cP, k0, k1, k2, kP, hNB4, hfr4⟩ := NBx.setInput (w := w6.drew) (i := pk) (nth N.inputs k) (NBx.new hNB3 ((Below.refl _ _).drew)) (by show pk < (rnT N l k).inputs.length; rw [(rnT_len N l k).2.2]; exact hpi)
          have k0' : w6.cell? ⟨b, 2, none⟩ = some (.slice (some ⟨P, 0, none⟩) N.inputs.length cP) := by rw [← (rnT_len N l k).2.2]; exact k0
          have q2 := hBA6.cell 2 _ rfl
          have hBA7 : Bx w6.drew w.heap.size 25 #[.slice (some ⟨g0, off0, none⟩) N.ends.length c0, .slice ai0 N.ids.length ci0, .slice (some ⟨gp, offp, none⟩) N.inputs.length cp0] := hBA6
          have hBR7 : Bx w6.drew (w.heap.size + 1) 25 #[.slice none 0 0, .slice none 0 0, .slice none 0 0] := hBR6
          have bb7 := bb6.drew
          have z7 : lo ≤ w6.drew.heap.size := z6
          clear k0
          go_still_tail 12, (by kernel_rfl)
          change wpList _ _ _ _ _ w6.drew
          clear hck6 hcp6 k0' q2 hBA6 hBR6 bb6 z6 hNB3
          generalize w6.drew = w7 at *
          have hBA8 := hBA7.fr hfr4 (by omega)
          have hBR8 := hBR7.fr hfr4 (by omega)
          have bb8 := bb7.trans (hfr4.below (B := w.heap.size) (fun x h1 h2 hc => by omega) bb7.size)
          have z8 : lo ≤ (w7.setCell ⟨P, pk, none⟩ (.int .i64 (nth N.inputs k))).heap.size := Nat.le_trans z7 hfr4.size
          go_upto_region 13 with fail
          clear hBA7 hBR7 k1 k2 bb7 hfr4 z7
          generalize w7.setCell ⟨P, pk, none⟩ (.int .i64 (nth N.inputs k)) = w8 at *
          have q1 := hBA8.cell 1 _ rfl
          by_cases hids : 0 < N.ids.length
          · have hgt : (0 : Int) < (N.ids.length : Int) := by omega
            obtain ⟨gi, offi, rfl, hgi, hci⟩ := HI0.out hids
            have hki2 : k < N.ids.length := by have := HNI.out; omega
            have hpi2 : pk < N.ids.length := by have := HNI.out; omega
            have hck8 : w8.cell? ⟨gl, offl + k, none⟩ = some (.int .i64 (pk : Int)) := ((bb8.cell (p := ⟨gl, offl + k, none⟩) (by show gl < _; omega)).trans (HCL.out k (by have := HLL.out; omega))).trans (by rw [HPK.out])
            have hci8 : w8.cell? ⟨gi, offi + k, none⟩ = some (.int .i64 (nth N.ids k)) := (bb8.cell (p := ⟨gi, offi + k, none⟩) (by show gi < _; omega)).trans (hci k hki2)
            obtain ⟨I, cI, k0, k1, k2, kI, hNB5, hfr5⟩ := NBx.setId (w := w8.drew) (i := pk) (nth N.ids k) (NBx.new hNB4 ((Below.refl _ _).drew)) (by show pk < (rnT N l k).ids.length; rw [(rnT_len N l k).2.1]; exact hpi2)
            have k0' : w8.cell? ⟨b, 1, none⟩ = some (.slice (some ⟨I, 0, none⟩) N.ids.length cI) := by rw [← (rnT_len N l k).2.1]; exact k0
            go_upto_region 14 with fail
            have hBA9 : Bx w8.drew w.heap.size 25 #[.slice (some ⟨g0, off0, none⟩) N.ends.length c0, .slice (some ⟨gi, offi, none⟩) N.ids.length ci0, .slice (some ⟨gp, offp, none⟩) N.inputs.length cp0] := hBA8
            have hBR9 : Bx w8.drew (w.heap.size + 1) 25 #[.slice none 0 0, .slice none 0 0, .slice none 0 0] := hBR8
            have bb9 := bb8.drew
            have z9 : lo ≤ w8.drew.heap.size := z8
            clear k0
            go_still_tail 12, (by kernel_rfl)
            change wpList _ _ _ _ _ w8.drew
            clear hck8 hci8 k0' q1 hBA8 hBR8 bb8 z8 hNB4 hci
            generalize w8.drew = w9 at *
            have hBA10 := hBA9.fr hfr5 (by omega)
            have hBR10 := hBR9.fr hfr5 (by omega)
            have bb10 := bb9.trans (hfr5.below (B := w.heap.size) (fun x h1 h2 hc => by omega) bb9.size)
            have z10 := Nat.le_trans z9 hfr5.size
            go_wp2_with fail
            go_roundw
            case rel =>
              exact ⟨k + 1, by omega, by go_num, by rw [HRT.out, HPK.out, Int.toNat_natCast, if_pos hids]; exact hNB5, hBA10, hBR10, bb10, z10⟩
            case measure => simp [intOf]; omega
          · have hgt : ¬ (0 : Int) < (N.ids.length : Int) := by omega
            go_wp2_with fail
            go_roundw
            case rel =>
              exact ⟨k + 1, by omega, by go_num, by rw [HRT.out, HPK.out, Int.toNat_natCast, if_neg hids]; exact hNB4, hBA8, hBR8, bb8, z8⟩
            case measure => simp [intOf]; omega
    · have HKE := Lib.hid (show k = N.ends.length by omega)
      rw [HKE.out] at hNB
      obtain ⟨ax, cx, aix, cix, apx, cpx, BO, own9⟩ := hNB.at_
      rw [(rnT_len N l N.ends.length).1, (rnT_len N l N.ends.length).2.1, (rnT_len N l N.ends.length).2.2] at BO own9
      have q0 := BO.cell 0 _ rfl
      have q1 := BO.cell 1 _ rfl
      have q2 := BO.cell 2 _ rfl
      have e0 := BR.cell 0 _ rfl
      have e1 := BR.cell 1 _ rfl
      have e2 := BR.cell 2 _ rfl
      have f0 := BR.frozen 0
      have f1 := BR.frozen 1
      have f2 := BR.frozen 2
      go_wp2_with fail
      clear q0 q1 q2 e0 e1 e2 f0 f1 f2
      generalize hW : World.setCell _ _ _ = W
      have B6 : Bx W (w.heap.size + 1) 25 #[.slice ax N.ends.length cx, .slice aix N.ids.length cix, .slice apx N.inputs.length cpx] := by rw [← hW]; exact ((BR.set 0 _).set 1 _).set 2 _
      have fr6 : Fr (fun k => k = w.heap.size + 1) wr W := by rw [← hW]; exact fr3 _ _ _ _ _
      clear hW
      have z6 := fr6.size
      have d0 := B6.cell 0 _ rfl
      have d1 := B6.cell 1 _ rfl
      have d2 := B6.cell 2 _ rfl
      refine bodyPost_ret (v := .agg #[.slice ax N.ends.length cx, .slice aix N.ids.length cix, .slice apx N.inputs.length cpx]) (by simp [results, Try.results77, go_sem, d0, d1, d2]) rfl ?_
      exact ⟨_, rfl, (own9.frBx BR fr6).wide (by omega) (by omega), bb.trans (fr6.below (fun k h1 h2 hc => by omega) bb.size)⟩
end Go.Proofs.Ytabpimhkjgojhaa
