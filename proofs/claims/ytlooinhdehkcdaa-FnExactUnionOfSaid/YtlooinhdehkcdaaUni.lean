/- UnionOf: the functions. -/
import Derived.Test.YtlooinhdehkcdaaUniM
import Derived.Test.YtlooinhdehkcdaaOwn
import Derived.Test.YtlooinhdehkcdaaCopy
import Derived.Test.YtlooinhdehkcdaaFit
import Derived.StillTailTactics
import Derived.Deep.DeepCutAuto
namespace Go.Proofs.Ytlooinhdehkcdaa
open Go.RowKit
set_option linter.unusedVariables false
set_option linter.unusedSimpArgs false


theorem wrapU (n : Int) (h : -9223372036854775808 ≤ n ∧ n ≤ 9223372036854775807) : IntKind.i64.wrap n = n := by
  simp [IntKind.wrap, IntKind.bits, IntKind.signed]
  omega
set_option maxRecDepth 100000 in
set_option maxHeartbeats 3200000 in
theorem neUnion_any (V0 V1 : Value) (M N : Net) (w : World) (B0 B1 : Nat) (hv0 : NetIn w B0 V0 M) (hB0 : B0 ≤ w.heap.size) (hv1 : NetIn w B1 V1 N) (hB1 : B1 ≤ w.heap.size) (hs0 : NetSmall M) (hs1 : NetSmall N) (hm : netB M = true) (hn : netB N = true) :
    Calls Try.prog 37 #[V0, V1] w fun e w' => ∃ x, e = .returned x ∧ NetAt w' w.heap.size w'.heap.size x (unN M N) ∧ Below w.heap.size w w' := by
  have HM := Lib.hid hm
  have HN := Lib.hid hn
  have HSM := Lib.hid (netB_small hm)
  have HSN := Lib.hid (netB_small hn)
  have HV0 := Lib.hid hv0
  have HV1 := Lib.hid hv1
  have HS0 := Lib.hid hs0
  have HS1 := Lib.hid hs1
  obtain ⟨a0, c0, vs0, ai0, ci0, ap0, cp0, rfl, h01, h02, h03, _⟩ := hv0
  obtain ⟨a1, c1, vs1, ai1, ci1, ap1, cp1, rfl, h11, h12, h13, _⟩ := hv1
  have hl0 : M.ends.length ≤ 1048576 := by unfold NetSmall at hs0; omega
  have hl1 : N.ends.length ≤ 1048576 := by unfold NetSmall at hs1; omega
  have hi0 : M.ids.length ≤ 1048576 := by unfold NetSmall at hs0; omega
  have hi1 : N.ids.length ≤ 1048576 := by unfold NetSmall at hs1; omega
  have BA := ((Bx.made w 29 #[.slice a0 M.ends.length c0, .slice ai0 M.ids.length ci0, .slice ap0 M.inputs.length cp0]).alloc (.cells #[.slice a1 N.ends.length c1, .slice ai1 N.ids.length ci1, .slice ap1 N.inputs.length cp1] 29)).alloc (.cells #[.slice none 0 0, .slice none 0 0, .slice none 0 0] 29)
  have BB := (Bx.made (w.alloc (.cells #[.slice a0 M.ends.length c0, .slice ai0 M.ids.length ci0, .slice ap0 M.inputs.length cp0] 29)) 29 #[.slice a1 N.ends.length c1, .slice ai1 N.ids.length ci1, .slice ap1 N.inputs.length cp1]).alloc (.cells #[.slice none 0 0, .slice none 0 0, .slice none 0 0] 29)
  have BR := Bx.made ((w.alloc (.cells #[.slice a0 M.ends.length c0, .slice ai0 M.ids.length ci0, .slice ap0 M.inputs.length cp0] 29)).alloc (.cells #[.slice a1 N.ends.length c1, .slice ai1 N.ids.length ci1, .slice ap1 N.inputs.length cp1] 29)) 29 #[.slice none 0 0, .slice none 0 0, .slice none 0 0]
  have b0 : Below w.heap.size w (((w.alloc (.cells #[.slice a0 M.ends.length c0, .slice ai0 M.ids.length ci0, .slice ap0 M.inputs.length cp0] 29)).alloc (.cells #[.slice a1 N.ends.length c1, .slice ai1 N.ids.length ci1, .slice ap1 N.inputs.length cp1] 29)).alloc (.cells #[.slice none 0 0, .slice none 0 0, .slice none 0 0] 29)) := (by repeat (first | exact Below.refl _ _ | assumption | refine Below.alloc ?_ (by first | (simp; done) | (simp; omega) | omega) _ | refine Below.setCell ?_ (by first | (simp; done) | (simp; omega) | omega) _ | refine Below.drew ?_ | refine Below.drewN ?_ _))
  have z0 : w.heap.size + 1 + 1 + 1 ≤ (((w.alloc (.cells #[.slice a0 M.ends.length c0, .slice ai0 M.ids.length ci0, .slice ap0 M.inputs.length cp0] 29)).alloc (.cells #[.slice a1 N.ends.length c1, .slice ai1 N.ids.length ci1, .slice ap1 N.inputs.length cp1] 29)).alloc (.cells #[.slice none 0 0, .slice none 0 0, .slice none 0 0] 29)).heap.size := by simp
  rw [World.size_alloc] at BB
  rw [World.size_alloc, World.size_alloc] at BR
  have hK40 : M.ends.length ≤ 40 := HSM.out.1
  have hN40 : N.ends.length ≤ 40 := HSN.out.1
  have hj0 : M.inputs.length ≤ 40 := by have := HSM.out; omega
  have hj1 : N.inputs.length ≤ 40 := by have := HSN.out; omega
  obtain ⟨g1, off1, rfl, hg1, hc1⟩ := h11.1 (by have := HSN.out.2.1; omega)
  have HC1 := Lib.hid hc1
  have HR1 := Lib.hid h11.2
  have HI2 := Lib.hid h12
  have HI3 := Lib.hid h13
  clear hs0 hs1 h01 h02 h03 h11 h12 h13 hm hn hc1
  go_enter Try.func37, Try.ntmps37
  go_wp2_with fail
  generalize ((w.alloc (.cells #[.slice a0 M.ends.length c0, .slice ai0 M.ids.length ci0, .slice ap0 M.inputs.length cp0] 29)).alloc (.cells #[.slice (some ⟨g1, off1, none⟩) N.ends.length c1, .slice ai1 N.ids.length ci1, .slice ap1 N.inputs.length cp1] 29)).alloc (.cells #[.slice none 0 0, .slice none 0 0, .slice none 0 0] 29) = w0 at *
  refine (neOwn_any _ M _ B0 (HV0.out.below (b0.mono hB0)) (Nat.le_trans hB0 b0.size) HS0.out).mono ?_
  rintro e w1 ⟨x1, rfl, own1, bel1⟩
  replace BA := BA.new bel1
  replace BB := BB.new bel1
  replace BR := BR.new bel1
  have z1 := bel1.size
  have bb := b0.trans (bel1.mono b0.size)
  obtain ⟨a2, c2, ai2, ci2, ap2, cp2, rfl, own1⟩ := own1.shape
  obtain ⟨lo, hlo0⟩ : ∃ lo, lo = w0.heap.size := ⟨_, rfl⟩
  rw [← hlo0] at own1
  have zl : w.heap.size + 1 + 1 + 1 ≤ lo := by omega
  have zl2 : lo ≤ w1.heap.size := by omega
  clear b0 bel1 hlo0
  have BO := Bx.made w1 29 #[.slice a2 M.ends.length c2, .slice ai2 M.ids.length ci2, .slice ap2 M.inputs.length cp2]
  have b2 : Below w1.heap.size w1 (w1.alloc (.cells #[.slice a2 M.ends.length c2, .slice ai2 M.ids.length ci2, .slice ap2 M.inputs.length cp2] 29)) := (by repeat (first | exact Below.refl _ _ | assumption | refine Below.alloc ?_ (by first | (simp; done) | (simp; omega) | omega) _ | refine Below.setCell ?_ (by first | (simp; done) | (simp; omega) | omega) _ | refine Below.drew ?_ | refine Below.drewN ?_ _))
  go_upto_region 2 with fail
  generalize w1.alloc (.cells #[.slice a2 M.ends.length c2, .slice ai2 M.ids.length ci2, .slice ap2 M.inputs.length cp2] 29) = w2 at *
  obtain ⟨b, hb⟩ : ∃ b, b = w1.heap.size := ⟨_, rfl⟩
  rw [← hb] at BO ⊢
  replace BA := BA.new b2
  replace BB := BB.new b2
  replace BR := BR.new b2
  replace own1 := (own1.new b2).wide (Nat.le_refl _) b2.size
  replace bb := bb.trans (b2.mono bb.size)
  have zlo : lo ≤ w2.heap.size := Nat.le_trans zl2 b2.size
  have zb : lo ≤ b := by omega
  have hNB : NBx w2 lo b M := NBx.of BO own1 (Nat.le_refl _)
  clear hb b2 zl2 own1 BO z1 z0
  obtain ⟨a, c, vs, ai, ci, ap, cp, hbx, hE, owni, ownp, hdis⟩ := hNB
  replace hbx : Bx w2 b 29 #[.slice a (M : Net).ends.length c, .slice ai (M : Net).ids.length ci, .slice ap (M : Net).inputs.length cp] := hbx
  have q1 := hbx.cell 1 _ rfl
  have r1 := BB.cell 1 _ rfl
  have hrd : Rd w2 B1 ai1 (N.ids.length * 1) (fun j => .int .i64 (nth N.ids j)) := by rw [Nat.mul_one]; exact Rd.below HI2.out (bb.mono hB1)
  have own' := owni
  unfold OwI at own'
  try simp only at q1
  try simp only at own'
  go_upto_region 3 with (at_builtin; refine wpList_appA rfl _ _ _ rfl 3 (.int .i64 0) 1 8 Try.underlying23 int_info rfl (by decide) lo w2.heap.size ai _ ci _ rfl own' (Nat.le_refl _) _ _ _ _ _ rfl hrd (fun _ => rfl) (by unfold maxLen; omega) (by omega) zlo ?_; intro a' cap' wq ownq hgrq hblq; obtain ⟨hbxq, hNBq, hfrq⟩ := NBx.catIds (N := M) hbx hE owni ownp hdis (Nat.le_refl _) zb hgrq hblq ownq; have q8 := hbxq.cell 1 _ rfl; have f8 := hbxq.frozen 1)
  have hC8 : ∀ x, (some x = blk ai ci ∨ x = b) → lo ≤ x := fun x hx => hx.elim (fun h => (Ow.blk_in owni h.symm).1) (fun h => by omega)
  obtain ⟨w4, hres⟩ : ∃ W, W = wq.setCell ⟨b, 1, none⟩ (.slice a' ((M : Net).ids.length + N.ids.length) cap') := ⟨_, rfl⟩
  rw [← hres] at hNBq hfrq
  try simp only at hres
  rw [← hres]
  have hNB : NBx w4 lo b { ends := M.ends, ids := M.ids ++ N.ids, inputs := M.inputs } := hNBq
  replace BA := BA.fr hfrq (fun h => by have := hC8 _ h; omega)
  replace BB := BB.fr hfrq (fun h => by have := hC8 _ h; omega)
  replace BR := BR.fr hfrq (fun h => by have := hC8 _ h; omega)
  replace bb := bb.trans (hfrq.below (B := w.heap.size) (fun x h1 h2 hc => by have := hC8 _ hc; omega) bb.size)
  replace zlo := Nat.le_trans zlo hfrq.size
  clear hres hNBq hfrq hC8 hgrq hblq ownq hbxq q8 f8 q1 r1 hrd own' hbx hE owni ownp hdis
  obtain ⟨a, c, vs, ai, ci, ap, cp, hbx, hE, owni, ownp, hdis⟩ := hNB
  replace hbx : Bx w4 b 29 #[.slice a ({ ends := M.ends, ids := M.ids ++ N.ids, inputs := M.inputs } : Net).ends.length c, .slice ai ({ ends := M.ends, ids := M.ids ++ N.ids, inputs := M.inputs } : Net).ids.length ci, .slice ap ({ ends := M.ends, ids := M.ids ++ N.ids, inputs := M.inputs } : Net).inputs.length cp] := hbx
  have q1 := hbx.cell 2 _ rfl
  have r1 := BB.cell 2 _ rfl
  have hrd : Rd w4 B1 ap1 (N.inputs.length * 1) (fun j => .int .i64 (nth N.inputs j)) := by rw [Nat.mul_one]; exact Rd.below HI3.out (bb.mono hB1)
  have own' := ownp
  unfold OwI at own'
  try simp only at q1
  try simp only at own'
  go_upto_region 4 with (at_builtin; refine wpList_appA rfl _ _ _ rfl 3 (.int .i64 0) 1 8 Try.underlying23 int_info rfl (by decide) lo w4.heap.size ap _ cp _ rfl own' (Nat.le_refl _) _ _ _ _ _ rfl hrd (fun _ => rfl) (by unfold maxLen; omega) (by omega) zlo ?_; intro a' cap' wq ownq hgrq hblq; obtain ⟨hbxq, hNBq, hfrq⟩ := NBx.catInputs (N := { ends := M.ends, ids := M.ids ++ N.ids, inputs := M.inputs }) hbx hE owni ownp hdis (Nat.le_refl _) zb hgrq hblq ownq; have q8 := hbxq.cell 2 _ rfl; have f8 := hbxq.frozen 2)
  have hC8 : ∀ x, (some x = blk ap cp ∨ x = b) → lo ≤ x := fun x hx => hx.elim (fun h => (Ow.blk_in ownp h.symm).1) (fun h => by omega)
  obtain ⟨w6, hres⟩ : ∃ W, W = wq.setCell ⟨b, 2, none⟩ (.slice a' (({ ends := M.ends, ids := M.ids ++ N.ids, inputs := M.inputs } : Net).inputs.length + N.inputs.length) cap') := ⟨_, rfl⟩
  rw [← hres] at hNBq hfrq
  try simp only at hres
  rw [← hres]
  have hNB : NBx w6 lo b { ends := M.ends, ids := M.ids ++ N.ids, inputs := M.inputs ++ N.inputs } := hNBq
  replace BA := BA.fr hfrq (fun h => by have := hC8 _ h; omega)
  replace BB := BB.fr hfrq (fun h => by have := hC8 _ h; omega)
  replace BR := BR.fr hfrq (fun h => by have := hC8 _ h; omega)
  replace bb := bb.trans (hfrq.below (B := w.heap.size) (fun x h1 h2 hc => by have := hC8 _ hc; omega) bb.size)
  replace zlo := Nat.le_trans zlo hfrq.size
  clear hres hNBq hfrq hC8 hgrq hblq ownq hbxq q8 f8 q1 r1 hrd own' hbx hE owni ownp hdis
  have q0 := BB.cell 0 _ rfl
  go_wp2_with fail
  clear q0
  go_loopw [28] (fun iv wr => ∃ k : Nat, k ≤ N.ends.length ∧ iv = .int .i64 k ∧ NBx wr lo b { ends := M.ends ++ (N.ends.take k).map (shR M.ends.length), ids := M.ids ++ N.ids, inputs := M.inputs ++ N.inputs } ∧ Bx wr w.heap.size 29 #[.slice a0 M.ends.length c0, .slice ai0 M.ids.length ci0, .slice ap0 M.inputs.length cp0] ∧ Bx wr (w.heap.size + 1 + 1) 29 #[.slice none 0 0, .slice none 0 0, .slice none 0 0] ∧ Below w.heap.size w wr ∧ lo ≤ wr.heap.size) (fun iv _ => N.ends.length - (intOf iv).toNat)
  case atStart => exact ⟨0, Nat.zero_le _, rfl, by rw [List.take_zero, List.map_nil, List.append_nil]; exact hNB, BA, BR, bb, zlo⟩
  case round =>
    clear hNB BA BB BR bb zlo
    obtain ⟨k, hk, rfl, hNB, BA, BR, bb, zlo⟩ := hrel
    by_cases hlt : k < N.ends.length
    · have hc1 := (bb.cell (p := ⟨g1, off1 + k, none⟩) (by show g1 < _; omega)).trans (HC1.out k hlt)
      have hrow := (HR1.out k hlt).below (bb.mono hB1)
      have hL1 := net_row HN.out hlt
      have HBK := Lib.hid (fun j (hj : j < (rowOf N.ends k).length) => net_back HN.out hlt hj)
      have HTK := Lib.hid (show M.ends ++ (N.ends.take (k + 1)).map (shR M.ends.length) = (M.ends ++ (N.ends.take k).map (shR M.ends.length)) ++ [shR M.ends.length (rowOf N.ends k)] by rw [takeR_snoc _ _ hlt, List.map_append, List.append_assoc]; rfl)
      generalize (vs1 k).1 = ax at *
      generalize (vs1 k).2 = cx at *
      generalize rowOf N.ends k = es at *
      obtain ⟨wk, hwk⟩ : ∃ wk, wk = wr := ⟨_, rfl⟩
      subst hwk
      go_wp2_with fail
      clear hc1
      have hBk : B1 ≤ wk.heap.size := Nat.le_trans hB1 bb.size
      have hwk0 : w.heap.size < wk.heap.size := BA.lt
      go_loopw [8, 34] (fun v i wr => ∃ j : Nat, j ≤ es.length ∧ i = .int .i64 j ∧ (∃ x cx, v = .slice x j cx ∧ Ow wr wk.heap.size wr.heap.size 62 2 x (shR M.ends.length (es.take j)).length cx (cellE (shR M.ends.length (es.take j)))) ∧ Below wk.heap.size wk wr) (fun _ i _ => es.length - (intOf i).toNat)
      case atStart => exact ⟨0, Nat.zero_le _, rfl, ⟨none, 0, rfl, Ow.nil _ _ _ _ _ _ _⟩, Below.refl _ _⟩
      case round =>
        obtain ⟨j, hj, rfl, ⟨x2, cx2, rfl, own2⟩, bel⟩ := hrel
        have hDw := bel.size
        by_cases hjlt : j < es.length
        · obtain ⟨p, q, hpq, hp, hq, _⟩ := HBK.out j hjlt
          obtain ⟨g3, off3, hae, _, e1, e2⟩ := RdE.at (hrow.below (bel.mono (by omega))) hjlt
          rw [hpq] at e1 e2
          have HPQ := Lib.hid hpq
          clear hpq
          subst hae
          have hp40 : p ≤ 40 := by omega
          have hwr1 : IntKind.i64.wrap ((p : Int) + (M.ends.length : Int)) = (p : Int) + (M.ends.length : Int) := wrapU _ (by omega)
          have hlk : (shR M.ends.length (es.take j)).length = j := by rw [shR_length, List.length_take]; omega
          have own2' : Ow wr wk.heap.size wr.heap.size 62 2 x2 j cx2 (cellE (shR M.ends.length (es.take j))) := by have := own2; rwa [hlk] at this
          have HLK := Lib.hid hlk
          clear hlk
          have BAw := BA.new bel
          have BE := Bx.made wr 62 #[.int .i64 (p : Int), .int .i64 (q : Int)]
          have bE : Below wr.heap.size wr (wr.alloc (.cells #[.int .i64 (p : Int), .int .i64 (q : Int)] 62)) := (by repeat (first | exact Below.refl _ _ | assumption | refine Below.alloc ?_ (by first | (simp; done) | (simp; omega) | omega) _ | refine Below.setCell ?_ (by first | (simp; done) | (simp; omega) | omega) _ | refine Below.drew ?_ | refine Below.drewN ?_ _))
          go_upto_region 11 with fail
          clear e1 e2
          replace BAw := BAw.new bE
          generalize wr.alloc (.cells #[.int .i64 (p : Int), .int .i64 (q : Int)] 62) = wy at *
          have own3 := Ow.new own2' bE
          have bel3 := bel.trans (bE.mono hDw)
          have zE : wr.heap.size + 1 ≤ wy.heap.size := BE.lt
          have d0 := BE.cell 0 _ rfl
          have d1 := BE.cell 1 _ rfl
          have dA := BAw.cell 0 _ rfl
          clear BE bE own2 own2' BAw
          go_wp2_with (at_builtin; refine wpList_app rfl _ _ _ rfl 62 (.agg #[.int .i64 0, .int .i64 0]) 2 16 Try.underlying60 end_info rfl (by decide) wk.heap.size wr.heap.size x2 j cx2 _ rfl (Ow.alloc own3 _) ⟨wy.heap.size, 0, none⟩ 1 1 [.int .i64 ((p : Int) + (M.ends.length : Int)), .int .i64 (q : Int)] rfl rfl (news2 _ _ _ _) (by simp [Value.oneCell']) (by decide) (by unfold maxLen; omega) (by omega) (by simp; omega) ?_; intro g' cap' w5 own5 hgr _ _)
          clear d0 d1 dA
          go_roundw
          case rel =>
            refine ⟨j + 1, by omega, by go_num, ⟨some ⟨g', 0, none⟩, cap', rfl, ?_⟩, ?_⟩
            · have he : shE M.ends.length (nthE es j) = ((p : Int) + (M.ends.length : Int), (q : Int)) := by rw [HPQ.out]; rfl
              rw [shR_snoc _ _ _ hjlt, he]
              apply cellE_snoc
              rw [HLK.out]
              exact own5
            · exact below_app (bel3.alloc (by omega) _) (Ow.alloc own3 _) hgr (Nat.le_refl _) (by simp; omega)
          case measure => simp [intOf]; omega
        · have hjE : j = es.length := by omega
          have hrl : (shR M.ends.length es).length = j := by rw [shR_length, hjE]
          have own4 : Ow wr wk.heap.size wr.heap.size 62 2 x2 (shR M.ends.length es).length cx2 (cellE (shR M.ends.length es)) := by have h := own2; rwa [hjE, List.take_length] at h
          have HRL := Lib.hid hrl
          clear hjE own2 hrl
          obtain ⟨R0, hR0⟩ : ∃ R0 : Rows2, R0 = M.ends ++ (N.ends.take k).map (shR M.ends.length) := ⟨_, rfl⟩
          have hR0l : R0.length ≤ 80 := by rw [hR0, List.length_append, List.length_map, List.length_take]; omega
          rw [← hR0] at hNB HTK
          have HR0 := Lib.hid hR0
          clear hR0
          obtain ⟨a3, c3, v3, ai3, ci3, ap3, cp3, hbx, hE, owni, ownp, hdis⟩ := hNB
          replace hbx : Bx wk b 29 #[.slice a3 R0.length c3, .slice ai3 (M.ids ++ N.ids).length ci3, .slice ap3 (M.inputs ++ N.inputs).length cp3] := hbx
          replace hE : RowsE wk lo wk.heap.size a3 c3 R0 v3 := hE
          replace BA := BA.new bel
          replace BR := BR.new bel
          replace bb := bb.trans (bel.mono bb.size)
          have hbx2 := hbx.new bel
          have q0 := hbx2.cell 0 _ rfl
          obtain ⟨wb, hwb⟩ : ∃ wb, wb = wr.alloc (.cells #[.slice x2 j cx2] 60) := ⟨_, rfl⟩
          have bwb : Below wr.heap.size wr wb := by rw [hwb]; exact (by repeat (first | exact Below.refl _ _ | assumption | refine Below.alloc ?_ (by first | (simp; done) | (simp; omega) | omega) _ | refine Below.setCell ?_ (by first | (simp; done) | (simp; omega) | omega) _ | refine Below.drew ?_ | refine Below.drewN ?_ _))
          have bkb := bel.trans (bwb.mono hDw)
          have hnw : ∀ jj uu, [Value.slice x2 j cx2][jj]? = some uu → wb.cell? (Addr.add ⟨wr.heap.size, 0, none⟩ jj) = some uu := by
            rw [hwb]
            exact cell_one_new wr (.slice x2 j cx2) 60
          have HWB := Lib.hid hwb
          clear hwb
          have zwb := bkb.size
          have HOW := Lib.hid (Ow.new own4 bwb)
          go_upto_region 14 with (at_builtin; rw [← HWB.out]; refine wpList_app rfl _ _ _ rfl 60 (.slice none 0 0) 1 24 Try.underlying27 ends_info rfl (by decide) lo wk.heap.size a3 R0.length c3 _ rfl (Ow.new hE.1 bkb) ⟨wr.heap.size, 0, none⟩ 1 1 [.slice x2 j cx2] rfl rfl hnw (by simp [Value.oneCell']) (by decide) (by unfold maxLen; omega) (by omega) (by omega) ?_; intro g' cap' w8 own8 hgr _ _; rw [← HRL.out] at own8; obtain ⟨hbx8, hNB8, hfr8⟩ := NBx.addRow (N := { ends := R0, ids := M.ids ++ N.ids, inputs := M.inputs ++ N.inputs }) (r := shR M.ends.length es) (hbx2.new bwb) (RowsAt.new hE bkb) (Ow.new owni bkb) (Ow.new ownp bkb) hdis zlo bkb.size zb (HOW.out.wide (Nat.le_refl _) bwb.size) hgr own8; have q8 := hbx8.cell 0 _ rfl; have f8 := hbx8.frozen 0)
          obtain ⟨w9, hw9⟩ : ∃ w9, w9 = w8.setCell ⟨b, 0, none⟩ (.slice (some ⟨g', 0, none⟩) (R0.length + 1) cap') := ⟨_, rfl⟩
          replace hNB8 : NBx (w8.setCell ⟨b, 0, none⟩ (.slice (some ⟨g', 0, none⟩) (R0.length + 1) cap')) lo b { ends := R0 ++ [shR M.ends.length es], ids := M.ids ++ N.ids, inputs := M.inputs ++ N.inputs } := hNB8
          replace hfr8 : Fr (fun x => some x = blk a3 c3 ∨ x = b) wb (w8.setCell ⟨b, 0, none⟩ (.slice (some ⟨g', 0, none⟩) (R0.length + 1) cap')) := hfr8
          rw [← hw9] at hNB8 hfr8 ⊢
          clear hw9 q8 f8 q0
          have hC8 : ∀ x, (some x = blk a3 c3 ∨ x = b) → lo ≤ x := fun x hx => hx.elim (fun h => (hE.1.blk_in h.symm).1) (fun h => by omega)
          replace BA := (BA.new bwb).fr hfr8 (fun h => by have := hC8 _ h; omega)
          replace BR := (BR.new bwb).fr hfr8 (fun h => by have := hC8 _ h; omega)
          replace bb := (bb.trans (bwb.mono bb.size)).trans (hfr8.below (B := w.heap.size) (fun x h1 h2 hc => by have := hC8 _ hc; omega) (Nat.le_trans bb.size bwb.size))
          have zlo9 : lo ≤ w9.heap.size := Nat.le_trans (Nat.le_trans zlo zwb) hfr8.size
          rw [← HTK.out] at hNB8
          go_wp2_with fail
          go_roundw
          case rel => exact ⟨k + 1, by omega, by go_num, hNB8, BA, BR, bb, zlo9⟩
          case measure => simp [intOf]; omega
    · have HKE := Lib.hid (show k = N.ends.length by omega)
      rw [HKE.out, List.take_length] at hNB
      replace hNB : NBx wr lo b (unN M N) := hNB
      obtain ⟨Nk, hNk⟩ : ∃ Nk, Nk = unN M N := ⟨_, rfl⟩
      rw [← hNk] at hNB
      have HNk := Lib.hid hNk
      clear hNk
      obtain ⟨ax, cx, aix, cix, apx, cpx, BO, own9⟩ := hNB.at_
      have q0 := BO.cell 0 _ rfl
      have q1 := BO.cell 1 _ rfl
      have q2 := BO.cell 2 _ rfl
      have e0 := BR.cell 0 _ rfl
      have e1 := BR.cell 1 _ rfl
      have e2 := BR.cell 2 _ rfl
      have f0 := BR.frozen 0
      have f1 := BR.frozen 1
      have f2 := BR.frozen 2
      go_wp2_with fail
      clear q0 q1 q2 e0 e1 e2 f0 f1 f2
      generalize hW : World.setCell _ _ _ = W
      have B6 : Bx W (w.heap.size + 1 + 1) 29 #[.slice ax Nk.ends.length cx, .slice aix Nk.ids.length cix, .slice apx Nk.inputs.length cpx] := by rw [← hW]; exact ((BR.set 0 _).set 1 _).set 2 _
      have fr6 : Fr (fun k => k = w.heap.size + 1 + 1) wr W := by rw [← hW]; exact fr3 _ _ _ _ _
      clear hW
      have z6 := fr6.size
      have d0 := B6.cell 0 _ rfl
      have d1 := B6.cell 1 _ rfl
      have d2 := B6.cell 2 _ rfl
      refine bodyPost_ret (v := .agg #[.slice ax Nk.ends.length cx, .slice aix Nk.ids.length cix, .slice apx Nk.inputs.length cpx]) (by simp [results, Try.results37, go_sem, d0, d1, d2]) rfl ?_
      rw [← HNk.out]
      exact ⟨_, rfl, (own9.frBx BR fr6).wide (by omega) (by omega), bb.trans (fr6.below (fun k h1 h2 hc => by omega) bb.size)⟩
set_option maxRecDepth 100000 in
set_option maxHeartbeats 1600000 in
theorem uniS_any (V0 V1 : Value) (M N : Net) (w : World) (B0 B1 : Nat) (hv0 : NetIn w B0 V0 M) (hB0 : B0 ≤ w.heap.size) (hv1 : NetIn w B1 V1 N) (hB1 : B1 ≤ w.heap.size) (hs0 : NetSmall M) (hs1 : NetSmall N) :
    Calls Try.prog 11 #[V0, V1] w (PostN (unR M N) (unOk M N) w) := by
  have HV0 := Lib.hid hv0
  have HV1 := Lib.hid hv1
  have HS0 := Lib.hid hs0
  have HS1 := Lib.hid hs1
  obtain ⟨a0, c0, vs0, ai0, ci0, ap0, cp0, rfl, h01, h02, h03, _⟩ := hv0
  obtain ⟨a1, c1, vs1, ai1, ci1, ap1, cp1, rfl, h11, h12, h13, _⟩ := hv1
  have hl0 : M.ends.length ≤ 1048576 := by unfold NetSmall at hs0; omega
  have hl1 : N.ends.length ≤ 1048576 := by unfold NetSmall at hs1; omega
  have hi0 : M.ids.length ≤ 1048576 := by unfold NetSmall at hs0; omega
  have hi1 : N.ids.length ≤ 1048576 := by unfold NetSmall at hs1; omega
  have BA := ((Bx.made w 29 #[.slice a0 M.ends.length c0, .slice ai0 M.ids.length ci0, .slice ap0 M.inputs.length cp0]).alloc (.cells #[.slice a1 N.ends.length c1, .slice ai1 N.ids.length ci1, .slice ap1 N.inputs.length cp1] 29)).alloc (.cells #[.slice none 0 0, .slice none 0 0, .slice none 0 0] 29)
  have BB := (Bx.made (w.alloc (.cells #[.slice a0 M.ends.length c0, .slice ai0 M.ids.length ci0, .slice ap0 M.inputs.length cp0] 29)) 29 #[.slice a1 N.ends.length c1, .slice ai1 N.ids.length ci1, .slice ap1 N.inputs.length cp1]).alloc (.cells #[.slice none 0 0, .slice none 0 0, .slice none 0 0] 29)
  have BR := Bx.made ((w.alloc (.cells #[.slice a0 M.ends.length c0, .slice ai0 M.ids.length ci0, .slice ap0 M.inputs.length cp0] 29)).alloc (.cells #[.slice a1 N.ends.length c1, .slice ai1 N.ids.length ci1, .slice ap1 N.inputs.length cp1] 29)) 29 #[.slice none 0 0, .slice none 0 0, .slice none 0 0]
  have b0 : Below w.heap.size w (((w.alloc (.cells #[.slice a0 M.ends.length c0, .slice ai0 M.ids.length ci0, .slice ap0 M.inputs.length cp0] 29)).alloc (.cells #[.slice a1 N.ends.length c1, .slice ai1 N.ids.length ci1, .slice ap1 N.inputs.length cp1] 29)).alloc (.cells #[.slice none 0 0, .slice none 0 0, .slice none 0 0] 29)) := (by repeat (first | exact Below.refl _ _ | assumption | refine Below.alloc ?_ (by first | (simp; done) | (simp; omega) | omega) _ | refine Below.setCell ?_ (by first | (simp; done) | (simp; omega) | omega) _ | refine Below.drew ?_ | refine Below.drewN ?_ _))
  have z0 : w.heap.size + 1 + 1 + 1 ≤ (((w.alloc (.cells #[.slice a0 M.ends.length c0, .slice ai0 M.ids.length ci0, .slice ap0 M.inputs.length cp0] 29)).alloc (.cells #[.slice a1 N.ends.length c1, .slice ai1 N.ids.length ci1, .slice ap1 N.inputs.length cp1] 29)).alloc (.cells #[.slice none 0 0, .slice none 0 0, .slice none 0 0] 29)).heap.size := by simp
  rw [World.size_alloc] at BB
  rw [World.size_alloc, World.size_alloc] at BR
  clear hs0 hs1 h01 h02 h03 h11 h12 h13
  go_enter Try.func11, Try.ntmps11
  go_wp2_with fail
  generalize ((w.alloc (.cells #[.slice a0 M.ends.length c0, .slice ai0 M.ids.length ci0, .slice ap0 M.inputs.length cp0] 29)).alloc (.cells #[.slice a1 N.ends.length c1, .slice ai1 N.ids.length ci1, .slice ap1 N.inputs.length cp1] 29)).alloc (.cells #[.slice none 0 0, .slice none 0 0, .slice none 0 0] 29) = w0 at *
  refine (neGood_any _ M _ B0 (HV0.out.below (b0.mono hB0)) (Nat.le_trans hB0 b0.size) HS0.out).mono ?_
  rintro e w1 ⟨rfl, bel1⟩
  replace BA := BA.new bel1
  replace BB := BB.new bel1
  replace BR := BR.new bel1
  have z1 := bel1.size
  have bb := b0.trans (bel1.mono b0.size)
  clear b0 bel1
  cases hm : netB M with
  | false =>
    have HF := Lib.hid (unB_f0 (N := N) hm)
    clear hm
    have e0 := BR.cell 0 _ rfl
    have e1 := BR.cell 1 _ rfl
    have e2 := BR.cell 2 _ rfl
    have f0 := BR.frozen 0
    have f1 := BR.frozen 1
    have f2 := BR.frozen 2
    go_wp2_with fail
    clear e0 e1 e2 f0 f1 f2
    generalize hW : World.setCell _ _ _ = W
    have B6 : Bx W (w.heap.size + 1 + 1) 29 #[.slice none 0 0, .slice none 0 0, .slice none 0 0] := by rw [← hW]; exact ((BR.set 0 _).set 1 _).set 2 _
    have fr6 : Fr (fun k => k = w.heap.size + 1 + 1) w1 W := by rw [← hW]; exact fr3 _ _ _ _ _
    clear hW
    have z6 := fr6.size
    have d0 := B6.cell 0 _ rfl
    have d1 := B6.cell 1 _ rfl
    have d2 := B6.cell 2 _ rfl
    refine bodyPost_ret (v := .tuple #[.agg #[.slice none 0 0, .slice none 0 0, .slice none 0 0], .bool false]) (by simp [results, Try.results11, go_sem, d0, d1, d2]) rfl ?_
    rw [unR_f HF.out, unOk_f HF.out]
    exact ⟨_, rfl, NetAt.nilN _ _ _, bb.trans (fr6.below (fun k h1 h2 hc => by omega) bb.size)⟩
  | true =>
  have HM := Lib.hid hm
  clear hm
  have c0' := BB.cell 0 _ rfl
  have c1' := BB.cell 1 _ rfl
  have c2' := BB.cell 2 _ rfl
  go_wp2_with fail
  clear c0' c1' c2'
  refine (neGood_any _ N _ B1 (HV1.out.below (bb.mono hB1)) (Nat.le_trans hB1 bb.size) HS1.out).mono ?_
  rintro e w2 ⟨rfl, bel1⟩
  replace BA := BA.new bel1
  replace BB := BB.new bel1
  replace BR := BR.new bel1
  have z2 := bel1.size
  replace bb := bb.trans (bel1.mono bb.size)
  clear bel1
  cases hn : netB N with
  | false =>
    have HF := Lib.hid (unB_f1 (M := M) hn)
    clear hn
    have e0 := BR.cell 0 _ rfl
    have e1 := BR.cell 1 _ rfl
    have e2 := BR.cell 2 _ rfl
    have f0 := BR.frozen 0
    have f1 := BR.frozen 1
    have f2 := BR.frozen 2
    go_wp2_with fail
    clear e0 e1 e2 f0 f1 f2
    generalize hW : World.setCell _ _ _ = W
    have B6 : Bx W (w.heap.size + 1 + 1) 29 #[.slice none 0 0, .slice none 0 0, .slice none 0 0] := by rw [← hW]; exact ((BR.set 0 _).set 1 _).set 2 _
    have fr6 : Fr (fun k => k = w.heap.size + 1 + 1) w2 W := by rw [← hW]; exact fr3 _ _ _ _ _
    clear hW
    have z6 := fr6.size
    have d0 := B6.cell 0 _ rfl
    have d1 := B6.cell 1 _ rfl
    have d2 := B6.cell 2 _ rfl
    refine bodyPost_ret (v := .tuple #[.agg #[.slice none 0 0, .slice none 0 0, .slice none 0 0], .bool false]) (by simp [results, Try.results11, go_sem, d0, d1, d2]) rfl ?_
    rw [unR_f HF.out, unOk_f HF.out]
    exact ⟨_, rfl, NetAt.nilN _ _ _, bb.trans (fr6.below (fun k h1 h2 hc => by omega) bb.size)⟩
  | true =>
  have HN := Lib.hid hn
  clear hn
  have HSJ := Lib.hid (unN_small2 HM.out HN.out)
  have c1a := BA.cell 1 _ rfl
  have c1b := BB.cell 1 _ rfl
  have hUB := unB_n HM.out HN.out
  by_cases hm0 : M.ids.length = 0
  all_goals by_cases hn0 : N.ids.length = 0
  · have HT := Lib.hid (show unB M N = true by rw [hUB, decide_eq_true hm0, decide_eq_true hn0]; rfl)
    have em : ((M.ids.length : Int) == 0) = true := beq_iff_eq.2 (by omega)
    have en : ((N.ids.length : Int) == 0) = true := beq_iff_eq.2 (by omega)
    clear hUB hm0 hn0
    have c0' := BB.cell 0 _ rfl
    have c2' := BB.cell 2 _ rfl
    have d0' := BA.cell 0 _ rfl
    have d2' := BA.cell 2 _ rfl
    go_wp2_with fail
    clear c0' c2' d0' d2' c1a c1b em en
    refine (neUnion_any _ _ M N _ B0 B1 (HV0.out.below (bb.mono hB0)) (Nat.le_trans hB0 bb.size) (HV1.out.below (bb.mono hB1)) (Nat.le_trans hB1 bb.size) HS0.out HS1.out HM.out HN.out).mono ?_
    rintro e w3 ⟨x3, rfl, own3, bel3⟩
    replace BR := BR.new bel3
    replace bb := bb.trans (bel3.mono bb.size)
    have z3 := bel3.size
    clear bel3 BA BB
    obtain ⟨Nk, hNk⟩ : ∃ Nk, Nk = unN M N := ⟨_, rfl⟩
    rw [← hNk] at own3 HSJ
    have HNk := Lib.hid hNk
    clear hNk
    go_wp2_with fail
    refine (neIf_any _ Nk _ _ _ own3 (Nat.le_refl _) (by omega) HSJ.out).mono ?_
    rintro e w4 ⟨x4, rfl, own4, bel4⟩
    replace BR := BR.new bel4
    replace bb := bb.trans (bel4.mono bb.size)
    have z4 := bel4.size
    clear bel4 own3
    obtain ⟨ax, cx, aix, cix, apx, cpx, rfl, own4⟩ := own4.shape
    generalize hRR : ifN (netB Nk) Nk = RR at *
    generalize hOO : netB Nk = oo at *
    have HRR := Lib.hid hRR
    have HOO := Lib.hid hOO
    clear hRR hOO
    have e0 := BR.cell 0 _ rfl
    have e1 := BR.cell 1 _ rfl
    have e2 := BR.cell 2 _ rfl
    have f0 := BR.frozen 0
    have f1 := BR.frozen 1
    have f2 := BR.frozen 2
    go_wp2_with fail
    clear e0 e1 e2 f0 f1 f2
    generalize hW : World.setCell _ _ _ = W
    have B6 : Bx W (w.heap.size + 1 + 1) 29 #[.slice ax RR.ends.length cx, .slice aix RR.ids.length cix, .slice apx RR.inputs.length cpx] := by rw [← hW]; exact ((BR.set 0 _).set 1 _).set 2 _
    have fr6 : Fr (fun k => k = w.heap.size + 1 + 1) w4 W := by rw [← hW]; exact fr3 _ _ _ _ _
    clear hW
    have z6 := fr6.size
    have d0 := B6.cell 0 _ rfl
    have d1 := B6.cell 1 _ rfl
    have d2 := B6.cell 2 _ rfl
    refine bodyPost_ret (v := .tuple #[.agg #[.slice ax RR.ends.length cx, .slice aix RR.ids.length cix, .slice apx RR.inputs.length cpx], .bool oo]) (by simp [results, Try.results11, go_sem, d0, d1, d2]) rfl ?_
    rw [unR_t HT.out, unOk_t HT.out, ← HNk.out, HOO.out, HRR.out]
    exact ⟨_, rfl, (own4.frBx BR fr6).wide (lo' := w.heap.size) (hi' := W.heap.size) (by omega) (by omega), bb.trans (fr6.below (fun k h1 h2 hc => by omega) bb.size)⟩
  · have HF := Lib.hid (show unB M N = false by rw [hUB, decide_eq_true hm0, decide_eq_false hn0]; rfl)
    have em : ((M.ids.length : Int) == 0) = true := beq_iff_eq.2 (by omega)
    have en : ((N.ids.length : Int) == 0) = false := beq_eq_false_iff_ne.2 (by omega)
    clear hUB hm0 hn0
    have e0 := BR.cell 0 _ rfl
    have e1 := BR.cell 1 _ rfl
    have e2 := BR.cell 2 _ rfl
    have f0 := BR.frozen 0
    have f1 := BR.frozen 1
    have f2 := BR.frozen 2
    go_wp2_with fail
    clear e0 e1 e2 f0 f1 f2
    generalize hW : World.setCell _ _ _ = W
    have B6 : Bx W (w.heap.size + 1 + 1) 29 #[.slice none 0 0, .slice none 0 0, .slice none 0 0] := by rw [← hW]; exact ((BR.set 0 _).set 1 _).set 2 _
    have fr6 : Fr (fun k => k = w.heap.size + 1 + 1) w2 W := by rw [← hW]; exact fr3 _ _ _ _ _
    clear hW
    have z6 := fr6.size
    have d0 := B6.cell 0 _ rfl
    have d1 := B6.cell 1 _ rfl
    have d2 := B6.cell 2 _ rfl
    refine bodyPost_ret (v := .tuple #[.agg #[.slice none 0 0, .slice none 0 0, .slice none 0 0], .bool false]) (by simp [results, Try.results11, go_sem, d0, d1, d2]) rfl ?_
    rw [unR_f HF.out, unOk_f HF.out]
    exact ⟨_, rfl, NetAt.nilN _ _ _, bb.trans (fr6.below (fun k h1 h2 hc => by omega) bb.size)⟩
  · have HF := Lib.hid (show unB M N = false by rw [hUB, decide_eq_false hm0, decide_eq_true hn0]; rfl)
    have em : ((M.ids.length : Int) == 0) = false := beq_eq_false_iff_ne.2 (by omega)
    have en : ((N.ids.length : Int) == 0) = true := beq_iff_eq.2 (by omega)
    clear hUB hm0 hn0
    have e0 := BR.cell 0 _ rfl
    have e1 := BR.cell 1 _ rfl
    have e2 := BR.cell 2 _ rfl
    have f0 := BR.frozen 0
    have f1 := BR.frozen 1
    have f2 := BR.frozen 2
    go_wp2_with fail
    clear e0 e1 e2 f0 f1 f2
    generalize hW : World.setCell _ _ _ = W
    have B6 : Bx W (w.heap.size + 1 + 1) 29 #[.slice none 0 0, .slice none 0 0, .slice none 0 0] := by rw [← hW]; exact ((BR.set 0 _).set 1 _).set 2 _
    have fr6 : Fr (fun k => k = w.heap.size + 1 + 1) w2 W := by rw [← hW]; exact fr3 _ _ _ _ _
    clear hW
    have z6 := fr6.size
    have d0 := B6.cell 0 _ rfl
    have d1 := B6.cell 1 _ rfl
    have d2 := B6.cell 2 _ rfl
    refine bodyPost_ret (v := .tuple #[.agg #[.slice none 0 0, .slice none 0 0, .slice none 0 0], .bool false]) (by simp [results, Try.results11, go_sem, d0, d1, d2]) rfl ?_
    rw [unR_f HF.out, unOk_f HF.out]
    exact ⟨_, rfl, NetAt.nilN _ _ _, bb.trans (fr6.below (fun k h1 h2 hc => by omega) bb.size)⟩
  · have HT := Lib.hid (show unB M N = true by rw [hUB, decide_eq_false hm0, decide_eq_false hn0]; rfl)
    have em : ((M.ids.length : Int) == 0) = false := beq_eq_false_iff_ne.2 (by omega)
    have en : ((N.ids.length : Int) == 0) = false := beq_eq_false_iff_ne.2 (by omega)
    clear hUB hm0 hn0
    have c0' := BB.cell 0 _ rfl
    have c2' := BB.cell 2 _ rfl
    have d0' := BA.cell 0 _ rfl
    have d2' := BA.cell 2 _ rfl
    go_wp2_with fail
    clear c0' c2' d0' d2' c1a c1b em en
    refine (neUnion_any _ _ M N _ B0 B1 (HV0.out.below (bb.mono hB0)) (Nat.le_trans hB0 bb.size) (HV1.out.below (bb.mono hB1)) (Nat.le_trans hB1 bb.size) HS0.out HS1.out HM.out HN.out).mono ?_
    rintro e w3 ⟨x3, rfl, own3, bel3⟩
    replace BR := BR.new bel3
    replace bb := bb.trans (bel3.mono bb.size)
    have z3 := bel3.size
    clear bel3 BA BB
    obtain ⟨Nk, hNk⟩ : ∃ Nk, Nk = unN M N := ⟨_, rfl⟩
    rw [← hNk] at own3 HSJ
    have HNk := Lib.hid hNk
    clear hNk
    go_wp2_with fail
    refine (neIf_any _ Nk _ _ _ own3 (Nat.le_refl _) (by omega) HSJ.out).mono ?_
    rintro e w4 ⟨x4, rfl, own4, bel4⟩
    replace BR := BR.new bel4
    replace bb := bb.trans (bel4.mono bb.size)
    have z4 := bel4.size
    clear bel4 own3
    obtain ⟨ax, cx, aix, cix, apx, cpx, rfl, own4⟩ := own4.shape
    generalize hRR : ifN (netB Nk) Nk = RR at *
    generalize hOO : netB Nk = oo at *
    have HRR := Lib.hid hRR
    have HOO := Lib.hid hOO
    clear hRR hOO
    have e0 := BR.cell 0 _ rfl
    have e1 := BR.cell 1 _ rfl
    have e2 := BR.cell 2 _ rfl
    have f0 := BR.frozen 0
    have f1 := BR.frozen 1
    have f2 := BR.frozen 2
    go_wp2_with fail
    clear e0 e1 e2 f0 f1 f2
    generalize hW : World.setCell _ _ _ = W
    have B6 : Bx W (w.heap.size + 1 + 1) 29 #[.slice ax RR.ends.length cx, .slice aix RR.ids.length cix, .slice apx RR.inputs.length cpx] := by rw [← hW]; exact ((BR.set 0 _).set 1 _).set 2 _
    have fr6 : Fr (fun k => k = w.heap.size + 1 + 1) w4 W := by rw [← hW]; exact fr3 _ _ _ _ _
    clear hW
    have z6 := fr6.size
    have d0 := B6.cell 0 _ rfl
    have d1 := B6.cell 1 _ rfl
    have d2 := B6.cell 2 _ rfl
    refine bodyPost_ret (v := .tuple #[.agg #[.slice ax RR.ends.length cx, .slice aix RR.ids.length cix, .slice apx RR.inputs.length cpx], .bool oo]) (by simp [results, Try.results11, go_sem, d0, d1, d2]) rfl ?_
    rw [unR_t HT.out, unOk_t HT.out, ← HNk.out, HOO.out, HRR.out]
    exact ⟨_, rfl, (own4.frBx BR fr6).wide (lo' := w.heap.size) (hi' := W.heap.size) (by omega) (by omega), bb.trans (fr6.below (fun k h1 h2 hc => by omega) bb.size)⟩
set_option maxRecDepth 100000 in
set_option maxHeartbeats 6400000 in
theorem joined_any (V0 V1 : Value) (M N : Net) (w : World) (B0 B1 : Nat) (hv0 : NetIn w B0 V0 M) (hB0 : B0 ≤ w.heap.size) (hv1 : NetIn w B1 V1 N) (hB1 : B1 ≤ w.heap.size) (hs0 : NetSmall M) (hs1 : NetSmall N) (hm : netB M = true) (hn : netB N = true) :
    Calls Try.prog 41 #[V0, V1] w fun e w' => ∃ x, e = .returned x ∧ NetAt w' w.heap.size w'.heap.size x (unN M N) ∧ Below w.heap.size w w' := by
  have HM := Lib.hid hm
  have HN := Lib.hid hn
  have HSM := Lib.hid (netB_small hm)
  have HSN := Lib.hid (netB_small hn)
  have HV0 := Lib.hid hv0
  have HV1 := Lib.hid hv1
  have HS0 := Lib.hid hs0
  have HS1 := Lib.hid hs1
  obtain ⟨a0, c0, vs0, ai0, ci0, ap0, cp0, rfl, h01, h02, h03, _⟩ := hv0
  obtain ⟨a1, c1, vs1, ai1, ci1, ap1, cp1, rfl, h11, h12, h13, _⟩ := hv1
  have hl0 : M.ends.length ≤ 1048576 := by unfold NetSmall at hs0; omega
  have hl1 : N.ends.length ≤ 1048576 := by unfold NetSmall at hs1; omega
  have hi0 : M.ids.length ≤ 1048576 := by unfold NetSmall at hs0; omega
  have hi1 : N.ids.length ≤ 1048576 := by unfold NetSmall at hs1; omega
  have BA := ((Bx.made w 29 #[.slice a0 M.ends.length c0, .slice ai0 M.ids.length ci0, .slice ap0 M.inputs.length cp0]).alloc (.cells #[.slice a1 N.ends.length c1, .slice ai1 N.ids.length ci1, .slice ap1 N.inputs.length cp1] 29)).alloc (.cells #[.slice none 0 0, .slice none 0 0, .slice none 0 0] 29)
  have BB := (Bx.made (w.alloc (.cells #[.slice a0 M.ends.length c0, .slice ai0 M.ids.length ci0, .slice ap0 M.inputs.length cp0] 29)) 29 #[.slice a1 N.ends.length c1, .slice ai1 N.ids.length ci1, .slice ap1 N.inputs.length cp1]).alloc (.cells #[.slice none 0 0, .slice none 0 0, .slice none 0 0] 29)
  have BR := Bx.made ((w.alloc (.cells #[.slice a0 M.ends.length c0, .slice ai0 M.ids.length ci0, .slice ap0 M.inputs.length cp0] 29)).alloc (.cells #[.slice a1 N.ends.length c1, .slice ai1 N.ids.length ci1, .slice ap1 N.inputs.length cp1] 29)) 29 #[.slice none 0 0, .slice none 0 0, .slice none 0 0]
  have b0 : Below w.heap.size w (((w.alloc (.cells #[.slice a0 M.ends.length c0, .slice ai0 M.ids.length ci0, .slice ap0 M.inputs.length cp0] 29)).alloc (.cells #[.slice a1 N.ends.length c1, .slice ai1 N.ids.length ci1, .slice ap1 N.inputs.length cp1] 29)).alloc (.cells #[.slice none 0 0, .slice none 0 0, .slice none 0 0] 29)) := (by repeat (first | exact Below.refl _ _ | assumption | refine Below.alloc ?_ (by first | (simp; done) | (simp; omega) | omega) _ | refine Below.setCell ?_ (by first | (simp; done) | (simp; omega) | omega) _ | refine Below.drew ?_ | refine Below.drewN ?_ _))
  have z0 : w.heap.size + 1 + 1 + 1 ≤ (((w.alloc (.cells #[.slice a0 M.ends.length c0, .slice ai0 M.ids.length ci0, .slice ap0 M.inputs.length cp0] 29)).alloc (.cells #[.slice a1 N.ends.length c1, .slice ai1 N.ids.length ci1, .slice ap1 N.inputs.length cp1] 29)).alloc (.cells #[.slice none 0 0, .slice none 0 0, .slice none 0 0] 29)).heap.size := by simp
  rw [World.size_alloc] at BB
  rw [World.size_alloc, World.size_alloc] at BR
  have hK40 : M.ends.length ≤ 40 := HSM.out.1
  have hN40 : N.ends.length ≤ 40 := HSN.out.1
  have hN1 : 1 ≤ N.ends.length := HSN.out.2.1
  have hj0 : M.inputs.length ≤ 40 := by have := HSM.out; omega
  have hj1 : N.inputs.length ≤ 40 := by have := HSN.out; omega
  obtain ⟨g1, off1, rfl, hg1, hc1⟩ := h11.1 (by omega)
  clear hs0 hs1 h01 h02 h03 h11 h12 h13 hm hn hc1
  go_enter Try.func41, Try.ntmps41
  go_upto_region 1 with fail
  generalize ((w.alloc (.cells #[.slice a0 M.ends.length c0, .slice ai0 M.ids.length ci0, .slice ap0 M.inputs.length cp0] 29)).alloc (.cells #[.slice (some ⟨g1, off1, none⟩) N.ends.length c1, .slice ai1 N.ids.length ci1, .slice ap1 N.inputs.length cp1] 29)).alloc (.cells #[.slice none 0 0, .slice none 0 0, .slice none 0 0] 29) = w0 at *
  have bb := b0
  have zz := z0
  clear b0
  go_cut [5, 6] (fun p5 p6 W => ∃ go gp mi a2 c2 ai2 ci2 ap2 cp2 a3 c3 ai3 ci3 ap3 cp3, p5 = .pointer (some ⟨go, 0, none⟩) ∧ p6 = .pointer (some ⟨gp, 0, none⟩) ∧ Bx W go 29 #[.slice a2 M.ends.length c2, .slice ai2 M.ids.length ci2, .slice ap2 M.inputs.length cp2] ∧ Bx W gp 29 #[.slice a3 N.ends.length c3, .slice ai3 N.ids.length ci3, .slice ap3 N.inputs.length cp3] ∧ Bx W w.heap.size 29 #[.slice a0 M.ends.length c0, .slice ai0 M.ids.length ci0, .slice ap0 M.inputs.length cp0] ∧ Bx W (w.heap.size + 1) 29 #[.slice (some ⟨g1, off1, none⟩) N.ends.length c1, .slice ai1 N.ids.length ci1, .slice ap1 N.inputs.length cp1] ∧ Bx W (w.heap.size + 1 + 1) 29 #[.slice none 0 0, .slice none 0 0, .slice none 0 0] ∧ NetAt W (w.heap.size + 1 + 1 + 1) mi (.agg #[.slice a2 M.ends.length c2, .slice ai2 M.ids.length ci2, .slice ap2 M.inputs.length cp2]) M ∧ NetAt W mi W.heap.size (.agg #[.slice a3 N.ends.length c3, .slice ai3 N.ids.length ci3, .slice ap3 N.inputs.length cp3]) N ∧ (w.heap.size + 1 + 1 + 1) ≤ mi ∧ mi ≤ W.heap.size ∧ (w.heap.size + 1 + 1 + 1) ≤ go ∧ (w.heap.size + 1 + 1 + 1) ≤ gp ∧ go ≠ gp ∧ Below w.heap.size w W)
  case first =>
    replace BA : Bx w0.drew w.heap.size 29 #[.slice a0 M.ends.length c0, .slice ai0 M.ids.length ci0, .slice ap0 M.inputs.length cp0] := BA
    replace BB : Bx w0.drew (w.heap.size + 1) 29 #[.slice (some ⟨g1, off1, none⟩) N.ends.length c1, .slice ai1 N.ids.length ci1, .slice ap1 N.inputs.length cp1] := BB
    replace BR : Bx w0.drew (w.heap.size + 1 + 1) 29 #[.slice none 0 0, .slice none 0 0, .slice none 0 0] := BR
    replace bb := bb.drew
    replace zz : (w.heap.size + 1 + 1 + 1) ≤ w0.drew.heap.size := zz
    replace z0 : (w.heap.size + 1 + 1 + 1) ≤ w0.drew.heap.size := zz
    refine wp_region_held_drew (S := fun X => X.cell? ⟨w.heap.size, 0, none⟩ = some (.slice a0 M.ends.length c0) ∧ X.cell? ⟨w.heap.size, 1, none⟩ = some (.slice ai0 M.ids.length ci0) ∧ X.cell? ⟨w.heap.size, 2, none⟩ = some (.slice ap0 M.inputs.length cp0) ∧ X.cell? ⟨w.heap.size + 1, 0, none⟩ = some (.slice (some ⟨g1, off1, none⟩) N.ends.length c1) ∧ X.cell? ⟨w.heap.size + 1, 1, none⟩ = some (.slice ai1 N.ids.length ci1) ∧ X.cell? ⟨w.heap.size + 1, 2, none⟩ = some (.slice ap1 N.inputs.length cp1)) (by kernel_rfl) ⟨BA.cell 0 _ rfl, BA.cell 1 _ rfl, BA.cell 2 _ rfl, BB.cell 0 _ rfl, BB.cell 1 _ rfl, BB.cell 2 _ rfl⟩ (fun hHeld => ?_)
    generalize w0.drew = wd at *
    refine wpAnyH_take (i := 0) (v := ?_) rfl (by kernel_rfl) (by kernel_rfl) (by kernel_rfl) (fun _ _ _ h => h) (Or.inl ⟨by rfl, ?_⟩) (by assumption) ?_
    rotate_left
    · (intro w hSw; (try dsimp only at hSw); obtain ⟨hq0, hq1, hq2, hq3, hq4, hq5⟩ := hSw; go_simp; try with_reducible rfl)
    try simp only [Act.put, List.getElem_toArray, List.getElem_cons_zero, List.getElem_cons_succ, List.setIfInBounds_toArray, List.set_cons_zero, List.set_cons_succ]
    refine wpAnyH_take (i := 2) (v := ?_) rfl (by kernel_rfl) (by kernel_rfl) (by kernel_rfl) (fun _ _ _ h => h) (Or.inl ⟨by rfl, ?_⟩) (by assumption) ?_
    rotate_left
    · (intro w hSw; (try dsimp only at hSw); obtain ⟨hq0, hq1, hq2, hq3, hq4, hq5⟩ := hSw; go_simp; try with_reducible rfl)
    try simp only [Act.put, List.getElem_toArray, List.getElem_cons_zero, List.getElem_cons_succ, List.setIfInBounds_toArray, List.set_cons_zero, List.set_cons_succ]
    refine wpAnyH_ready (rs := [1, 4, 5]) (by kernel_rfl) (by simp) ?_
    refine AllReadyH.cons (o := _) rfl (fun K hK => ?_) (AllReadyH.cons (o := _) rfl (fun K hK => ?_) (AllReadyH.cons (o := _) rfl (fun K hK => ?_) AllReadyH.nil))
    · go_simp
      refine (copyNetwork_any _ M _ B0 (HV0.out.below (bb.mono hB0)) (Nat.le_trans hB0 bb.size) HS0.out).mono ?_
      rintro e wi ⟨xi, rfl, own1, beli⟩
      obtain ⟨a2, c2, ai2, ci2, ap2, cp2, rfl, own1⟩ := own1.shape
      replace own1 := own1.wide (lo' := w.heap.size + 1 + 1 + 1) (by omega) (Nat.le_refl _)
      replace BA := BA.new beli
      replace BB := BB.new beli
      replace BR := BR.new beli
      have z_beli := beli.size
      replace bb := bb.trans (beli.mono bb.size)
      obtain ⟨mi, hmi⟩ : ∃ mi, mi = wi.heap.size := ⟨_, rfl⟩
      rw [← hmi] at own1
      have zmi : mi ≤ wi.heap.size := by omega
      have zmi2 : w.heap.size + 1 + 1 + 1 ≤ mi := by omega
      clear beli hmi
      refine hK.out _ _ ⟨BA.cell 0 _ rfl, BA.cell 1 _ rfl, BA.cell 2 _ rfl, BB.cell 0 _ rfl, BB.cell 1 _ rfl, BB.cell 2 _ rfl⟩ (fun hHeld => ?_)
      clear hK K
      try simp only [Act.put, List.getElem_toArray, List.getElem_cons_zero, List.getElem_cons_succ, List.setIfInBounds_toArray, List.set_cons_zero, List.set_cons_succ]
      refine wpAnyH_ready (rs := [3, 4, 5]) (by kernel_rfl) (by simp) ?_
      refine AllReadyH.cons (o := _) rfl (fun K hK => ?_) (AllReadyH.cons (o := _) rfl (fun K hK => ?_) (AllReadyH.cons (o := _) rfl (fun K hK => ?_) AllReadyH.nil))
      · go_simp
        refine (copyNetwork_any _ N _ B1 (HV1.out.below (bb.mono hB1)) (Nat.le_trans hB1 bb.size) HS1.out).mono ?_
        rintro e wp ⟨xp, rfl, own2, belp⟩
        obtain ⟨a3, c3, ai3, ci3, ap3, cp3, rfl, own2⟩ := own2.shape
        replace own2 := own2.wide (lo' := mi) (by omega) (Nat.le_refl _)
        replace BA := BA.new belp
        replace BB := BB.new belp
        replace BR := BR.new belp
        replace own1 := own1.new belp
        have z_belp := belp.size
        replace bb := bb.trans (belp.mono bb.size)
        clear belp
        refine hK.out _ _ ⟨BA.cell 0 _ rfl, BA.cell 1 _ rfl, BA.cell 2 _ rfl, BB.cell 0 _ rfl, BB.cell 1 _ rfl, BB.cell 2 _ rfl⟩ (fun hHeld => ?_)
        clear hK K
        try simp only [Act.put, List.getElem_toArray, List.getElem_cons_zero, List.getElem_cons_succ, List.setIfInBounds_toArray, List.set_cons_zero, List.set_cons_succ]
        refine wpAnyH_ready (rs := [4, 5]) (by kernel_rfl) (by simp) ?_
        refine AllReadyH.cons (o := _) rfl (fun K hK => ?_) (AllReadyH.cons (o := _) rfl (fun K hK => ?_) AllReadyH.nil)
        · go_simp
          have BO := Bx.made wp 29 #[.slice none 0 0, .slice none 0 0, .slice none 0 0]
          have ba : Below wp.heap.size wp (wp.alloc (.cells #[.slice none 0 0, .slice none 0 0, .slice none 0 0] 29)) := (by repeat (first | exact Below.refl _ _ | assumption | refine Below.alloc ?_ (by first | (simp; done) | (simp; omega) | omega) _ | refine Below.setCell ?_ (by first | (simp; done) | (simp; omega) | omega) _ | refine Below.drew ?_ | refine Below.drewN ?_ _))
          replace BA := BA.new ba
          replace BB := BB.new ba
          replace BR := BR.new ba
          replace own1 := own1.new ba
          replace own2 := own2.new ba
          have z_ba := ba.size
          replace bb := bb.trans (ba.mono bb.size)
          obtain ⟨go, hgo⟩ : ∃ g, g = wp.heap.size := ⟨_, rfl⟩
          rw [← hgo] at BO ⊢
          have zgo : w.heap.size + 1 + 1 + 1 ≤ go := by omega
          have zold : go < (wp.alloc (.cells #[.slice none 0 0, .slice none 0 0, .slice none 0 0] 29)).heap.size := by simp; omega
          clear ba hgo
          generalize wp.alloc (.cells #[.slice none 0 0, .slice none 0 0, .slice none 0 0] 29) = wo at *
          refine hK.out _ _ ⟨BA.cell 0 _ rfl, BA.cell 1 _ rfl, BA.cell 2 _ rfl, BB.cell 0 _ rfl, BB.cell 1 _ rfl, BB.cell 2 _ rfl⟩ (fun hHeld => ?_)
          clear hK K
          try simp only [Act.put, List.getElem_toArray, List.getElem_cons_zero, List.getElem_cons_succ, List.setIfInBounds_toArray, List.set_cons_zero, List.set_cons_succ]
          refine wpAnyH_ready (rs := [5]) (by kernel_rfl) (by simp) ?_
          refine AllReadyH.cons (o := _) rfl (fun K hK => ?_) AllReadyH.nil
          · go_simp
            have BP := Bx.made wo 29 #[.slice none 0 0, .slice none 0 0, .slice none 0 0]
            have ba : Below wo.heap.size wo (wo.alloc (.cells #[.slice none 0 0, .slice none 0 0, .slice none 0 0] 29)) := (by repeat (first | exact Below.refl _ _ | assumption | refine Below.alloc ?_ (by first | (simp; done) | (simp; omega) | omega) _ | refine Below.setCell ?_ (by first | (simp; done) | (simp; omega) | omega) _ | refine Below.drew ?_ | refine Below.drewN ?_ _))
            replace BA := BA.new ba
            replace BB := BB.new ba
            replace BR := BR.new ba
            replace BO := BO.new ba
            replace own1 := own1.new ba
            replace own2 := own2.new ba
            have z_ba := ba.size
            replace bb := bb.trans (ba.mono bb.size)
            obtain ⟨gp, hgp⟩ : ∃ g, g = wo.heap.size := ⟨_, rfl⟩
            rw [← hgp] at BP ⊢
            have zgp : w.heap.size + 1 + 1 + 1 ≤ gp := by omega
            have hne : go ≠ gp := by have h9 := zold; omega
            clear ba hgp
            generalize wo.alloc (.cells #[.slice none 0 0, .slice none 0 0, .slice none 0 0] 29) = wq at *
            refine hK.out _ _ ⟨BA.cell 0 _ rfl, BA.cell 1 _ rfl, BA.cell 2 _ rfl, BB.cell 0 _ rfl, BB.cell 1 _ rfl, BB.cell 2 _ rfl⟩ (fun hHeld => ?_)
            clear hK K
            try simp only [Act.put, List.getElem_toArray, List.getElem_cons_zero, List.getElem_cons_succ, List.setIfInBounds_toArray, List.set_cons_zero, List.set_cons_succ]
            refine wpAnyH_ready (rs := [6]) (by kernel_rfl) (by simp) ?_
            refine AllReadyH.cons (o := _) rfl (fun K hK => ?_) AllReadyH.nil
            have c0' := BO.cell 0 _ rfl
            have f0' := BO.frozen 0
            have c1' := BO.cell 1 _ rfl
            have f1' := BO.frozen 1
            have c2' := BO.cell 2 _ rfl
            have f2' := BO.frozen 2
            go_simp
            clear c0' c1' c2' f0' f1' f2'
            generalize hW : World.setCell _ _ _ = WO
            have BN : Bx WO go 29 #[.slice a2 M.ends.length c2, .slice ai2 M.ids.length ci2, .slice ap2 M.inputs.length cp2] := by rw [← hW]; exact ((BO.set 0 _).set 1 _).set 2 _
            have frW : Fr (fun k => k = go) wq WO := by rw [← hW]; exact fr3 _ _ _ _ _
            clear hW
            replace own1 := own1.frBx BO frW
            replace own2 := (own2.frBx BO frW).wide (hi' := WO.heap.size) (Nat.le_refl _) (by have := frW.size; omega)
            replace BO := BN
            clear BN
            replace BP := BP.fr frW (by omega)
            replace BA := BA.fr frW (by omega)
            replace BB := BB.fr frW (by omega)
            replace BR := BR.fr frW (by omega)
            replace bb := bb.trans (frW.below (B := w.heap.size) (fun k h1 h2 hc => by omega) bb.size)
            have z_WO := frW.size
            clear frW
            refine hK.out _ _ ⟨BA.cell 0 _ rfl, BA.cell 1 _ rfl, BA.cell 2 _ rfl, BB.cell 0 _ rfl, BB.cell 1 _ rfl, BB.cell 2 _ rfl⟩ (fun hHeld => ?_)
            clear hK K
            try simp only [Act.put, List.getElem_toArray, List.getElem_cons_zero, List.getElem_cons_succ, List.setIfInBounds_toArray, List.set_cons_zero, List.set_cons_succ]
            refine wpAnyH_ready (rs := [7]) (by kernel_rfl) (by simp) ?_
            refine AllReadyH.cons (o := _) rfl (fun K hK => ?_) AllReadyH.nil
            have c0' := BP.cell 0 _ rfl
            have f0' := BP.frozen 0
            have c1' := BP.cell 1 _ rfl
            have f1' := BP.frozen 1
            have c2' := BP.cell 2 _ rfl
            have f2' := BP.frozen 2
            go_simp
            clear c0' c1' c2' f0' f1' f2'
            generalize hW : World.setCell _ _ _ = WP
            have BN : Bx WP gp 29 #[.slice a3 N.ends.length c3, .slice ai3 N.ids.length ci3, .slice ap3 N.inputs.length cp3] := by rw [← hW]; exact ((BP.set 0 _).set 1 _).set 2 _
            have frW : Fr (fun k => k = gp) WO WP := by rw [← hW]; exact fr3 _ _ _ _ _
            clear hW
            replace own1 := own1.frBx BP frW
            replace own2 := (own2.frBx BP frW).wide (hi' := WP.heap.size) (Nat.le_refl _) (by have := frW.size; omega)
            replace BP := BN
            clear BN
            replace BO := BO.fr frW (by omega)
            replace BA := BA.fr frW (by omega)
            replace BB := BB.fr frW (by omega)
            replace BR := BR.fr frW (by omega)
            replace bb := bb.trans (frW.below (B := w.heap.size) (fun k h1 h2 hc => by omega) bb.size)
            have z_WP := frW.size
            clear frW
            refine hK.out _ _ ⟨BA.cell 0 _ rfl, BA.cell 1 _ rfl, BA.cell 2 _ rfl, BB.cell 0 _ rfl, BB.cell 1 _ rfl, BB.cell 2 _ rfl⟩ (fun hHeld => ?_)
            clear hK K
            try simp only [Act.put, List.getElem_toArray, List.getElem_cons_zero, List.getElem_cons_succ, List.setIfInBounds_toArray, List.set_cons_zero, List.set_cons_succ]
            refine wpAnyH_done (by kernel_rfl) ?_ _
            go_wp2_with fail
            go_meet
            exact ⟨go, gp, mi, a2, c2, ai2, ci2, ap2, cp2, a3, c3, ai3, ci3, ap3, cp3, rfl, rfl, BO, BP, BA, BB, BR, own1, own2, zmi2, by omega, zgo, zgp, hne, bb⟩
        · go_simp
          have BP := Bx.made wp 29 #[.slice none 0 0, .slice none 0 0, .slice none 0 0]
          have ba : Below wp.heap.size wp (wp.alloc (.cells #[.slice none 0 0, .slice none 0 0, .slice none 0 0] 29)) := (by repeat (first | exact Below.refl _ _ | assumption | refine Below.alloc ?_ (by first | (simp; done) | (simp; omega) | omega) _ | refine Below.setCell ?_ (by first | (simp; done) | (simp; omega) | omega) _ | refine Below.drew ?_ | refine Below.drewN ?_ _))
          replace BA := BA.new ba
          replace BB := BB.new ba
          replace BR := BR.new ba
          replace own1 := own1.new ba
          replace own2 := own2.new ba
          have z_ba := ba.size
          replace bb := bb.trans (ba.mono bb.size)
          obtain ⟨gp, hgp⟩ : ∃ g, g = wp.heap.size := ⟨_, rfl⟩
          rw [← hgp] at BP ⊢
          have zgp : w.heap.size + 1 + 1 + 1 ≤ gp := by omega
          have zold : gp < (wp.alloc (.cells #[.slice none 0 0, .slice none 0 0, .slice none 0 0] 29)).heap.size := by simp; omega
          clear ba hgp
          generalize wp.alloc (.cells #[.slice none 0 0, .slice none 0 0, .slice none 0 0] 29) = wq at *
          refine hK.out _ _ ⟨BA.cell 0 _ rfl, BA.cell 1 _ rfl, BA.cell 2 _ rfl, BB.cell 0 _ rfl, BB.cell 1 _ rfl, BB.cell 2 _ rfl⟩ (fun hHeld => ?_)
          clear hK K
          try simp only [Act.put, List.getElem_toArray, List.getElem_cons_zero, List.getElem_cons_succ, List.setIfInBounds_toArray, List.set_cons_zero, List.set_cons_succ]
          refine wpAnyH_ready (rs := [4]) (by kernel_rfl) (by simp) ?_
          refine AllReadyH.cons (o := _) rfl (fun K hK => ?_) AllReadyH.nil
          · go_simp
            have BO := Bx.made wq 29 #[.slice none 0 0, .slice none 0 0, .slice none 0 0]
            have ba : Below wq.heap.size wq (wq.alloc (.cells #[.slice none 0 0, .slice none 0 0, .slice none 0 0] 29)) := (by repeat (first | exact Below.refl _ _ | assumption | refine Below.alloc ?_ (by first | (simp; done) | (simp; omega) | omega) _ | refine Below.setCell ?_ (by first | (simp; done) | (simp; omega) | omega) _ | refine Below.drew ?_ | refine Below.drewN ?_ _))
            replace BA := BA.new ba
            replace BB := BB.new ba
            replace BR := BR.new ba
            replace BP := BP.new ba
            replace own1 := own1.new ba
            replace own2 := own2.new ba
            have z_ba := ba.size
            replace bb := bb.trans (ba.mono bb.size)
            obtain ⟨go, hgo⟩ : ∃ g, g = wq.heap.size := ⟨_, rfl⟩
            rw [← hgo] at BO ⊢
            have zgo : w.heap.size + 1 + 1 + 1 ≤ go := by omega
            have hne : go ≠ gp := by have h9 := zold; omega
            clear ba hgo
            generalize wq.alloc (.cells #[.slice none 0 0, .slice none 0 0, .slice none 0 0] 29) = wo at *
            refine hK.out _ _ ⟨BA.cell 0 _ rfl, BA.cell 1 _ rfl, BA.cell 2 _ rfl, BB.cell 0 _ rfl, BB.cell 1 _ rfl, BB.cell 2 _ rfl⟩ (fun hHeld => ?_)
            clear hK K
            try simp only [Act.put, List.getElem_toArray, List.getElem_cons_zero, List.getElem_cons_succ, List.setIfInBounds_toArray, List.set_cons_zero, List.set_cons_succ]
            refine wpAnyH_ready (rs := [6]) (by kernel_rfl) (by simp) ?_
            refine AllReadyH.cons (o := _) rfl (fun K hK => ?_) AllReadyH.nil
            have c0' := BO.cell 0 _ rfl
            have f0' := BO.frozen 0
            have c1' := BO.cell 1 _ rfl
            have f1' := BO.frozen 1
            have c2' := BO.cell 2 _ rfl
            have f2' := BO.frozen 2
            go_simp
            clear c0' c1' c2' f0' f1' f2'
            generalize hW : World.setCell _ _ _ = WO
            have BN : Bx WO go 29 #[.slice a2 M.ends.length c2, .slice ai2 M.ids.length ci2, .slice ap2 M.inputs.length cp2] := by rw [← hW]; exact ((BO.set 0 _).set 1 _).set 2 _
            have frW : Fr (fun k => k = go) wo WO := by rw [← hW]; exact fr3 _ _ _ _ _
            clear hW
            replace own1 := own1.frBx BO frW
            replace own2 := (own2.frBx BO frW).wide (hi' := WO.heap.size) (Nat.le_refl _) (by have := frW.size; omega)
            replace BO := BN
            clear BN
            replace BP := BP.fr frW (by omega)
            replace BA := BA.fr frW (by omega)
            replace BB := BB.fr frW (by omega)
            replace BR := BR.fr frW (by omega)
            replace bb := bb.trans (frW.below (B := w.heap.size) (fun k h1 h2 hc => by omega) bb.size)
            have z_WO := frW.size
            clear frW
            refine hK.out _ _ ⟨BA.cell 0 _ rfl, BA.cell 1 _ rfl, BA.cell 2 _ rfl, BB.cell 0 _ rfl, BB.cell 1 _ rfl, BB.cell 2 _ rfl⟩ (fun hHeld => ?_)
            clear hK K
            try simp only [Act.put, List.getElem_toArray, List.getElem_cons_zero, List.getElem_cons_succ, List.setIfInBounds_toArray, List.set_cons_zero, List.set_cons_succ]
            refine wpAnyH_ready (rs := [7]) (by kernel_rfl) (by simp) ?_
            refine AllReadyH.cons (o := _) rfl (fun K hK => ?_) AllReadyH.nil
            have c0' := BP.cell 0 _ rfl
            have f0' := BP.frozen 0
            have c1' := BP.cell 1 _ rfl
            have f1' := BP.frozen 1
            have c2' := BP.cell 2 _ rfl
            have f2' := BP.frozen 2
            go_simp
            clear c0' c1' c2' f0' f1' f2'
            generalize hW : World.setCell _ _ _ = WP
            have BN : Bx WP gp 29 #[.slice a3 N.ends.length c3, .slice ai3 N.ids.length ci3, .slice ap3 N.inputs.length cp3] := by rw [← hW]; exact ((BP.set 0 _).set 1 _).set 2 _
            have frW : Fr (fun k => k = gp) WO WP := by rw [← hW]; exact fr3 _ _ _ _ _
            clear hW
            replace own1 := own1.frBx BP frW
            replace own2 := (own2.frBx BP frW).wide (hi' := WP.heap.size) (Nat.le_refl _) (by have := frW.size; omega)
            replace BP := BN
            clear BN
            replace BO := BO.fr frW (by omega)
            replace BA := BA.fr frW (by omega)
            replace BB := BB.fr frW (by omega)
            replace BR := BR.fr frW (by omega)
            replace bb := bb.trans (frW.below (B := w.heap.size) (fun k h1 h2 hc => by omega) bb.size)
            have z_WP := frW.size
            clear frW
            refine hK.out _ _ ⟨BA.cell 0 _ rfl, BA.cell 1 _ rfl, BA.cell 2 _ rfl, BB.cell 0 _ rfl, BB.cell 1 _ rfl, BB.cell 2 _ rfl⟩ (fun hHeld => ?_)
            clear hK K
            try simp only [Act.put, List.getElem_toArray, List.getElem_cons_zero, List.getElem_cons_succ, List.setIfInBounds_toArray, List.set_cons_zero, List.set_cons_succ]
            refine wpAnyH_done (by kernel_rfl) ?_ _
            go_wp2_with fail
            go_meet
            exact ⟨go, gp, mi, a2, c2, ai2, ci2, ap2, cp2, a3, c3, ai3, ci3, ap3, cp3, rfl, rfl, BO, BP, BA, BB, BR, own1, own2, zmi2, by omega, zgo, zgp, hne, bb⟩
      · go_simp
        have BO := Bx.made wi 29 #[.slice none 0 0, .slice none 0 0, .slice none 0 0]
        have ba : Below wi.heap.size wi (wi.alloc (.cells #[.slice none 0 0, .slice none 0 0, .slice none 0 0] 29)) := (by repeat (first | exact Below.refl _ _ | assumption | refine Below.alloc ?_ (by first | (simp; done) | (simp; omega) | omega) _ | refine Below.setCell ?_ (by first | (simp; done) | (simp; omega) | omega) _ | refine Below.drew ?_ | refine Below.drewN ?_ _))
        replace BA := BA.new ba
        replace BB := BB.new ba
        replace BR := BR.new ba
        replace own1 := own1.new ba
        have z_ba := ba.size
        replace bb := bb.trans (ba.mono bb.size)
        obtain ⟨go, hgo⟩ : ∃ g, g = wi.heap.size := ⟨_, rfl⟩
        rw [← hgo] at BO ⊢
        have zgo : w.heap.size + 1 + 1 + 1 ≤ go := by omega
        have zold : go < (wi.alloc (.cells #[.slice none 0 0, .slice none 0 0, .slice none 0 0] 29)).heap.size := by simp; omega
        clear ba hgo
        generalize wi.alloc (.cells #[.slice none 0 0, .slice none 0 0, .slice none 0 0] 29) = wo at *
        refine hK.out _ _ ⟨BA.cell 0 _ rfl, BA.cell 1 _ rfl, BA.cell 2 _ rfl, BB.cell 0 _ rfl, BB.cell 1 _ rfl, BB.cell 2 _ rfl⟩ (fun hHeld => ?_)
        clear hK K
        try simp only [Act.put, List.getElem_toArray, List.getElem_cons_zero, List.getElem_cons_succ, List.setIfInBounds_toArray, List.set_cons_zero, List.set_cons_succ]
        refine wpAnyH_ready (rs := [3, 5]) (by kernel_rfl) (by simp) ?_
        refine AllReadyH.cons (o := _) rfl (fun K hK => ?_) (AllReadyH.cons (o := _) rfl (fun K hK => ?_) AllReadyH.nil)
        · go_simp
          refine (copyNetwork_any _ N _ B1 (HV1.out.below (bb.mono hB1)) (Nat.le_trans hB1 bb.size) HS1.out).mono ?_
          rintro e wp ⟨xp, rfl, own2, belp⟩
          obtain ⟨a3, c3, ai3, ci3, ap3, cp3, rfl, own2⟩ := own2.shape
          replace own2 := own2.wide (lo' := mi) (by omega) (Nat.le_refl _)
          replace BA := BA.new belp
          replace BB := BB.new belp
          replace BR := BR.new belp
          replace BO := BO.new belp
          replace own1 := own1.new belp
          have z_belp := belp.size
          replace bb := bb.trans (belp.mono bb.size)
          clear belp
          refine hK.out _ _ ⟨BA.cell 0 _ rfl, BA.cell 1 _ rfl, BA.cell 2 _ rfl, BB.cell 0 _ rfl, BB.cell 1 _ rfl, BB.cell 2 _ rfl⟩ (fun hHeld => ?_)
          clear hK K
          try simp only [Act.put, List.getElem_toArray, List.getElem_cons_zero, List.getElem_cons_succ, List.setIfInBounds_toArray, List.set_cons_zero, List.set_cons_succ]
          refine wpAnyH_ready (rs := [5]) (by kernel_rfl) (by simp) ?_
          refine AllReadyH.cons (o := _) rfl (fun K hK => ?_) AllReadyH.nil
          · go_simp
            have BP := Bx.made wp 29 #[.slice none 0 0, .slice none 0 0, .slice none 0 0]
            have ba : Below wp.heap.size wp (wp.alloc (.cells #[.slice none 0 0, .slice none 0 0, .slice none 0 0] 29)) := (by repeat (first | exact Below.refl _ _ | assumption | refine Below.alloc ?_ (by first | (simp; done) | (simp; omega) | omega) _ | refine Below.setCell ?_ (by first | (simp; done) | (simp; omega) | omega) _ | refine Below.drew ?_ | refine Below.drewN ?_ _))
            replace BA := BA.new ba
            replace BB := BB.new ba
            replace BR := BR.new ba
            replace BO := BO.new ba
            replace own1 := own1.new ba
            replace own2 := own2.new ba
            have z_ba := ba.size
            replace bb := bb.trans (ba.mono bb.size)
            obtain ⟨gp, hgp⟩ : ∃ g, g = wp.heap.size := ⟨_, rfl⟩
            rw [← hgp] at BP ⊢
            have zgp : w.heap.size + 1 + 1 + 1 ≤ gp := by omega
            have hne : go ≠ gp := by have h9 := zold; omega
            clear ba hgp
            generalize wp.alloc (.cells #[.slice none 0 0, .slice none 0 0, .slice none 0 0] 29) = wq at *
            refine hK.out _ _ ⟨BA.cell 0 _ rfl, BA.cell 1 _ rfl, BA.cell 2 _ rfl, BB.cell 0 _ rfl, BB.cell 1 _ rfl, BB.cell 2 _ rfl⟩ (fun hHeld => ?_)
            clear hK K
            try simp only [Act.put, List.getElem_toArray, List.getElem_cons_zero, List.getElem_cons_succ, List.setIfInBounds_toArray, List.set_cons_zero, List.set_cons_succ]
            refine wpAnyH_ready (rs := [6]) (by kernel_rfl) (by simp) ?_
            refine AllReadyH.cons (o := _) rfl (fun K hK => ?_) AllReadyH.nil
            have c0' := BO.cell 0 _ rfl
            have f0' := BO.frozen 0
            have c1' := BO.cell 1 _ rfl
            have f1' := BO.frozen 1
            have c2' := BO.cell 2 _ rfl
            have f2' := BO.frozen 2
            go_simp
            clear c0' c1' c2' f0' f1' f2'
            generalize hW : World.setCell _ _ _ = WO
            have BN : Bx WO go 29 #[.slice a2 M.ends.length c2, .slice ai2 M.ids.length ci2, .slice ap2 M.inputs.length cp2] := by rw [← hW]; exact ((BO.set 0 _).set 1 _).set 2 _
            have frW : Fr (fun k => k = go) wq WO := by rw [← hW]; exact fr3 _ _ _ _ _
            clear hW
            replace own1 := own1.frBx BO frW
            replace own2 := (own2.frBx BO frW).wide (hi' := WO.heap.size) (Nat.le_refl _) (by have := frW.size; omega)
            replace BO := BN
            clear BN
            replace BP := BP.fr frW (by omega)
            replace BA := BA.fr frW (by omega)
            replace BB := BB.fr frW (by omega)
            replace BR := BR.fr frW (by omega)
            replace bb := bb.trans (frW.below (B := w.heap.size) (fun k h1 h2 hc => by omega) bb.size)
            have z_WO := frW.size
            clear frW
            refine hK.out _ _ ⟨BA.cell 0 _ rfl, BA.cell 1 _ rfl, BA.cell 2 _ rfl, BB.cell 0 _ rfl, BB.cell 1 _ rfl, BB.cell 2 _ rfl⟩ (fun hHeld => ?_)
            clear hK K
            try simp only [Act.put, List.getElem_toArray, List.getElem_cons_zero, List.getElem_cons_succ, List.setIfInBounds_toArray, List.set_cons_zero, List.set_cons_succ]
            refine wpAnyH_ready (rs := [7]) (by kernel_rfl) (by simp) ?_
            refine AllReadyH.cons (o := _) rfl (fun K hK => ?_) AllReadyH.nil
            have c0' := BP.cell 0 _ rfl
            have f0' := BP.frozen 0
            have c1' := BP.cell 1 _ rfl
            have f1' := BP.frozen 1
            have c2' := BP.cell 2 _ rfl
            have f2' := BP.frozen 2
            go_simp
            clear c0' c1' c2' f0' f1' f2'
            generalize hW : World.setCell _ _ _ = WP
            have BN : Bx WP gp 29 #[.slice a3 N.ends.length c3, .slice ai3 N.ids.length ci3, .slice ap3 N.inputs.length cp3] := by rw [← hW]; exact ((BP.set 0 _).set 1 _).set 2 _
            have frW : Fr (fun k => k = gp) WO WP := by rw [← hW]; exact fr3 _ _ _ _ _
            clear hW
            replace own1 := own1.frBx BP frW
            replace own2 := (own2.frBx BP frW).wide (hi' := WP.heap.size) (Nat.le_refl _) (by have := frW.size; omega)
            replace BP := BN
            clear BN
            replace BO := BO.fr frW (by omega)
            replace BA := BA.fr frW (by omega)
            replace BB := BB.fr frW (by omega)
            replace BR := BR.fr frW (by omega)
            replace bb := bb.trans (frW.below (B := w.heap.size) (fun k h1 h2 hc => by omega) bb.size)
            have z_WP := frW.size
            clear frW
            refine hK.out _ _ ⟨BA.cell 0 _ rfl, BA.cell 1 _ rfl, BA.cell 2 _ rfl, BB.cell 0 _ rfl, BB.cell 1 _ rfl, BB.cell 2 _ rfl⟩ (fun hHeld => ?_)
            clear hK K
            try simp only [Act.put, List.getElem_toArray, List.getElem_cons_zero, List.getElem_cons_succ, List.setIfInBounds_toArray, List.set_cons_zero, List.set_cons_succ]
            refine wpAnyH_done (by kernel_rfl) ?_ _
            go_wp2_with fail
            go_meet
            exact ⟨go, gp, mi, a2, c2, ai2, ci2, ap2, cp2, a3, c3, ai3, ci3, ap3, cp3, rfl, rfl, BO, BP, BA, BB, BR, own1, own2, zmi2, by omega, zgo, zgp, hne, bb⟩
        · go_simp
          have BP := Bx.made wo 29 #[.slice none 0 0, .slice none 0 0, .slice none 0 0]
          have ba : Below wo.heap.size wo (wo.alloc (.cells #[.slice none 0 0, .slice none 0 0, .slice none 0 0] 29)) := (by repeat (first | exact Below.refl _ _ | assumption | refine Below.alloc ?_ (by first | (simp; done) | (simp; omega) | omega) _ | refine Below.setCell ?_ (by first | (simp; done) | (simp; omega) | omega) _ | refine Below.drew ?_ | refine Below.drewN ?_ _))
          replace BA := BA.new ba
          replace BB := BB.new ba
          replace BR := BR.new ba
          replace BO := BO.new ba
          replace own1 := own1.new ba
          have z_ba := ba.size
          replace bb := bb.trans (ba.mono bb.size)
          obtain ⟨gp, hgp⟩ : ∃ g, g = wo.heap.size := ⟨_, rfl⟩
          rw [← hgp] at BP ⊢
          have zgp : w.heap.size + 1 + 1 + 1 ≤ gp := by omega
          have hne : go ≠ gp := by have h9 := zold; omega
          clear ba hgp
          generalize wo.alloc (.cells #[.slice none 0 0, .slice none 0 0, .slice none 0 0] 29) = wq at *
          refine hK.out _ _ ⟨BA.cell 0 _ rfl, BA.cell 1 _ rfl, BA.cell 2 _ rfl, BB.cell 0 _ rfl, BB.cell 1 _ rfl, BB.cell 2 _ rfl⟩ (fun hHeld => ?_)
          clear hK K
          try simp only [Act.put, List.getElem_toArray, List.getElem_cons_zero, List.getElem_cons_succ, List.setIfInBounds_toArray, List.set_cons_zero, List.set_cons_succ]
          refine wpAnyH_ready (rs := [3]) (by kernel_rfl) (by simp) ?_
          refine AllReadyH.cons (o := _) rfl (fun K hK => ?_) AllReadyH.nil
          · go_simp
            refine (copyNetwork_any _ N _ B1 (HV1.out.below (bb.mono hB1)) (Nat.le_trans hB1 bb.size) HS1.out).mono ?_
            rintro e wp ⟨xp, rfl, own2, belp⟩
            obtain ⟨a3, c3, ai3, ci3, ap3, cp3, rfl, own2⟩ := own2.shape
            replace own2 := own2.wide (lo' := mi) (by omega) (Nat.le_refl _)
            replace BA := BA.new belp
            replace BB := BB.new belp
            replace BR := BR.new belp
            replace BO := BO.new belp
            replace BP := BP.new belp
            replace own1 := own1.new belp
            have z_belp := belp.size
            replace bb := bb.trans (belp.mono bb.size)
            clear belp
            refine hK.out _ _ ⟨BA.cell 0 _ rfl, BA.cell 1 _ rfl, BA.cell 2 _ rfl, BB.cell 0 _ rfl, BB.cell 1 _ rfl, BB.cell 2 _ rfl⟩ (fun hHeld => ?_)
            clear hK K
            try simp only [Act.put, List.getElem_toArray, List.getElem_cons_zero, List.getElem_cons_succ, List.setIfInBounds_toArray, List.set_cons_zero, List.set_cons_succ]
            refine wpAnyH_ready (rs := [6]) (by kernel_rfl) (by simp) ?_
            refine AllReadyH.cons (o := _) rfl (fun K hK => ?_) AllReadyH.nil
            have c0' := BO.cell 0 _ rfl
            have f0' := BO.frozen 0
            have c1' := BO.cell 1 _ rfl
            have f1' := BO.frozen 1
            have c2' := BO.cell 2 _ rfl
            have f2' := BO.frozen 2
            go_simp
            clear c0' c1' c2' f0' f1' f2'
            generalize hW : World.setCell _ _ _ = WO
            have BN : Bx WO go 29 #[.slice a2 M.ends.length c2, .slice ai2 M.ids.length ci2, .slice ap2 M.inputs.length cp2] := by rw [← hW]; exact ((BO.set 0 _).set 1 _).set 2 _
            have frW : Fr (fun k => k = go) wp WO := by rw [← hW]; exact fr3 _ _ _ _ _
            clear hW
            replace own1 := own1.frBx BO frW
            replace own2 := (own2.frBx BO frW).wide (hi' := WO.heap.size) (Nat.le_refl _) (by have := frW.size; omega)
            replace BO := BN
            clear BN
            replace BP := BP.fr frW (by omega)
            replace BA := BA.fr frW (by omega)
            replace BB := BB.fr frW (by omega)
            replace BR := BR.fr frW (by omega)
            replace bb := bb.trans (frW.below (B := w.heap.size) (fun k h1 h2 hc => by omega) bb.size)
            have z_WO := frW.size
            clear frW
            refine hK.out _ _ ⟨BA.cell 0 _ rfl, BA.cell 1 _ rfl, BA.cell 2 _ rfl, BB.cell 0 _ rfl, BB.cell 1 _ rfl, BB.cell 2 _ rfl⟩ (fun hHeld => ?_)
            clear hK K
            try simp only [Act.put, List.getElem_toArray, List.getElem_cons_zero, List.getElem_cons_succ, List.setIfInBounds_toArray, List.set_cons_zero, List.set_cons_succ]
            refine wpAnyH_ready (rs := [7]) (by kernel_rfl) (by simp) ?_
            refine AllReadyH.cons (o := _) rfl (fun K hK => ?_) AllReadyH.nil
            have c0' := BP.cell 0 _ rfl
            have f0' := BP.frozen 0
            have c1' := BP.cell 1 _ rfl
            have f1' := BP.frozen 1
            have c2' := BP.cell 2 _ rfl
            have f2' := BP.frozen 2
            go_simp
            clear c0' c1' c2' f0' f1' f2'
            generalize hW : World.setCell _ _ _ = WP
            have BN : Bx WP gp 29 #[.slice a3 N.ends.length c3, .slice ai3 N.ids.length ci3, .slice ap3 N.inputs.length cp3] := by rw [← hW]; exact ((BP.set 0 _).set 1 _).set 2 _
            have frW : Fr (fun k => k = gp) WO WP := by rw [← hW]; exact fr3 _ _ _ _ _
            clear hW
            replace own1 := own1.frBx BP frW
            replace own2 := (own2.frBx BP frW).wide (hi' := WP.heap.size) (Nat.le_refl _) (by have := frW.size; omega)
            replace BP := BN
            clear BN
            replace BO := BO.fr frW (by omega)
            replace BA := BA.fr frW (by omega)
            replace BB := BB.fr frW (by omega)
            replace BR := BR.fr frW (by omega)
            replace bb := bb.trans (frW.below (B := w.heap.size) (fun k h1 h2 hc => by omega) bb.size)
            have z_WP := frW.size
            clear frW
            refine hK.out _ _ ⟨BA.cell 0 _ rfl, BA.cell 1 _ rfl, BA.cell 2 _ rfl, BB.cell 0 _ rfl, BB.cell 1 _ rfl, BB.cell 2 _ rfl⟩ (fun hHeld => ?_)
            clear hK K
            try simp only [Act.put, List.getElem_toArray, List.getElem_cons_zero, List.getElem_cons_succ, List.setIfInBounds_toArray, List.set_cons_zero, List.set_cons_succ]
            refine wpAnyH_done (by kernel_rfl) ?_ _
            go_wp2_with fail
            go_meet
            exact ⟨go, gp, mi, a2, c2, ai2, ci2, ap2, cp2, a3, c3, ai3, ci3, ap3, cp3, rfl, rfl, BO, BP, BA, BB, BR, own1, own2, zmi2, by omega, zgo, zgp, hne, bb⟩
      · go_simp
        have BP := Bx.made wi 29 #[.slice none 0 0, .slice none 0 0, .slice none 0 0]
        have ba : Below wi.heap.size wi (wi.alloc (.cells #[.slice none 0 0, .slice none 0 0, .slice none 0 0] 29)) := (by repeat (first | exact Below.refl _ _ | assumption | refine Below.alloc ?_ (by first | (simp; done) | (simp; omega) | omega) _ | refine Below.setCell ?_ (by first | (simp; done) | (simp; omega) | omega) _ | refine Below.drew ?_ | refine Below.drewN ?_ _))
        replace BA := BA.new ba
        replace BB := BB.new ba
        replace BR := BR.new ba
        replace own1 := own1.new ba
        have z_ba := ba.size
        replace bb := bb.trans (ba.mono bb.size)
        obtain ⟨gp, hgp⟩ : ∃ g, g = wi.heap.size := ⟨_, rfl⟩
        rw [← hgp] at BP ⊢
        have zgp : w.heap.size + 1 + 1 + 1 ≤ gp := by omega
        have zold : gp < (wi.alloc (.cells #[.slice none 0 0, .slice none 0 0, .slice none 0 0] 29)).heap.size := by simp; omega
        clear ba hgp
        generalize wi.alloc (.cells #[.slice none 0 0, .slice none 0 0, .slice none 0 0] 29) = wq at *
        refine hK.out _ _ ⟨BA.cell 0 _ rfl, BA.cell 1 _ rfl, BA.cell 2 _ rfl, BB.cell 0 _ rfl, BB.cell 1 _ rfl, BB.cell 2 _ rfl⟩ (fun hHeld => ?_)
        clear hK K
        try simp only [Act.put, List.getElem_toArray, List.getElem_cons_zero, List.getElem_cons_succ, List.setIfInBounds_toArray, List.set_cons_zero, List.set_cons_succ]
        refine wpAnyH_ready (rs := [3, 4]) (by kernel_rfl) (by simp) ?_
        refine AllReadyH.cons (o := _) rfl (fun K hK => ?_) (AllReadyH.cons (o := _) rfl (fun K hK => ?_) AllReadyH.nil)
        · go_simp
          refine (copyNetwork_any _ N _ B1 (HV1.out.below (bb.mono hB1)) (Nat.le_trans hB1 bb.size) HS1.out).mono ?_
          rintro e wp ⟨xp, rfl, own2, belp⟩
          obtain ⟨a3, c3, ai3, ci3, ap3, cp3, rfl, own2⟩ := own2.shape
          replace own2 := own2.wide (lo' := mi) (by omega) (Nat.le_refl _)
          replace BA := BA.new belp
          replace BB := BB.new belp
          replace BR := BR.new belp
          replace BP := BP.new belp
          replace own1 := own1.new belp
          have z_belp := belp.size
          replace bb := bb.trans (belp.mono bb.size)
          clear belp
          refine hK.out _ _ ⟨BA.cell 0 _ rfl, BA.cell 1 _ rfl, BA.cell 2 _ rfl, BB.cell 0 _ rfl, BB.cell 1 _ rfl, BB.cell 2 _ rfl⟩ (fun hHeld => ?_)
          clear hK K
          try simp only [Act.put, List.getElem_toArray, List.getElem_cons_zero, List.getElem_cons_succ, List.setIfInBounds_toArray, List.set_cons_zero, List.set_cons_succ]
          refine wpAnyH_ready (rs := [4]) (by kernel_rfl) (by simp) ?_
          refine AllReadyH.cons (o := _) rfl (fun K hK => ?_) AllReadyH.nil
          · go_simp
            have BO := Bx.made wp 29 #[.slice none 0 0, .slice none 0 0, .slice none 0 0]
            have ba : Below wp.heap.size wp (wp.alloc (.cells #[.slice none 0 0, .slice none 0 0, .slice none 0 0] 29)) := (by repeat (first | exact Below.refl _ _ | assumption | refine Below.alloc ?_ (by first | (simp; done) | (simp; omega) | omega) _ | refine Below.setCell ?_ (by first | (simp; done) | (simp; omega) | omega) _ | refine Below.drew ?_ | refine Below.drewN ?_ _))
            replace BA := BA.new ba
            replace BB := BB.new ba
            replace BR := BR.new ba
            replace BP := BP.new ba
            replace own1 := own1.new ba
            replace own2 := own2.new ba
            have z_ba := ba.size
            replace bb := bb.trans (ba.mono bb.size)
            obtain ⟨go, hgo⟩ : ∃ g, g = wp.heap.size := ⟨_, rfl⟩
            rw [← hgo] at BO ⊢
            have zgo : w.heap.size + 1 + 1 + 1 ≤ go := by omega
            have hne : go ≠ gp := by have h9 := zold; omega
            clear ba hgo
            generalize wp.alloc (.cells #[.slice none 0 0, .slice none 0 0, .slice none 0 0] 29) = wo at *
            refine hK.out _ _ ⟨BA.cell 0 _ rfl, BA.cell 1 _ rfl, BA.cell 2 _ rfl, BB.cell 0 _ rfl, BB.cell 1 _ rfl, BB.cell 2 _ rfl⟩ (fun hHeld => ?_)
            clear hK K
            try simp only [Act.put, List.getElem_toArray, List.getElem_cons_zero, List.getElem_cons_succ, List.setIfInBounds_toArray, List.set_cons_zero, List.set_cons_succ]
            refine wpAnyH_ready (rs := [6]) (by kernel_rfl) (by simp) ?_
            refine AllReadyH.cons (o := _) rfl (fun K hK => ?_) AllReadyH.nil
            have c0' := BO.cell 0 _ rfl
            have f0' := BO.frozen 0
            have c1' := BO.cell 1 _ rfl
            have f1' := BO.frozen 1
            have c2' := BO.cell 2 _ rfl
            have f2' := BO.frozen 2
            go_simp
            clear c0' c1' c2' f0' f1' f2'
            generalize hW : World.setCell _ _ _ = WO
            have BN : Bx WO go 29 #[.slice a2 M.ends.length c2, .slice ai2 M.ids.length ci2, .slice ap2 M.inputs.length cp2] := by rw [← hW]; exact ((BO.set 0 _).set 1 _).set 2 _
            have frW : Fr (fun k => k = go) wo WO := by rw [← hW]; exact fr3 _ _ _ _ _
            clear hW
            replace own1 := own1.frBx BO frW
            replace own2 := (own2.frBx BO frW).wide (hi' := WO.heap.size) (Nat.le_refl _) (by have := frW.size; omega)
            replace BO := BN
            clear BN
            replace BP := BP.fr frW (by omega)
            replace BA := BA.fr frW (by omega)
            replace BB := BB.fr frW (by omega)
            replace BR := BR.fr frW (by omega)
            replace bb := bb.trans (frW.below (B := w.heap.size) (fun k h1 h2 hc => by omega) bb.size)
            have z_WO := frW.size
            clear frW
            refine hK.out _ _ ⟨BA.cell 0 _ rfl, BA.cell 1 _ rfl, BA.cell 2 _ rfl, BB.cell 0 _ rfl, BB.cell 1 _ rfl, BB.cell 2 _ rfl⟩ (fun hHeld => ?_)
            clear hK K
            try simp only [Act.put, List.getElem_toArray, List.getElem_cons_zero, List.getElem_cons_succ, List.setIfInBounds_toArray, List.set_cons_zero, List.set_cons_succ]
            refine wpAnyH_ready (rs := [7]) (by kernel_rfl) (by simp) ?_
            refine AllReadyH.cons (o := _) rfl (fun K hK => ?_) AllReadyH.nil
            have c0' := BP.cell 0 _ rfl
            have f0' := BP.frozen 0
            have c1' := BP.cell 1 _ rfl
            have f1' := BP.frozen 1
            have c2' := BP.cell 2 _ rfl
            have f2' := BP.frozen 2
            go_simp
            clear c0' c1' c2' f0' f1' f2'
            generalize hW : World.setCell _ _ _ = WP
            have BN : Bx WP gp 29 #[.slice a3 N.ends.length c3, .slice ai3 N.ids.length ci3, .slice ap3 N.inputs.length cp3] := by rw [← hW]; exact ((BP.set 0 _).set 1 _).set 2 _
            have frW : Fr (fun k => k = gp) WO WP := by rw [← hW]; exact fr3 _ _ _ _ _
            clear hW
            replace own1 := own1.frBx BP frW
            replace own2 := (own2.frBx BP frW).wide (hi' := WP.heap.size) (Nat.le_refl _) (by have := frW.size; omega)
            replace BP := BN
            clear BN
            replace BO := BO.fr frW (by omega)
            replace BA := BA.fr frW (by omega)
            replace BB := BB.fr frW (by omega)
            replace BR := BR.fr frW (by omega)
            replace bb := bb.trans (frW.below (B := w.heap.size) (fun k h1 h2 hc => by omega) bb.size)
            have z_WP := frW.size
            clear frW
            refine hK.out _ _ ⟨BA.cell 0 _ rfl, BA.cell 1 _ rfl, BA.cell 2 _ rfl, BB.cell 0 _ rfl, BB.cell 1 _ rfl, BB.cell 2 _ rfl⟩ (fun hHeld => ?_)
            clear hK K
            try simp only [Act.put, List.getElem_toArray, List.getElem_cons_zero, List.getElem_cons_succ, List.setIfInBounds_toArray, List.set_cons_zero, List.set_cons_succ]
            refine wpAnyH_done (by kernel_rfl) ?_ _
            go_wp2_with fail
            go_meet
            exact ⟨go, gp, mi, a2, c2, ai2, ci2, ap2, cp2, a3, c3, ai3, ci3, ap3, cp3, rfl, rfl, BO, BP, BA, BB, BR, own1, own2, zmi2, by omega, zgo, zgp, hne, bb⟩
        · go_simp
          have BO := Bx.made wq 29 #[.slice none 0 0, .slice none 0 0, .slice none 0 0]
          have ba : Below wq.heap.size wq (wq.alloc (.cells #[.slice none 0 0, .slice none 0 0, .slice none 0 0] 29)) := (by repeat (first | exact Below.refl _ _ | assumption | refine Below.alloc ?_ (by first | (simp; done) | (simp; omega) | omega) _ | refine Below.setCell ?_ (by first | (simp; done) | (simp; omega) | omega) _ | refine Below.drew ?_ | refine Below.drewN ?_ _))
          replace BA := BA.new ba
          replace BB := BB.new ba
          replace BR := BR.new ba
          replace BP := BP.new ba
          replace own1 := own1.new ba
          have z_ba := ba.size
          replace bb := bb.trans (ba.mono bb.size)
          obtain ⟨go, hgo⟩ : ∃ g, g = wq.heap.size := ⟨_, rfl⟩
          rw [← hgo] at BO ⊢
          have zgo : w.heap.size + 1 + 1 + 1 ≤ go := by omega
          have hne : go ≠ gp := by have h9 := zold; omega
          clear ba hgo
          generalize wq.alloc (.cells #[.slice none 0 0, .slice none 0 0, .slice none 0 0] 29) = wo at *
          refine hK.out _ _ ⟨BA.cell 0 _ rfl, BA.cell 1 _ rfl, BA.cell 2 _ rfl, BB.cell 0 _ rfl, BB.cell 1 _ rfl, BB.cell 2 _ rfl⟩ (fun hHeld => ?_)
          clear hK K
          try simp only [Act.put, List.getElem_toArray, List.getElem_cons_zero, List.getElem_cons_succ, List.setIfInBounds_toArray, List.set_cons_zero, List.set_cons_succ]
          refine wpAnyH_ready (rs := [3]) (by kernel_rfl) (by simp) ?_
          refine AllReadyH.cons (o := _) rfl (fun K hK => ?_) AllReadyH.nil
          · go_simp
            refine (copyNetwork_any _ N _ B1 (HV1.out.below (bb.mono hB1)) (Nat.le_trans hB1 bb.size) HS1.out).mono ?_
            rintro e wp ⟨xp, rfl, own2, belp⟩
            obtain ⟨a3, c3, ai3, ci3, ap3, cp3, rfl, own2⟩ := own2.shape
            replace own2 := own2.wide (lo' := mi) (by omega) (Nat.le_refl _)
            replace BA := BA.new belp
            replace BB := BB.new belp
            replace BR := BR.new belp
            replace BO := BO.new belp
            replace BP := BP.new belp
            replace own1 := own1.new belp
            have z_belp := belp.size
            replace bb := bb.trans (belp.mono bb.size)
            clear belp
            refine hK.out _ _ ⟨BA.cell 0 _ rfl, BA.cell 1 _ rfl, BA.cell 2 _ rfl, BB.cell 0 _ rfl, BB.cell 1 _ rfl, BB.cell 2 _ rfl⟩ (fun hHeld => ?_)
            clear hK K
            try simp only [Act.put, List.getElem_toArray, List.getElem_cons_zero, List.getElem_cons_succ, List.setIfInBounds_toArray, List.set_cons_zero, List.set_cons_succ]
            refine wpAnyH_ready (rs := [6]) (by kernel_rfl) (by simp) ?_
            refine AllReadyH.cons (o := _) rfl (fun K hK => ?_) AllReadyH.nil
            have c0' := BO.cell 0 _ rfl
            have f0' := BO.frozen 0
            have c1' := BO.cell 1 _ rfl
            have f1' := BO.frozen 1
            have c2' := BO.cell 2 _ rfl
            have f2' := BO.frozen 2
            go_simp
            clear c0' c1' c2' f0' f1' f2'
            generalize hW : World.setCell _ _ _ = WO
            have BN : Bx WO go 29 #[.slice a2 M.ends.length c2, .slice ai2 M.ids.length ci2, .slice ap2 M.inputs.length cp2] := by rw [← hW]; exact ((BO.set 0 _).set 1 _).set 2 _
            have frW : Fr (fun k => k = go) wp WO := by rw [← hW]; exact fr3 _ _ _ _ _
            clear hW
            replace own1 := own1.frBx BO frW
            replace own2 := (own2.frBx BO frW).wide (hi' := WO.heap.size) (Nat.le_refl _) (by have := frW.size; omega)
            replace BO := BN
            clear BN
            replace BP := BP.fr frW (by omega)
            replace BA := BA.fr frW (by omega)
            replace BB := BB.fr frW (by omega)
            replace BR := BR.fr frW (by omega)
            replace bb := bb.trans (frW.below (B := w.heap.size) (fun k h1 h2 hc => by omega) bb.size)
            have z_WO := frW.size
            clear frW
            refine hK.out _ _ ⟨BA.cell 0 _ rfl, BA.cell 1 _ rfl, BA.cell 2 _ rfl, BB.cell 0 _ rfl, BB.cell 1 _ rfl, BB.cell 2 _ rfl⟩ (fun hHeld => ?_)
            clear hK K
            try simp only [Act.put, List.getElem_toArray, List.getElem_cons_zero, List.getElem_cons_succ, List.setIfInBounds_toArray, List.set_cons_zero, List.set_cons_succ]
            refine wpAnyH_ready (rs := [7]) (by kernel_rfl) (by simp) ?_
            refine AllReadyH.cons (o := _) rfl (fun K hK => ?_) AllReadyH.nil
            have c0' := BP.cell 0 _ rfl
            have f0' := BP.frozen 0
            have c1' := BP.cell 1 _ rfl
            have f1' := BP.frozen 1
            have c2' := BP.cell 2 _ rfl
            have f2' := BP.frozen 2
            go_simp
            clear c0' c1' c2' f0' f1' f2'
            generalize hW : World.setCell _ _ _ = WP
            have BN : Bx WP gp 29 #[.slice a3 N.ends.length c3, .slice ai3 N.ids.length ci3, .slice ap3 N.inputs.length cp3] := by rw [← hW]; exact ((BP.set 0 _).set 1 _).set 2 _
            have frW : Fr (fun k => k = gp) WO WP := by rw [← hW]; exact fr3 _ _ _ _ _
            clear hW
            replace own1 := own1.frBx BP frW
            replace own2 := (own2.frBx BP frW).wide (hi' := WP.heap.size) (Nat.le_refl _) (by have := frW.size; omega)
            replace BP := BN
            clear BN
            replace BO := BO.fr frW (by omega)
            replace BA := BA.fr frW (by omega)
            replace BB := BB.fr frW (by omega)
            replace BR := BR.fr frW (by omega)
            replace bb := bb.trans (frW.below (B := w.heap.size) (fun k h1 h2 hc => by omega) bb.size)
            have z_WP := frW.size
            clear frW
            refine hK.out _ _ ⟨BA.cell 0 _ rfl, BA.cell 1 _ rfl, BA.cell 2 _ rfl, BB.cell 0 _ rfl, BB.cell 1 _ rfl, BB.cell 2 _ rfl⟩ (fun hHeld => ?_)
            clear hK K
            try simp only [Act.put, List.getElem_toArray, List.getElem_cons_zero, List.getElem_cons_succ, List.setIfInBounds_toArray, List.set_cons_zero, List.set_cons_succ]
            refine wpAnyH_done (by kernel_rfl) ?_ _
            go_wp2_with fail
            go_meet
            exact ⟨go, gp, mi, a2, c2, ai2, ci2, ap2, cp2, a3, c3, ai3, ci3, ap3, cp3, rfl, rfl, BO, BP, BA, BB, BR, own1, own2, zmi2, by omega, zgo, zgp, hne, bb⟩
    · go_simp
      have BO := Bx.made wd 29 #[.slice none 0 0, .slice none 0 0, .slice none 0 0]
      have ba : Below wd.heap.size wd (wd.alloc (.cells #[.slice none 0 0, .slice none 0 0, .slice none 0 0] 29)) := (by repeat (first | exact Below.refl _ _ | assumption | refine Below.alloc ?_ (by first | (simp; done) | (simp; omega) | omega) _ | refine Below.setCell ?_ (by first | (simp; done) | (simp; omega) | omega) _ | refine Below.drew ?_ | refine Below.drewN ?_ _))
      replace BA := BA.new ba
      replace BB := BB.new ba
      replace BR := BR.new ba
      have z_ba := ba.size
      replace bb := bb.trans (ba.mono bb.size)
      obtain ⟨go, hgo⟩ : ∃ g, g = wd.heap.size := ⟨_, rfl⟩
      rw [← hgo] at BO ⊢
      have zgo : w.heap.size + 1 + 1 + 1 ≤ go := by omega
      have zold : go < (wd.alloc (.cells #[.slice none 0 0, .slice none 0 0, .slice none 0 0] 29)).heap.size := by simp; omega
      clear ba hgo
      generalize wd.alloc (.cells #[.slice none 0 0, .slice none 0 0, .slice none 0 0] 29) = wo at *
      refine hK.out _ _ ⟨BA.cell 0 _ rfl, BA.cell 1 _ rfl, BA.cell 2 _ rfl, BB.cell 0 _ rfl, BB.cell 1 _ rfl, BB.cell 2 _ rfl⟩ (fun hHeld => ?_)
      clear hK K
      try simp only [Act.put, List.getElem_toArray, List.getElem_cons_zero, List.getElem_cons_succ, List.setIfInBounds_toArray, List.set_cons_zero, List.set_cons_succ]
      refine wpAnyH_ready (rs := [1, 5]) (by kernel_rfl) (by simp) ?_
      refine AllReadyH.cons (o := _) rfl (fun K hK => ?_) (AllReadyH.cons (o := _) rfl (fun K hK => ?_) AllReadyH.nil)
      · go_simp
        refine (copyNetwork_any _ M _ B0 (HV0.out.below (bb.mono hB0)) (Nat.le_trans hB0 bb.size) HS0.out).mono ?_
        rintro e wi ⟨xi, rfl, own1, beli⟩
        obtain ⟨a2, c2, ai2, ci2, ap2, cp2, rfl, own1⟩ := own1.shape
        replace own1 := own1.wide (lo' := w.heap.size + 1 + 1 + 1) (by omega) (Nat.le_refl _)
        replace BA := BA.new beli
        replace BB := BB.new beli
        replace BR := BR.new beli
        replace BO := BO.new beli
        have z_beli := beli.size
        replace bb := bb.trans (beli.mono bb.size)
        obtain ⟨mi, hmi⟩ : ∃ mi, mi = wi.heap.size := ⟨_, rfl⟩
        rw [← hmi] at own1
        have zmi : mi ≤ wi.heap.size := by omega
        have zmi2 : w.heap.size + 1 + 1 + 1 ≤ mi := by omega
        clear beli hmi
        refine hK.out _ _ ⟨BA.cell 0 _ rfl, BA.cell 1 _ rfl, BA.cell 2 _ rfl, BB.cell 0 _ rfl, BB.cell 1 _ rfl, BB.cell 2 _ rfl⟩ (fun hHeld => ?_)
        clear hK K
        try simp only [Act.put, List.getElem_toArray, List.getElem_cons_zero, List.getElem_cons_succ, List.setIfInBounds_toArray, List.set_cons_zero, List.set_cons_succ]
        refine wpAnyH_ready (rs := [3, 5]) (by kernel_rfl) (by simp) ?_
        refine AllReadyH.cons (o := _) rfl (fun K hK => ?_) (AllReadyH.cons (o := _) rfl (fun K hK => ?_) AllReadyH.nil)
        · go_simp
          refine (copyNetwork_any _ N _ B1 (HV1.out.below (bb.mono hB1)) (Nat.le_trans hB1 bb.size) HS1.out).mono ?_
          rintro e wp ⟨xp, rfl, own2, belp⟩
          obtain ⟨a3, c3, ai3, ci3, ap3, cp3, rfl, own2⟩ := own2.shape
          replace own2 := own2.wide (lo' := mi) (by omega) (Nat.le_refl _)
          replace BA := BA.new belp
          replace BB := BB.new belp
          replace BR := BR.new belp
          replace BO := BO.new belp
          replace own1 := own1.new belp
          have z_belp := belp.size
          replace bb := bb.trans (belp.mono bb.size)
          clear belp
          refine hK.out _ _ ⟨BA.cell 0 _ rfl, BA.cell 1 _ rfl, BA.cell 2 _ rfl, BB.cell 0 _ rfl, BB.cell 1 _ rfl, BB.cell 2 _ rfl⟩ (fun hHeld => ?_)
          clear hK K
          try simp only [Act.put, List.getElem_toArray, List.getElem_cons_zero, List.getElem_cons_succ, List.setIfInBounds_toArray, List.set_cons_zero, List.set_cons_succ]
          refine wpAnyH_ready (rs := [5]) (by kernel_rfl) (by simp) ?_
          refine AllReadyH.cons (o := _) rfl (fun K hK => ?_) AllReadyH.nil
          · go_simp
            have BP := Bx.made wp 29 #[.slice none 0 0, .slice none 0 0, .slice none 0 0]
            have ba : Below wp.heap.size wp (wp.alloc (.cells #[.slice none 0 0, .slice none 0 0, .slice none 0 0] 29)) := (by repeat (first | exact Below.refl _ _ | assumption | refine Below.alloc ?_ (by first | (simp; done) | (simp; omega) | omega) _ | refine Below.setCell ?_ (by first | (simp; done) | (simp; omega) | omega) _ | refine Below.drew ?_ | refine Below.drewN ?_ _))
            replace BA := BA.new ba
            replace BB := BB.new ba
            replace BR := BR.new ba
            replace BO := BO.new ba
            replace own1 := own1.new ba
            replace own2 := own2.new ba
            have z_ba := ba.size
            replace bb := bb.trans (ba.mono bb.size)
            obtain ⟨gp, hgp⟩ : ∃ g, g = wp.heap.size := ⟨_, rfl⟩
            rw [← hgp] at BP ⊢
            have zgp : w.heap.size + 1 + 1 + 1 ≤ gp := by omega
            have hne : go ≠ gp := by have h9 := zold; omega
            clear ba hgp
            generalize wp.alloc (.cells #[.slice none 0 0, .slice none 0 0, .slice none 0 0] 29) = wq at *
            refine hK.out _ _ ⟨BA.cell 0 _ rfl, BA.cell 1 _ rfl, BA.cell 2 _ rfl, BB.cell 0 _ rfl, BB.cell 1 _ rfl, BB.cell 2 _ rfl⟩ (fun hHeld => ?_)
            clear hK K
            try simp only [Act.put, List.getElem_toArray, List.getElem_cons_zero, List.getElem_cons_succ, List.setIfInBounds_toArray, List.set_cons_zero, List.set_cons_succ]
            refine wpAnyH_ready (rs := [6]) (by kernel_rfl) (by simp) ?_
            refine AllReadyH.cons (o := _) rfl (fun K hK => ?_) AllReadyH.nil
            have c0' := BO.cell 0 _ rfl
            have f0' := BO.frozen 0
            have c1' := BO.cell 1 _ rfl
            have f1' := BO.frozen 1
            have c2' := BO.cell 2 _ rfl
            have f2' := BO.frozen 2
            go_simp
            clear c0' c1' c2' f0' f1' f2'
            generalize hW : World.setCell _ _ _ = WO
            have BN : Bx WO go 29 #[.slice a2 M.ends.length c2, .slice ai2 M.ids.length ci2, .slice ap2 M.inputs.length cp2] := by rw [← hW]; exact ((BO.set 0 _).set 1 _).set 2 _
            have frW : Fr (fun k => k = go) wq WO := by rw [← hW]; exact fr3 _ _ _ _ _
            clear hW
            replace own1 := own1.frBx BO frW
            replace own2 := (own2.frBx BO frW).wide (hi' := WO.heap.size) (Nat.le_refl _) (by have := frW.size; omega)
            replace BO := BN
            clear BN
            replace BP := BP.fr frW (by omega)
            replace BA := BA.fr frW (by omega)
            replace BB := BB.fr frW (by omega)
            replace BR := BR.fr frW (by omega)
            replace bb := bb.trans (frW.below (B := w.heap.size) (fun k h1 h2 hc => by omega) bb.size)
            have z_WO := frW.size
            clear frW
            refine hK.out _ _ ⟨BA.cell 0 _ rfl, BA.cell 1 _ rfl, BA.cell 2 _ rfl, BB.cell 0 _ rfl, BB.cell 1 _ rfl, BB.cell 2 _ rfl⟩ (fun hHeld => ?_)
            clear hK K
            try simp only [Act.put, List.getElem_toArray, List.getElem_cons_zero, List.getElem_cons_succ, List.setIfInBounds_toArray, List.set_cons_zero, List.set_cons_succ]
            refine wpAnyH_ready (rs := [7]) (by kernel_rfl) (by simp) ?_
            refine AllReadyH.cons (o := _) rfl (fun K hK => ?_) AllReadyH.nil
            have c0' := BP.cell 0 _ rfl
            have f0' := BP.frozen 0
            have c1' := BP.cell 1 _ rfl
            have f1' := BP.frozen 1
            have c2' := BP.cell 2 _ rfl
            have f2' := BP.frozen 2
            go_simp
            clear c0' c1' c2' f0' f1' f2'
            generalize hW : World.setCell _ _ _ = WP
            have BN : Bx WP gp 29 #[.slice a3 N.ends.length c3, .slice ai3 N.ids.length ci3, .slice ap3 N.inputs.length cp3] := by rw [← hW]; exact ((BP.set 0 _).set 1 _).set 2 _
            have frW : Fr (fun k => k = gp) WO WP := by rw [← hW]; exact fr3 _ _ _ _ _
            clear hW
            replace own1 := own1.frBx BP frW
            replace own2 := (own2.frBx BP frW).wide (hi' := WP.heap.size) (Nat.le_refl _) (by have := frW.size; omega)
            replace BP := BN
            clear BN
            replace BO := BO.fr frW (by omega)
            replace BA := BA.fr frW (by omega)
            replace BB := BB.fr frW (by omega)
            replace BR := BR.fr frW (by omega)
            replace bb := bb.trans (frW.below (B := w.heap.size) (fun k h1 h2 hc => by omega) bb.size)
            have z_WP := frW.size
            clear frW
            refine hK.out _ _ ⟨BA.cell 0 _ rfl, BA.cell 1 _ rfl, BA.cell 2 _ rfl, BB.cell 0 _ rfl, BB.cell 1 _ rfl, BB.cell 2 _ rfl⟩ (fun hHeld => ?_)
            clear hK K
            try simp only [Act.put, List.getElem_toArray, List.getElem_cons_zero, List.getElem_cons_succ, List.setIfInBounds_toArray, List.set_cons_zero, List.set_cons_succ]
            refine wpAnyH_done (by kernel_rfl) ?_ _
            go_wp2_with fail
            go_meet
            exact ⟨go, gp, mi, a2, c2, ai2, ci2, ap2, cp2, a3, c3, ai3, ci3, ap3, cp3, rfl, rfl, BO, BP, BA, BB, BR, own1, own2, zmi2, by omega, zgo, zgp, hne, bb⟩
        · go_simp
          have BP := Bx.made wi 29 #[.slice none 0 0, .slice none 0 0, .slice none 0 0]
          have ba : Below wi.heap.size wi (wi.alloc (.cells #[.slice none 0 0, .slice none 0 0, .slice none 0 0] 29)) := (by repeat (first | exact Below.refl _ _ | assumption | refine Below.alloc ?_ (by first | (simp; done) | (simp; omega) | omega) _ | refine Below.setCell ?_ (by first | (simp; done) | (simp; omega) | omega) _ | refine Below.drew ?_ | refine Below.drewN ?_ _))
          replace BA := BA.new ba
          replace BB := BB.new ba
          replace BR := BR.new ba
          replace BO := BO.new ba
          replace own1 := own1.new ba
          have z_ba := ba.size
          replace bb := bb.trans (ba.mono bb.size)
          obtain ⟨gp, hgp⟩ : ∃ g, g = wi.heap.size := ⟨_, rfl⟩
          rw [← hgp] at BP ⊢
          have zgp : w.heap.size + 1 + 1 + 1 ≤ gp := by omega
          have hne : go ≠ gp := by have h9 := zold; omega
          clear ba hgp
          generalize wi.alloc (.cells #[.slice none 0 0, .slice none 0 0, .slice none 0 0] 29) = wq at *
          refine hK.out _ _ ⟨BA.cell 0 _ rfl, BA.cell 1 _ rfl, BA.cell 2 _ rfl, BB.cell 0 _ rfl, BB.cell 1 _ rfl, BB.cell 2 _ rfl⟩ (fun hHeld => ?_)
          clear hK K
          try simp only [Act.put, List.getElem_toArray, List.getElem_cons_zero, List.getElem_cons_succ, List.setIfInBounds_toArray, List.set_cons_zero, List.set_cons_succ]
          refine wpAnyH_ready (rs := [3]) (by kernel_rfl) (by simp) ?_
          refine AllReadyH.cons (o := _) rfl (fun K hK => ?_) AllReadyH.nil
          · go_simp
            refine (copyNetwork_any _ N _ B1 (HV1.out.below (bb.mono hB1)) (Nat.le_trans hB1 bb.size) HS1.out).mono ?_
            rintro e wp ⟨xp, rfl, own2, belp⟩
            obtain ⟨a3, c3, ai3, ci3, ap3, cp3, rfl, own2⟩ := own2.shape
            replace own2 := own2.wide (lo' := mi) (by omega) (Nat.le_refl _)
            replace BA := BA.new belp
            replace BB := BB.new belp
            replace BR := BR.new belp
            replace BO := BO.new belp
            replace BP := BP.new belp
            replace own1 := own1.new belp
            have z_belp := belp.size
            replace bb := bb.trans (belp.mono bb.size)
            clear belp
            refine hK.out _ _ ⟨BA.cell 0 _ rfl, BA.cell 1 _ rfl, BA.cell 2 _ rfl, BB.cell 0 _ rfl, BB.cell 1 _ rfl, BB.cell 2 _ rfl⟩ (fun hHeld => ?_)
            clear hK K
            try simp only [Act.put, List.getElem_toArray, List.getElem_cons_zero, List.getElem_cons_succ, List.setIfInBounds_toArray, List.set_cons_zero, List.set_cons_succ]
            refine wpAnyH_ready (rs := [6]) (by kernel_rfl) (by simp) ?_
            refine AllReadyH.cons (o := _) rfl (fun K hK => ?_) AllReadyH.nil
            have c0' := BO.cell 0 _ rfl
            have f0' := BO.frozen 0
            have c1' := BO.cell 1 _ rfl
            have f1' := BO.frozen 1
            have c2' := BO.cell 2 _ rfl
            have f2' := BO.frozen 2
            go_simp
            clear c0' c1' c2' f0' f1' f2'
            generalize hW : World.setCell _ _ _ = WO
            have BN : Bx WO go 29 #[.slice a2 M.ends.length c2, .slice ai2 M.ids.length ci2, .slice ap2 M.inputs.length cp2] := by rw [← hW]; exact ((BO.set 0 _).set 1 _).set 2 _
            have frW : Fr (fun k => k = go) wp WO := by rw [← hW]; exact fr3 _ _ _ _ _
            clear hW
            replace own1 := own1.frBx BO frW
            replace own2 := (own2.frBx BO frW).wide (hi' := WO.heap.size) (Nat.le_refl _) (by have := frW.size; omega)
            replace BO := BN
            clear BN
            replace BP := BP.fr frW (by omega)
            replace BA := BA.fr frW (by omega)
            replace BB := BB.fr frW (by omega)
            replace BR := BR.fr frW (by omega)
            replace bb := bb.trans (frW.below (B := w.heap.size) (fun k h1 h2 hc => by omega) bb.size)
            have z_WO := frW.size
            clear frW
            refine hK.out _ _ ⟨BA.cell 0 _ rfl, BA.cell 1 _ rfl, BA.cell 2 _ rfl, BB.cell 0 _ rfl, BB.cell 1 _ rfl, BB.cell 2 _ rfl⟩ (fun hHeld => ?_)
            clear hK K
            try simp only [Act.put, List.getElem_toArray, List.getElem_cons_zero, List.getElem_cons_succ, List.setIfInBounds_toArray, List.set_cons_zero, List.set_cons_succ]
            refine wpAnyH_ready (rs := [7]) (by kernel_rfl) (by simp) ?_
            refine AllReadyH.cons (o := _) rfl (fun K hK => ?_) AllReadyH.nil
            have c0' := BP.cell 0 _ rfl
            have f0' := BP.frozen 0
            have c1' := BP.cell 1 _ rfl
            have f1' := BP.frozen 1
            have c2' := BP.cell 2 _ rfl
            have f2' := BP.frozen 2
            go_simp
            clear c0' c1' c2' f0' f1' f2'
            generalize hW : World.setCell _ _ _ = WP
            have BN : Bx WP gp 29 #[.slice a3 N.ends.length c3, .slice ai3 N.ids.length ci3, .slice ap3 N.inputs.length cp3] := by rw [← hW]; exact ((BP.set 0 _).set 1 _).set 2 _
            have frW : Fr (fun k => k = gp) WO WP := by rw [← hW]; exact fr3 _ _ _ _ _
            clear hW
            replace own1 := own1.frBx BP frW
            replace own2 := (own2.frBx BP frW).wide (hi' := WP.heap.size) (Nat.le_refl _) (by have := frW.size; omega)
            replace BP := BN
            clear BN
            replace BO := BO.fr frW (by omega)
            replace BA := BA.fr frW (by omega)
            replace BB := BB.fr frW (by omega)
            replace BR := BR.fr frW (by omega)
            replace bb := bb.trans (frW.below (B := w.heap.size) (fun k h1 h2 hc => by omega) bb.size)
            have z_WP := frW.size
            clear frW
            refine hK.out _ _ ⟨BA.cell 0 _ rfl, BA.cell 1 _ rfl, BA.cell 2 _ rfl, BB.cell 0 _ rfl, BB.cell 1 _ rfl, BB.cell 2 _ rfl⟩ (fun hHeld => ?_)
            clear hK K
            try simp only [Act.put, List.getElem_toArray, List.getElem_cons_zero, List.getElem_cons_succ, List.setIfInBounds_toArray, List.set_cons_zero, List.set_cons_succ]
            refine wpAnyH_done (by kernel_rfl) ?_ _
            go_wp2_with fail
            go_meet
            exact ⟨go, gp, mi, a2, c2, ai2, ci2, ap2, cp2, a3, c3, ai3, ci3, ap3, cp3, rfl, rfl, BO, BP, BA, BB, BR, own1, own2, zmi2, by omega, zgo, zgp, hne, bb⟩
      · go_simp
        have BP := Bx.made wo 29 #[.slice none 0 0, .slice none 0 0, .slice none 0 0]
        have ba : Below wo.heap.size wo (wo.alloc (.cells #[.slice none 0 0, .slice none 0 0, .slice none 0 0] 29)) := (by repeat (first | exact Below.refl _ _ | assumption | refine Below.alloc ?_ (by first | (simp; done) | (simp; omega) | omega) _ | refine Below.setCell ?_ (by first | (simp; done) | (simp; omega) | omega) _ | refine Below.drew ?_ | refine Below.drewN ?_ _))
        replace BA := BA.new ba
        replace BB := BB.new ba
        replace BR := BR.new ba
        replace BO := BO.new ba
        have z_ba := ba.size
        replace bb := bb.trans (ba.mono bb.size)
        obtain ⟨gp, hgp⟩ : ∃ g, g = wo.heap.size := ⟨_, rfl⟩
        rw [← hgp] at BP ⊢
        have zgp : w.heap.size + 1 + 1 + 1 ≤ gp := by omega
        have hne : go ≠ gp := by have h9 := zold; omega
        clear ba hgp
        generalize wo.alloc (.cells #[.slice none 0 0, .slice none 0 0, .slice none 0 0] 29) = wq at *
        refine hK.out _ _ ⟨BA.cell 0 _ rfl, BA.cell 1 _ rfl, BA.cell 2 _ rfl, BB.cell 0 _ rfl, BB.cell 1 _ rfl, BB.cell 2 _ rfl⟩ (fun hHeld => ?_)
        clear hK K
        try simp only [Act.put, List.getElem_toArray, List.getElem_cons_zero, List.getElem_cons_succ, List.setIfInBounds_toArray, List.set_cons_zero, List.set_cons_succ]
        refine wpAnyH_ready (rs := [1]) (by kernel_rfl) (by simp) ?_
        refine AllReadyH.cons (o := _) rfl (fun K hK => ?_) AllReadyH.nil
        · go_simp
          refine (copyNetwork_any _ M _ B0 (HV0.out.below (bb.mono hB0)) (Nat.le_trans hB0 bb.size) HS0.out).mono ?_
          rintro e wi ⟨xi, rfl, own1, beli⟩
          obtain ⟨a2, c2, ai2, ci2, ap2, cp2, rfl, own1⟩ := own1.shape
          replace own1 := own1.wide (lo' := w.heap.size + 1 + 1 + 1) (by omega) (Nat.le_refl _)
          replace BA := BA.new beli
          replace BB := BB.new beli
          replace BR := BR.new beli
          replace BO := BO.new beli
          replace BP := BP.new beli
          have z_beli := beli.size
          replace bb := bb.trans (beli.mono bb.size)
          obtain ⟨mi, hmi⟩ : ∃ mi, mi = wi.heap.size := ⟨_, rfl⟩
          rw [← hmi] at own1
          have zmi : mi ≤ wi.heap.size := by omega
          have zmi2 : w.heap.size + 1 + 1 + 1 ≤ mi := by omega
          clear beli hmi
          refine hK.out _ _ ⟨BA.cell 0 _ rfl, BA.cell 1 _ rfl, BA.cell 2 _ rfl, BB.cell 0 _ rfl, BB.cell 1 _ rfl, BB.cell 2 _ rfl⟩ (fun hHeld => ?_)
          clear hK K
          try simp only [Act.put, List.getElem_toArray, List.getElem_cons_zero, List.getElem_cons_succ, List.setIfInBounds_toArray, List.set_cons_zero, List.set_cons_succ]
          refine wpAnyH_ready (rs := [3]) (by kernel_rfl) (by simp) ?_
          refine AllReadyH.cons (o := _) rfl (fun K hK => ?_) AllReadyH.nil
          · go_simp
            refine (copyNetwork_any _ N _ B1 (HV1.out.below (bb.mono hB1)) (Nat.le_trans hB1 bb.size) HS1.out).mono ?_
            rintro e wp ⟨xp, rfl, own2, belp⟩
            obtain ⟨a3, c3, ai3, ci3, ap3, cp3, rfl, own2⟩ := own2.shape
            replace own2 := own2.wide (lo' := mi) (by omega) (Nat.le_refl _)
            replace BA := BA.new belp
            replace BB := BB.new belp
            replace BR := BR.new belp
            replace BO := BO.new belp
            replace BP := BP.new belp
            replace own1 := own1.new belp
            have z_belp := belp.size
            replace bb := bb.trans (belp.mono bb.size)
            clear belp
            refine hK.out _ _ ⟨BA.cell 0 _ rfl, BA.cell 1 _ rfl, BA.cell 2 _ rfl, BB.cell 0 _ rfl, BB.cell 1 _ rfl, BB.cell 2 _ rfl⟩ (fun hHeld => ?_)
            clear hK K
            try simp only [Act.put, List.getElem_toArray, List.getElem_cons_zero, List.getElem_cons_succ, List.setIfInBounds_toArray, List.set_cons_zero, List.set_cons_succ]
            refine wpAnyH_ready (rs := [6]) (by kernel_rfl) (by simp) ?_
            refine AllReadyH.cons (o := _) rfl (fun K hK => ?_) AllReadyH.nil
            have c0' := BO.cell 0 _ rfl
            have f0' := BO.frozen 0
            have c1' := BO.cell 1 _ rfl
            have f1' := BO.frozen 1
            have c2' := BO.cell 2 _ rfl
            have f2' := BO.frozen 2
            go_simp
            clear c0' c1' c2' f0' f1' f2'
            generalize hW : World.setCell _ _ _ = WO
            have BN : Bx WO go 29 #[.slice a2 M.ends.length c2, .slice ai2 M.ids.length ci2, .slice ap2 M.inputs.length cp2] := by rw [← hW]; exact ((BO.set 0 _).set 1 _).set 2 _
            have frW : Fr (fun k => k = go) wp WO := by rw [← hW]; exact fr3 _ _ _ _ _
            clear hW
            replace own1 := own1.frBx BO frW
            replace own2 := (own2.frBx BO frW).wide (hi' := WO.heap.size) (Nat.le_refl _) (by have := frW.size; omega)
            replace BO := BN
            clear BN
            replace BP := BP.fr frW (by omega)
            replace BA := BA.fr frW (by omega)
            replace BB := BB.fr frW (by omega)
            replace BR := BR.fr frW (by omega)
            replace bb := bb.trans (frW.below (B := w.heap.size) (fun k h1 h2 hc => by omega) bb.size)
            have z_WO := frW.size
            clear frW
            refine hK.out _ _ ⟨BA.cell 0 _ rfl, BA.cell 1 _ rfl, BA.cell 2 _ rfl, BB.cell 0 _ rfl, BB.cell 1 _ rfl, BB.cell 2 _ rfl⟩ (fun hHeld => ?_)
            clear hK K
            try simp only [Act.put, List.getElem_toArray, List.getElem_cons_zero, List.getElem_cons_succ, List.setIfInBounds_toArray, List.set_cons_zero, List.set_cons_succ]
            refine wpAnyH_ready (rs := [7]) (by kernel_rfl) (by simp) ?_
            refine AllReadyH.cons (o := _) rfl (fun K hK => ?_) AllReadyH.nil
            have c0' := BP.cell 0 _ rfl
            have f0' := BP.frozen 0
            have c1' := BP.cell 1 _ rfl
            have f1' := BP.frozen 1
            have c2' := BP.cell 2 _ rfl
            have f2' := BP.frozen 2
            go_simp
            clear c0' c1' c2' f0' f1' f2'
            generalize hW : World.setCell _ _ _ = WP
            have BN : Bx WP gp 29 #[.slice a3 N.ends.length c3, .slice ai3 N.ids.length ci3, .slice ap3 N.inputs.length cp3] := by rw [← hW]; exact ((BP.set 0 _).set 1 _).set 2 _
            have frW : Fr (fun k => k = gp) WO WP := by rw [← hW]; exact fr3 _ _ _ _ _
            clear hW
            replace own1 := own1.frBx BP frW
            replace own2 := (own2.frBx BP frW).wide (hi' := WP.heap.size) (Nat.le_refl _) (by have := frW.size; omega)
            replace BP := BN
            clear BN
            replace BO := BO.fr frW (by omega)
            replace BA := BA.fr frW (by omega)
            replace BB := BB.fr frW (by omega)
            replace BR := BR.fr frW (by omega)
            replace bb := bb.trans (frW.below (B := w.heap.size) (fun k h1 h2 hc => by omega) bb.size)
            have z_WP := frW.size
            clear frW
            refine hK.out _ _ ⟨BA.cell 0 _ rfl, BA.cell 1 _ rfl, BA.cell 2 _ rfl, BB.cell 0 _ rfl, BB.cell 1 _ rfl, BB.cell 2 _ rfl⟩ (fun hHeld => ?_)
            clear hK K
            try simp only [Act.put, List.getElem_toArray, List.getElem_cons_zero, List.getElem_cons_succ, List.setIfInBounds_toArray, List.set_cons_zero, List.set_cons_succ]
            refine wpAnyH_done (by kernel_rfl) ?_ _
            go_wp2_with fail
            go_meet
            exact ⟨go, gp, mi, a2, c2, ai2, ci2, ap2, cp2, a3, c3, ai3, ci3, ap3, cp3, rfl, rfl, BO, BP, BA, BB, BR, own1, own2, zmi2, by omega, zgo, zgp, hne, bb⟩
    · go_simp
      have BP := Bx.made wd 29 #[.slice none 0 0, .slice none 0 0, .slice none 0 0]
      have ba : Below wd.heap.size wd (wd.alloc (.cells #[.slice none 0 0, .slice none 0 0, .slice none 0 0] 29)) := (by repeat (first | exact Below.refl _ _ | assumption | refine Below.alloc ?_ (by first | (simp; done) | (simp; omega) | omega) _ | refine Below.setCell ?_ (by first | (simp; done) | (simp; omega) | omega) _ | refine Below.drew ?_ | refine Below.drewN ?_ _))
      replace BA := BA.new ba
      replace BB := BB.new ba
      replace BR := BR.new ba
      have z_ba := ba.size
      replace bb := bb.trans (ba.mono bb.size)
      obtain ⟨gp, hgp⟩ : ∃ g, g = wd.heap.size := ⟨_, rfl⟩
      rw [← hgp] at BP ⊢
      have zgp : w.heap.size + 1 + 1 + 1 ≤ gp := by omega
      have zold : gp < (wd.alloc (.cells #[.slice none 0 0, .slice none 0 0, .slice none 0 0] 29)).heap.size := by simp; omega
      clear ba hgp
      generalize wd.alloc (.cells #[.slice none 0 0, .slice none 0 0, .slice none 0 0] 29) = wq at *
      refine hK.out _ _ ⟨BA.cell 0 _ rfl, BA.cell 1 _ rfl, BA.cell 2 _ rfl, BB.cell 0 _ rfl, BB.cell 1 _ rfl, BB.cell 2 _ rfl⟩ (fun hHeld => ?_)
      clear hK K
      try simp only [Act.put, List.getElem_toArray, List.getElem_cons_zero, List.getElem_cons_succ, List.setIfInBounds_toArray, List.set_cons_zero, List.set_cons_succ]
      refine wpAnyH_ready (rs := [1, 4]) (by kernel_rfl) (by simp) ?_
      refine AllReadyH.cons (o := _) rfl (fun K hK => ?_) (AllReadyH.cons (o := _) rfl (fun K hK => ?_) AllReadyH.nil)
      · go_simp
        refine (copyNetwork_any _ M _ B0 (HV0.out.below (bb.mono hB0)) (Nat.le_trans hB0 bb.size) HS0.out).mono ?_
        rintro e wi ⟨xi, rfl, own1, beli⟩
        obtain ⟨a2, c2, ai2, ci2, ap2, cp2, rfl, own1⟩ := own1.shape
        replace own1 := own1.wide (lo' := w.heap.size + 1 + 1 + 1) (by omega) (Nat.le_refl _)
        replace BA := BA.new beli
        replace BB := BB.new beli
        replace BR := BR.new beli
        replace BP := BP.new beli
        have z_beli := beli.size
        replace bb := bb.trans (beli.mono bb.size)
        obtain ⟨mi, hmi⟩ : ∃ mi, mi = wi.heap.size := ⟨_, rfl⟩
        rw [← hmi] at own1
        have zmi : mi ≤ wi.heap.size := by omega
        have zmi2 : w.heap.size + 1 + 1 + 1 ≤ mi := by omega
        clear beli hmi
        refine hK.out _ _ ⟨BA.cell 0 _ rfl, BA.cell 1 _ rfl, BA.cell 2 _ rfl, BB.cell 0 _ rfl, BB.cell 1 _ rfl, BB.cell 2 _ rfl⟩ (fun hHeld => ?_)
        clear hK K
        try simp only [Act.put, List.getElem_toArray, List.getElem_cons_zero, List.getElem_cons_succ, List.setIfInBounds_toArray, List.set_cons_zero, List.set_cons_succ]
        refine wpAnyH_ready (rs := [3, 4]) (by kernel_rfl) (by simp) ?_
        refine AllReadyH.cons (o := _) rfl (fun K hK => ?_) (AllReadyH.cons (o := _) rfl (fun K hK => ?_) AllReadyH.nil)
        · go_simp
          refine (copyNetwork_any _ N _ B1 (HV1.out.below (bb.mono hB1)) (Nat.le_trans hB1 bb.size) HS1.out).mono ?_
          rintro e wp ⟨xp, rfl, own2, belp⟩
          obtain ⟨a3, c3, ai3, ci3, ap3, cp3, rfl, own2⟩ := own2.shape
          replace own2 := own2.wide (lo' := mi) (by omega) (Nat.le_refl _)
          replace BA := BA.new belp
          replace BB := BB.new belp
          replace BR := BR.new belp
          replace BP := BP.new belp
          replace own1 := own1.new belp
          have z_belp := belp.size
          replace bb := bb.trans (belp.mono bb.size)
          clear belp
          refine hK.out _ _ ⟨BA.cell 0 _ rfl, BA.cell 1 _ rfl, BA.cell 2 _ rfl, BB.cell 0 _ rfl, BB.cell 1 _ rfl, BB.cell 2 _ rfl⟩ (fun hHeld => ?_)
          clear hK K
          try simp only [Act.put, List.getElem_toArray, List.getElem_cons_zero, List.getElem_cons_succ, List.setIfInBounds_toArray, List.set_cons_zero, List.set_cons_succ]
          refine wpAnyH_ready (rs := [4]) (by kernel_rfl) (by simp) ?_
          refine AllReadyH.cons (o := _) rfl (fun K hK => ?_) AllReadyH.nil
          · go_simp
            have BO := Bx.made wp 29 #[.slice none 0 0, .slice none 0 0, .slice none 0 0]
            have ba : Below wp.heap.size wp (wp.alloc (.cells #[.slice none 0 0, .slice none 0 0, .slice none 0 0] 29)) := (by repeat (first | exact Below.refl _ _ | assumption | refine Below.alloc ?_ (by first | (simp; done) | (simp; omega) | omega) _ | refine Below.setCell ?_ (by first | (simp; done) | (simp; omega) | omega) _ | refine Below.drew ?_ | refine Below.drewN ?_ _))
            replace BA := BA.new ba
            replace BB := BB.new ba
            replace BR := BR.new ba
            replace BP := BP.new ba
            replace own1 := own1.new ba
            replace own2 := own2.new ba
            have z_ba := ba.size
            replace bb := bb.trans (ba.mono bb.size)
            obtain ⟨go, hgo⟩ : ∃ g, g = wp.heap.size := ⟨_, rfl⟩
            rw [← hgo] at BO ⊢
            have zgo : w.heap.size + 1 + 1 + 1 ≤ go := by omega
            have hne : go ≠ gp := by have h9 := zold; omega
            clear ba hgo
            generalize wp.alloc (.cells #[.slice none 0 0, .slice none 0 0, .slice none 0 0] 29) = wo at *
            refine hK.out _ _ ⟨BA.cell 0 _ rfl, BA.cell 1 _ rfl, BA.cell 2 _ rfl, BB.cell 0 _ rfl, BB.cell 1 _ rfl, BB.cell 2 _ rfl⟩ (fun hHeld => ?_)
            clear hK K
            try simp only [Act.put, List.getElem_toArray, List.getElem_cons_zero, List.getElem_cons_succ, List.setIfInBounds_toArray, List.set_cons_zero, List.set_cons_succ]
            refine wpAnyH_ready (rs := [6]) (by kernel_rfl) (by simp) ?_
            refine AllReadyH.cons (o := _) rfl (fun K hK => ?_) AllReadyH.nil
            have c0' := BO.cell 0 _ rfl
            have f0' := BO.frozen 0
            have c1' := BO.cell 1 _ rfl
            have f1' := BO.frozen 1
            have c2' := BO.cell 2 _ rfl
            have f2' := BO.frozen 2
            go_simp
            clear c0' c1' c2' f0' f1' f2'
            generalize hW : World.setCell _ _ _ = WO
            have BN : Bx WO go 29 #[.slice a2 M.ends.length c2, .slice ai2 M.ids.length ci2, .slice ap2 M.inputs.length cp2] := by rw [← hW]; exact ((BO.set 0 _).set 1 _).set 2 _
            have frW : Fr (fun k => k = go) wo WO := by rw [← hW]; exact fr3 _ _ _ _ _
            clear hW
            replace own1 := own1.frBx BO frW
            replace own2 := (own2.frBx BO frW).wide (hi' := WO.heap.size) (Nat.le_refl _) (by have := frW.size; omega)
            replace BO := BN
            clear BN
            replace BP := BP.fr frW (by omega)
            replace BA := BA.fr frW (by omega)
            replace BB := BB.fr frW (by omega)
            replace BR := BR.fr frW (by omega)
            replace bb := bb.trans (frW.below (B := w.heap.size) (fun k h1 h2 hc => by omega) bb.size)
            have z_WO := frW.size
            clear frW
            refine hK.out _ _ ⟨BA.cell 0 _ rfl, BA.cell 1 _ rfl, BA.cell 2 _ rfl, BB.cell 0 _ rfl, BB.cell 1 _ rfl, BB.cell 2 _ rfl⟩ (fun hHeld => ?_)
            clear hK K
            try simp only [Act.put, List.getElem_toArray, List.getElem_cons_zero, List.getElem_cons_succ, List.setIfInBounds_toArray, List.set_cons_zero, List.set_cons_succ]
            refine wpAnyH_ready (rs := [7]) (by kernel_rfl) (by simp) ?_
            refine AllReadyH.cons (o := _) rfl (fun K hK => ?_) AllReadyH.nil
            have c0' := BP.cell 0 _ rfl
            have f0' := BP.frozen 0
            have c1' := BP.cell 1 _ rfl
            have f1' := BP.frozen 1
            have c2' := BP.cell 2 _ rfl
            have f2' := BP.frozen 2
            go_simp
            clear c0' c1' c2' f0' f1' f2'
            generalize hW : World.setCell _ _ _ = WP
            have BN : Bx WP gp 29 #[.slice a3 N.ends.length c3, .slice ai3 N.ids.length ci3, .slice ap3 N.inputs.length cp3] := by rw [← hW]; exact ((BP.set 0 _).set 1 _).set 2 _
            have frW : Fr (fun k => k = gp) WO WP := by rw [← hW]; exact fr3 _ _ _ _ _
            clear hW
            replace own1 := own1.frBx BP frW
            replace own2 := (own2.frBx BP frW).wide (hi' := WP.heap.size) (Nat.le_refl _) (by have := frW.size; omega)
            replace BP := BN
            clear BN
            replace BO := BO.fr frW (by omega)
            replace BA := BA.fr frW (by omega)
            replace BB := BB.fr frW (by omega)
            replace BR := BR.fr frW (by omega)
            replace bb := bb.trans (frW.below (B := w.heap.size) (fun k h1 h2 hc => by omega) bb.size)
            have z_WP := frW.size
            clear frW
            refine hK.out _ _ ⟨BA.cell 0 _ rfl, BA.cell 1 _ rfl, BA.cell 2 _ rfl, BB.cell 0 _ rfl, BB.cell 1 _ rfl, BB.cell 2 _ rfl⟩ (fun hHeld => ?_)
            clear hK K
            try simp only [Act.put, List.getElem_toArray, List.getElem_cons_zero, List.getElem_cons_succ, List.setIfInBounds_toArray, List.set_cons_zero, List.set_cons_succ]
            refine wpAnyH_done (by kernel_rfl) ?_ _
            go_wp2_with fail
            go_meet
            exact ⟨go, gp, mi, a2, c2, ai2, ci2, ap2, cp2, a3, c3, ai3, ci3, ap3, cp3, rfl, rfl, BO, BP, BA, BB, BR, own1, own2, zmi2, by omega, zgo, zgp, hne, bb⟩
        · go_simp
          have BO := Bx.made wi 29 #[.slice none 0 0, .slice none 0 0, .slice none 0 0]
          have ba : Below wi.heap.size wi (wi.alloc (.cells #[.slice none 0 0, .slice none 0 0, .slice none 0 0] 29)) := (by repeat (first | exact Below.refl _ _ | assumption | refine Below.alloc ?_ (by first | (simp; done) | (simp; omega) | omega) _ | refine Below.setCell ?_ (by first | (simp; done) | (simp; omega) | omega) _ | refine Below.drew ?_ | refine Below.drewN ?_ _))
          replace BA := BA.new ba
          replace BB := BB.new ba
          replace BR := BR.new ba
          replace BP := BP.new ba
          replace own1 := own1.new ba
          have z_ba := ba.size
          replace bb := bb.trans (ba.mono bb.size)
          obtain ⟨go, hgo⟩ : ∃ g, g = wi.heap.size := ⟨_, rfl⟩
          rw [← hgo] at BO ⊢
          have zgo : w.heap.size + 1 + 1 + 1 ≤ go := by omega
          have hne : go ≠ gp := by have h9 := zold; omega
          clear ba hgo
          generalize wi.alloc (.cells #[.slice none 0 0, .slice none 0 0, .slice none 0 0] 29) = wo at *
          refine hK.out _ _ ⟨BA.cell 0 _ rfl, BA.cell 1 _ rfl, BA.cell 2 _ rfl, BB.cell 0 _ rfl, BB.cell 1 _ rfl, BB.cell 2 _ rfl⟩ (fun hHeld => ?_)
          clear hK K
          try simp only [Act.put, List.getElem_toArray, List.getElem_cons_zero, List.getElem_cons_succ, List.setIfInBounds_toArray, List.set_cons_zero, List.set_cons_succ]
          refine wpAnyH_ready (rs := [3]) (by kernel_rfl) (by simp) ?_
          refine AllReadyH.cons (o := _) rfl (fun K hK => ?_) AllReadyH.nil
          · go_simp
            refine (copyNetwork_any _ N _ B1 (HV1.out.below (bb.mono hB1)) (Nat.le_trans hB1 bb.size) HS1.out).mono ?_
            rintro e wp ⟨xp, rfl, own2, belp⟩
            obtain ⟨a3, c3, ai3, ci3, ap3, cp3, rfl, own2⟩ := own2.shape
            replace own2 := own2.wide (lo' := mi) (by omega) (Nat.le_refl _)
            replace BA := BA.new belp
            replace BB := BB.new belp
            replace BR := BR.new belp
            replace BO := BO.new belp
            replace BP := BP.new belp
            replace own1 := own1.new belp
            have z_belp := belp.size
            replace bb := bb.trans (belp.mono bb.size)
            clear belp
            refine hK.out _ _ ⟨BA.cell 0 _ rfl, BA.cell 1 _ rfl, BA.cell 2 _ rfl, BB.cell 0 _ rfl, BB.cell 1 _ rfl, BB.cell 2 _ rfl⟩ (fun hHeld => ?_)
            clear hK K
            try simp only [Act.put, List.getElem_toArray, List.getElem_cons_zero, List.getElem_cons_succ, List.setIfInBounds_toArray, List.set_cons_zero, List.set_cons_succ]
            refine wpAnyH_ready (rs := [6]) (by kernel_rfl) (by simp) ?_
            refine AllReadyH.cons (o := _) rfl (fun K hK => ?_) AllReadyH.nil
            have c0' := BO.cell 0 _ rfl
            have f0' := BO.frozen 0
            have c1' := BO.cell 1 _ rfl
            have f1' := BO.frozen 1
            have c2' := BO.cell 2 _ rfl
            have f2' := BO.frozen 2
            go_simp
            clear c0' c1' c2' f0' f1' f2'
            generalize hW : World.setCell _ _ _ = WO
            have BN : Bx WO go 29 #[.slice a2 M.ends.length c2, .slice ai2 M.ids.length ci2, .slice ap2 M.inputs.length cp2] := by rw [← hW]; exact ((BO.set 0 _).set 1 _).set 2 _
            have frW : Fr (fun k => k = go) wp WO := by rw [← hW]; exact fr3 _ _ _ _ _
            clear hW
            replace own1 := own1.frBx BO frW
            replace own2 := (own2.frBx BO frW).wide (hi' := WO.heap.size) (Nat.le_refl _) (by have := frW.size; omega)
            replace BO := BN
            clear BN
            replace BP := BP.fr frW (by omega)
            replace BA := BA.fr frW (by omega)
            replace BB := BB.fr frW (by omega)
            replace BR := BR.fr frW (by omega)
            replace bb := bb.trans (frW.below (B := w.heap.size) (fun k h1 h2 hc => by omega) bb.size)
            have z_WO := frW.size
            clear frW
            refine hK.out _ _ ⟨BA.cell 0 _ rfl, BA.cell 1 _ rfl, BA.cell 2 _ rfl, BB.cell 0 _ rfl, BB.cell 1 _ rfl, BB.cell 2 _ rfl⟩ (fun hHeld => ?_)
            clear hK K
            try simp only [Act.put, List.getElem_toArray, List.getElem_cons_zero, List.getElem_cons_succ, List.setIfInBounds_toArray, List.set_cons_zero, List.set_cons_succ]
            refine wpAnyH_ready (rs := [7]) (by kernel_rfl) (by simp) ?_
            refine AllReadyH.cons (o := _) rfl (fun K hK => ?_) AllReadyH.nil
            have c0' := BP.cell 0 _ rfl
            have f0' := BP.frozen 0
            have c1' := BP.cell 1 _ rfl
            have f1' := BP.frozen 1
            have c2' := BP.cell 2 _ rfl
            have f2' := BP.frozen 2
            go_simp
            clear c0' c1' c2' f0' f1' f2'
            generalize hW : World.setCell _ _ _ = WP
            have BN : Bx WP gp 29 #[.slice a3 N.ends.length c3, .slice ai3 N.ids.length ci3, .slice ap3 N.inputs.length cp3] := by rw [← hW]; exact ((BP.set 0 _).set 1 _).set 2 _
            have frW : Fr (fun k => k = gp) WO WP := by rw [← hW]; exact fr3 _ _ _ _ _
            clear hW
            replace own1 := own1.frBx BP frW
            replace own2 := (own2.frBx BP frW).wide (hi' := WP.heap.size) (Nat.le_refl _) (by have := frW.size; omega)
            replace BP := BN
            clear BN
            replace BO := BO.fr frW (by omega)
            replace BA := BA.fr frW (by omega)
            replace BB := BB.fr frW (by omega)
            replace BR := BR.fr frW (by omega)
            replace bb := bb.trans (frW.below (B := w.heap.size) (fun k h1 h2 hc => by omega) bb.size)
            have z_WP := frW.size
            clear frW
            refine hK.out _ _ ⟨BA.cell 0 _ rfl, BA.cell 1 _ rfl, BA.cell 2 _ rfl, BB.cell 0 _ rfl, BB.cell 1 _ rfl, BB.cell 2 _ rfl⟩ (fun hHeld => ?_)
            clear hK K
            try simp only [Act.put, List.getElem_toArray, List.getElem_cons_zero, List.getElem_cons_succ, List.setIfInBounds_toArray, List.set_cons_zero, List.set_cons_succ]
            refine wpAnyH_done (by kernel_rfl) ?_ _
            go_wp2_with fail
            go_meet
            exact ⟨go, gp, mi, a2, c2, ai2, ci2, ap2, cp2, a3, c3, ai3, ci3, ap3, cp3, rfl, rfl, BO, BP, BA, BB, BR, own1, own2, zmi2, by omega, zgo, zgp, hne, bb⟩
      · go_simp
        have BO := Bx.made wq 29 #[.slice none 0 0, .slice none 0 0, .slice none 0 0]
        have ba : Below wq.heap.size wq (wq.alloc (.cells #[.slice none 0 0, .slice none 0 0, .slice none 0 0] 29)) := (by repeat (first | exact Below.refl _ _ | assumption | refine Below.alloc ?_ (by first | (simp; done) | (simp; omega) | omega) _ | refine Below.setCell ?_ (by first | (simp; done) | (simp; omega) | omega) _ | refine Below.drew ?_ | refine Below.drewN ?_ _))
        replace BA := BA.new ba
        replace BB := BB.new ba
        replace BR := BR.new ba
        replace BP := BP.new ba
        have z_ba := ba.size
        replace bb := bb.trans (ba.mono bb.size)
        obtain ⟨go, hgo⟩ : ∃ g, g = wq.heap.size := ⟨_, rfl⟩
        rw [← hgo] at BO ⊢
        have zgo : w.heap.size + 1 + 1 + 1 ≤ go := by omega
        have hne : go ≠ gp := by have h9 := zold; omega
        clear ba hgo
        generalize wq.alloc (.cells #[.slice none 0 0, .slice none 0 0, .slice none 0 0] 29) = wo at *
        refine hK.out _ _ ⟨BA.cell 0 _ rfl, BA.cell 1 _ rfl, BA.cell 2 _ rfl, BB.cell 0 _ rfl, BB.cell 1 _ rfl, BB.cell 2 _ rfl⟩ (fun hHeld => ?_)
        clear hK K
        try simp only [Act.put, List.getElem_toArray, List.getElem_cons_zero, List.getElem_cons_succ, List.setIfInBounds_toArray, List.set_cons_zero, List.set_cons_succ]
        refine wpAnyH_ready (rs := [1]) (by kernel_rfl) (by simp) ?_
        refine AllReadyH.cons (o := _) rfl (fun K hK => ?_) AllReadyH.nil
        · go_simp
          refine (copyNetwork_any _ M _ B0 (HV0.out.below (bb.mono hB0)) (Nat.le_trans hB0 bb.size) HS0.out).mono ?_
          rintro e wi ⟨xi, rfl, own1, beli⟩
          obtain ⟨a2, c2, ai2, ci2, ap2, cp2, rfl, own1⟩ := own1.shape
          replace own1 := own1.wide (lo' := w.heap.size + 1 + 1 + 1) (by omega) (Nat.le_refl _)
          replace BA := BA.new beli
          replace BB := BB.new beli
          replace BR := BR.new beli
          replace BO := BO.new beli
          replace BP := BP.new beli
          have z_beli := beli.size
          replace bb := bb.trans (beli.mono bb.size)
          obtain ⟨mi, hmi⟩ : ∃ mi, mi = wi.heap.size := ⟨_, rfl⟩
          rw [← hmi] at own1
          have zmi : mi ≤ wi.heap.size := by omega
          have zmi2 : w.heap.size + 1 + 1 + 1 ≤ mi := by omega
          clear beli hmi
          refine hK.out _ _ ⟨BA.cell 0 _ rfl, BA.cell 1 _ rfl, BA.cell 2 _ rfl, BB.cell 0 _ rfl, BB.cell 1 _ rfl, BB.cell 2 _ rfl⟩ (fun hHeld => ?_)
          clear hK K
          try simp only [Act.put, List.getElem_toArray, List.getElem_cons_zero, List.getElem_cons_succ, List.setIfInBounds_toArray, List.set_cons_zero, List.set_cons_succ]
          refine wpAnyH_ready (rs := [3]) (by kernel_rfl) (by simp) ?_
          refine AllReadyH.cons (o := _) rfl (fun K hK => ?_) AllReadyH.nil
          · go_simp
            refine (copyNetwork_any _ N _ B1 (HV1.out.below (bb.mono hB1)) (Nat.le_trans hB1 bb.size) HS1.out).mono ?_
            rintro e wp ⟨xp, rfl, own2, belp⟩
            obtain ⟨a3, c3, ai3, ci3, ap3, cp3, rfl, own2⟩ := own2.shape
            replace own2 := own2.wide (lo' := mi) (by omega) (Nat.le_refl _)
            replace BA := BA.new belp
            replace BB := BB.new belp
            replace BR := BR.new belp
            replace BO := BO.new belp
            replace BP := BP.new belp
            replace own1 := own1.new belp
            have z_belp := belp.size
            replace bb := bb.trans (belp.mono bb.size)
            clear belp
            refine hK.out _ _ ⟨BA.cell 0 _ rfl, BA.cell 1 _ rfl, BA.cell 2 _ rfl, BB.cell 0 _ rfl, BB.cell 1 _ rfl, BB.cell 2 _ rfl⟩ (fun hHeld => ?_)
            clear hK K
            try simp only [Act.put, List.getElem_toArray, List.getElem_cons_zero, List.getElem_cons_succ, List.setIfInBounds_toArray, List.set_cons_zero, List.set_cons_succ]
            refine wpAnyH_ready (rs := [6]) (by kernel_rfl) (by simp) ?_
            refine AllReadyH.cons (o := _) rfl (fun K hK => ?_) AllReadyH.nil
            have c0' := BO.cell 0 _ rfl
            have f0' := BO.frozen 0
            have c1' := BO.cell 1 _ rfl
            have f1' := BO.frozen 1
            have c2' := BO.cell 2 _ rfl
            have f2' := BO.frozen 2
            go_simp
            clear c0' c1' c2' f0' f1' f2'
            generalize hW : World.setCell _ _ _ = WO
            have BN : Bx WO go 29 #[.slice a2 M.ends.length c2, .slice ai2 M.ids.length ci2, .slice ap2 M.inputs.length cp2] := by rw [← hW]; exact ((BO.set 0 _).set 1 _).set 2 _
            have frW : Fr (fun k => k = go) wp WO := by rw [← hW]; exact fr3 _ _ _ _ _
            clear hW
            replace own1 := own1.frBx BO frW
            replace own2 := (own2.frBx BO frW).wide (hi' := WO.heap.size) (Nat.le_refl _) (by have := frW.size; omega)
            replace BO := BN
            clear BN
            replace BP := BP.fr frW (by omega)
            replace BA := BA.fr frW (by omega)
            replace BB := BB.fr frW (by omega)
            replace BR := BR.fr frW (by omega)
            replace bb := bb.trans (frW.below (B := w.heap.size) (fun k h1 h2 hc => by omega) bb.size)
            have z_WO := frW.size
            clear frW
            refine hK.out _ _ ⟨BA.cell 0 _ rfl, BA.cell 1 _ rfl, BA.cell 2 _ rfl, BB.cell 0 _ rfl, BB.cell 1 _ rfl, BB.cell 2 _ rfl⟩ (fun hHeld => ?_)
            clear hK K
            try simp only [Act.put, List.getElem_toArray, List.getElem_cons_zero, List.getElem_cons_succ, List.setIfInBounds_toArray, List.set_cons_zero, List.set_cons_succ]
            refine wpAnyH_ready (rs := [7]) (by kernel_rfl) (by simp) ?_
            refine AllReadyH.cons (o := _) rfl (fun K hK => ?_) AllReadyH.nil
            have c0' := BP.cell 0 _ rfl
            have f0' := BP.frozen 0
            have c1' := BP.cell 1 _ rfl
            have f1' := BP.frozen 1
            have c2' := BP.cell 2 _ rfl
            have f2' := BP.frozen 2
            go_simp
            clear c0' c1' c2' f0' f1' f2'
            generalize hW : World.setCell _ _ _ = WP
            have BN : Bx WP gp 29 #[.slice a3 N.ends.length c3, .slice ai3 N.ids.length ci3, .slice ap3 N.inputs.length cp3] := by rw [← hW]; exact ((BP.set 0 _).set 1 _).set 2 _
            have frW : Fr (fun k => k = gp) WO WP := by rw [← hW]; exact fr3 _ _ _ _ _
            clear hW
            replace own1 := own1.frBx BP frW
            replace own2 := (own2.frBx BP frW).wide (hi' := WP.heap.size) (Nat.le_refl _) (by have := frW.size; omega)
            replace BP := BN
            clear BN
            replace BO := BO.fr frW (by omega)
            replace BA := BA.fr frW (by omega)
            replace BB := BB.fr frW (by omega)
            replace BR := BR.fr frW (by omega)
            replace bb := bb.trans (frW.below (B := w.heap.size) (fun k h1 h2 hc => by omega) bb.size)
            have z_WP := frW.size
            clear frW
            refine hK.out _ _ ⟨BA.cell 0 _ rfl, BA.cell 1 _ rfl, BA.cell 2 _ rfl, BB.cell 0 _ rfl, BB.cell 1 _ rfl, BB.cell 2 _ rfl⟩ (fun hHeld => ?_)
            clear hK K
            try simp only [Act.put, List.getElem_toArray, List.getElem_cons_zero, List.getElem_cons_succ, List.setIfInBounds_toArray, List.set_cons_zero, List.set_cons_succ]
            refine wpAnyH_done (by kernel_rfl) ?_ _
            go_wp2_with fail
            go_meet
            exact ⟨go, gp, mi, a2, c2, ai2, ci2, ap2, cp2, a3, c3, ai3, ci3, ap3, cp3, rfl, rfl, BO, BP, BA, BB, BR, own1, own2, zmi2, by omega, zgo, zgp, hne, bb⟩
  case rest =>
    clear BA BB BR bb zz z0
    obtain ⟨b, ob, mid, a2, c2, ai2, ci2, ap2, cp2, a3, c3, ai3, ci3, ap3, cp3, rfl, rfl, BO, BP, BA, BB, BR, own1, own2, zmi, zmi2, zgo, zgp, hne, bb⟩ := hcut
    generalize wc = w2 at *
    obtain ⟨lo, hlo0⟩ : ∃ lo, lo = w.heap.size + 1 + 1 + 1 := ⟨_, rfl⟩
    rw [← hlo0] at own1 zmi zgo zgp
    have zl : w.heap.size + 1 + 1 + 1 ≤ lo := by omega
    clear hlo0
    obtain ⟨_, _, vs2, _, _, _, _, heq, hE1, owni1, ownp1, hdis1⟩ := own1
    simp only [Value.agg.injEq, Array.mk.injEq, List.cons.injEq, Value.slice.injEq, and_true, true_and] at heq
    obtain ⟨⟨rfl, rfl⟩, ⟨rfl, rfl⟩, rfl, rfl⟩ := heq
    obtain ⟨_, _, vs3, _, _, _, _, heq, hE2, owni2, ownp2, hdis2⟩ := own2
    simp only [Value.agg.injEq, Array.mk.injEq, List.cons.injEq, Value.slice.injEq, and_true, true_and] at heq
    obtain ⟨⟨rfl, rfl⟩, ⟨rfl, rfl⟩, rfl, rfl⟩ := heq
    obtain ⟨A3, hA3, _, _⟩ := Ow.addr hE2.1 (by omega)
    subst hA3
    obtain ⟨H, hH⟩ : ∃ H, H = w2.heap.size := ⟨_, rfl⟩
    rw [← hH] at hE2 owni2 ownp2
    have zH : H ≤ w2.heap.size := by omega
    have zmH : mid ≤ H := by omega
    clear hH
    have HE20 := Lib.hid hE2
    have hCin : ∀ y, (∃ j, j < N.ends.length ∧ blk (vs3 j).1 (vs3 j).2 = some y) → mid ≤ y ∧ y < H := fun y ⟨j, hj, hb⟩ => (HE20.out.2.1 j hj).blk_in hb
    have HCIN := Lib.hid hCin
    have HOI := Lib.hid owni2
    have HOP := Lib.hid ownp2
    clear hCin owni2 ownp2
    have q0 := BP.cell 0 _ rfl
    go_wp2_with fail
    clear q0
    go_loopw [17] (fun iv wr => ∃ k : Nat, k ≤ N.ends.length ∧ iv = .int .i64 k ∧ RowsE wr mid H (some ⟨A3, 0, none⟩) c3 (inT N.ends M.ends.length k 0) vs3 ∧ Fr (fun y => ∃ j, j < N.ends.length ∧ blk (vs3 j).1 (vs3 j).2 = some y) w2 wr) (fun iv _ => N.ends.length - (intOf iv).toNat)
    case atStart => exact ⟨0, Nat.zero_le _, rfl, by rw [inT_zero]; exact hE2, Fr.refl _ _⟩
    case round =>
      clear hE2
      obtain ⟨k, hk, rfl, hE, hfr⟩ := hrel
      have hA0 := BA.fr hfr (fun h => by have := HCIN.out _ h; omega)
      by_cases hlt : k < N.ends.length
      · obtain ⟨hc1, -⟩ := RowsE.head hE (by rw [inT_length]; exact hlt)
        rw [inT_len _ _ _ _ _ hlt] at hc1
        have hL1 := net_row HN.out hlt
        have HBK := Lib.hid (fun j (hj : j < (rowOf N.ends k).length) => net_back HN.out hlt hj)
        obtain ⟨ax, hax⟩ : ∃ ax, ax = (vs3 k).1 := ⟨_, rfl⟩
        obtain ⟨cx, hcx⟩ : ∃ cx, cx = (vs3 k).2 := ⟨_, rfl⟩
        rw [← hax, ← hcx] at hc1
        have HAX := Lib.hid hax
        have HCX := Lib.hid hcx
        clear hax hcx
        obtain ⟨wk, hwk⟩ : ∃ wk, wk = wr := ⟨_, rfl⟩
        subst hwk
        go_wp2_with fail
        clear hc1
        go_loopw [23] (fun iv wr => ∃ i : Nat, i ≤ (rowOf N.ends k).length ∧ iv = .int .i64 i ∧ RowsE wr mid H (some ⟨A3, 0, none⟩) c3 (inT N.ends M.ends.length k i) vs3 ∧ Fr (fun y => ∃ j, j < N.ends.length ∧ blk (vs3 j).1 (vs3 j).2 = some y) w2 wr) (fun iv _ => (rowOf N.ends k).length - (intOf iv).toNat)
        case atStart => exact ⟨0, Nat.zero_le _, rfl, hE, hfr⟩
        case round =>
          clear hE hfr hA0
          obtain ⟨i, hi, rfl, hE, hfr⟩ := hrel
          by_cases hil : i < (rowOf N.ends k).length
          · obtain ⟨p, q, hpq, hp, hq, _⟩ := HBK.out i hil
            have hp40 : p ≤ 40 := by omega
            have hwr1 : IntKind.i64.wrap ((p : Int) + (M.ends.length : Int)) = (p : Int) + (M.ends.length : Int) := wrapU _ (by omega)
            obtain ⟨g, cg, hvk, hgm, hgH, e1, f1, hE5, hfr5, hbk⟩ := RowsE.setN (w := wr.drew) (k := k) (i := i) ((p : Int) + (M.ends.length : Int)) (show RowsE wr.drew mid H (some ⟨A3, 0, none⟩) c3 (inT N.ends M.ends.length k i) vs3 from hE) (by rw [inT_length]; exact hlt) (by rw [inT_len _ _ _ _ _ hlt]; exact hil)
            have hst := inT_step N.ends M.ends.length k i hlt hil
            rw [inT_at _ _ _ _ hlt hil, hpq] at e1 hE5
            rw [hpq] at hst
            have HST := Lib.hid hst
            have hE6 : RowsE (wr.drew.setCell ⟨g, i * 2, none⟩ (.int .i64 ((p : Int) + (M.ends.length : Int)))) mid H (some ⟨A3, 0, none⟩) c3 (inT N.ends M.ends.length k (i + 1)) vs3 := by rw [← HST.out]; exact hE5
            have hfr6 : Fr (fun y => ∃ j, j < N.ends.length ∧ blk (vs3 j).1 (vs3 j).2 = some y) w2 (wr.drew.setCell ⟨g, i * 2, none⟩ (.int .i64 ((p : Int) + (M.ends.length : Int)))) := hfr.drew.trans (hfr5.mono fun y _ hy => ⟨k, hlt, hy ▸ hbk⟩)
            have hax2 : ax = some ⟨g, 0, none⟩ := by rw [HAX.out, hvk]
            subst hax2
            have e1' : wr.cell? ⟨g, i * 2, none⟩ = some (.int .i64 (p : Int)) := e1
            have dA : wr.cell? ⟨w.heap.size, 0, none⟩ = some (.slice a0 M.ends.length c0) := (BA.fr hfr (fun h => by have := HCIN.out _ h; omega)).cell 0 _ rfl
            clear hst hE5 hfr5 hvk hbk hpq hE hfr HST
            go_upto_region 8 with fail
            go_still_tail 9, (by kernel_rfl)
            change wpList _ _ _ _ _ wr.drew
            clear e1' dA
            generalize wr.drew = wd at *
            go_wp2_with fail
            go_roundw
            case rel => exact ⟨i + 1, by omega, by go_num, hE6, hfr6⟩
            case measure => simp [intOf]; omega
          · have HIL := Lib.hid (show i = (rowOf N.ends k).length by omega)
            rw [HIL.out, inT_next] at hE
            go_wp2_with fail
            go_roundw
            case rel => exact ⟨k + 1, by omega, by go_num, hE, hfr⟩
            case measure => simp [intOf]; omega
      · have HKE := Lib.hid (show k = N.ends.length by omega)
        rw [HKE.out, inT_all] at hE
        have HUN := Lib.hid (show unN M N = { ends := M.ends ++ N.ends.map (shR M.ends.length), ids := M.ids ++ N.ids, inputs := M.inputs ++ N.inputs } from rfl)
        obtain ⟨R2, hR2⟩ : ∃ R2 : Rows2, R2 = N.ends.map (shR M.ends.length) := ⟨_, rfl⟩
        rw [← hR2] at hE HUN
        have hR2l : N.ends.length = R2.length := by rw [hR2, List.length_map]
        clear hR2
        rw [hR2l] at BP
        have hnC : ∀ (b2 : Nat) (cs : Array Value), Bx w2 b2 29 cs → ¬ ∃ j, j < N.ends.length ∧ blk (vs3 j).1 (vs3 j).2 = some b2 := fun b2 cs hb ⟨j, hj, hk⟩ => hb.ne_row (HE20.out.2.1 j hj) (by decide) hk
        have BOr := BO.fr hfr (hnC _ _ BO)
        have BPr := BP.fr hfr (hnC _ _ BP)
        have BAr := hA0
        have BRr := BR.fr hfr (hnC _ _ BR)
        have hE1r : RowsE wr lo mid a2 c2 M.ends vs2 := RowsAt.fr hE1 hfr (fun x h1 h2 hc => by have := HCIN.out _ hc; omega)
        have owni1r := Ow.fr owni1 hfr (fun x h1 h2 hc => by have := HCIN.out _ hc; omega)
        have ownp1r := Ow.fr ownp1 hfr (fun x h1 h2 hc => by have := HCIN.out _ hc; omega)
        have owni2r := Ow.frB HOI.out hfr (fun x hx ⟨j, hj, hk⟩ => ne_of_or ((HE20.out.2.1 j hj).ne_of_type HOI.out (by decide)) hk hx)
        have ownp2r := Ow.frB HOP.out hfr (fun x hx ⟨j, hj, hk⟩ => ne_of_or ((HE20.out.2.1 j hj).ne_of_type HOP.out (by decide)) hk hx)
        have bbr := bb.trans (hfr.below (B := w.heap.size) (fun x h1 h2 hc => by have := HCIN.out _ hc; omega) bb.size)
        have zr := hfr.size
        clear hfr hA0 BO BP BA BB BR hE1 owni1 ownp1 bb HE20 HOI HOP hnC HCIN
        have hR40 : R2.length ≤ 40 := by omega
        have HRL := Lib.hid hR2l
        clear hR2l
        have q0 := BOr.cell 0 _ rfl
        have q1 := BPr.cell 0 _ rfl
        have hrd : Rd wr H (some ⟨A3, 0, none⟩) (R2.length * 1) (fun j => .slice (vs3 j).1 (rowOf R2 j).length (vs3 j).2) := by rw [Nat.mul_one]; exact Ow.rd hE.1
        go_upto_region 12 with (at_builtin; refine wpList_appA rfl _ _ _ rfl 60 (.slice none 0 0) 1 24 Try.underlying27 ends_info rfl (by decide) lo mid a2 M.ends.length c2 _ rfl hE1r.1 (by omega) (some ⟨A3, 0, none⟩) H R2.length c3 _ rfl hrd (fun _ => rfl) (by unfold maxLen; omega) (by omega) (by omega) ?_; intro a4 c4 wq ownq hgrq hblq; have BOq := BOr.fr (Fr.of_grown hgrq) (fun h => BOr.ne_row hE1r.1 (by decide) h.symm); have q8 := BOq.cell 0 _ rfl; have f8 := BOq.frozen 0)
        clear q0 q1 q8 f8 hrd
        have hE9 := RowsE.cat hE1r hE zmi zmH (by omega) hgrq ownq
        have hf9 : Fr (fun x => some x = blk a2 c2) wr wq := Fr.of_grown hgrq
        have hs9 : Fr (fun x => x = b) wq (wq.setCell ⟨b, 0, none⟩ (.slice a4 (M.ends.length + R2.length) c4)) := fr_set wq b 0 _
        have BO9 := BOq.set 0 (.slice a4 (M.ends.length + R2.length) c4)
        have F9 : Fr (fun x => some x = blk a2 c2 ∨ x = b) wr (wq.setCell ⟨b, 0, none⟩ (.slice a4 (M.ends.length + R2.length) c4)) := (hf9.mono fun x _ h => .inl h).trans (hs9.mono fun x _ h => .inr h)
        have hE10 := RowsAt.frB hE9 hs9 (fun x hx hc => BOq.ne_row hE9.1 (by decide) (hc ▸ hx)) (fun j hj x hx hc => BOq.ne_row (hE9.2.1 j hj) (by decide) (hc ▸ hx))
        have z9 := F9.size
        have z9q : wq.heap.size ≤ (wq.setCell ⟨b, 0, none⟩ (.slice a4 (M.ends.length + R2.length) c4)).heap.size := hs9.size
        have BP9 := BPr.fr F9 (fun h => h.elim (fun h => BPr.ne_row hE1r.1 (by decide) h.symm) (fun h => hne h.symm))
        have BA9 := BAr.fr F9 (fun h => h.elim (fun h => BAr.ne_row hE1r.1 (by decide) h.symm) (fun h => by omega))
        have BR9 := BRr.fr F9 (fun h => h.elim (fun h => BRr.ne_row hE1r.1 (by decide) h.symm) (fun h => by omega))
        have hF9 : ∀ {lo2 hi2 n2 c2' : Nat} {a2' : Option Addr} {f2 : Nat → Value}, Ow wr lo2 hi2 3 1 a2' n2 c2' f2 → Ow (wq.setCell ⟨b, 0, none⟩ (.slice a4 (M.ends.length + R2.length) c4)) lo2 hi2 3 1 a2' n2 c2' f2 := fun h => Ow.frB h F9 (fun x hx hc => hc.elim (fun hc => ne_of_or (hE1r.1.ne_of_type h (by decide)) hc.symm hx) (fun hc => BOr.ne_row h (by decide) (hc ▸ hx)))
        have owni19 := hF9 owni1r
        have ownp19 := hF9 ownp1r
        have owni29 := hF9 owni2r
        have ownp29 := hF9 ownp2r
        have bb9 := bbr.trans (F9.below (B := w.heap.size) (fun x h1 h2 hc => hc.elim (fun hc => by have := hE1r.1.blk_in hc.symm; omega) (fun hc => by omega)) bbr.size)
        clear hF9 F9 hs9 hf9 hE9 ownq hgrq hblq BOq BOr BPr BAr BRr hE1r owni1r ownp1r owni2r ownp2r bbr hE
        replace BO9 : Bx (wq.setCell ⟨b, 0, none⟩ (.slice a4 (M.ends.length + R2.length) c4)) b 29 #[.slice a4 (M.ends.length + R2.length) c4, .slice ai2 M.ids.length ci2, .slice ap2 M.inputs.length cp2] := BO9
        replace hE10 := RowsAt.wide (lo' := lo) (hi' := (wq.setCell ⟨b, 0, none⟩ (.slice a4 (M.ends.length + R2.length) c4)).heap.size) hE10 (Nat.le_refl _) z9q
        generalize wq.setCell ⟨b, 0, none⟩ (.slice a4 (M.ends.length + R2.length) c4) = w9 at *
        have hE9 : RowsE w9 lo w9.heap.size a4 c4 (M.ends ++ R2) (catV vs2 M.ends.length vs3) := hE10
        clear hE10 z9q
        have q0 := BO9.cell 1 _ rfl
        have q1 := BP9.cell 1 _ rfl
        have hrd : Rd w9 H ai3 (N.ids.length * 1) (fun j => .int .i64 (nth N.ids j)) := by rw [Nat.mul_one]; exact Ow.rd owni29
        have ow' : Ow w9 lo mid 3 1 ai2 M.ids.length ci2 (fun j => .int .i64 (nth M.ids j)) := owni19
        go_upto_region 13 with (at_builtin; refine wpList_appA rfl _ _ _ rfl 3 (.int .i64 0) 1 8 Try.underlying23 int_info rfl (by decide) lo mid ai2 M.ids.length ci2 _ rfl ow' (by omega) ai3 H N.ids.length ci3 _ rfl hrd (fun _ => rfl) (by unfold maxLen; omega) (by omega) (by omega) ?_; intro a5 c5 wq ownq hgrq hblq; have BOq := BO9.fr (Fr.of_grown hgrq) (fun h => BO9.ne_row ow' (by decide) h.symm); have q8 := BOq.cell 1 _ rfl; have f8 := BOq.frozen 1)
        clear q0 q1 q8 f8 hrd
        have hi5 : OwI wq lo wq.heap.size a5 c5 (M.ids ++ N.ids) := OwI.cat ownq
        have hf9 : Fr (fun x => some x = blk ai2 ci2) w9 wq := Fr.of_grown hgrq
        have hs9 : Fr (fun x => x = b) wq (wq.setCell ⟨b, 1, none⟩ (.slice a5 (M.ids.length + N.ids.length) c5)) := fr_set wq b 1 _
        have BO10 := BOq.set 1 (.slice a5 (M.ids.length + N.ids.length) c5)
        have F9 : Fr (fun x => some x = blk ai2 ci2 ∨ x = b) w9 (wq.setCell ⟨b, 1, none⟩ (.slice a5 (M.ids.length + N.ids.length) c5)) := (hf9.mono fun x _ h => .inl h).trans (hs9.mono fun x _ h => .inr h)
        have z10 := F9.size
        have z10q : wq.heap.size ≤ (wq.setCell ⟨b, 1, none⟩ (.slice a5 (M.ids.length + N.ids.length) c5)).heap.size := hs9.size
        have owni10 := Ow.wide (lo' := lo) (hi' := (wq.setCell ⟨b, 1, none⟩ (.slice a5 (M.ids.length + N.ids.length) c5)).heap.size) (Ow.frB hi5 hs9 (fun x hx hc => BOq.ne_row hi5 (by decide) (hc ▸ hx))) (Nat.le_refl _) z10q
        have BP10 := BP9.fr F9 (fun h => h.elim (fun h => BP9.ne_row ow' (by decide) h.symm) (fun h => hne h.symm))
        have BR10 := BR9.fr F9 (fun h => h.elim (fun h => BR9.ne_row ow' (by decide) h.symm) (fun h => by omega))
        have hE10 := RowsAt.top (RowsAt.frB hE9 F9 (fun x hx hc => hc.elim (fun hc => ne_of_or (hE9.1.ne_of_type ow' (by decide)) hx hc.symm) (fun hc => BO9.ne_row hE9.1 (by decide) (hc ▸ hx))) (fun j hj x hx hc => hc.elim (fun hc => ne_of_or ((hE9.2.1 j hj).ne_of_type ow' (by decide)) hx hc.symm) (fun hc => BO9.ne_row (hE9.2.1 j hj) (by decide) (hc ▸ hx))))
        have ownp110 := Ow.frB ownp19 F9 (fun x hx hc => hc.elim (fun hc => ne_of_or hdis1 hc.symm hx) (fun hc => BO9.ne_row ownp19 (by decide) (hc ▸ hx)))
        have ownp210 := Ow.frB ownp29 F9 (fun x hx hc => hc.elim (fun hc => by have h5 := Ow.blk_in ownp29 hx; have h6 := Ow.blk_in ow' hc.symm; omega) (fun hc => BO9.ne_row ownp29 (by decide) (hc ▸ hx)))
        have bb10 := bb9.trans (F9.below (B := w.heap.size) (fun x h1 h2 hc => hc.elim (fun hc => by have := Ow.blk_in ow' hc.symm; omega) (fun hc => by omega)) bb9.size)
        have hdis10 : blk a5 c5 = none ∨ blk a5 c5 ≠ blk ap2 cp2 := by
          rcases hblq with hn | hn
          · rw [hn]; exact hdis1
          · refine .inr fun he => ?_
            have := (Ow.blk_in ownp19 (he.symm.trans hn)).2
            omega
        clear F9 hs9 hf9 hi5 ownq hgrq hblq BOq BO9 BP9 BA9 BR9 hE9 owni19 ownp19 owni29 ownp29 bb9 ow'
        replace BO10 : Bx (wq.setCell ⟨b, 1, none⟩ (.slice a5 (M.ids.length + N.ids.length) c5)) b 29 #[.slice a4 (M.ends.length + R2.length) c4, .slice a5 (M.ids.length + N.ids.length) c5, .slice ap2 M.inputs.length cp2] := BO10
        generalize wq.setCell ⟨b, 1, none⟩ (.slice a5 (M.ids.length + N.ids.length) c5) = w10 at *
        clear z10q
        have q0 := BO10.cell 2 _ rfl
        have q1 := BP10.cell 2 _ rfl
        have hrd : Rd w10 H ap3 (N.inputs.length * 1) (fun j => .int .i64 (nth N.inputs j)) := by rw [Nat.mul_one]; exact Ow.rd ownp210
        have ow' : Ow w10 lo mid 3 1 ap2 M.inputs.length cp2 (fun j => .int .i64 (nth M.inputs j)) := ownp110
        go_upto_region 14 with (at_builtin; refine wpList_appA rfl _ _ _ rfl 3 (.int .i64 0) 1 8 Try.underlying23 int_info rfl (by decide) lo mid ap2 M.inputs.length cp2 _ rfl ow' (by omega) ap3 H N.inputs.length cp3 _ rfl hrd (fun _ => rfl) (by unfold maxLen; omega) (by omega) (by omega) ?_; intro a6 c6 wq ownq hgrq hblq; have BOq := BO10.fr (Fr.of_grown hgrq) (fun h => BO10.ne_row ow' (by decide) h.symm); have q8 := BOq.cell 2 _ rfl; have f8 := BOq.frozen 2)
        clear q0 q1 q8 f8 hrd
        have hi6 : OwI wq lo wq.heap.size a6 c6 (M.inputs ++ N.inputs) := OwI.cat ownq
        have hf9 : Fr (fun x => some x = blk ap2 cp2) w10 wq := Fr.of_grown hgrq
        have hs9 : Fr (fun x => x = b) wq (wq.setCell ⟨b, 2, none⟩ (.slice a6 (M.inputs.length + N.inputs.length) c6)) := fr_set wq b 2 _
        have BO11 := BOq.set 2 (.slice a6 (M.inputs.length + N.inputs.length) c6)
        have F9 : Fr (fun x => some x = blk ap2 cp2 ∨ x = b) w10 (wq.setCell ⟨b, 2, none⟩ (.slice a6 (M.inputs.length + N.inputs.length) c6)) := (hf9.mono fun x _ h => .inl h).trans (hs9.mono fun x _ h => .inr h)
        have ownp11 := Ow.top (Ow.frB hi6 hs9 (fun x hx hc => BOq.ne_row hi6 (by decide) (hc ▸ hx)))
        have BR := BR10.fr F9 (fun h => h.elim (fun h => BR10.ne_row ow' (by decide) h.symm) (fun h => by omega))
        have hE11 := RowsAt.top (RowsAt.frB hE10 F9 (fun x hx hc => hc.elim (fun hc => ne_of_or (hE10.1.ne_of_type ow' (by decide)) hx hc.symm) (fun hc => BO10.ne_row hE10.1 (by decide) (hc ▸ hx))) (fun j hj x hx hc => hc.elim (fun hc => ne_of_or ((hE10.2.1 j hj).ne_of_type ow' (by decide)) hx hc.symm) (fun hc => BO10.ne_row (hE10.2.1 j hj) (by decide) (hc ▸ hx))))
        have owni11 := Ow.top (Ow.frB owni10 F9 (fun x hx hc => hc.elim (fun hc => ne_of_or hdis10 hx hc.symm) (fun hc => BO10.ne_row owni10 (by decide) (hc ▸ hx))))
        have bb := bb10.trans (F9.below (B := w.heap.size) (fun x h1 h2 hc => hc.elim (fun hc => by have := Ow.blk_in ow' hc.symm; omega) (fun hc => by omega)) bb10.size)
        have hdis11 : blk a5 c5 = none ∨ blk a5 c5 ≠ blk a6 c6 := by
          rcases hblq with hn | hn
          · rw [hn]; exact hdis10
          · cases hk5 : blk a5 c5 with
            | none => exact .inl rfl
            | some y =>
              refine .inr fun he => ?_
              have h4 := (Ow.blk_in owni10 hk5).2
              rw [hn] at he
              injection he with he
              omega
        clear F9 hs9 hf9 hi6 ownq hgrq hblq BOq BO10 BP10 BR10 hE10 owni10 ownp110 ownp210 bb10 ow'
        generalize wq.setCell ⟨b, 2, none⟩ (.slice a6 (M.inputs.length + N.inputs.length) c6) = wz at *
        have hNB : NBx wz lo b (unN M N) := by
          rw [HUN.out]
          refine ⟨a4, c4, _, a5, c5, a6, c6, ?_, hE11, owni11, ownp11, hdis11⟩
          show Bx _ _ _ #[.slice _ (M.ends ++ R2).length c4, .slice _ (M.ids ++ N.ids).length c5, .slice _ (M.inputs ++ N.inputs).length c6]
          rw [List.length_append, List.length_append, List.length_append]
          exact BO11
        clear BO11 hE11 owni11 ownp11 hdis11 hdis10
        obtain ⟨Nk, hNk⟩ : ∃ Nk, Nk = unN M N := ⟨_, rfl⟩
        rw [← hNk] at hNB
        have HNk := Lib.hid hNk
        clear hNk
        obtain ⟨ax, cx, aix, cix, apx, cpx, BO, own9⟩ := hNB.at_
        have q0 := BO.cell 0 _ rfl
        have q1 := BO.cell 1 _ rfl
        have q2 := BO.cell 2 _ rfl
        have e0 := BR.cell 0 _ rfl
        have e1 := BR.cell 1 _ rfl
        have e2 := BR.cell 2 _ rfl
        have f0 := BR.frozen 0
        have f1 := BR.frozen 1
        have f2 := BR.frozen 2
        go_wp2_with fail
        clear q0 q1 q2 e0 e1 e2 f0 f1 f2
        generalize hW : World.setCell _ _ _ = W
        have B6 : Bx W (w.heap.size + 1 + 1) 29 #[.slice ax Nk.ends.length cx, .slice aix Nk.ids.length cix, .slice apx Nk.inputs.length cpx] := by rw [← hW]; exact ((BR.set 0 _).set 1 _).set 2 _
        have fr6 : Fr (fun k => k = w.heap.size + 1 + 1) wz W := by rw [← hW]; exact fr3 _ _ _ _ _
        clear hW
        have z6 := fr6.size
        have d0 := B6.cell 0 _ rfl
        have d1 := B6.cell 1 _ rfl
        have d2 := B6.cell 2 _ rfl
        refine bodyPost_ret (v := .agg #[.slice ax Nk.ends.length cx, .slice aix Nk.ids.length cix, .slice apx Nk.inputs.length cpx]) (by simp [results, Try.results41, go_sem, d0, d1, d2]) rfl ?_
        rw [← HNk.out]
        exact ⟨_, rfl, (own9.frBx BR fr6).wide (by omega) (by omega), bb.trans (fr6.below (fun k h1 h2 hc => by omega) bb.size)⟩
set_option maxRecDepth 100000 in
set_option maxHeartbeats 1600000 in
theorem uni_any (V0 V1 : Value) (M N : Net) (w : World) (B0 B1 : Nat) (hv0 : NetIn w B0 V0 M) (hB0 : B0 ≤ w.heap.size) (hv1 : NetIn w B1 V1 N) (hB1 : B1 ≤ w.heap.size) (hs0 : NetSmall M) (hs1 : NetSmall N) :
    Calls Try.prog 13 #[V0, V1] w (PostN (unR M N) (unOk M N) w) := by
  have HV0 := Lib.hid hv0
  have HV1 := Lib.hid hv1
  have HS0 := Lib.hid hs0
  have HS1 := Lib.hid hs1
  obtain ⟨a0, c0, vs0, ai0, ci0, ap0, cp0, rfl, h01, h02, h03, _⟩ := hv0
  obtain ⟨a1, c1, vs1, ai1, ci1, ap1, cp1, rfl, h11, h12, h13, _⟩ := hv1
  have hl0 : M.ends.length ≤ 1048576 := by unfold NetSmall at hs0; omega
  have hl1 : N.ends.length ≤ 1048576 := by unfold NetSmall at hs1; omega
  have hi0 : M.ids.length ≤ 1048576 := by unfold NetSmall at hs0; omega
  have hi1 : N.ids.length ≤ 1048576 := by unfold NetSmall at hs1; omega
  have BA := ((Bx.made w 29 #[.slice a0 M.ends.length c0, .slice ai0 M.ids.length ci0, .slice ap0 M.inputs.length cp0]).alloc (.cells #[.slice a1 N.ends.length c1, .slice ai1 N.ids.length ci1, .slice ap1 N.inputs.length cp1] 29)).alloc (.cells #[.slice none 0 0, .slice none 0 0, .slice none 0 0] 29)
  have BB := (Bx.made (w.alloc (.cells #[.slice a0 M.ends.length c0, .slice ai0 M.ids.length ci0, .slice ap0 M.inputs.length cp0] 29)) 29 #[.slice a1 N.ends.length c1, .slice ai1 N.ids.length ci1, .slice ap1 N.inputs.length cp1]).alloc (.cells #[.slice none 0 0, .slice none 0 0, .slice none 0 0] 29)
  have BR := Bx.made ((w.alloc (.cells #[.slice a0 M.ends.length c0, .slice ai0 M.ids.length ci0, .slice ap0 M.inputs.length cp0] 29)).alloc (.cells #[.slice a1 N.ends.length c1, .slice ai1 N.ids.length ci1, .slice ap1 N.inputs.length cp1] 29)) 29 #[.slice none 0 0, .slice none 0 0, .slice none 0 0]
  have b0 : Below w.heap.size w (((w.alloc (.cells #[.slice a0 M.ends.length c0, .slice ai0 M.ids.length ci0, .slice ap0 M.inputs.length cp0] 29)).alloc (.cells #[.slice a1 N.ends.length c1, .slice ai1 N.ids.length ci1, .slice ap1 N.inputs.length cp1] 29)).alloc (.cells #[.slice none 0 0, .slice none 0 0, .slice none 0 0] 29)) := (by repeat (first | exact Below.refl _ _ | assumption | refine Below.alloc ?_ (by first | (simp; done) | (simp; omega) | omega) _ | refine Below.setCell ?_ (by first | (simp; done) | (simp; omega) | omega) _ | refine Below.drew ?_ | refine Below.drewN ?_ _))
  have z0 : w.heap.size + 1 + 1 + 1 ≤ (((w.alloc (.cells #[.slice a0 M.ends.length c0, .slice ai0 M.ids.length ci0, .slice ap0 M.inputs.length cp0] 29)).alloc (.cells #[.slice a1 N.ends.length c1, .slice ai1 N.ids.length ci1, .slice ap1 N.inputs.length cp1] 29)).alloc (.cells #[.slice none 0 0, .slice none 0 0, .slice none 0 0] 29)).heap.size := by simp
  rw [World.size_alloc] at BB
  rw [World.size_alloc, World.size_alloc] at BR
  clear hs0 hs1 h01 h02 h03 h11 h12 h13
  go_enter Try.func13, Try.ntmps13
  go_wp2_with fail
  generalize ((w.alloc (.cells #[.slice a0 M.ends.length c0, .slice ai0 M.ids.length ci0, .slice ap0 M.inputs.length cp0] 29)).alloc (.cells #[.slice a1 N.ends.length c1, .slice ai1 N.ids.length ci1, .slice ap1 N.inputs.length cp1] 29)).alloc (.cells #[.slice none 0 0, .slice none 0 0, .slice none 0 0] 29) = w0 at *
  refine (isNetwork_any _ M _ B0 (HV0.out.below (b0.mono hB0)).rd (Nat.le_trans hB0 b0.size) HS0.out).mono ?_
  rintro e w1 ⟨rfl, bel1⟩
  replace BA := BA.new bel1
  replace BB := BB.new bel1
  replace BR := BR.new bel1
  have z1 := bel1.size
  have bb := b0.trans (bel1.mono b0.size)
  clear b0 bel1
  cases hm : netB M with
  | false =>
    have HF := Lib.hid (unB_f0 (N := N) hm)
    clear hm
    have e0 := BR.cell 0 _ rfl
    have e1 := BR.cell 1 _ rfl
    have e2 := BR.cell 2 _ rfl
    have f0 := BR.frozen 0
    have f1 := BR.frozen 1
    have f2 := BR.frozen 2
    go_wp2_with fail
    clear e0 e1 e2 f0 f1 f2
    generalize hW : World.setCell _ _ _ = W
    have B6 : Bx W (w.heap.size + 1 + 1) 29 #[.slice none 0 0, .slice none 0 0, .slice none 0 0] := by rw [← hW]; exact ((BR.set 0 _).set 1 _).set 2 _
    have fr6 : Fr (fun k => k = w.heap.size + 1 + 1) w1 W := by rw [← hW]; exact fr3 _ _ _ _ _
    clear hW
    have z6 := fr6.size
    have d0 := B6.cell 0 _ rfl
    have d1 := B6.cell 1 _ rfl
    have d2 := B6.cell 2 _ rfl
    refine bodyPost_ret (v := .tuple #[.agg #[.slice none 0 0, .slice none 0 0, .slice none 0 0], .bool false]) (by simp [results, Try.results13, go_sem, d0, d1, d2]) rfl ?_
    rw [unR_f HF.out, unOk_f HF.out]
    exact ⟨_, rfl, NetAt.nilN _ _ _, bb.trans (fr6.below (fun k h1 h2 hc => by omega) bb.size)⟩
  | true =>
  have HM := Lib.hid hm
  clear hm
  have c0' := BB.cell 0 _ rfl
  have c1' := BB.cell 1 _ rfl
  have c2' := BB.cell 2 _ rfl
  go_wp2_with fail
  clear c0' c1' c2'
  refine (isNetwork_any _ N _ B1 (HV1.out.below (bb.mono hB1)).rd (Nat.le_trans hB1 bb.size) HS1.out).mono ?_
  rintro e w2 ⟨rfl, bel1⟩
  replace BA := BA.new bel1
  replace BB := BB.new bel1
  replace BR := BR.new bel1
  have z2 := bel1.size
  replace bb := bb.trans (bel1.mono bb.size)
  clear bel1
  cases hn : netB N with
  | false =>
    have HF := Lib.hid (unB_f1 (M := M) hn)
    clear hn
    have e0 := BR.cell 0 _ rfl
    have e1 := BR.cell 1 _ rfl
    have e2 := BR.cell 2 _ rfl
    have f0 := BR.frozen 0
    have f1 := BR.frozen 1
    have f2 := BR.frozen 2
    go_wp2_with fail
    clear e0 e1 e2 f0 f1 f2
    generalize hW : World.setCell _ _ _ = W
    have B6 : Bx W (w.heap.size + 1 + 1) 29 #[.slice none 0 0, .slice none 0 0, .slice none 0 0] := by rw [← hW]; exact ((BR.set 0 _).set 1 _).set 2 _
    have fr6 : Fr (fun k => k = w.heap.size + 1 + 1) w2 W := by rw [← hW]; exact fr3 _ _ _ _ _
    clear hW
    have z6 := fr6.size
    have d0 := B6.cell 0 _ rfl
    have d1 := B6.cell 1 _ rfl
    have d2 := B6.cell 2 _ rfl
    refine bodyPost_ret (v := .tuple #[.agg #[.slice none 0 0, .slice none 0 0, .slice none 0 0], .bool false]) (by simp [results, Try.results13, go_sem, d0, d1, d2]) rfl ?_
    rw [unR_f HF.out, unOk_f HF.out]
    exact ⟨_, rfl, NetAt.nilN _ _ _, bb.trans (fr6.below (fun k h1 h2 hc => by omega) bb.size)⟩
  | true =>
  have HN := Lib.hid hn
  clear hn
  have HSJ := Lib.hid (unN_small2 HM.out HN.out)
  have c1a := BA.cell 1 _ rfl
  have c1b := BB.cell 1 _ rfl
  have hUB := unB_n HM.out HN.out
  by_cases hm0 : M.ids.length = 0
  all_goals by_cases hn0 : N.ids.length = 0
  · have HT := Lib.hid (show unB M N = true by rw [hUB, decide_eq_true hm0, decide_eq_true hn0]; rfl)
    have em : ((M.ids.length : Int) == 0) = true := beq_iff_eq.2 (by omega)
    have en : ((N.ids.length : Int) == 0) = true := beq_iff_eq.2 (by omega)
    clear hUB hm0 hn0
    have c0' := BB.cell 0 _ rfl
    have c2' := BB.cell 2 _ rfl
    have d0' := BA.cell 0 _ rfl
    have d2' := BA.cell 2 _ rfl
    go_wp2_with fail
    clear c0' c2' d0' d2' c1a c1b em en
    refine (joined_any _ _ M N _ B0 B1 (HV0.out.below (bb.mono hB0)) (Nat.le_trans hB0 bb.size) (HV1.out.below (bb.mono hB1)) (Nat.le_trans hB1 bb.size) HS0.out HS1.out HM.out HN.out).mono ?_
    rintro e w3 ⟨x3, rfl, own3, bel3⟩
    replace BR := BR.new bel3
    replace bb := bb.trans (bel3.mono bb.size)
    have z3 := bel3.size
    clear bel3 BA BB
    obtain ⟨Nk, hNk⟩ : ∃ Nk, Nk = unN M N := ⟨_, rfl⟩
    rw [← hNk] at own3 HSJ
    have HNk := Lib.hid hNk
    clear hNk
    go_wp2_with fail
    refine (network_any _ Nk _ _ _ own3 (Nat.le_refl _) (by omega) HSJ.out).mono ?_
    rintro e w4 ⟨x4, rfl, own4, bel4⟩
    replace BR := BR.new bel4
    replace bb := bb.trans (bel4.mono bb.size)
    have z4 := bel4.size
    clear bel4 own3
    obtain ⟨ax, cx, aix, cix, apx, cpx, rfl, own4⟩ := own4.shape
    generalize hRR : ifN (netB Nk) Nk = RR at *
    generalize hOO : netB Nk = oo at *
    have HRR := Lib.hid hRR
    have HOO := Lib.hid hOO
    clear hRR hOO
    have e0 := BR.cell 0 _ rfl
    have e1 := BR.cell 1 _ rfl
    have e2 := BR.cell 2 _ rfl
    have f0 := BR.frozen 0
    have f1 := BR.frozen 1
    have f2 := BR.frozen 2
    go_wp2_with fail
    clear e0 e1 e2 f0 f1 f2
    generalize hW : World.setCell _ _ _ = W
    have B6 : Bx W (w.heap.size + 1 + 1) 29 #[.slice ax RR.ends.length cx, .slice aix RR.ids.length cix, .slice apx RR.inputs.length cpx] := by rw [← hW]; exact ((BR.set 0 _).set 1 _).set 2 _
    have fr6 : Fr (fun k => k = w.heap.size + 1 + 1) w4 W := by rw [← hW]; exact fr3 _ _ _ _ _
    clear hW
    have z6 := fr6.size
    have d0 := B6.cell 0 _ rfl
    have d1 := B6.cell 1 _ rfl
    have d2 := B6.cell 2 _ rfl
    refine bodyPost_ret (v := .tuple #[.agg #[.slice ax RR.ends.length cx, .slice aix RR.ids.length cix, .slice apx RR.inputs.length cpx], .bool oo]) (by simp [results, Try.results13, go_sem, d0, d1, d2]) rfl ?_
    rw [unR_t HT.out, unOk_t HT.out, ← HNk.out, HOO.out, HRR.out]
    exact ⟨_, rfl, (own4.frBx BR fr6).wide (lo' := w.heap.size) (hi' := W.heap.size) (by omega) (by omega), bb.trans (fr6.below (fun k h1 h2 hc => by omega) bb.size)⟩
  · have HF := Lib.hid (show unB M N = false by rw [hUB, decide_eq_true hm0, decide_eq_false hn0]; rfl)
    have em : ((M.ids.length : Int) == 0) = true := beq_iff_eq.2 (by omega)
    have en : ((N.ids.length : Int) == 0) = false := beq_eq_false_iff_ne.2 (by omega)
    clear hUB hm0 hn0
    have e0 := BR.cell 0 _ rfl
    have e1 := BR.cell 1 _ rfl
    have e2 := BR.cell 2 _ rfl
    have f0 := BR.frozen 0
    have f1 := BR.frozen 1
    have f2 := BR.frozen 2
    go_wp2_with fail
    clear e0 e1 e2 f0 f1 f2
    generalize hW : World.setCell _ _ _ = W
    have B6 : Bx W (w.heap.size + 1 + 1) 29 #[.slice none 0 0, .slice none 0 0, .slice none 0 0] := by rw [← hW]; exact ((BR.set 0 _).set 1 _).set 2 _
    have fr6 : Fr (fun k => k = w.heap.size + 1 + 1) w2 W := by rw [← hW]; exact fr3 _ _ _ _ _
    clear hW
    have z6 := fr6.size
    have d0 := B6.cell 0 _ rfl
    have d1 := B6.cell 1 _ rfl
    have d2 := B6.cell 2 _ rfl
    refine bodyPost_ret (v := .tuple #[.agg #[.slice none 0 0, .slice none 0 0, .slice none 0 0], .bool false]) (by simp [results, Try.results13, go_sem, d0, d1, d2]) rfl ?_
    rw [unR_f HF.out, unOk_f HF.out]
    exact ⟨_, rfl, NetAt.nilN _ _ _, bb.trans (fr6.below (fun k h1 h2 hc => by omega) bb.size)⟩
  · have HF := Lib.hid (show unB M N = false by rw [hUB, decide_eq_false hm0, decide_eq_true hn0]; rfl)
    have em : ((M.ids.length : Int) == 0) = false := beq_eq_false_iff_ne.2 (by omega)
    have en : ((N.ids.length : Int) == 0) = true := beq_iff_eq.2 (by omega)
    clear hUB hm0 hn0
    have e0 := BR.cell 0 _ rfl
    have e1 := BR.cell 1 _ rfl
    have e2 := BR.cell 2 _ rfl
    have f0 := BR.frozen 0
    have f1 := BR.frozen 1
    have f2 := BR.frozen 2
    go_wp2_with fail
    clear e0 e1 e2 f0 f1 f2
    generalize hW : World.setCell _ _ _ = W
    have B6 : Bx W (w.heap.size + 1 + 1) 29 #[.slice none 0 0, .slice none 0 0, .slice none 0 0] := by rw [← hW]; exact ((BR.set 0 _).set 1 _).set 2 _
    have fr6 : Fr (fun k => k = w.heap.size + 1 + 1) w2 W := by rw [← hW]; exact fr3 _ _ _ _ _
    clear hW
    have z6 := fr6.size
    have d0 := B6.cell 0 _ rfl
    have d1 := B6.cell 1 _ rfl
    have d2 := B6.cell 2 _ rfl
    refine bodyPost_ret (v := .tuple #[.agg #[.slice none 0 0, .slice none 0 0, .slice none 0 0], .bool false]) (by simp [results, Try.results13, go_sem, d0, d1, d2]) rfl ?_
    rw [unR_f HF.out, unOk_f HF.out]
    exact ⟨_, rfl, NetAt.nilN _ _ _, bb.trans (fr6.below (fun k h1 h2 hc => by omega) bb.size)⟩
  · have HT := Lib.hid (show unB M N = true by rw [hUB, decide_eq_false hm0, decide_eq_false hn0]; rfl)
    have em : ((M.ids.length : Int) == 0) = false := beq_eq_false_iff_ne.2 (by omega)
    have en : ((N.ids.length : Int) == 0) = false := beq_eq_false_iff_ne.2 (by omega)
    clear hUB hm0 hn0
    have c0' := BB.cell 0 _ rfl
    have c2' := BB.cell 2 _ rfl
    have d0' := BA.cell 0 _ rfl
    have d2' := BA.cell 2 _ rfl
    go_wp2_with fail
    clear c0' c2' d0' d2' c1a c1b em en
    refine (joined_any _ _ M N _ B0 B1 (HV0.out.below (bb.mono hB0)) (Nat.le_trans hB0 bb.size) (HV1.out.below (bb.mono hB1)) (Nat.le_trans hB1 bb.size) HS0.out HS1.out HM.out HN.out).mono ?_
    rintro e w3 ⟨x3, rfl, own3, bel3⟩
    replace BR := BR.new bel3
    replace bb := bb.trans (bel3.mono bb.size)
    have z3 := bel3.size
    clear bel3 BA BB
    obtain ⟨Nk, hNk⟩ : ∃ Nk, Nk = unN M N := ⟨_, rfl⟩
    rw [← hNk] at own3 HSJ
    have HNk := Lib.hid hNk
    clear hNk
    go_wp2_with fail
    refine (network_any _ Nk _ _ _ own3 (Nat.le_refl _) (by omega) HSJ.out).mono ?_
    rintro e w4 ⟨x4, rfl, own4, bel4⟩
    replace BR := BR.new bel4
    replace bb := bb.trans (bel4.mono bb.size)
    have z4 := bel4.size
    clear bel4 own3
    obtain ⟨ax, cx, aix, cix, apx, cpx, rfl, own4⟩ := own4.shape
    generalize hRR : ifN (netB Nk) Nk = RR at *
    generalize hOO : netB Nk = oo at *
    have HRR := Lib.hid hRR
    have HOO := Lib.hid hOO
    clear hRR hOO
    have e0 := BR.cell 0 _ rfl
    have e1 := BR.cell 1 _ rfl
    have e2 := BR.cell 2 _ rfl
    have f0 := BR.frozen 0
    have f1 := BR.frozen 1
    have f2 := BR.frozen 2
    go_wp2_with fail
    clear e0 e1 e2 f0 f1 f2
    generalize hW : World.setCell _ _ _ = W
    have B6 : Bx W (w.heap.size + 1 + 1) 29 #[.slice ax RR.ends.length cx, .slice aix RR.ids.length cix, .slice apx RR.inputs.length cpx] := by rw [← hW]; exact ((BR.set 0 _).set 1 _).set 2 _
    have fr6 : Fr (fun k => k = w.heap.size + 1 + 1) w4 W := by rw [← hW]; exact fr3 _ _ _ _ _
    clear hW
    have z6 := fr6.size
    have d0 := B6.cell 0 _ rfl
    have d1 := B6.cell 1 _ rfl
    have d2 := B6.cell 2 _ rfl
    refine bodyPost_ret (v := .tuple #[.agg #[.slice ax RR.ends.length cx, .slice aix RR.ids.length cix, .slice apx RR.inputs.length cpx], .bool oo]) (by simp [results, Try.results13, go_sem, d0, d1, d2]) rfl ?_
    rw [unR_t HT.out, unOk_t HT.out, ← HNk.out, HOO.out, HRR.out]
    exact ⟨_, rfl, (own4.frBx BR fr6).wide (lo' := w.heap.size) (hi' := W.heap.size) (by omega) (by omega), bb.trans (fr6.below (fun k h1 h2 hc => by omega) bb.size)⟩
end Go.Proofs.Ytlooinhdehkcdaa
