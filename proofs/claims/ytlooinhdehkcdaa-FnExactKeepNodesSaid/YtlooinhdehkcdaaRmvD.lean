/- RemoveEdge, KeepNodes: spec.neCut. -/
import Derived.Test.YtlooinhdehkcdaaRmvC
import Derived.Test.YtlooinhdehkcdaaNBxA
import Derived.Test.YtlooinhdehkcdaaOwn
import Derived.StillTailTactics
import Derived.Test.YtlooinhdehkcdaaUntil
import Derived.Deep.DeepCutAuto
namespace Go.Proofs.Ytlooinhdehkcdaa
open Go.RowKit
set_option linter.unusedVariables false
set_option linter.unusedSimpArgs false

theorem ints_info9 : (Try.prog.info? 23).map (fun i => (i.zero, i.size, i.bytes)) = some (some (.slice none 0 0), 1, 24) := by kernel_rfl
/-- 'rows[v] = append(rows[v], z)', rows a variable of the function -/
theorem RowsI.app_mem {w w1 w2 : World} {lo A c v g' cap' : Nat} {rows : List (List Int)} {vs : Nat → Option Addr × Nat} {z : Int} (hE : RowsI w lo w.heap.size (some ⟨A, 0, none⟩) c rows vs) (hv : v < rows.length) (hw1 : Below w.heap.size w w1) (hlo : lo ≤ w.heap.size) (hA : lo ≤ A)
    (hg : w1.grownBy w2 (blk (vs v).1 (vs v).2)) (ho : Ow w2 lo w2.heap.size 3 1 (some ⟨g', 0, none⟩) ((rowOf rows v).length + 1) cap' (app (cellI (rowOf rows v)) ((rowOf rows v).length * 1) [.int .i64 z])) (hb : blk (vs v).1 (vs v).2 = some g' ∨ g' = w1.heap.size) :
    w2.cell? ⟨A, v, none⟩ = some (.slice (vs v).1 (rowOf rows v).length (vs v).2) ∧ w2.frozen? ⟨A, v, none⟩ = false ∧
    ∃ vs', RowsI (w2.setCell ⟨A, v, none⟩ (.slice (some ⟨g', 0, none⟩) ((rowOf rows v).length + 1) cap')) lo (w2.setCell ⟨A, v, none⟩ (.slice (some ⟨g', 0, none⟩) ((rowOf rows v).length + 1) cap')).heap.size (some ⟨A, 0, none⟩) c (rows.set v (rowOf rows v ++ [z])) vs' ∧
      Below lo w (w2.setCell ⟨A, v, none⟩ (.slice (some ⟨g', 0, none⟩) ((rowOf rows v).length + 1) cap')) := by
  have hz1 := hw1.size
  have hE1 : RowsI w1 lo w.heap.size (some ⟨A, 0, none⟩) c rows vs := RowsAt.new hE hw1
  have hrl : (rowOf rows v ++ [z]).length = (rowOf rows v).length + 1 := by simp
  have ho1 := hE1.1.grown hg (hE1.1.ne_of_type (hE1.2.1 v hv) (by decide))
  have hput := RowsAt.put (r := rowOf rows v ++ [z]) hE1 hv (by decide) hz1 rfl hg (OwI.snoc ho) hb
  rw [hrl] at hput
  refine ⟨?_, Ow.frozen ho1 (by omega) v, _, RowsAt.top hput, ?_⟩
  · obtain ⟨g, off, hae, _, hc⟩ := Rd.at (Ow.rd ho1) hv
    obtain ⟨rfl, rfl⟩ : A = g ∧ 0 = off := by injection hae with h; injection h with h1 h2; exact ⟨h1, h2⟩
    rwa [Nat.zero_add] at hc
  · exact (hw1.mono hlo).trans (Below.setCell ((Fr.of_grown hg).below (B := lo) (fun k hk _ hc => by have := (hE1.2.1 v hv).blk_in hc.symm; omega) (Nat.le_trans hlo hz1)) hA _)
theorem cell_new_ {w w' : World} (h : Below w.heap.size w w') {p : Addr} {v : Value} (hc : w.cell? p = some v) : w'.cell? p = some v := (h.cell (World.block_lt_of_cell? w p hc)).trans hc
theorem RowsI.head {w : World} {lo hi A c v : Nat} {rows : List (List Int)} {vs : Nat → Option Addr × Nat} (hE : RowsI w lo hi (some ⟨A, 0, none⟩) c rows vs) (hv : v < rows.length) :
    w.cell? ⟨A, v, none⟩ = some (.slice (vs v).1 (rowOf rows v).length (vs v).2) := by
  obtain ⟨g2, off, hae, _, hc⟩ := Rd.at (Ow.rd hE.1) hv
  obtain ⟨rfl, rfl⟩ : A = g2 ∧ 0 = off := by injection hae with h; injection h with h1 h2; exact ⟨h1, h2⟩
  rwa [Nat.zero_add] at hc
set_option maxRecDepth 100000 in
set_option maxHeartbeats 6400000 in
theorem neCut_any (V : Value) (N : Net) (ks : List (List Bool)) (ka : Option Addr) (kc : Nat) (vk : Nat → Option Addr × Nat) (w : World) (B : Nat) (hv : NetIn w B V N) (hk : RdBB w B ka ks vk) (hB : B ≤ w.heap.size) (hnet : netB N = true) (hks : sameB N.ends ks) :
    Calls Try.prog 53 #[V, .slice ka N.ends.length kc] w fun e w' => ∃ x, e = .returned x ∧ NetAt w' w.heap.size w'.heap.size x (cutN N (kpOf ks)) ∧ Below w.heap.size w w' := by
  have HN := Lib.hid hnet
  have HSM := Lib.hid (netB_small hnet)
  obtain ⟨hkl, hkr⟩ := hks
  have HKR := Lib.hid hkr
  have hk1 := hk.1
  have hk2 := hk.2
  rw [hkl] at hk1 hk2
  have HRK := Lib.hid hk2
  obtain ⟨a0, c0, vs0, ai0, ci0, ap0, cp0, rfl, h1, h2, h3, _⟩ := hv
  have hle : N.ends.length ≤ 40 := HSM.out.1
  have hge : 1 ≤ N.ends.length := HSM.out.2.1
  have hin1 : N.inputs.length ≤ 40 := by have := HSM.out; omega
  have hid1 : N.ids.length ≤ 40 := HSM.out.2.2.2.1
  obtain ⟨g0, off0, rfl, hg0, hc0⟩ := h1.1 (by omega)
  obtain ⟨gk, offk, rfl, hgk, hck⟩ := hk1 (by omega)
  have HC0 := Lib.hid hc0
  have HCK := Lib.hid hck
  have HR0 := Lib.hid h1.2
  clear hnet h1 hc0 hck hk1 hk2 hk hkl hkr
  have BA := (Bx.made w 29 #[.slice (some ⟨g0, off0, none⟩) N.ends.length c0, .slice ai0 N.ids.length ci0, .slice ap0 N.inputs.length cp0]).alloc (.cells #[.slice none 0 0, .slice none 0 0, .slice none 0 0] 29)
  have BR := Bx.made (w.alloc (.cells #[.slice (some ⟨g0, off0, none⟩) N.ends.length c0, .slice ai0 N.ids.length ci0, .slice ap0 N.inputs.length cp0] 29)) 29 #[.slice none 0 0, .slice none 0 0, .slice none 0 0]
  have b0 : Below w.heap.size w ((w.alloc (.cells #[.slice (some ⟨g0, off0, none⟩) N.ends.length c0, .slice ai0 N.ids.length ci0, .slice ap0 N.inputs.length cp0] 29)).alloc (.cells #[.slice none 0 0, .slice none 0 0, .slice none 0 0] 29)) := (by repeat (first | exact Below.refl _ _ | assumption | refine Below.alloc ?_ (by first | (simp; done) | (simp; omega) | omega) _ | refine Below.setCell ?_ (by first | (simp; done) | (simp; omega) | omega) _ | refine Below.drew ?_ | refine Below.drewN ?_ _))
  have z0 : w.heap.size + 1 + 1 ≤ ((w.alloc (.cells #[.slice (some ⟨g0, off0, none⟩) N.ends.length c0, .slice ai0 N.ids.length ci0, .slice ap0 N.inputs.length cp0] 29)).alloc (.cells #[.slice none 0 0, .slice none 0 0, .slice none 0 0] 29)).heap.size := by simp
  rw [World.size_alloc] at BR
  go_enter Try.func53, Try.ntmps53
  go_upto_region 1 with fail
  generalize (w.alloc (.cells #[.slice (some ⟨g0, off0, none⟩) N.ends.length c0, .slice ai0 N.ids.length ci0, .slice ap0 N.inputs.length cp0] 29)).alloc (.cells #[.slice none 0 0, .slice none 0 0, .slice none 0 0] 29) = w0 at *
  have q0 := BA.cell 0 _ rfl
  obtain ⟨lo, hlo⟩ : ∃ lo, lo = w0.heap.size := ⟨_, rfl⟩
  have HLO := Lib.hid hlo
  clear hlo
  go_upto_region 2 with (at_make; refine wpList_mk _ rfl _ _ _ rfl 23 (.slice none 0 0) 24 Try.underlying89 ints_info9 rfl .i64 .i64 _ _ N.ends.length rfl rfl rfl rfl (by omega) (by omega) ?_; intro w1 hrow hsz hbel; rw [← HLO.out] at hrow hbel hsz ⊢)
  have zlo : lo ≤ w1.heap.size := by omega
  have zlo2 : w.heap.size + 1 + 1 ≤ lo := by have := HLO.out; omega
  have hBl : B ≤ lo := by omega
  have bb : Below w.heap.size w w1 := b0.trans (hbel.mono (by omega))
  replace BA : Bx w1 w.heap.size 29 #[.slice (some ⟨g0, off0, none⟩) N.ends.length c0, .slice ai0 N.ids.length ci0, .slice ap0 N.inputs.length cp0] := BA.below hbel (by omega)
  replace BR : Bx w1 (w.heap.size + 1) 29 #[.slice none 0 0, .slice none 0 0, .slice none 0 0] := BR.below hbel (by omega)
  have hT : ∃ vt, RowsI w1 lo w1.heap.size (some ⟨lo, 0, none⟩) N.ends.length (toT N.ends (kpOf ks) 0 0) vt := ⟨_, by rw [toT_zero]; exact RowsI.empty hrow (Nat.le_refl _) hrow.lt (by unfold maxLen; omega)⟩
  clear hrow hsz hbel b0 q0 z0
  have q0 := BA.cell 0 _ rfl
  go_wp2_with fail
  clear q0
  go_loopw [23] (fun iv wr => ∃ v : Nat, v ≤ N.ends.length ∧ iv = .int .i64 v ∧ (∃ vt, RowsI wr lo wr.heap.size (some ⟨lo, 0, none⟩) N.ends.length (toT N.ends (kpOf ks) v 0) vt) ∧ Below lo w1 wr) (fun iv _ => N.ends.length - (intOf iv).toNat)
  case atStart => exact ⟨0, Nat.zero_le _, rfl, hT, Below.refl _ _⟩
  case round =>
    clear hT
    obtain ⟨v, hvl, rfl, hT, bel⟩ := hrel
    have zr := bel.size
    by_cases hlt : v < N.ends.length
    · have bw := bb.trans (bel.mono (by omega))
      have hc1 := (bw.cell (p := ⟨g0, off0 + v, none⟩) (by show g0 < _; omega)).trans (HC0.out v hlt)
      have hL1 := net_row HN.out hlt
      have HKV := Lib.hid (HKR.out v hlt)
      generalize hax : (vs0 v).1 = ax at *
      generalize hcx : (vs0 v).2 = cx at *
      obtain ⟨wk, hwk⟩ : ∃ wk, wk = wr := ⟨_, rfl⟩
      subst hwk
      go_wp2_with fail
      clear hc1
      go_loopw [8, 30] (fun kv iv wr => ∃ i : Nat, i ≤ (rowOf N.ends v).length ∧ kv = .int .i64 (rkF (kpOf ks v) i : Nat) ∧ iv = .int .i64 i ∧ (∃ vt, RowsI wr lo wr.heap.size (some ⟨lo, 0, none⟩) N.ends.length (toT N.ends (kpOf ks) v i) vt) ∧ Below lo w1 wr) (fun _ iv _ => (rowOf N.ends v).length - (intOf iv).toNat)
      case atStart => exact ⟨0, Nat.zero_le _, rfl, rfl, hT, bel⟩
      case round =>
        clear hT bel zr bw
        obtain ⟨i, hi, rfl, rfl, ⟨vt, hT⟩, bel⟩ := hrel
        have zr := bel.size
        by_cases hil : i < (rowOf N.ends v).length
        · have hik : i < (rowOf ks v).length := by have := HKV.out; omega
          have hvt : v < (toT N.ends (kpOf ks) v i).length := by rw [toT_length]; exact hlt
          have HAT := Lib.hid (toT_at (kpOf ks) i hlt)
          have HLN : Hid ((rowOf (toT N.ends (kpOf ks) v i) v).length = i) := Lib.hid (by rw [HAT.out, ctI_length])
          have HAD := Lib.hid (toT_add (kpOf ks) i hlt)
          have hct := RowsI.head hT hvt
          have hrw := hT.2.1 v hvt
          rw [HLN.out] at hct hrw
          have hkk := rkF_le (kpOf ks v) i
          have HRF := Lib.hid (show rkF (kpOf ks v) (i + 1) = rkF (kpOf ks v) i + if nthB (rowOf ks v) i then 1 else 0 from rfl)
          generalize hR : rkF (kpOf ks v) i = kk at *
          obtain ⟨wa, hwa⟩ : ∃ wa, wa = wr.alloc (.cells #[.int .i64 (kk : Int)] 3) := ⟨_, rfl⟩
          have bwa : Below wr.heap.size wr wa := by rw [hwa]; exact (by repeat (first | exact Below.refl _ _ | assumption | refine Below.alloc ?_ (by first | (simp; done) | (simp; omega) | omega) _ | refine Below.setCell ?_ (by first | (simp; done) | (simp; omega) | omega) _ | refine Below.drew ?_ | refine Below.drewN ?_ _))
          have hnw : ∀ jj uu, [Value.int .i64 (kk : Int)][jj]? = some uu → wa.cell? (Addr.add ⟨wr.heap.size, 0, none⟩ jj) = some uu := by
            rw [hwa]
            exact cell_one_new wr (.int .i64 (kk : Int)) 3
          have HWA := Lib.hid hwa
          clear hwa hR
          have zwa := bwa.size
          have hlow : lo ≤ wr.heap.size := by omega
          go_upto_region 10 with (at_builtin; rw [← HWA.out]; refine wpList_app rfl _ _ _ rfl 3 (.int .i64 0) 1 8 Try.underlying23 int_info rfl (by decide) lo wr.heap.size (vt v).1 i (vt v).2 _ rfl (Ow.new hrw bwa) ⟨wr.heap.size, 0, none⟩ 1 1 [.int .i64 (kk : Int)] rfl rfl hnw (by simp [Value.oneCell']) (by decide) (by unfold maxLen; omega) (by omega) (by omega) ?_; intro g' cap' w2 own2 hgr hnew _; obtain ⟨hc2, hf2, vt', hT', belT⟩ := RowsI.app_mem (z := (kk : Int)) hT hvt bwa hlow (Nat.le_refl _) hgr (by rw [HLN.out]; exact own2) hnew; rw [HLN.out] at hc2)
          rw [HAT.out, HAD.out, ctI_length] at hT'
          rw [HAT.out, ctI_length] at belT
          clear hc2 hf2 hct hrw hgr hnew own2 hnw bwa
          generalize w2.setCell ⟨lo, v, none⟩ (.slice (some ⟨g', 0, none⟩) (i + 1) cap') = w3 at *
          have bel3 := bel.trans belT
          have bw := bb.trans (bel3.mono (by omega))
          have hk1 := (bw.cell (p := ⟨gk, offk + v, none⟩) (by show gk < _; omega)).trans (HCK.out v hlt)
          obtain ⟨gr, or_, hre, _, hk2⟩ := Rd.at ((HRK.out v hlt).below (bw.mono hB)) hik
          rw [hre] at hk1
          unfold cellB at hk2
          cases hkb : nthB (rowOf ks v) i with
          | true =>
            rw [hkb] at hk2 HRF
            have hk1b : kk + 1 ≤ 7 := by omega
            go_wp2_with fail
            clear hk1 hk2
            go_roundw
            case rel => exact ⟨i + 1, by omega, by rw [HRF.out]; go_num, by go_num, ⟨vt', hT'⟩, bel3⟩
            case measure => simp [intOf]; omega
          | false =>
            rw [hkb] at hk2 HRF
            go_wp2_with fail
            clear hk1 hk2
            go_roundw
            case rel => exact ⟨i + 1, by omega, by rw [HRF.out]; go_num, by go_num, ⟨vt', hT'⟩, bel3⟩
            case measure => simp [intOf]; omega
        · have HIL := Lib.hid (show i = (rowOf N.ends v).length by omega)
          rw [HIL.out, toT_next] at hT
          go_wp2_with fail
          go_roundw
          case rel => exact ⟨v + 1, by omega, by go_num, ⟨vt, hT⟩, bel⟩
          case measure => simp [intOf]; omega
    · have HVK := Lib.hid (show v = N.ends.length by omega)
      rw [HVK.out] at hT
      obtain ⟨vt, hT⟩ := hT
      obtain ⟨wt, hwt⟩ : ∃ wt, wt = wr := ⟨_, rfl⟩
      subst hwt
      obtain ⟨lo2, hlo2⟩ : ∃ lo2, lo2 = wt.heap.size := ⟨_, rfl⟩
      have HTR := Lib.hid (show RowsI wt lo lo2 (some ⟨lo, 0, none⟩) N.ends.length (toT N.ends (kpOf ks) N.ends.length 0) vt by rw [hlo2]; exact hT)
      clear hT
      have hlol : lo < lo2 := by
        obtain ⟨gg, hgg, h1, h2⟩ := Ow.addr HTR.out.1 (by rw [toT_length]; omega)
        injection hgg with hgg
        injection hgg with hgg
        omega
      have bw := bb.trans (bel.mono (by omega))
      replace BA := BA.below bel (by omega)
      replace BR := BR.below bel (by omega)
      have zl1 : lo ≤ lo2 := by omega
      have zl2 : lo2 ≤ wt.heap.size := by omega
      have hB2 : B ≤ lo2 := by omega
      have BAt := BA
      clear bb bel zr
      have bb := bw
      have HBW := Lib.hid bw
      clear bw
      have bt : Below lo2 wt wt := Below.refl _ _
      go_upto_region 14 with fail
      go_cut [10] (fun p W => ∃ go, p = .pointer (some ⟨go, 0, none⟩) ∧ NBx W lo2 go { ends := (cutN N (kpOf ks)).ends.take 0, ids := N.ids, inputs := N.inputs } ∧ Below lo2 wt W ∧ lo2 ≤ go)
      case first =>
        replace BA : Bx wt.drew w.heap.size 29 #[.slice (some ⟨g0, off0, none⟩) N.ends.length c0, .slice ai0 N.ids.length ci0, .slice ap0 N.inputs.length cp0] := BA
        replace bb := bb.drew
        replace bt := bt.drew
        have zz : lo2 ≤ wt.drew.heap.size := zl2
  
        refine wp_region_held_drew (S := fun X => X.cell? ⟨w.heap.size, 1, none⟩ = some (.slice ai0 N.ids.length ci0) ∧ X.cell? ⟨w.heap.size, 2, none⟩ = some (.slice ap0 N.inputs.length cp0)) (by kernel_rfl) ⟨BA.cell 1 _ rfl, BA.cell 2 _ rfl⟩ (fun hHeld => ?_)
        generalize wt.drew = wd at *
        refine wpAnyH_take (i := 0) (v := ?_) rfl (by kernel_rfl) (by kernel_rfl) (by kernel_rfl) (fun _ _ _ h => h) (Or.inl ⟨by rfl, ?_⟩) (by assumption) ?_
        rotate_left
        · (intro w hSw; (try dsimp only at hSw); go_simp; try with_reducible rfl)
        try simp only [Act.put, List.getElem_toArray, List.getElem_cons_zero, List.getElem_cons_succ, List.setIfInBounds_toArray, List.set_cons_zero, List.set_cons_succ]
        refine wpAnyH_take (i := 1) (v := ?_) rfl (by kernel_rfl) (by kernel_rfl) (by kernel_rfl) (fun _ _ _ h => h) (Or.inl ⟨by rfl, ?_⟩) (by assumption) ?_
        rotate_left
        · (intro w hSw; (try dsimp only at hSw); go_simp; try with_reducible rfl)
        try simp only [Act.put, List.getElem_toArray, List.getElem_cons_zero, List.getElem_cons_succ, List.setIfInBounds_toArray, List.set_cons_zero, List.set_cons_succ]
        refine wpAnyH_take (i := 3) (v := ?_) rfl (by kernel_rfl) (by kernel_rfl) (by kernel_rfl) (fun _ _ _ h => h) (Or.inl ⟨by rfl, ?_⟩) (by assumption) ?_
        rotate_left
        · (intro w hSw; (try dsimp only at hSw); go_simp; try with_reducible rfl)
        try simp only [Act.put, List.getElem_toArray, List.getElem_cons_zero, List.getElem_cons_succ, List.setIfInBounds_toArray, List.set_cons_zero, List.set_cons_succ]
        refine wpAnyH_take (i := 4) (v := ?_) rfl (by kernel_rfl) (by kernel_rfl) (by kernel_rfl) (fun _ _ _ h => h) (Or.inl ⟨by rfl, ?_⟩) (by assumption) ?_
        rotate_left
        · (intro w hSw; (try dsimp only at hSw); go_simp; try with_reducible rfl)
        try simp only [Act.put, List.getElem_toArray, List.getElem_cons_zero, List.getElem_cons_succ, List.setIfInBounds_toArray, List.set_cons_zero, List.set_cons_succ]
        refine wpAnyH_ready (rs := [2, 7]) (by kernel_rfl) (by simp) ?_
        refine AllReadyH.cons (o := _) rfl (fun K hK => ?_) (AllReadyH.cons (o := _) rfl (fun K hK => ?_) AllReadyH.nil)
        go_simp
        refine (l1Own_any ai0 ci0 N.ids _ B (Rd.below (h2) (bb.mono hB)) (Nat.le_trans hB bb.size) (by omega)).mono ?_
        rintro e wi ⟨ai', ci', rfl, owni, beli⟩
        replace BA := BA.new beli
        have zi := beli.size
        replace bb := bb.trans (beli.mono bb.size)
        replace bt := bt.trans (beli.mono (Nat.le_trans zl2 bt.size))
        clear beli
        refine hK.out _ _ ⟨BA.cell 1 _ rfl, BA.cell 2 _ rfl⟩ (fun hHeld => ?_)
        clear hK K
        try simp only [Act.put, List.getElem_toArray, List.getElem_cons_zero, List.getElem_cons_succ, List.setIfInBounds_toArray, List.set_cons_zero, List.set_cons_succ]
        refine wpAnyH_ready (rs := [5, 7]) (by kernel_rfl) (by simp) ?_
        refine AllReadyH.cons (o := _) rfl (fun K hK => ?_) (AllReadyH.cons (o := _) rfl (fun K hK => ?_) AllReadyH.nil)
        go_simp
        refine (l1Own_any ap0 cp0 N.inputs _ B (Rd.below (h3) (bb.mono hB)) (Nat.le_trans hB bb.size) (by omega)).mono ?_
        rintro e wp ⟨ap', cp', rfl, ownp, belp⟩
        replace BA := BA.new belp
        replace owni := Ow.new owni belp
        have zp := belp.size
        replace bb := bb.trans (belp.mono bb.size)
        replace bt := bt.trans (belp.mono (Nat.le_trans zl2 bt.size))
        have hdis : blk ai' ci' = none ∨ blk ai' ci' ≠ blk ap' cp' := by
          cases hb : blk ai' ci' with
          | none => exact .inl rfl
          | some x => exact .inr fun he => by have h5 := Ow.blk_in owni hb; have h6 := Ow.blk_in ownp he.symm; omega
        clear belp
        refine hK.out _ _ ⟨BA.cell 1 _ rfl, BA.cell 2 _ rfl⟩ (fun hHeld => ?_)
        clear hK K
        try simp only [Act.put, List.getElem_toArray, List.getElem_cons_zero, List.getElem_cons_succ, List.setIfInBounds_toArray, List.set_cons_zero, List.set_cons_succ]
        refine wpAnyH_take (i := 6) (v := ?_) rfl (by kernel_rfl) (by kernel_rfl) (by kernel_rfl) (fun _ _ _ h => h) (Or.inl ⟨by rfl, ?_⟩) (by assumption) ?_
        rotate_left
        · (intro w hSw; (try dsimp only at hSw); go_simp; try with_reducible rfl)
        try simp only [Act.put, List.getElem_toArray, List.getElem_cons_zero, List.getElem_cons_succ, List.setIfInBounds_toArray, List.set_cons_zero, List.set_cons_succ]
        refine wpAnyH_ready (rs := [7]) (by kernel_rfl) (by simp) ?_
        refine AllReadyH.cons (o := _) rfl (fun K hK => ?_) AllReadyH.nil
        go_simp
        have BO := Bx.made wp 29 #[.slice none 0 0, .slice none 0 0, .slice none 0 0]
        have ba : Below wp.heap.size wp (wp.alloc (.cells #[.slice none 0 0, .slice none 0 0, .slice none 0 0] 29)) := (by repeat (first | exact Below.refl _ _ | assumption | refine Below.alloc ?_ (by first | (simp; done) | (simp; omega) | omega) _ | refine Below.setCell ?_ (by first | (simp; done) | (simp; omega) | omega) _ | refine Below.drew ?_ | refine Below.drewN ?_ _))
        replace BA := BA.new ba
        replace owni := Ow.new owni ba
        replace ownp := Ow.new ownp ba
        have zo := ba.size
        replace bb := bb.trans (ba.mono bb.size)
        replace bt := bt.trans (ba.mono (Nat.le_trans zl2 bt.size))
        obtain ⟨go, hgo⟩ : ∃ go, go = wp.heap.size := ⟨_, rfl⟩
        rw [← hgo] at BO ⊢
        have zg1 : wp.heap.size ≤ go := by omega
        have zg2 : go ≤ wp.heap.size := by omega
        clear ba hgo
        generalize wp.alloc (.cells #[.slice none 0 0, .slice none 0 0, .slice none 0 0] 29) = wo at *
        refine hK.out _ _ ⟨BA.cell 1 _ rfl, BA.cell 2 _ rfl⟩ (fun hHeld => ?_)
        clear hK K
        try simp only [Act.put, List.getElem_toArray, List.getElem_cons_zero, List.getElem_cons_succ, List.setIfInBounds_toArray, List.set_cons_zero, List.set_cons_succ]
        have c0 := BO.cell 0 _ rfl
        have c1 := BO.cell 1 _ rfl
        have c2 := BO.cell 2 _ rfl
        have f0 := BO.frozen 0
        have f1 := BO.frozen 1
        have f2 := BO.frozen 2
        refine wpAnyH_ready (rs := [8]) (by kernel_rfl) (by simp) ?_
        refine AllReadyH.cons (o := _) rfl (fun K hK => ?_) AllReadyH.nil
        go_simp
        clear c0 c1 c2 f0 f1 f2
        generalize hW : World.setCell _ _ _ = W
        have BO2 : Bx W go 29 #[.slice none 0 0, .slice ai' N.ids.length ci', .slice ap' N.inputs.length cp'] := by rw [← hW]; exact ((BO.set 0 _).set 1 _).set 2 _
        have frW : Fr (fun k => k = go) wo W := by rw [← hW]; exact fr3 _ _ _ _ _
        replace owni := Ow.wide (lo' := lo2) (hi' := W.heap.size) (Ow.frB owni frW (fun k hk hc => BO.ne_row owni (by decide) (hc ▸ hk))) (by omega) (by have := frW.size; omega)
        replace ownp := Ow.wide (lo' := lo2) (hi' := W.heap.size) (Ow.frB ownp frW (fun k hk hc => BO.ne_row ownp (by decide) (hc ▸ hk))) (by omega) (by have := frW.size; omega)
        clear hW BO
        replace BA := BA.fr frW (by omega)
        replace bb := bb.trans (frW.below (B := w.heap.size) (fun k h1 h2 hc => by omega) bb.size)
        replace bt := bt.trans (frW.below (B := lo2) (fun k h1 h2 hc => by omega) (Nat.le_trans zl2 bt.size))
        have zW := frW.size
        have zgo := BO2.lt
        have zgl : lo2 ≤ go := by omega
        refine hK.out _ _ ⟨BA.cell 1 _ rfl, BA.cell 2 _ rfl⟩ (fun hHeld => ?_)
        clear hK K
        try simp only [Act.put, List.getElem_toArray, List.getElem_cons_zero, List.getElem_cons_succ, List.setIfInBounds_toArray, List.set_cons_zero, List.set_cons_succ]
        refine wpAnyH_done (by kernel_rfl) ?_ _
        rotate_left
        go_simp
        have BO := Bx.made wi 29 #[.slice none 0 0, .slice none 0 0, .slice none 0 0]
        have ba : Below wi.heap.size wi (wi.alloc (.cells #[.slice none 0 0, .slice none 0 0, .slice none 0 0] 29)) := (by repeat (first | exact Below.refl _ _ | assumption | refine Below.alloc ?_ (by first | (simp; done) | (simp; omega) | omega) _ | refine Below.setCell ?_ (by first | (simp; done) | (simp; omega) | omega) _ | refine Below.drew ?_ | refine Below.drewN ?_ _))
        replace BA := BA.new ba
        replace owni := Ow.new owni ba
        have zo := ba.size
        replace bb := bb.trans (ba.mono bb.size)
        replace bt := bt.trans (ba.mono (Nat.le_trans zl2 bt.size))
        obtain ⟨go, hgo⟩ : ∃ go, go = wi.heap.size := ⟨_, rfl⟩
        rw [← hgo] at BO ⊢
        have zg1 : wi.heap.size ≤ go := by omega
        have zg2 : go ≤ wi.heap.size := by omega
        clear ba hgo
        generalize wi.alloc (.cells #[.slice none 0 0, .slice none 0 0, .slice none 0 0] 29) = wo at *
        refine hK.out _ _ ⟨BA.cell 1 _ rfl, BA.cell 2 _ rfl⟩ (fun hHeld => ?_)
        clear hK K
        try simp only [Act.put, List.getElem_toArray, List.getElem_cons_zero, List.getElem_cons_succ, List.setIfInBounds_toArray, List.set_cons_zero, List.set_cons_succ]
        refine wpAnyH_ready (rs := [5]) (by kernel_rfl) (by simp) ?_
        refine AllReadyH.cons (o := _) rfl (fun K hK => ?_) AllReadyH.nil
        go_simp
        refine (l1Own_any ap0 cp0 N.inputs _ B (Rd.below (h3) (bb.mono hB)) (Nat.le_trans hB bb.size) (by omega)).mono ?_
        rintro e wp ⟨ap', cp', rfl, ownp, belp⟩
        replace BA := BA.new belp
        replace BO := BO.new belp
        replace owni := Ow.new owni belp
        have zp := belp.size
        replace bb := bb.trans (belp.mono bb.size)
        replace bt := bt.trans (belp.mono (Nat.le_trans zl2 bt.size))
        have hdis : blk ai' ci' = none ∨ blk ai' ci' ≠ blk ap' cp' := by
          cases hb : blk ai' ci' with
          | none => exact .inl rfl
          | some x => exact .inr fun he => by have h5 := Ow.blk_in owni hb; have h6 := Ow.blk_in ownp he.symm; omega
        clear belp
        refine hK.out _ _ ⟨BA.cell 1 _ rfl, BA.cell 2 _ rfl⟩ (fun hHeld => ?_)
        clear hK K
        try simp only [Act.put, List.getElem_toArray, List.getElem_cons_zero, List.getElem_cons_succ, List.setIfInBounds_toArray, List.set_cons_zero, List.set_cons_succ]
        refine wpAnyH_take (i := 6) (v := ?_) rfl (by kernel_rfl) (by kernel_rfl) (by kernel_rfl) (fun _ _ _ h => h) (Or.inl ⟨by rfl, ?_⟩) (by assumption) ?_
        rotate_left
        · (intro w hSw; (try dsimp only at hSw); go_simp; try with_reducible rfl)
        try simp only [Act.put, List.getElem_toArray, List.getElem_cons_zero, List.getElem_cons_succ, List.setIfInBounds_toArray, List.set_cons_zero, List.set_cons_succ]
        have c0 := BO.cell 0 _ rfl
        have c1 := BO.cell 1 _ rfl
        have c2 := BO.cell 2 _ rfl
        have f0 := BO.frozen 0
        have f1 := BO.frozen 1
        have f2 := BO.frozen 2
        refine wpAnyH_ready (rs := [8]) (by kernel_rfl) (by simp) ?_
        refine AllReadyH.cons (o := _) rfl (fun K hK => ?_) AllReadyH.nil
        go_simp
        clear c0 c1 c2 f0 f1 f2
        generalize hW : World.setCell _ _ _ = W
        have BO2 : Bx W go 29 #[.slice none 0 0, .slice ai' N.ids.length ci', .slice ap' N.inputs.length cp'] := by rw [← hW]; exact ((BO.set 0 _).set 1 _).set 2 _
        have frW : Fr (fun k => k = go) wp W := by rw [← hW]; exact fr3 _ _ _ _ _
        replace owni := Ow.wide (lo' := lo2) (hi' := W.heap.size) (Ow.frB owni frW (fun k hk hc => BO.ne_row owni (by decide) (hc ▸ hk))) (by omega) (by have := frW.size; omega)
        replace ownp := Ow.wide (lo' := lo2) (hi' := W.heap.size) (Ow.frB ownp frW (fun k hk hc => BO.ne_row ownp (by decide) (hc ▸ hk))) (by omega) (by have := frW.size; omega)
        clear hW BO
        replace BA := BA.fr frW (by omega)
        replace bb := bb.trans (frW.below (B := w.heap.size) (fun k h1 h2 hc => by omega) bb.size)
        replace bt := bt.trans (frW.below (B := lo2) (fun k h1 h2 hc => by omega) (Nat.le_trans zl2 bt.size))
        have zW := frW.size
        have zgo := BO2.lt
        have zgl : lo2 ≤ go := by omega
        refine hK.out _ _ ⟨BA.cell 1 _ rfl, BA.cell 2 _ rfl⟩ (fun hHeld => ?_)
        clear hK K
        try simp only [Act.put, List.getElem_toArray, List.getElem_cons_zero, List.getElem_cons_succ, List.setIfInBounds_toArray, List.set_cons_zero, List.set_cons_succ]
        refine wpAnyH_done (by kernel_rfl) ?_ _
        rotate_left
        go_simp
        have BO := Bx.made wd 29 #[.slice none 0 0, .slice none 0 0, .slice none 0 0]
        have ba : Below wd.heap.size wd (wd.alloc (.cells #[.slice none 0 0, .slice none 0 0, .slice none 0 0] 29)) := (by repeat (first | exact Below.refl _ _ | assumption | refine Below.alloc ?_ (by first | (simp; done) | (simp; omega) | omega) _ | refine Below.setCell ?_ (by first | (simp; done) | (simp; omega) | omega) _ | refine Below.drew ?_ | refine Below.drewN ?_ _))
        replace BA := BA.new ba
        have zo := ba.size
        replace bb := bb.trans (ba.mono bb.size)
        replace bt := bt.trans (ba.mono (Nat.le_trans zl2 bt.size))
        obtain ⟨go, hgo⟩ : ∃ go, go = wd.heap.size := ⟨_, rfl⟩
        rw [← hgo] at BO ⊢
        have zg1 : wd.heap.size ≤ go := by omega
        have zg2 : go ≤ wd.heap.size := by omega
        clear ba hgo
        generalize wd.alloc (.cells #[.slice none 0 0, .slice none 0 0, .slice none 0 0] 29) = wo at *
        refine hK.out _ _ ⟨BA.cell 1 _ rfl, BA.cell 2 _ rfl⟩ (fun hHeld => ?_)
        clear hK K
        try simp only [Act.put, List.getElem_toArray, List.getElem_cons_zero, List.getElem_cons_succ, List.setIfInBounds_toArray, List.set_cons_zero, List.set_cons_succ]
        refine wpAnyH_ready (rs := [2]) (by kernel_rfl) (by simp) ?_
        refine AllReadyH.cons (o := _) rfl (fun K hK => ?_) AllReadyH.nil
        go_simp
        refine (l1Own_any ai0 ci0 N.ids _ B (Rd.below (h2) (bb.mono hB)) (Nat.le_trans hB bb.size) (by omega)).mono ?_
        rintro e wi ⟨ai', ci', rfl, owni, beli⟩
        replace BA := BA.new beli
        replace BO := BO.new beli
        have zi := beli.size
        replace bb := bb.trans (beli.mono bb.size)
        replace bt := bt.trans (beli.mono (Nat.le_trans zl2 bt.size))
        clear beli
        refine hK.out _ _ ⟨BA.cell 1 _ rfl, BA.cell 2 _ rfl⟩ (fun hHeld => ?_)
        clear hK K
        try simp only [Act.put, List.getElem_toArray, List.getElem_cons_zero, List.getElem_cons_succ, List.setIfInBounds_toArray, List.set_cons_zero, List.set_cons_succ]
        refine wpAnyH_ready (rs := [5]) (by kernel_rfl) (by simp) ?_
        refine AllReadyH.cons (o := _) rfl (fun K hK => ?_) AllReadyH.nil
        go_simp
        refine (l1Own_any ap0 cp0 N.inputs _ B (Rd.below (h3) (bb.mono hB)) (Nat.le_trans hB bb.size) (by omega)).mono ?_
        rintro e wp ⟨ap', cp', rfl, ownp, belp⟩
        replace BA := BA.new belp
        replace BO := BO.new belp
        replace owni := Ow.new owni belp
        have zp := belp.size
        replace bb := bb.trans (belp.mono bb.size)
        replace bt := bt.trans (belp.mono (Nat.le_trans zl2 bt.size))
        have hdis : blk ai' ci' = none ∨ blk ai' ci' ≠ blk ap' cp' := by
          cases hb : blk ai' ci' with
          | none => exact .inl rfl
          | some x => exact .inr fun he => by have h5 := Ow.blk_in owni hb; have h6 := Ow.blk_in ownp he.symm; omega
        clear belp
        refine hK.out _ _ ⟨BA.cell 1 _ rfl, BA.cell 2 _ rfl⟩ (fun hHeld => ?_)
        clear hK K
        try simp only [Act.put, List.getElem_toArray, List.getElem_cons_zero, List.getElem_cons_succ, List.setIfInBounds_toArray, List.set_cons_zero, List.set_cons_succ]
        refine wpAnyH_take (i := 6) (v := ?_) rfl (by kernel_rfl) (by kernel_rfl) (by kernel_rfl) (fun _ _ _ h => h) (Or.inl ⟨by rfl, ?_⟩) (by assumption) ?_
        rotate_left
        · (intro w hSw; (try dsimp only at hSw); go_simp; try with_reducible rfl)
        try simp only [Act.put, List.getElem_toArray, List.getElem_cons_zero, List.getElem_cons_succ, List.setIfInBounds_toArray, List.set_cons_zero, List.set_cons_succ]
        have c0 := BO.cell 0 _ rfl
        have c1 := BO.cell 1 _ rfl
        have c2 := BO.cell 2 _ rfl
        have f0 := BO.frozen 0
        have f1 := BO.frozen 1
        have f2 := BO.frozen 2
        refine wpAnyH_ready (rs := [8]) (by kernel_rfl) (by simp) ?_
        refine AllReadyH.cons (o := _) rfl (fun K hK => ?_) AllReadyH.nil
        go_simp
        clear c0 c1 c2 f0 f1 f2
        generalize hW : World.setCell _ _ _ = W
        have BO2 : Bx W go 29 #[.slice none 0 0, .slice ai' N.ids.length ci', .slice ap' N.inputs.length cp'] := by rw [← hW]; exact ((BO.set 0 _).set 1 _).set 2 _
        have frW : Fr (fun k => k = go) wp W := by rw [← hW]; exact fr3 _ _ _ _ _
        replace owni := Ow.wide (lo' := lo2) (hi' := W.heap.size) (Ow.frB owni frW (fun k hk hc => BO.ne_row owni (by decide) (hc ▸ hk))) (by omega) (by have := frW.size; omega)
        replace ownp := Ow.wide (lo' := lo2) (hi' := W.heap.size) (Ow.frB ownp frW (fun k hk hc => BO.ne_row ownp (by decide) (hc ▸ hk))) (by omega) (by have := frW.size; omega)
        clear hW BO
        replace BA := BA.fr frW (by omega)
        replace bb := bb.trans (frW.below (B := w.heap.size) (fun k h1 h2 hc => by omega) bb.size)
        replace bt := bt.trans (frW.below (B := lo2) (fun k h1 h2 hc => by omega) (Nat.le_trans zl2 bt.size))
        have zW := frW.size
        have zgo := BO2.lt
        have zgl : lo2 ≤ go := by omega
        refine hK.out _ _ ⟨BA.cell 1 _ rfl, BA.cell 2 _ rfl⟩ (fun hHeld => ?_)
        clear hK K
        try simp only [Act.put, List.getElem_toArray, List.getElem_cons_zero, List.getElem_cons_succ, List.setIfInBounds_toArray, List.set_cons_zero, List.set_cons_succ]
        refine wpAnyH_done (by kernel_rfl) ?_ _
        rotate_left
        all_goals
          go_wp2_with fail
          go_meet
          exact ⟨go, rfl, ⟨none, 0, fun _ => (none, 0), ai', ci', ap', cp', BO2, RowsAt.nil _ _ _ _ _, owni, ownp, hdis⟩, bt, zgl⟩
      case rest =>
        clear BA bb bt
        obtain ⟨b, rfl, hNB, bt, zb⟩ := hcut
        generalize wc = w4 at *
        have BA := BAt.below bt (by omega)
        have q0 := BA.cell 0 _ rfl
        go_wp2_with fail
        clear q0 BA
        go_loopw [64] (fun iv wr => ∃ v : Nat, v ≤ N.ends.length ∧ iv = .int .i64 v ∧ NBx wr lo2 b { ends := (cutN N (kpOf ks)).ends.take v, ids := N.ids, inputs := N.inputs } ∧ Below lo2 wt wr) (fun iv _ => N.ends.length - (intOf iv).toNat)
        case atStart => exact ⟨0, Nat.zero_le _, rfl, hNB, bt⟩
        case round =>
          clear hNB bt
          obtain ⟨v, hvl, rfl, hNB, bt⟩ := hrel
          have zr := bt.size
          have zlr : lo2 ≤ wr.heap.size := Nat.le_trans zl2 zr
          by_cases hlt : v < N.ends.length
          · have bw := HBW.out.trans (bt.mono (by omega))
            have hc1 := (bw.cell (p := ⟨g0, off0 + v, none⟩) (by show g0 < _; omega)).trans (HC0.out v hlt)
            have hrow := (HR0.out v hlt).below (bw.mono hB)
            have hL1 := net_row HN.out hlt
            have HBK := Lib.hid (fun j (hj : j < (rowOf N.ends v).length) => net_back HN.out hlt hj)
            have HKV := Lib.hid (HKR.out v hlt)
            have HK1 := Lib.hid ((bw.cell (p := ⟨gk, offk + v, none⟩) (by show gk < _; omega)).trans (HCK.out v hlt))
            have hrk := (HRK.out v hlt).below (bw.mono hB)
            have hBr : B ≤ wr.heap.size := by omega
            have hax0 : (vs0 v).1 = (vs0 v).1 := rfl
            generalize (vs0 v).1 = ax at *
            generalize (vs0 v).2 = cx at *
            clear hax0 bw
            obtain ⟨wk, hwk⟩ : ∃ wk, wk = wr := ⟨_, rfl⟩
            subst hwk
            go_wp2_with fail
            clear hc1
            go_loopw [13, 71] (fun ov iv wr => ∃ i : Nat, i ≤ (rowOf N.ends v).length ∧ (∃ a c, ov = .slice a (gRow (rowOf N.ends v) (kpOf ks v) (ctE (kpOf ks) fun x => x) i).length c ∧ Ow wr wk.heap.size wr.heap.size 62 2 a (gRow (rowOf N.ends v) (kpOf ks v) (ctE (kpOf ks) fun x => x) i).length c (cellE (gRow (rowOf N.ends v) (kpOf ks v) (ctE (kpOf ks) fun x => x) i))) ∧ iv = .int .i64 i ∧ Below wk.heap.size wk wr) (fun _ iv _ => (rowOf N.ends v).length - (intOf iv).toNat)
            case atStart => exact ⟨0, Nat.zero_le _, ⟨none, 0, rfl, Ow.nil _ _ _ _ _ _ _⟩, rfl, Below.refl _ _⟩
            case round =>
              obtain ⟨i, hi, ⟨ar, cr, rfl, hown⟩, rfl, bel⟩ := hrel
              have zr2 := bel.size
              have hGl : (gRow (rowOf N.ends v) (kpOf ks v) (ctE (kpOf ks) fun x => x) i).length ≤ 6 := by rw [gRow_len]; have := rkF_le (kpOf ks v) i; omega
              by_cases hil : i < (rowOf N.ends v).length
              · have hik : i < (rowOf ks v).length := by have := HKV.out; omega
                obtain ⟨p, q, hpq, hp, hq, _⟩ := HBK.out i hil
                obtain ⟨g1, off1, hae, _, e1, e2⟩ := RdE.at (hrow.below (bel.mono (by omega))) hil
                rw [hpq] at e1 e2
                have HG1 : Hid (nthB (rowOf ks v) i = true → gRow (rowOf N.ends v) (kpOf ks v) (ctE (kpOf ks) fun x => x) (i + 1) = gRow (rowOf N.ends v) (kpOf ks v) (ctE (kpOf ks) fun x => x) i ++ [((p : Int), (rkF (kpOf ks p) q : Int))]) := Lib.hid fun h => by
                  rw [gRow_yes (p := kpOf ks v) h, hpq]; rfl
                have HG0 : Hid (nthB (rowOf ks v) i = false → gRow (rowOf N.ends v) (kpOf ks v) (ctE (kpOf ks) fun x => x) (i + 1) = gRow (rowOf N.ends v) (kpOf ks v) (ctE (kpOf ks) fun x => x) i) := Lib.hid fun h => gRow_no (p := kpOf ks v) h
                clear hpq
                subst hae
                generalize gRow (rowOf N.ends v) (kpOf ks v) (ctE (kpOf ks) fun x => x) i = G at *
                have BE := Bx.made wr 62 #[.int .i64 (p : Int), .int .i64 (q : Int)]
                have bE : Below wr.heap.size wr (wr.alloc (.cells #[.int .i64 (p : Int), .int .i64 (q : Int)] 62)) := (by repeat (first | exact Below.refl _ _ | assumption | refine Below.alloc ?_ (by first | (simp; done) | (simp; omega) | omega) _ | refine Below.setCell ?_ (by first | (simp; done) | (simp; omega) | omega) _ | refine Below.drew ?_ | refine Below.drewN ?_ _))
                obtain ⟨eb, heb⟩ : ∃ eb, eb = wr.heap.size := ⟨_, rfl⟩
                go_upto_region 22 with fail
                clear e1 e2
                rw [← heb] at BE ⊢
                clear heb
                replace hown := Ow.new hown bE
                have bel2 := bel.trans (bE.mono zr2)
                have zy := bE.size
                clear bel bE
                generalize wr.alloc (.cells #[.int .i64 (p : Int), .int .i64 (q : Int)] 62) = wy at *
                replace hown := Ow.wide (hi' := wy.heap.size) hown (Nat.le_refl _) (by omega)
                have hk1 := (bel2.cell (p := ⟨gk, offk + v, none⟩) (by show gk < _; omega)).trans HK1.out
                obtain ⟨gr, or_, hre, _, hk2⟩ := Rd.at (hrk.below (bel2.mono (by omega))) hik
                rw [hre] at hk1
                unfold cellB at hk2
                cases hkb : nthB (rowOf ks v) i with
                | false =>
                  rw [hkb] at hk2
                  have HG := Lib.hid (HG0.out hkb)
                  go_wp2_with fail
                  clear hk1 hk2
                  go_roundw
                  case rel => exact ⟨i + 1, by omega, ⟨ar, cr, by rw [HG.out], by rw [HG.out]; exact hown⟩, by go_num, bel2⟩
                  case measure => simp [intOf]; omega
                | true =>
                  rw [hkb] at hk2
                  have HG := Lib.hid (HG1.out hkb)
                  have bty := bt.trans (bel2.mono zlr)
                  have hpt : p < (toT N.ends (kpOf ks) N.ends.length 0).length := by rw [toT_length]; exact hp
                  have HTP := Lib.hid (toT_all (kpOf ks) hp)
                  have hcp := (bty.cell (p := ⟨lo, p, none⟩) (by show lo < lo2; omega)).trans (RowsI.head HTR.out hpt)
                  have hrp := (Ow.rd (HTR.out.2.1 p hpt)).below bty
                  rw [HTP.out, ctI_length] at hcp hrp
                  obtain ⟨gp, op, hpe, _, hcq⟩ := Rd.at hrp hq
                  rw [hpe] at hcp
                  unfold cellI at hcq
                  rw [ctI_nth hq] at hcq
                  generalize rkF (kpOf ks p) q = kq at *
                  have y0 := BE.cell 0 _ rfl
                  have y1 := BE.cell 1 _ rfl
                  clear hrp hpe HTP hpt
                  go_upto_region 23 with fail
                  clear hk1 hk2
                  refine wp_region_until 14 (fun X => X.cell? ⟨eb, 0, none⟩ = some (.int .i64 (p : Int)) ∧ X.cell? ⟨eb, 1, none⟩ = some (.int .i64 (q : Int)) ∧ X.cell? ⟨lo, p, none⟩ = some (.slice (some ⟨gp, op, none⟩) (rowOf N.ends p).length (vt p).2) ∧ X.cell? ⟨gp, op + q, none⟩ = some (.int .i64 (kq : Int))) (by kernel_rfl) ⟨y0, y1, hcp, hcq⟩ (fun hHeld => ?_)
  
                  refine wpU_take (i := 0) (v := ?_) rfl (by kernel_rfl) (by kernel_rfl) (by kernel_rfl) (by kernel_rfl) (by kernel_rfl) (by kernel_rfl) (fun _ _ _ h => h) (Or.inl ⟨by rfl, ?_⟩) (by assumption) ?_
                  rotate_left
                  · (intro w hSw; (try dsimp only at hSw); obtain ⟨hq0, hq1, hq2, hq3⟩ := hSw; go_simp; try with_reducible rfl)
                  try simp only [Act.put, List.getElem_toArray, List.getElem_cons_zero, List.getElem_cons_succ, List.setIfInBounds_toArray, List.set_cons_zero, List.set_cons_succ]
                  refine wpU_take (i := 1) (v := ?_) rfl (by kernel_rfl) (by kernel_rfl) (by kernel_rfl) (by kernel_rfl) (by kernel_rfl) (by kernel_rfl) (fun _ _ _ h => h) (Or.inl ⟨by rfl, ?_⟩) (by assumption) ?_
                  rotate_left
                  · (intro w hSw; (try dsimp only at hSw); obtain ⟨hq0, hq1, hq2, hq3⟩ := hSw; go_simp; try with_reducible rfl)
                  try simp only [Act.put, List.getElem_toArray, List.getElem_cons_zero, List.getElem_cons_succ, List.setIfInBounds_toArray, List.set_cons_zero, List.set_cons_succ]
                  refine wpU_take (i := 2) (v := ?_) rfl (by kernel_rfl) (by kernel_rfl) (by kernel_rfl) (by kernel_rfl) (by kernel_rfl) (by kernel_rfl) (fun _ _ _ h => h) (Or.inl ⟨by rfl, ?_⟩) (by assumption) ?_
                  rotate_left
                  · (intro w hSw; (try dsimp only at hSw); obtain ⟨hq0, hq1, hq2, hq3⟩ := hSw; go_simp; try with_reducible rfl)
                  try simp only [Act.put, List.getElem_toArray, List.getElem_cons_zero, List.getElem_cons_succ, List.setIfInBounds_toArray, List.set_cons_zero, List.set_cons_succ]
                  refine wpU_take (i := 3) (v := ?_) rfl (by kernel_rfl) (by kernel_rfl) (by kernel_rfl) (by kernel_rfl) (by kernel_rfl) (by kernel_rfl) (fun _ _ _ h => h) (Or.inl ⟨by rfl, ?_⟩) (by assumption) ?_
                  rotate_left
                  · (intro w hSw; (try dsimp only at hSw); obtain ⟨hq0, hq1, hq2, hq3⟩ := hSw; go_simp; try with_reducible rfl)
                  try simp only [Act.put, List.getElem_toArray, List.getElem_cons_zero, List.getElem_cons_succ, List.setIfInBounds_toArray, List.set_cons_zero, List.set_cons_succ]
                  refine wpU_take (i := 4) (v := ?_) rfl (by kernel_rfl) (by kernel_rfl) (by kernel_rfl) (by kernel_rfl) (by kernel_rfl) (by kernel_rfl) (fun _ _ _ h => h) (Or.inl ⟨by rfl, ?_⟩) (by assumption) ?_
                  rotate_left
                  · (intro w hSw; (try dsimp only at hSw); obtain ⟨hq0, hq1, hq2, hq3⟩ := hSw; go_simp; try with_reducible rfl)
                  try simp only [Act.put, List.getElem_toArray, List.getElem_cons_zero, List.getElem_cons_succ, List.setIfInBounds_toArray, List.set_cons_zero, List.set_cons_succ]
                  refine wpU_take (i := 5) (v := ?_) rfl (by kernel_rfl) (by kernel_rfl) (by kernel_rfl) (by kernel_rfl) (by kernel_rfl) (by kernel_rfl) (fun _ _ _ h => h) (Or.inl ⟨by rfl, ?_⟩) (by assumption) ?_
                  rotate_left
                  · (intro w hSw; (try dsimp only at hSw); obtain ⟨hq0, hq1, hq2, hq3⟩ := hSw; go_simp; try with_reducible rfl)
                  try simp only [Act.put, List.getElem_toArray, List.getElem_cons_zero, List.getElem_cons_succ, List.setIfInBounds_toArray, List.set_cons_zero, List.set_cons_succ]
                  refine wpU_take (i := 6) (v := ?_) rfl (by kernel_rfl) (by kernel_rfl) (by kernel_rfl) (by kernel_rfl) (by kernel_rfl) (by kernel_rfl) (fun _ _ _ h => h) (Or.inl ⟨by rfl, ?_⟩) (by assumption) ?_
                  rotate_left
                  · (intro w hSw; (try dsimp only at hSw); obtain ⟨hq0, hq1, hq2, hq3⟩ := hSw; go_simp; try with_reducible rfl)
                  try simp only [Act.put, List.getElem_toArray, List.getElem_cons_zero, List.getElem_cons_succ, List.setIfInBounds_toArray, List.set_cons_zero, List.set_cons_succ]
                  refine wpU_take (i := 7) (v := ?_) rfl (by kernel_rfl) (by kernel_rfl) (by kernel_rfl) (by kernel_rfl) (by kernel_rfl) (by kernel_rfl) (fun _ _ _ h => h) (Or.inl ⟨by rfl, ?_⟩) (by assumption) ?_
                  rotate_left
                  · (intro w hSw; (try dsimp only at hSw); obtain ⟨hq0, hq1, hq2, hq3⟩ := hSw; go_simp; try with_reducible rfl)
                  try simp only [Act.put, List.getElem_toArray, List.getElem_cons_zero, List.getElem_cons_succ, List.setIfInBounds_toArray, List.set_cons_zero, List.set_cons_succ]
                  refine wpU_take (i := 8) (v := ?_) rfl (by kernel_rfl) (by kernel_rfl) (by kernel_rfl) (by kernel_rfl) (by kernel_rfl) (by kernel_rfl) (fun _ _ _ h => h) (Or.inl ⟨by rfl, ?_⟩) (by assumption) ?_
                  rotate_left
                  · (intro w hSw; (try dsimp only at hSw); obtain ⟨hq0, hq1, hq2, hq3⟩ := hSw; go_simp; try with_reducible rfl)
                  try simp only [Act.put, List.getElem_toArray, List.getElem_cons_zero, List.getElem_cons_succ, List.setIfInBounds_toArray, List.set_cons_zero, List.set_cons_succ]
                  refine wpU_take (i := 9) (v := ?_) rfl (by kernel_rfl) (by kernel_rfl) (by kernel_rfl) (by kernel_rfl) (by kernel_rfl) (by kernel_rfl) (fun _ _ _ h => h) (Or.inl ⟨by rfl, ?_⟩) (by assumption) ?_
                  rotate_left
                  · (intro w hSw; (try dsimp only at hSw); obtain ⟨hq0, hq1, hq2, hq3⟩ := hSw; go_simp; try with_reducible rfl)
                  try simp only [Act.put, List.getElem_toArray, List.getElem_cons_zero, List.getElem_cons_succ, List.setIfInBounds_toArray, List.set_cons_zero, List.set_cons_succ]
                  refine wpU_take (i := 10) (v := ?_) rfl (by kernel_rfl) (by kernel_rfl) (by kernel_rfl) (by kernel_rfl) (by kernel_rfl) (by kernel_rfl) (fun _ _ _ h => h) (Or.inl ⟨by rfl, ?_⟩) (by assumption) ?_
                  rotate_left
                  · (intro w hSw; (try dsimp only at hSw); obtain ⟨hq0, hq1, hq2, hq3⟩ := hSw; go_simp; try with_reducible rfl)
                  try simp only [Act.put, List.getElem_toArray, List.getElem_cons_zero, List.getElem_cons_succ, List.setIfInBounds_toArray, List.set_cons_zero, List.set_cons_succ]
                  refine wpU_take (i := 11) (v := ?_) rfl (by kernel_rfl) (by kernel_rfl) (by kernel_rfl) (by kernel_rfl) (by kernel_rfl) (by kernel_rfl) (fun _ _ _ h => h) (Or.inl ⟨by rfl, ?_⟩) (by assumption) ?_
                  rotate_left
                  · (intro w hSw; (try dsimp only at hSw); obtain ⟨hq0, hq1, hq2, hq3⟩ := hSw; go_simp; try with_reducible rfl)
                  try simp only [Act.put, List.getElem_toArray, List.getElem_cons_zero, List.getElem_cons_succ, List.setIfInBounds_toArray, List.set_cons_zero, List.set_cons_succ]
                  refine wpU_take (i := 12) (v := ?_) rfl (by kernel_rfl) (by kernel_rfl) (by kernel_rfl) (by kernel_rfl) (by kernel_rfl) (by kernel_rfl) (fun _ _ _ h => h) (Or.inl ⟨by rfl, ?_⟩) (by assumption) ?_
                  rotate_left
                  · (intro w hSw; (try dsimp only at hSw); obtain ⟨hq0, hq1, hq2, hq3⟩ := hSw; go_simp; try with_reducible rfl)
                  try simp only [Act.put, List.getElem_toArray, List.getElem_cons_zero, List.getElem_cons_succ, List.setIfInBounds_toArray, List.set_cons_zero, List.set_cons_succ]
                  clear BE
                  replace y0 : wy.drew.cell? ⟨eb, 0, none⟩ = some (.int .i64 (p : Int)) := y0
                  replace y1 : wy.drew.cell? ⟨eb, 1, none⟩ = some (.int .i64 (q : Int)) := y1
                  replace hcp : wy.drew.cell? ⟨lo, p, none⟩ = some (.slice (some ⟨gp, op, none⟩) (rowOf N.ends p).length (vt p).2) := hcp
                  replace hcq : wy.drew.cell? ⟨gp, op + q, none⟩ = some (.int .i64 (kq : Int)) := hcq
                  have hown2 : Ow wy.drew wk.heap.size wy.heap.size 62 2 ar G.length cr (cellE G) := hown
                  have bel3 := bel2.drew
                  have z3 : wy.drew.heap.size = wy.heap.size := rfl
                  rw [← z3] at hown2
                  clear z3 hown bel2
                  generalize wy.drew = wd at *
                  have hnw := news2 wd 62 (.int .i64 (p : Int)) (.int .i64 (kq : Int))
                  obtain ⟨we, hwe⟩ : ∃ we, we = wd.alloc (.cells #[.int .i64 (p : Int), .int .i64 (kq : Int)] 62) := ⟨_, rfl⟩
                  have bwe : Below wd.heap.size wd we := by rw [hwe]; exact (by repeat (first | exact Below.refl _ _ | assumption | refine Below.alloc ?_ (by first | (simp; done) | (simp; omega) | omega) _ | refine Below.setCell ?_ (by first | (simp; done) | (simp; omega) | omega) _ | refine Below.drew ?_ | refine Below.drewN ?_ _))
                  rw [← hwe] at hnw
                  have HWE := Lib.hid hwe
                  clear hwe
                  have zwd := bel3.size
                  have zwe := bwe.size
                  have bel4 := bel3.trans (bwe.mono zwd)
                  have hown3 := Ow.wide (hi' := we.heap.size) (Ow.new hown2 bwe) (Nat.le_refl _) zwe
                  refine wpU_ready (rs := [13]) (by kernel_rfl) (by simp) (by kernel_rfl) ?_
                  refine AllReadyU.cons (o := _) rfl (fun K hK => ?_) AllReadyU.nil
                  go_simp
                  rw [← HWE.out]
                  refine hK.out _ _ ⟨cell_new_ bwe y0, cell_new_ bwe y1, cell_new_ bwe hcp, cell_new_ bwe hcq⟩ (fun hHeld => ?_)
                  clear hK K y0 y1 hcp hcq
                  try simp only [Act.put, List.getElem_toArray, List.getElem_cons_zero, List.getElem_cons_succ, List.setIfInBounds_toArray, List.set_cons_zero, List.set_cons_succ]
                  refine wpU_last (by kernel_rfl) ?_
                  refine wpAnyH_ready (rs := [14]) (by kernel_rfl) (by simp) ?_
                  refine AllReadyH.cons (o := _) rfl (fun K hK => ?_) AllReadyH.nil
                  rw [if_pos (by rfl)]
                  refine step_app _ _ _ rfl 62 (.agg #[.int .i64 0, .int .i64 0]) 2 16 Try.underlying60 end_info rfl (by decide) wk.heap.size we.heap.size ar G.length cr _ rfl hown3 ⟨wd.heap.size, 0, none⟩ 1 1 [.int .i64 (p : Int), .int .i64 (kq : Int)] rfl rfl hnw (by simp [Value.oneCell']) (by decide) (by unfold maxLen; omega) (by omega) (by omega) ?_
                  intro g' cap' w8 own8 hgr _ _
                  refine hK.out _ _ trivial (fun _ => ?_)
                  clear hK K
                  try simp only [Act.put, List.getElem_toArray, List.getElem_cons_zero, List.getElem_cons_succ, List.setIfInBounds_toArray, List.set_cons_zero, List.set_cons_succ]
                  refine wpAnyH_ready (rs := [15]) (by kernel_rfl) (by simp) ?_
                  refine AllReadyH.cons (o := _) rfl (fun K hK => ?_) AllReadyH.nil
                  go_simp
                  refine hK.out _ _ trivial (fun _ => ?_)
                  clear hK K
                  try simp only [Act.put, List.getElem_toArray, List.getElem_cons_zero, List.getElem_cons_succ, List.setIfInBounds_toArray, List.set_cons_zero, List.set_cons_succ]
                  refine wpAnyH_done (by kernel_rfl) ?_ _
                  go_wp2_with fail
                  go_roundw
                  case rel => exact ⟨i + 1, by omega, ⟨some ⟨g', 0, none⟩, cap', by rw [HG.out, List.length_append]; rfl, by rw [HG.out]; exact cellE_snoc own8⟩, by go_num, below_app bel4 hown3 hgr (Nat.le_refl _) (by omega)⟩
                  case measure => simp [intOf]; omega
              · have HIL := Lib.hid (show i = (rowOf N.ends v).length by omega)
                have HCR : Hid (gRow (rowOf N.ends v) (kpOf ks v) (ctE (kpOf ks) fun x => x) i = ctRow N.ends (kpOf ks) (fun x => x) v) := Lib.hid (by rw [HIL.out]; rfl)
                rw [HCR.out] at hown hGl ⊢
                have HTK := Lib.hid (cutN_take (kpOf ks) hlt)
                generalize ctRow N.ends (kpOf ks) (fun x => x) v = r at *
                have HML : Hid (((cutN N (kpOf ks)).ends.take v).length = v) := Lib.hid (by rw [List.length_take, cutN_len]; omega)
                obtain ⟨M, hM⟩ : ∃ M : Net, M = { ends := (cutN N (kpOf ks)).ends.take v, ids := N.ids, inputs := N.inputs } := ⟨_, rfl⟩
                rw [← hM] at hNB
                have hMl : M.ends.length ≤ 40 := by rw [hM]; show ((cutN N (kpOf ks)).ends.take v).length ≤ 40; rw [HML.out]; omega
                have HMN : Hid ({ ends := (cutN N (kpOf ks)).ends.take (v + 1), ids := N.ids, inputs := N.inputs } = ({ M with ends := M.ends ++ [r] } : Net)) := Lib.hid (by rw [hM, HTK.out])
                clear hM
                obtain ⟨a, c, vs, ai, ci, ap, cp, hbx, hE, owni, ownp, hdis⟩ := hNB
                obtain ⟨wd, hwd⟩ : ∃ wd, wd = wr.alloc (.cells #[.slice ar r.length cr] 60) := ⟨_, rfl⟩
                have bwd : Below wr.heap.size wr wd := by rw [hwd]; exact (by repeat (first | exact Below.refl _ _ | assumption | refine Below.alloc ?_ (by first | (simp; done) | (simp; omega) | omega) _ | refine Below.setCell ?_ (by first | (simp; done) | (simp; omega) | omega) _ | refine Below.drew ?_ | refine Below.drewN ?_ _))
                have hnw : ∀ jj uu, [Value.slice ar r.length cr][jj]? = some uu → wd.cell? (Addr.add ⟨wr.heap.size, 0, none⟩ jj) = some uu := by
                  rw [hwd]
                  exact cell_one_new wr (.slice ar r.length cr) 60
                have HWD := Lib.hid hwd
                clear hwd
                have zwd := bwd.size
                have belk := bel.trans (bwd.mono zr2)
                have hbxr := hbx.new bel
                have q0 := hbxr.cell 0 _ rfl
                have f0 := hbxr.frozen 0
                have hEd := RowsAt.new hE belk
                have hrd := Ow.wide (hi' := wd.heap.size) (Ow.new hown bwd) (Nat.le_refl _) zwd
                have hid2 := Ow.new owni belk
                have hip2 := Ow.new ownp belk
                have hbd := hbx.new belk
                clear hbx hE owni ownp hown
                go_upto_region 26 with (at_builtin; rw [← HWD.out]; refine wpList_app rfl _ _ _ rfl 60 (.slice none 0 0) 1 24 Try.underlying27 ends_info rfl (by decide) lo2 wk.heap.size a M.ends.length c _ rfl hEd.1 ⟨wr.heap.size, 0, none⟩ 1 1 [.slice ar r.length cr] rfl rfl hnw (by simp [Value.oneCell']) (by decide) (by unfold maxLen; omega) (by omega) (by omega) ?_; intro g' cap' w8 own8 hgr _ _; obtain ⟨hbx8, hNB8, hfr8⟩ := NBx.addRow (r := r) hbd hEd hid2 hip2 hdis zlr (by omega) zb hrd hgr own8; have q8 := hbx8.cell 0 _ rfl; have f8 := hbx8.frozen 0; clear q0 f0)
                have bt8 := (bt.trans (belk.mono zlr)).trans (hfr8.below (B := lo2) (fun k h1 h2 hc => hc.elim (fun h => by have := (hEd.1.blk_in h.symm).1; omega) (fun h => by omega)) (by omega))
                clear q8 f8
                go_wp2_with fail
                go_roundw
                case rel => exact ⟨v + 1, by omega, by go_num, by rw [HMN.out]; exact hNB8, bt8⟩
                case measure => simp [intOf]; omega
          · have HVK := Lib.hid (show v = N.ends.length by omega)
            have HDN : Hid (({ ends := (cutN N (kpOf ks)).ends.take v, ids := N.ids, inputs := N.inputs } : Net) = cutN N (kpOf ks)) := Lib.hid (by rw [HVK.out, List.take_of_length_le (by rw [cutN_len]; exact Nat.le_refl _)]; rfl)
            rw [HDN.out] at hNB
            obtain ⟨Nk, hNk⟩ : ∃ Nk, Nk = cutN N (kpOf ks) := ⟨_, rfl⟩
            rw [← hNk] at hNB
            have HNk := Lib.hid hNk
            clear hNk HDN
            obtain ⟨ax, cx, aix, cix, apx, cpx, BO, own9⟩ := hNB.at_
            replace BR := BR.below bt (by omega)
            have bb := HBW.out.trans (bt.mono (by omega))
            have q0 := BO.cell 0 _ rfl
            have q1 := BO.cell 1 _ rfl
            have q2 := BO.cell 2 _ rfl
            have e0 := BR.cell 0 _ rfl
            have e1 := BR.cell 1 _ rfl
            have e2 := BR.cell 2 _ rfl
            have f0 := BR.frozen 0
            have f1 := BR.frozen 1
            have f2 := BR.frozen 2
            go_wp2_with fail
            clear q0 q1 q2 e0 e1 e2 f0 f1 f2
            generalize hW : World.setCell _ _ _ = W
            have B6 : Bx W (w.heap.size + 1) 29 #[.slice ax Nk.ends.length cx, .slice aix Nk.ids.length cix, .slice apx Nk.inputs.length cpx] := by rw [← hW]; exact ((BR.set 0 _).set 1 _).set 2 _
            have fr6 : Fr (fun k => k = w.heap.size + 1) wr W := by rw [← hW]; exact fr3 _ _ _ _ _
            clear hW
            have z6 := fr6.size
            have d0 := B6.cell 0 _ rfl
            have d1 := B6.cell 1 _ rfl
            have d2 := B6.cell 2 _ rfl
            refine bodyPost_ret (v := .agg #[.slice ax Nk.ends.length cx, .slice aix Nk.ids.length cix, .slice apx Nk.inputs.length cpx]) (by simp [results, Try.results53, go_sem, d0, d1, d2]) rfl ?_
            rw [← HNk.out]
            exact ⟨_, rfl, (own9.frBx BR fr6).wide (by omega) (by omega), bb.trans (fr6.below (fun k h1 h2 hc => by omega) bb.size)⟩
end Go.Proofs.Ytlooinhdehkcdaa
