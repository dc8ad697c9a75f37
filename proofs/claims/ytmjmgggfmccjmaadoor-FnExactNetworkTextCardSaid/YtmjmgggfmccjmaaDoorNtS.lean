/- NetworkText: spec's walk. -/
import Derived.Test.YtmjmgggfmccjmaaDoorNtP
import Derived.Test.YtmjmgggfmccjmaaDoorLab
import Derived.Test.YtmjmgggfmccjmaaDoorBld

namespace Go.Proofs.YtmjmgggfmccjmaaDoor
open Go.RowKit
set_option linter.unusedVariables false
set_option linter.unusedSimpArgs false
theorem ret_str {a b : ByteArray} (h : a = b) : Ending.returned (.string a) = Ending.returned (.string b) := by rw [h]
set_option maxRecDepth 100000 in
set_option maxHeartbeats 3200000 in
theorem txNet_any (V : Value) (N : Net) (w : World) (B : Nat) (hv : NetIn w B V N) (hB : B ≤ w.heap.size) (hs : NetSmall N) (hnet : netB N = true) :
    Calls Tryd.prog 34 #[V] w fun e w' => e = .returned (.string (bs (ntT N N.ends.length))) ∧ Below w.heap.size w w' := by
  have HN := Lib.hid hnet
  have hn40 : N.ends.length ≤ 40 := (netB_small hnet).1
  have hn1 : 1 ≤ N.ends.length := (netB_small hnet).2.1
  have HIL := Lib.hid (netB_small hnet).2.2.2.2
  obtain ⟨a, c, vs, ai, ci, ap, cp, rfl, h1, h2, h3, _⟩ := hv
  obtain ⟨g0, off0, rfl, hg0, hc0⟩ := h1.1 (by omega)
  obtain ⟨gp, offp, rfl, hgp, hp0⟩ := h3 (by rw [HIL.out]; omega)
  have HC0 := Lib.hid hc0
  have HP0 := Lib.hid hp0
  have HR0 := Lib.hid h1.2
  have HI0 := Lib.hid h2
  have BA := Bx.made w 31 #[.slice (some ⟨g0, off0, none⟩) N.ends.length c, .slice ai N.ids.length ci, .slice (some ⟨gp, offp, none⟩) N.inputs.length cp]
  have b0 : Below w.heap.size w (w.alloc (.cells #[.slice (some ⟨g0, off0, none⟩) N.ends.length c, .slice ai N.ids.length ci, .slice (some ⟨gp, offp, none⟩) N.inputs.length cp] 31)) := (by repeat (first | exact Below.refl _ _ | assumption | refine Below.alloc ?_ (by first | (simp; done) | (simp; omega) | omega) _ | refine Below.setCell ?_ (by first | (simp; done) | (simp; omega) | omega) _ | refine Below.drew ?_ | refine Below.drewN ?_ _))
  obtain ⟨TT, hTT⟩ : ∃ TT : Nat → ByteArray, TT = fun k => bs (ntT N k) := ⟨_, rfl⟩
  have HT0 : Hid (TT 0 = ⟨#[]⟩) := by show _ = _; rw [hTT]; rfl
  have HTN : Hid (bs (ntT N N.ends.length) = TT N.ends.length) := by show _ = _; rw [hTT]
  have HU0 : Hid (∀ k, bs (ntU N k 0) = TT k) := fun k => by rw [hTT, ntU_zero]
  have HUE : Hid (∀ k, k < N.ends.length → ∀ X : World, (Op.stringOp .add (bs (ntU N k (ntW N k).length)) ⟨#[10]⟩).run Tryd.prog X = .ok (.string (TT (k + 1))) X) := fun k hk X => by
    rw [hTT]
    show _ = Result.ok (Value.string (bs (ntT N (k + 1)))) X
    rw [ntU_all]
    exact str_add _ [10] X (by have := ntU_len hnet hk _ (Nat.le_refl _); simp; omega)
  have HUF : Hid (∀ k, k < N.ends.length → 0 < (ntW N k).length → ∀ X : World, (Op.stringOp .add (bs (ntU N k 0)) (bs (nthS (ntW N k) 0))).run Tryd.prog X = .ok (.string (bs (ntU N k 1))) X) := fun k hk h0 X => by
    rw [ntU_first h0]
    exact str_add _ _ X (by have := ntU_len hnet hk 0 (Nat.zero_le _); have := ntW_short hnet hk 0 h0; simp at this; omega)
  have HUN : Hid (∀ k i, k < N.ends.length → i < (ntW N k).length → 0 < i → ∃ u, (∀ X : World, (Op.stringOp .add (bs (ntU N k i)) ⟨#[32]⟩).run Tryd.prog X = .ok (.string u) X) ∧ (∀ X : World, (Op.stringOp .add u (bs (nthS (ntW N k) i))).run Tryd.prog X = .ok (.string (bs (ntU N k (i + 1)))) X)) := fun k i hk hi h0 => by
    have h1 := ntU_len hnet hk i (by omega)
    have h2 := ntW_short hnet hk i hi
    simp at h2
    refine ⟨bs (ntU N k i ++ [32]), fun X => str_add _ [32] X (by simp; omega), fun X => ?_⟩
    rw [ntU_next hi h0]
    exact str_add _ _ X (by simp; omega)
  rw [HTN.out]
  clear hTT hnet hs h1 h2 h3 hc0 hp0
  go_enter Tryd.func34, Tryd.ntmps34
  go_upto_region 1 with fail
  generalize w.alloc (.cells #[.slice (some ⟨g0, off0, none⟩) N.ends.length c, .slice ai N.ids.length ci, .slice (some ⟨gp, offp, none⟩) N.inputs.length cp] 31) = w0 at *
  have zA := BA.lt
  have q0 := BA.cell 0 _ rfl
  go_wp2_with fail
  clear q0
  go_loopw [3, 14] (fun tv iv wr => ∃ k : Nat, k ≤ N.ends.length ∧ iv = .int .i64 k ∧ tv = .string (TT k) ∧ Bx wr w.heap.size 31 #[.slice (some ⟨g0, off0, none⟩) N.ends.length c, .slice ai N.ids.length ci, .slice (some ⟨gp, offp, none⟩) N.inputs.length cp] ∧ Below w.heap.size w wr) (fun _ iv _ => N.ends.length - (intOf iv).toNat)
  case atStart => exact ⟨0, Nat.zero_le _, rfl, by rw [HT0.out], BA, b0⟩
  case round =>
    clear BA b0
    obtain ⟨k, hk, rfl, rfl, BA, b2⟩ := hrel
    obtain ⟨w2, hw2⟩ : ∃ w2, w2 = wr := ⟨_, rfl⟩
    subst hw2
    have z2 := b2.size
    have zA2 := BA.lt
    by_cases hlt : k < N.ends.length
    · have c1 := (b2.cell (p := ⟨g0, off0 + k, none⟩) (by show g0 < _; omega)).trans (HC0.out k hlt)
      have cp1 := (b2.cell (p := ⟨gp, offp + k, none⟩) (by show gp < _; omega)).trans (HP0.out k (by rw [HIL.out]; exact hlt))
      have hrow := (HR0.out k hlt).below (b2.mono hB)
      have h6 := net_row HN.out hlt
      have hki : k < N.inputs.length := by rw [HIL.out]; exact hlt
      have HBK := Lib.hid (fun j (hj : j < (rowOf N.ends k).length) => net_back HN.out hlt hj)
      have HRW := Lib.hid (fun j (hj : j < N.ends.length) => net_row HN.out hj)
      obtain ⟨hil0, mi, hmi, hmi2⟩ := inp_at HN.out hlt
      clear hil0
      have HMI := Lib.hid hmi
      have cp2 : w2.cell? ⟨gp, offp + k, none⟩ = some (.int .i64 (mi : Int)) := by rw [← hmi]; exact cp1
      have HWL := Lib.hid (ntW_length (N := N) (v := k))
      have HWE := Lib.hid (fun i x y hi he => ntW_end (N := N) (v := k) (i := i) (x := x) (y := y) hi he)
      have HWP := Lib.hid (fun j hj => ntW_pre (N := N) (v := k) (j := j) hj)
      have HU0k := Lib.hid (HU0.out k)
      have HUEk := Lib.hid (HUE.out k hlt)
      have HUFk := Lib.hid (HUF.out k hlt)
      have HUNk := Lib.hid (fun i => HUN.out k i hlt)
      clear cp1 hmi
      generalize (vs k).1 = ax at *
      generalize (vs k).2 = cx at *
      obtain ⟨WL, hWL⟩ : ∃ WL, WL = ntW N k := ⟨_, rfl⟩
      rw [← hWL] at HWL HWE HWP HUEk HUFk HUNk
      clear hWL
      obtain ⟨es, hes⟩ : ∃ es, es = rowOf N.ends k := ⟨_, rfl⟩
      rw [← hes] at HWL HWE hrow h6 HBK c1
      clear hes
      have q0 := BA.cell 0 _ rfl
      have q1 := BA.cell 1 _ rfl
      have q2 := BA.cell 2 _ rfl
      have bel0 := Below.refl w2.heap.size w2
      have z0 : w2.heap.size ≤ w2.heap.size := Nat.le_refl _
      by_cases hid : 0 < N.ids.length
      · obtain ⟨hidl, mj, hmj, hmj2⟩ := ids_at HN.out hlt hid
        obtain ⟨gi, offi, rfl, hgi, hi0⟩ := HI0.out hid
        have ci1 := (b2.cell (p := ⟨gi, offi + k, none⟩) (by show gi < _; omega)).trans (hi0 k (by omega))
        have HMJ := Lib.hid hmj
        have ci2 : w2.cell? ⟨gi, offi + k, none⟩ = some (.int .i64 (mj : Int)) := by rw [← hmj]; exact ci1
        have hkd : k < N.ids.length := by omega
        have HIDL := Lib.hid hidl
        clear ci1 hmj hidl
        by_cases hin : mi = 0
        · have HPRE := Lib.hid (ntPre_10 hid HMJ.out (by rw [HMI.out, hin]; rfl))
          subst hin
          have hAa : ∀ X : World, (Op.stringOp .add ⟨#[35]⟩ (decB mj)).run Tryd.prog X = .ok (.string (bs (ntId mj))) X := fun X => str_add [35] (Lib.decDigits mj) X (by have := dec_len mj; simp; omega)
          have HLa : Hid (nthS WL 0 = ntId mj) := by show _ = _; rw [HWP.out 0 (by rw [HPRE.out]; simp), HPRE.out]; rfl
          go_wp2_with fail
          refine (l1Num_any mj _ hmj2).mono ?_
          rintro e w3a ⟨rfl, bel3a⟩
          have bel4a := bel0.trans (bel3a.mono z0)
          have z4a := bel4a.size
          have own3a : Ow w3a w2.heap.size w3a.heap.size 9 1 none 0 0 (cellS WL) := Ow.nil _ _ _ _ _ _ _
          go_upto_region 8 with (at_builtin; refine wpList_app rfl _ _ _ rfl 9 (.string ByteArray.empty) 1 16 Tryd.underlying61 str_info rfl (by decide) w2.heap.size w3a.heap.size none 0 0 _ rfl (own3a.alloc _) ⟨w3a.heap.size, 0, none⟩ 1 1 [.string (bs (ntId mj))] rfl rfl (cell_one_new _ _ _) (by simp [Value.oneCell']) (by decide) (by unfold maxLen; omega) (by omega) (by simp; omega) ?_; intro gwa cwa w4a own4a hgr4a _ _)
          have own5a : Ow w4a w2.heap.size w4a.heap.size 9 1 (some ⟨gwa, 0, none⟩) (0 + 1) cwa (cellS WL) := own4a.congr (cellS_app HLa.out)
          have bel5a := below_app (bel4a.alloc z4a _) (own3a.alloc _) hgr4a (Nat.le_refl _) (by simp; omega)
          have z5a := bel5a.size
          clear bel3a bel4a own3a own4a hgr4a hAa z4a
          clear q0 q1 q2 ci2
          have BAw4a := BA.new bel5a
          have q1w4a := BAw4a.cell 1 _ rfl
          have q2w4a := BAw4a.cell 2 _ rfl
          have cpw4a := (bel5a.cell (World.block_lt_of_cell? _ _ cp2)).trans cp2
          go_upto_region 10 with fail
          clear q1w4a q2w4a cpw4a BAw4a
          have HPL : Hid ((ntPre N k).length = 1) := by show _ = _; rw [HPRE.out]; rfl
          rw [HPL.out] at HWL HWE
          have hm2 : WL.length ≤ 8 := by have := HWL.out; omega
          go_wp2_with fail
          go_loopw [6, 51] (fun lv iv wx => ∃ i m : Nat, i ≤ es.length ∧ iv = .int .i64 i ∧ m = 1 + i ∧ (∃ a cap, lv = .slice a m cap ∧ Ow wx w2.heap.size wx.heap.size 9 1 a m cap (cellS WL)) ∧ Below w2.heap.size w2 wx) (fun _ iv _ => es.length - (intOf iv).toNat)
          case atStart => exact ⟨0, 1, Nat.zero_le _, rfl, rfl, ⟨_, _, rfl, own5a⟩, bel5a⟩
          case round =>
            clear bel5a c1 cp2
            obtain ⟨i, m, hi, rfl, hm, ⟨aw, cw, rfl, ownw⟩, belw⟩ := hrel
            have HM := Lib.hid hm
            have hm8 : m ≤ 8 := by omega
            clear hm
            have zx := belw.size
            by_cases hil : i < es.length
            · obtain ⟨p, q, hpq, hp, hq, _⟩ := HBK.out i hil
              have hq6 := HRW.out p hp
              have hp40 : p < 40 := by omega
              have hq40 : q < 40 := by omega
              have HLE : Hid (nthS WL m = ntE p q) := by show _ = _; rw [HM.out]; exact HWE.out i p q hil hpq
              obtain ⟨g1, off1, rfl, _, e1, e2⟩ := RdE.at (hrow.below ((belw.mono (by omega : w2.heap.size ≤ w2.heap.size)).mono (Nat.le_trans hB z2))) hil
              rw [hpq] at e1 e2
              have BE := Bx.made wr 44 #[.int .i64 (p : Int), .int .i64 (q : Int)]
              have belE : Below w2.heap.size w2 (wr.alloc (.cells #[.int .i64 (p : Int), .int .i64 (q : Int)] 44)) := belw.alloc zx _
              have ownE := (Ow.alloc ownw (.cells #[.int .i64 (p : Int), .int .i64 (q : Int)] 44)).top
              clear hpq
              go_upto_region 13 with fail
              generalize wr.alloc (.cells #[.int .i64 (p : Int), .int .i64 (q : Int)] 44) = wE at *
              have q0 := BE.cell 0 _ rfl
              have q1 := BE.cell 1 _ rfl
              have zE := belE.size
              clear e1 e2 ownw belw zx
              have HTE : Hid (∀ X, Calls Tryd.prog 49 #[.agg #[.int .i64 (p : Int), .int .i64 (q : Int)]] X fun e w' => e = .returned (.string (bs (ntE p q))) ∧ Below X.heap.size X w') := fun X => by have := txEnd_any p q X (by omega) (by omega); rw [endT_bs] at this; exact this
              go_wp2_with fail
              refine (HTE.out _).mono ?_
              rintro e w5 ⟨rfl, bel5⟩
              have own5 := (Ow.new ownE bel5).top
              have b25 := belE.trans (bel5.mono zE)
              have z5 := b25.size
              clear q0 q1 BE ownE belE bel5 zE HTE
              go_wp2_with (at_builtin; refine wpList_app rfl _ _ _ rfl 9 (.string ByteArray.empty) 1 16 Tryd.underlying61 str_info rfl (by decide) w2.heap.size w5.heap.size aw m cw _ rfl (own5.alloc _) ⟨w5.heap.size, 0, none⟩ 1 1 [.string (bs (ntE p q))] rfl rfl (cell_one_new _ _ _) (by simp [Value.oneCell']) (by decide) (by unfold maxLen; omega) (by omega) (by simp; omega) ?_; intro g' cap' w6 own6 hgr6 _ _)
              go_roundw
              case rel => exact ⟨i + 1, m + 1, by omega, by go_num, by have := HM.out; omega, ⟨some ⟨g', 0, none⟩, cap', rfl, own6.congr (cellS_app HLE.out)⟩, below_app (b25.alloc z5 _) (own5.alloc _) hgr6 (Nat.le_refl _) (by simp; omega)⟩
              case measure => simp [intOf]; omega
            · obtain rfl : i = es.length := by omega
              have HML : Hid (WL.length = m) := by show _ = _; rw [HWL.out, HM.out]
              rw [HML.out] at HUEk HUFk HUNk
              obtain ⟨TU, hTU⟩ : ∃ TU : Nat → ByteArray, TU = fun i => bs (ntU N k i) := ⟨_, rfl⟩
              have HS0 : Hid (TT k = TU 0) := by show _ = _; rw [hTU]; exact HU0k.out.symm
              have HUE2 : Hid (∀ X : World, (Op.stringOp .add (TU m) ⟨#[10]⟩).run Tryd.prog X = .ok (.string (TT (k + 1))) X) := by rw [hTU]; exact HUEk.out
              have HUF2 : Hid (0 < m → ∀ X : World, (Op.stringOp .add (TU 0) (bs (nthS WL 0))).run Tryd.prog X = .ok (.string (TU 1)) X) := by rw [hTU]; exact HUFk.out
              have HUN2 : Hid (∀ i, i < m → 0 < i → ∃ u, (∀ X : World, (Op.stringOp .add (TU i) ⟨#[32]⟩).run Tryd.prog X = .ok (.string u) X) ∧ (∀ X : World, (Op.stringOp .add u (bs (nthS WL i))).run Tryd.prog X = .ok (.string (TU (i + 1))) X)) := by rw [hTU]; exact HUNk.out
              clear hTU HUEk HUFk HUNk
              go_wp2_with fail
              rw [HS0.out]
              go_loopw [3, 63] (fun tv iv wx => ∃ i : Nat, i ≤ m ∧ iv = .int .i64 i ∧ tv = .string (TU i) ∧ Ow wx w2.heap.size wx.heap.size 9 1 aw m cw (cellS WL) ∧ Below w2.heap.size w2 wx) (fun _ iv _ => m - (intOf iv).toNat)
              case atStart => exact ⟨0, Nat.zero_le _, rfl, rfl, ownw, belw⟩
              case round =>
                clear ownw belw zx
                obtain ⟨i, hi, rfl, rfl, ownw, belw⟩ := hrel
                by_cases hil : i < m
                · obtain ⟨g5, o5, rfl, _, hc5⟩ := Rd.at (Ow.rd ownw) hil
                  have hc6 : wr.cell? ⟨g5, o5 + i, none⟩ = some (.string (bs (nthS WL i))) := hc5
                  clear hc5
                  by_cases hi0 : i = 0
                  · subst hi0
                    have hA := HUF2.out hil
                    generalize TU 0 = t0 at *
                    obtain ⟨t1, ht1⟩ : ∃ t1, t1 = TU 1 := ⟨_, rfl⟩
                    have HT1 := Lib.hid ht1
                    rw [← ht1] at hA
                    clear ht1
                    generalize nthS WL 0 = l0 at *
                    rw [Nat.add_zero] at hc6
                    go_wp2_with fail
                    go_roundw
                    case rel => exact ⟨1, by omega, by go_num, by rw [HT1.out], ownw, belw⟩
                    case measure => simp [intOf]; omega
                  · have hi1 : 0 < i := by omega
                    obtain ⟨u, hA, hA2⟩ := HUN2.out i hil hi1
                    generalize TU i = t0 at *
                    obtain ⟨t1, ht1⟩ : ∃ t1, t1 = TU (i + 1) := ⟨_, rfl⟩
                    have HT1 := Lib.hid ht1
                    rw [← ht1] at hA2
                    clear ht1 hi0
                    generalize nthS WL i = l0 at *
                    go_wp2_with fail
                    go_roundw
                    case rel => exact ⟨i + 1, by omega, by go_num, by rw [HT1.out], ownw, belw⟩
                    case measure => simp [intOf]; omega
                · obtain rfl : i = m := by omega
                  have hA := HUE2.out
                  obtain ⟨t1, ht1⟩ : ∃ t1, t1 = TT (k + 1) := ⟨_, rfl⟩
                  have HT1 := Lib.hid ht1
                  rw [← ht1] at hA
                  clear ht1
                  generalize TU i = t0 at *
                  go_wp2_with fail
                  go_roundw
                  case rel => exact ⟨k + 1, by omega, by go_num, by rw [HT1.out], BA.new belw, b2.trans (belw.mono z2)⟩
                  case measure => simp [intOf]; omega
        · have HPRE := Lib.hid (ntPre_11 hid HMJ.out (by rw [HMI.out]; omega) HMI.out)
          have hin2 : 0 < mi := by omega
          have hin3 : ((mi : Int) != 0) = true := by rw [bne_iff_ne]; omega
          have hmi3 : mi < 1000000 := by omega
          clear hin
          have hAa : ∀ X : World, (Op.stringOp .add ⟨#[35]⟩ (decB mj)).run Tryd.prog X = .ok (.string (bs (ntId mj))) X := fun X => str_add [35] (Lib.decDigits mj) X (by have := dec_len mj; simp; omega)
          have HLa : Hid (nthS WL 0 = ntId mj) := by show _ = _; rw [HWP.out 0 (by rw [HPRE.out]; simp), HPRE.out]; rfl
          go_wp2_with fail
          refine (l1Num_any mj _ hmj2).mono ?_
          rintro e w3a ⟨rfl, bel3a⟩
          have bel4a := bel0.trans (bel3a.mono z0)
          have z4a := bel4a.size
          have own3a : Ow w3a w2.heap.size w3a.heap.size 9 1 none 0 0 (cellS WL) := Ow.nil _ _ _ _ _ _ _
          go_upto_region 8 with (at_builtin; refine wpList_app rfl _ _ _ rfl 9 (.string ByteArray.empty) 1 16 Tryd.underlying61 str_info rfl (by decide) w2.heap.size w3a.heap.size none 0 0 _ rfl (own3a.alloc _) ⟨w3a.heap.size, 0, none⟩ 1 1 [.string (bs (ntId mj))] rfl rfl (cell_one_new _ _ _) (by simp [Value.oneCell']) (by decide) (by unfold maxLen; omega) (by omega) (by simp; omega) ?_; intro gwa cwa w4a own4a hgr4a _ _)
          have own5a : Ow w4a w2.heap.size w4a.heap.size 9 1 (some ⟨gwa, 0, none⟩) (0 + 1) cwa (cellS WL) := own4a.congr (cellS_app HLa.out)
          have bel5a := below_app (bel4a.alloc z4a _) (own3a.alloc _) hgr4a (Nat.le_refl _) (by simp; omega)
          have z5a := bel5a.size
          clear bel3a bel4a own3a own4a hgr4a hAa z4a
          clear q0 q1 q2 ci2
          have BAw4a := BA.new bel5a
          have q1w4a := BAw4a.cell 1 _ rfl
          have q2w4a := BAw4a.cell 2 _ rfl
          have cpw4a := (bel5a.cell (World.block_lt_of_cell? _ _ cp2)).trans cp2
          have hAb : ∀ X : World, (Op.stringOp .add ⟨#[47]⟩ (decB mi)).run Tryd.prog X = .ok (.string (bs (ntIn mi))) X := fun X => str_add [47] (Lib.decDigits mi) X (by have := dec_len mi; simp; omega)
          have HLb : Hid (nthS WL (0 + 1) = ntIn mi) := by show _ = _; rw [HWP.out (0 + 1) (by rw [HPRE.out]; simp), HPRE.out]; rfl
          go_wp2_with fail
          refine (l1Num_any mi _ hmi3).mono ?_
          rintro e w3b ⟨rfl, bel3b⟩
          have bel4b := bel5a.trans (bel3b.mono z5a)
          have z4b := bel4b.size
          have own3b := (Ow.new own5a bel3b).top
          go_upto_region 10 with (at_builtin; refine wpList_app rfl _ _ _ rfl 9 (.string ByteArray.empty) 1 16 Tryd.underlying61 str_info rfl (by decide) w2.heap.size w3b.heap.size (some ⟨gwa, 0, none⟩) (0 + 1) cwa _ rfl (own3b.alloc _) ⟨w3b.heap.size, 0, none⟩ 1 1 [.string (bs (ntIn mi))] rfl rfl (cell_one_new _ _ _) (by simp [Value.oneCell']) (by decide) (by unfold maxLen; omega) (by omega) (by simp; omega) ?_; intro gwb cwb w4b own4b hgr4b _ _)
          have own5b : Ow w4b w2.heap.size w4b.heap.size 9 1 (some ⟨gwb, 0, none⟩) ((0 + 1) + 1) cwb (cellS WL) := own4b.congr (cellS_app HLb.out)
          have bel5b := below_app (bel4b.alloc z4b _) (own3b.alloc _) hgr4b (Nat.le_refl _) (by simp; omega)
          have z5b := bel5b.size
          clear bel3b bel4b own3b own4b hgr4b hAb z4b
          clear q1w4a q2w4a cpw4a BAw4a
          have HPL : Hid ((ntPre N k).length = 2) := by show _ = _; rw [HPRE.out]; rfl
          rw [HPL.out] at HWL HWE
          have hm2 : WL.length ≤ 8 := by have := HWL.out; omega
          go_wp2_with fail
          go_loopw [6, 51] (fun lv iv wx => ∃ i m : Nat, i ≤ es.length ∧ iv = .int .i64 i ∧ m = 2 + i ∧ (∃ a cap, lv = .slice a m cap ∧ Ow wx w2.heap.size wx.heap.size 9 1 a m cap (cellS WL)) ∧ Below w2.heap.size w2 wx) (fun _ iv _ => es.length - (intOf iv).toNat)
          case atStart => exact ⟨0, 2, Nat.zero_le _, rfl, rfl, ⟨_, _, rfl, own5b⟩, bel5b⟩
          case round =>
            clear bel5b c1 cp2
            obtain ⟨i, m, hi, rfl, hm, ⟨aw, cw, rfl, ownw⟩, belw⟩ := hrel
            have HM := Lib.hid hm
            have hm8 : m ≤ 8 := by omega
            clear hm
            have zx := belw.size
            by_cases hil : i < es.length
            · obtain ⟨p, q, hpq, hp, hq, _⟩ := HBK.out i hil
              have hq6 := HRW.out p hp
              have hp40 : p < 40 := by omega
              have hq40 : q < 40 := by omega
              have HLE : Hid (nthS WL m = ntE p q) := by show _ = _; rw [HM.out]; exact HWE.out i p q hil hpq
              obtain ⟨g1, off1, rfl, _, e1, e2⟩ := RdE.at (hrow.below ((belw.mono (by omega : w2.heap.size ≤ w2.heap.size)).mono (Nat.le_trans hB z2))) hil
              rw [hpq] at e1 e2
              have BE := Bx.made wr 44 #[.int .i64 (p : Int), .int .i64 (q : Int)]
              have belE : Below w2.heap.size w2 (wr.alloc (.cells #[.int .i64 (p : Int), .int .i64 (q : Int)] 44)) := belw.alloc zx _
              have ownE := (Ow.alloc ownw (.cells #[.int .i64 (p : Int), .int .i64 (q : Int)] 44)).top
              clear hpq
              go_upto_region 13 with fail
              generalize wr.alloc (.cells #[.int .i64 (p : Int), .int .i64 (q : Int)] 44) = wE at *
              have q0 := BE.cell 0 _ rfl
              have q1 := BE.cell 1 _ rfl
              have zE := belE.size
              clear e1 e2 ownw belw zx
              have HTE : Hid (∀ X, Calls Tryd.prog 49 #[.agg #[.int .i64 (p : Int), .int .i64 (q : Int)]] X fun e w' => e = .returned (.string (bs (ntE p q))) ∧ Below X.heap.size X w') := fun X => by have := txEnd_any p q X (by omega) (by omega); rw [endT_bs] at this; exact this
              go_wp2_with fail
              refine (HTE.out _).mono ?_
              rintro e w5 ⟨rfl, bel5⟩
              have own5 := (Ow.new ownE bel5).top
              have b25 := belE.trans (bel5.mono zE)
              have z5 := b25.size
              clear q0 q1 BE ownE belE bel5 zE HTE
              go_wp2_with (at_builtin; refine wpList_app rfl _ _ _ rfl 9 (.string ByteArray.empty) 1 16 Tryd.underlying61 str_info rfl (by decide) w2.heap.size w5.heap.size aw m cw _ rfl (own5.alloc _) ⟨w5.heap.size, 0, none⟩ 1 1 [.string (bs (ntE p q))] rfl rfl (cell_one_new _ _ _) (by simp [Value.oneCell']) (by decide) (by unfold maxLen; omega) (by omega) (by simp; omega) ?_; intro g' cap' w6 own6 hgr6 _ _)
              go_roundw
              case rel => exact ⟨i + 1, m + 1, by omega, by go_num, by have := HM.out; omega, ⟨some ⟨g', 0, none⟩, cap', rfl, own6.congr (cellS_app HLE.out)⟩, below_app (b25.alloc z5 _) (own5.alloc _) hgr6 (Nat.le_refl _) (by simp; omega)⟩
              case measure => simp [intOf]; omega
            · obtain rfl : i = es.length := by omega
              have HML : Hid (WL.length = m) := by show _ = _; rw [HWL.out, HM.out]
              rw [HML.out] at HUEk HUFk HUNk
              obtain ⟨TU, hTU⟩ : ∃ TU : Nat → ByteArray, TU = fun i => bs (ntU N k i) := ⟨_, rfl⟩
              have HS0 : Hid (TT k = TU 0) := by show _ = _; rw [hTU]; exact HU0k.out.symm
              have HUE2 : Hid (∀ X : World, (Op.stringOp .add (TU m) ⟨#[10]⟩).run Tryd.prog X = .ok (.string (TT (k + 1))) X) := by rw [hTU]; exact HUEk.out
              have HUF2 : Hid (0 < m → ∀ X : World, (Op.stringOp .add (TU 0) (bs (nthS WL 0))).run Tryd.prog X = .ok (.string (TU 1)) X) := by rw [hTU]; exact HUFk.out
              have HUN2 : Hid (∀ i, i < m → 0 < i → ∃ u, (∀ X : World, (Op.stringOp .add (TU i) ⟨#[32]⟩).run Tryd.prog X = .ok (.string u) X) ∧ (∀ X : World, (Op.stringOp .add u (bs (nthS WL i))).run Tryd.prog X = .ok (.string (TU (i + 1))) X)) := by rw [hTU]; exact HUNk.out
              clear hTU HUEk HUFk HUNk
              go_wp2_with fail
              rw [HS0.out]
              go_loopw [3, 63] (fun tv iv wx => ∃ i : Nat, i ≤ m ∧ iv = .int .i64 i ∧ tv = .string (TU i) ∧ Ow wx w2.heap.size wx.heap.size 9 1 aw m cw (cellS WL) ∧ Below w2.heap.size w2 wx) (fun _ iv _ => m - (intOf iv).toNat)
              case atStart => exact ⟨0, Nat.zero_le _, rfl, rfl, ownw, belw⟩
              case round =>
                clear ownw belw zx
                obtain ⟨i, hi, rfl, rfl, ownw, belw⟩ := hrel
                by_cases hil : i < m
                · obtain ⟨g5, o5, rfl, _, hc5⟩ := Rd.at (Ow.rd ownw) hil
                  have hc6 : wr.cell? ⟨g5, o5 + i, none⟩ = some (.string (bs (nthS WL i))) := hc5
                  clear hc5
                  by_cases hi0 : i = 0
                  · subst hi0
                    have hA := HUF2.out hil
                    generalize TU 0 = t0 at *
                    obtain ⟨t1, ht1⟩ : ∃ t1, t1 = TU 1 := ⟨_, rfl⟩
                    have HT1 := Lib.hid ht1
                    rw [← ht1] at hA
                    clear ht1
                    generalize nthS WL 0 = l0 at *
                    rw [Nat.add_zero] at hc6
                    go_wp2_with fail
                    go_roundw
                    case rel => exact ⟨1, by omega, by go_num, by rw [HT1.out], ownw, belw⟩
                    case measure => simp [intOf]; omega
                  · have hi1 : 0 < i := by omega
                    obtain ⟨u, hA, hA2⟩ := HUN2.out i hil hi1
                    generalize TU i = t0 at *
                    obtain ⟨t1, ht1⟩ : ∃ t1, t1 = TU (i + 1) := ⟨_, rfl⟩
                    have HT1 := Lib.hid ht1
                    rw [← ht1] at hA2
                    clear ht1 hi0
                    generalize nthS WL i = l0 at *
                    go_wp2_with fail
                    go_roundw
                    case rel => exact ⟨i + 1, by omega, by go_num, by rw [HT1.out], ownw, belw⟩
                    case measure => simp [intOf]; omega
                · obtain rfl : i = m := by omega
                  have hA := HUE2.out
                  obtain ⟨t1, ht1⟩ : ∃ t1, t1 = TT (k + 1) := ⟨_, rfl⟩
                  have HT1 := Lib.hid ht1
                  rw [← ht1] at hA
                  clear ht1
                  generalize TU i = t0 at *
                  go_wp2_with fail
                  go_roundw
                  case rel => exact ⟨k + 1, by omega, by go_num, by rw [HT1.out], BA.new belw, b2.trans (belw.mono z2)⟩
                  case measure => simp [intOf]; omega
      · have hid0 : ¬ 0 < N.ids.length := hid
        have hid1 : (N.ids.length : Int) = 0 ∨ True := Or.inr trivial
        by_cases hin : mi = 0
        · have HPRE := Lib.hid (ntPre_00 hid (by rw [HMI.out, hin]; rfl))
          subst hin
          go_upto_region 10 with fail
          clear q0 q1 q2
          have ownn : Ow w2 w2.heap.size w2.heap.size 9 1 none 0 0 (cellS WL) := Ow.nil _ _ _ _ _ _ _
          have HPL : Hid ((ntPre N k).length = 0) := by show _ = _; rw [HPRE.out]; rfl
          rw [HPL.out] at HWL HWE
          have hm2 : WL.length ≤ 8 := by have := HWL.out; omega
          go_wp2_with fail
          go_loopw [6, 51] (fun lv iv wx => ∃ i m : Nat, i ≤ es.length ∧ iv = .int .i64 i ∧ m = 0 + i ∧ (∃ a cap, lv = .slice a m cap ∧ Ow wx w2.heap.size wx.heap.size 9 1 a m cap (cellS WL)) ∧ Below w2.heap.size w2 wx) (fun _ iv _ => es.length - (intOf iv).toNat)
          case atStart => exact ⟨0, 0, Nat.zero_le _, rfl, rfl, ⟨_, _, rfl, ownn⟩, bel0⟩
          case round =>
            clear bel0 c1 cp2
            obtain ⟨i, m, hi, rfl, hm, ⟨aw, cw, rfl, ownw⟩, belw⟩ := hrel
            have HM := Lib.hid hm
            have hm8 : m ≤ 8 := by omega
            clear hm
            have zx := belw.size
            by_cases hil : i < es.length
            · obtain ⟨p, q, hpq, hp, hq, _⟩ := HBK.out i hil
              have hq6 := HRW.out p hp
              have hp40 : p < 40 := by omega
              have hq40 : q < 40 := by omega
              have HLE : Hid (nthS WL m = ntE p q) := by show _ = _; rw [HM.out]; exact HWE.out i p q hil hpq
              obtain ⟨g1, off1, rfl, _, e1, e2⟩ := RdE.at (hrow.below ((belw.mono (by omega : w2.heap.size ≤ w2.heap.size)).mono (Nat.le_trans hB z2))) hil
              rw [hpq] at e1 e2
              have BE := Bx.made wr 44 #[.int .i64 (p : Int), .int .i64 (q : Int)]
              have belE : Below w2.heap.size w2 (wr.alloc (.cells #[.int .i64 (p : Int), .int .i64 (q : Int)] 44)) := belw.alloc zx _
              have ownE := (Ow.alloc ownw (.cells #[.int .i64 (p : Int), .int .i64 (q : Int)] 44)).top
              clear hpq
              go_upto_region 13 with fail
              generalize wr.alloc (.cells #[.int .i64 (p : Int), .int .i64 (q : Int)] 44) = wE at *
              have q0 := BE.cell 0 _ rfl
              have q1 := BE.cell 1 _ rfl
              have zE := belE.size
              clear e1 e2 ownw belw zx
              have HTE : Hid (∀ X, Calls Tryd.prog 49 #[.agg #[.int .i64 (p : Int), .int .i64 (q : Int)]] X fun e w' => e = .returned (.string (bs (ntE p q))) ∧ Below X.heap.size X w') := fun X => by have := txEnd_any p q X (by omega) (by omega); rw [endT_bs] at this; exact this
              go_wp2_with fail
              refine (HTE.out _).mono ?_
              rintro e w5 ⟨rfl, bel5⟩
              have own5 := (Ow.new ownE bel5).top
              have b25 := belE.trans (bel5.mono zE)
              have z5 := b25.size
              clear q0 q1 BE ownE belE bel5 zE HTE
              go_wp2_with (at_builtin; refine wpList_app rfl _ _ _ rfl 9 (.string ByteArray.empty) 1 16 Tryd.underlying61 str_info rfl (by decide) w2.heap.size w5.heap.size aw m cw _ rfl (own5.alloc _) ⟨w5.heap.size, 0, none⟩ 1 1 [.string (bs (ntE p q))] rfl rfl (cell_one_new _ _ _) (by simp [Value.oneCell']) (by decide) (by unfold maxLen; omega) (by omega) (by simp; omega) ?_; intro g' cap' w6 own6 hgr6 _ _)
              go_roundw
              case rel => exact ⟨i + 1, m + 1, by omega, by go_num, by have := HM.out; omega, ⟨some ⟨g', 0, none⟩, cap', rfl, own6.congr (cellS_app HLE.out)⟩, below_app (b25.alloc z5 _) (own5.alloc _) hgr6 (Nat.le_refl _) (by simp; omega)⟩
              case measure => simp [intOf]; omega
            · obtain rfl : i = es.length := by omega
              have HML : Hid (WL.length = m) := by show _ = _; rw [HWL.out, HM.out]
              rw [HML.out] at HUEk HUFk HUNk
              obtain ⟨TU, hTU⟩ : ∃ TU : Nat → ByteArray, TU = fun i => bs (ntU N k i) := ⟨_, rfl⟩
              have HS0 : Hid (TT k = TU 0) := by show _ = _; rw [hTU]; exact HU0k.out.symm
              have HUE2 : Hid (∀ X : World, (Op.stringOp .add (TU m) ⟨#[10]⟩).run Tryd.prog X = .ok (.string (TT (k + 1))) X) := by rw [hTU]; exact HUEk.out
              have HUF2 : Hid (0 < m → ∀ X : World, (Op.stringOp .add (TU 0) (bs (nthS WL 0))).run Tryd.prog X = .ok (.string (TU 1)) X) := by rw [hTU]; exact HUFk.out
              have HUN2 : Hid (∀ i, i < m → 0 < i → ∃ u, (∀ X : World, (Op.stringOp .add (TU i) ⟨#[32]⟩).run Tryd.prog X = .ok (.string u) X) ∧ (∀ X : World, (Op.stringOp .add u (bs (nthS WL i))).run Tryd.prog X = .ok (.string (TU (i + 1))) X)) := by rw [hTU]; exact HUNk.out
              clear hTU HUEk HUFk HUNk
              go_wp2_with fail
              rw [HS0.out]
              go_loopw [3, 63] (fun tv iv wx => ∃ i : Nat, i ≤ m ∧ iv = .int .i64 i ∧ tv = .string (TU i) ∧ Ow wx w2.heap.size wx.heap.size 9 1 aw m cw (cellS WL) ∧ Below w2.heap.size w2 wx) (fun _ iv _ => m - (intOf iv).toNat)
              case atStart => exact ⟨0, Nat.zero_le _, rfl, rfl, ownw, belw⟩
              case round =>
                clear ownw belw zx
                obtain ⟨i, hi, rfl, rfl, ownw, belw⟩ := hrel
                by_cases hil : i < m
                · obtain ⟨g5, o5, rfl, _, hc5⟩ := Rd.at (Ow.rd ownw) hil
                  have hc6 : wr.cell? ⟨g5, o5 + i, none⟩ = some (.string (bs (nthS WL i))) := hc5
                  clear hc5
                  by_cases hi0 : i = 0
                  · subst hi0
                    have hA := HUF2.out hil
                    generalize TU 0 = t0 at *
                    obtain ⟨t1, ht1⟩ : ∃ t1, t1 = TU 1 := ⟨_, rfl⟩
                    have HT1 := Lib.hid ht1
                    rw [← ht1] at hA
                    clear ht1
                    generalize nthS WL 0 = l0 at *
                    rw [Nat.add_zero] at hc6
                    go_wp2_with fail
                    go_roundw
                    case rel => exact ⟨1, by omega, by go_num, by rw [HT1.out], ownw, belw⟩
                    case measure => simp [intOf]; omega
                  · have hi1 : 0 < i := by omega
                    obtain ⟨u, hA, hA2⟩ := HUN2.out i hil hi1
                    generalize TU i = t0 at *
                    obtain ⟨t1, ht1⟩ : ∃ t1, t1 = TU (i + 1) := ⟨_, rfl⟩
                    have HT1 := Lib.hid ht1
                    rw [← ht1] at hA2
                    clear ht1 hi0
                    generalize nthS WL i = l0 at *
                    go_wp2_with fail
                    go_roundw
                    case rel => exact ⟨i + 1, by omega, by go_num, by rw [HT1.out], ownw, belw⟩
                    case measure => simp [intOf]; omega
                · obtain rfl : i = m := by omega
                  have hA := HUE2.out
                  obtain ⟨t1, ht1⟩ : ∃ t1, t1 = TT (k + 1) := ⟨_, rfl⟩
                  have HT1 := Lib.hid ht1
                  rw [← ht1] at hA
                  clear ht1
                  generalize TU i = t0 at *
                  go_wp2_with fail
                  go_roundw
                  case rel => exact ⟨k + 1, by omega, by go_num, by rw [HT1.out], BA.new belw, b2.trans (belw.mono z2)⟩
                  case measure => simp [intOf]; omega
        · have HPRE := Lib.hid (ntPre_01 hid (by rw [HMI.out]; omega) HMI.out)
          have hin2 : 0 < mi := by omega
          have hin3 : ((mi : Int) != 0) = true := by rw [bne_iff_ne]; omega
          have hmi3 : mi < 1000000 := by omega
          clear hin
          have hAa : ∀ X : World, (Op.stringOp .add ⟨#[47]⟩ (decB mi)).run Tryd.prog X = .ok (.string (bs (ntIn mi))) X := fun X => str_add [47] (Lib.decDigits mi) X (by have := dec_len mi; simp; omega)
          have HLa : Hid (nthS WL 0 = ntIn mi) := by show _ = _; rw [HWP.out 0 (by rw [HPRE.out]; simp), HPRE.out]; rfl
          go_wp2_with fail
          refine (l1Num_any mi _ hmi3).mono ?_
          rintro e w3a ⟨rfl, bel3a⟩
          have bel4a := bel0.trans (bel3a.mono z0)
          have z4a := bel4a.size
          have own3a : Ow w3a w2.heap.size w3a.heap.size 9 1 none 0 0 (cellS WL) := Ow.nil _ _ _ _ _ _ _
          go_upto_region 10 with (at_builtin; refine wpList_app rfl _ _ _ rfl 9 (.string ByteArray.empty) 1 16 Tryd.underlying61 str_info rfl (by decide) w2.heap.size w3a.heap.size none 0 0 _ rfl (own3a.alloc _) ⟨w3a.heap.size, 0, none⟩ 1 1 [.string (bs (ntIn mi))] rfl rfl (cell_one_new _ _ _) (by simp [Value.oneCell']) (by decide) (by unfold maxLen; omega) (by omega) (by simp; omega) ?_; intro gwa cwa w4a own4a hgr4a _ _)
          have own5a : Ow w4a w2.heap.size w4a.heap.size 9 1 (some ⟨gwa, 0, none⟩) (0 + 1) cwa (cellS WL) := own4a.congr (cellS_app HLa.out)
          have bel5a := below_app (bel4a.alloc z4a _) (own3a.alloc _) hgr4a (Nat.le_refl _) (by simp; omega)
          have z5a := bel5a.size
          clear bel3a bel4a own3a own4a hgr4a hAa z4a
          clear q0 q1 q2
          have HPL : Hid ((ntPre N k).length = 1) := by show _ = _; rw [HPRE.out]; rfl
          rw [HPL.out] at HWL HWE
          have hm2 : WL.length ≤ 8 := by have := HWL.out; omega
          go_wp2_with fail
          go_loopw [6, 51] (fun lv iv wx => ∃ i m : Nat, i ≤ es.length ∧ iv = .int .i64 i ∧ m = 1 + i ∧ (∃ a cap, lv = .slice a m cap ∧ Ow wx w2.heap.size wx.heap.size 9 1 a m cap (cellS WL)) ∧ Below w2.heap.size w2 wx) (fun _ iv _ => es.length - (intOf iv).toNat)
          case atStart => exact ⟨0, 1, Nat.zero_le _, rfl, rfl, ⟨_, _, rfl, own5a⟩, bel5a⟩
          case round =>
            clear bel5a c1 cp2
            obtain ⟨i, m, hi, rfl, hm, ⟨aw, cw, rfl, ownw⟩, belw⟩ := hrel
            have HM := Lib.hid hm
            have hm8 : m ≤ 8 := by omega
            clear hm
            have zx := belw.size
            by_cases hil : i < es.length
            · obtain ⟨p, q, hpq, hp, hq, _⟩ := HBK.out i hil
              have hq6 := HRW.out p hp
              have hp40 : p < 40 := by omega
              have hq40 : q < 40 := by omega
              have HLE : Hid (nthS WL m = ntE p q) := by show _ = _; rw [HM.out]; exact HWE.out i p q hil hpq
              obtain ⟨g1, off1, rfl, _, e1, e2⟩ := RdE.at (hrow.below ((belw.mono (by omega : w2.heap.size ≤ w2.heap.size)).mono (Nat.le_trans hB z2))) hil
              rw [hpq] at e1 e2
              have BE := Bx.made wr 44 #[.int .i64 (p : Int), .int .i64 (q : Int)]
              have belE : Below w2.heap.size w2 (wr.alloc (.cells #[.int .i64 (p : Int), .int .i64 (q : Int)] 44)) := belw.alloc zx _
              have ownE := (Ow.alloc ownw (.cells #[.int .i64 (p : Int), .int .i64 (q : Int)] 44)).top
              clear hpq
              go_upto_region 13 with fail
              generalize wr.alloc (.cells #[.int .i64 (p : Int), .int .i64 (q : Int)] 44) = wE at *
              have q0 := BE.cell 0 _ rfl
              have q1 := BE.cell 1 _ rfl
              have zE := belE.size
              clear e1 e2 ownw belw zx
              have HTE : Hid (∀ X, Calls Tryd.prog 49 #[.agg #[.int .i64 (p : Int), .int .i64 (q : Int)]] X fun e w' => e = .returned (.string (bs (ntE p q))) ∧ Below X.heap.size X w') := fun X => by have := txEnd_any p q X (by omega) (by omega); rw [endT_bs] at this; exact this
              go_wp2_with fail
              refine (HTE.out _).mono ?_
              rintro e w5 ⟨rfl, bel5⟩
              have own5 := (Ow.new ownE bel5).top
              have b25 := belE.trans (bel5.mono zE)
              have z5 := b25.size
              clear q0 q1 BE ownE belE bel5 zE HTE
              go_wp2_with (at_builtin; refine wpList_app rfl _ _ _ rfl 9 (.string ByteArray.empty) 1 16 Tryd.underlying61 str_info rfl (by decide) w2.heap.size w5.heap.size aw m cw _ rfl (own5.alloc _) ⟨w5.heap.size, 0, none⟩ 1 1 [.string (bs (ntE p q))] rfl rfl (cell_one_new _ _ _) (by simp [Value.oneCell']) (by decide) (by unfold maxLen; omega) (by omega) (by simp; omega) ?_; intro g' cap' w6 own6 hgr6 _ _)
              go_roundw
              case rel => exact ⟨i + 1, m + 1, by omega, by go_num, by have := HM.out; omega, ⟨some ⟨g', 0, none⟩, cap', rfl, own6.congr (cellS_app HLE.out)⟩, below_app (b25.alloc z5 _) (own5.alloc _) hgr6 (Nat.le_refl _) (by simp; omega)⟩
              case measure => simp [intOf]; omega
            · obtain rfl : i = es.length := by omega
              have HML : Hid (WL.length = m) := by show _ = _; rw [HWL.out, HM.out]
              rw [HML.out] at HUEk HUFk HUNk
              obtain ⟨TU, hTU⟩ : ∃ TU : Nat → ByteArray, TU = fun i => bs (ntU N k i) := ⟨_, rfl⟩
              have HS0 : Hid (TT k = TU 0) := by show _ = _; rw [hTU]; exact HU0k.out.symm
              have HUE2 : Hid (∀ X : World, (Op.stringOp .add (TU m) ⟨#[10]⟩).run Tryd.prog X = .ok (.string (TT (k + 1))) X) := by rw [hTU]; exact HUEk.out
              have HUF2 : Hid (0 < m → ∀ X : World, (Op.stringOp .add (TU 0) (bs (nthS WL 0))).run Tryd.prog X = .ok (.string (TU 1)) X) := by rw [hTU]; exact HUFk.out
              have HUN2 : Hid (∀ i, i < m → 0 < i → ∃ u, (∀ X : World, (Op.stringOp .add (TU i) ⟨#[32]⟩).run Tryd.prog X = .ok (.string u) X) ∧ (∀ X : World, (Op.stringOp .add u (bs (nthS WL i))).run Tryd.prog X = .ok (.string (TU (i + 1))) X)) := by rw [hTU]; exact HUNk.out
              clear hTU HUEk HUFk HUNk
              go_wp2_with fail
              rw [HS0.out]
              go_loopw [3, 63] (fun tv iv wx => ∃ i : Nat, i ≤ m ∧ iv = .int .i64 i ∧ tv = .string (TU i) ∧ Ow wx w2.heap.size wx.heap.size 9 1 aw m cw (cellS WL) ∧ Below w2.heap.size w2 wx) (fun _ iv _ => m - (intOf iv).toNat)
              case atStart => exact ⟨0, Nat.zero_le _, rfl, rfl, ownw, belw⟩
              case round =>
                clear ownw belw zx
                obtain ⟨i, hi, rfl, rfl, ownw, belw⟩ := hrel
                by_cases hil : i < m
                · obtain ⟨g5, o5, rfl, _, hc5⟩ := Rd.at (Ow.rd ownw) hil
                  have hc6 : wr.cell? ⟨g5, o5 + i, none⟩ = some (.string (bs (nthS WL i))) := hc5
                  clear hc5
                  by_cases hi0 : i = 0
                  · subst hi0
                    have hA := HUF2.out hil
                    generalize TU 0 = t0 at *
                    obtain ⟨t1, ht1⟩ : ∃ t1, t1 = TU 1 := ⟨_, rfl⟩
                    have HT1 := Lib.hid ht1
                    rw [← ht1] at hA
                    clear ht1
                    generalize nthS WL 0 = l0 at *
                    rw [Nat.add_zero] at hc6
                    go_wp2_with fail
                    go_roundw
                    case rel => exact ⟨1, by omega, by go_num, by rw [HT1.out], ownw, belw⟩
                    case measure => simp [intOf]; omega
                  · have hi1 : 0 < i := by omega
                    obtain ⟨u, hA, hA2⟩ := HUN2.out i hil hi1
                    generalize TU i = t0 at *
                    obtain ⟨t1, ht1⟩ : ∃ t1, t1 = TU (i + 1) := ⟨_, rfl⟩
                    have HT1 := Lib.hid ht1
                    rw [← ht1] at hA2
                    clear ht1 hi0
                    generalize nthS WL i = l0 at *
                    go_wp2_with fail
                    go_roundw
                    case rel => exact ⟨i + 1, by omega, by go_num, by rw [HT1.out], ownw, belw⟩
                    case measure => simp [intOf]; omega
                · obtain rfl : i = m := by omega
                  have hA := HUE2.out
                  obtain ⟨t1, ht1⟩ : ∃ t1, t1 = TT (k + 1) := ⟨_, rfl⟩
                  have HT1 := Lib.hid ht1
                  rw [← ht1] at hA
                  clear ht1
                  generalize TU i = t0 at *
                  go_wp2_with fail
                  go_roundw
                  case rel => exact ⟨k + 1, by omega, by go_num, by rw [HT1.out], BA.new belw, b2.trans (belw.mono z2)⟩
                  case measure => simp [intOf]; omega
    · obtain rfl : k = N.ends.length := by omega
      obtain ⟨t0, ht0⟩ : ∃ t, t = TT N.ends.length := ⟨_, rfl⟩
      have HT1 := Lib.hid ht0
      rw [← ht0]
      clear ht0
      go_wp2_with fail
      go_ret
      first | exact ⟨rfl, b2⟩ | exact ⟨ret_str HT1.out, b2⟩
end Go.Proofs.YtmjmgggfmccjmaaDoor
