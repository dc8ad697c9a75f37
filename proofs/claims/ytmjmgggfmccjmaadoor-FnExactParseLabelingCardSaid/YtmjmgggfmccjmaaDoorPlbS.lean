/- ParseLabeling: spec's walk. -/
import Derived.Test.YtmjmgggfmccjmaaDoorPlbI
namespace Go.Proofs.YtmjmgggfmccjmaaDoor
open Go.RowKit
set_option linter.unusedVariables false
set_option linter.unusedSimpArgs false
set_option maxRecDepth 100000 in
set_option maxHeartbeats 1600000 in
theorem specPlb_any (s : ByteArray) (w : World) (hs : s.size ≤ 1048576) :
    Calls Tryd.prog 14 #[.string s] w (RetSS (plR s.data.toList) (plOk s.data.toList) w) := by
  have HSL := Lib.hid (size_list s)
  by_cases hd : s.data.toList = [45]
  · have HO := Lib.hid (plOk_dash hd)
    have HR := Lib.hid (plR_dash hd)
    obtain rfl : s = ⟨#[45]⟩ := by rw [← bs_eta s, hd]; rfl
    clear hd
    go_enter Tryd.func14, Tryd.ntmps14
    go_wp2_with fail
    go_ret2
    unfold RetSS
    rw [HO.out, HR.out]
    exact ⟨_, rfl, ⟨none, 0, fun _ => (none, 0), rfl, RowsAt.nil _ _ _ _ _⟩, Below.refl _ _⟩
  · have HO := Lib.hid (plOk_of hd)
    have HRF := Lib.hid (fun h => plR_f hd h)
    have HRT := Lib.hid (fun h => plR_t hd h)
    have hdb : (s.toList == [45]) = false := by
      rw [Lib.toList_data, beq_eq_false_iff_ne]
      exact hd
    clear hd
    have HSp := Lib.hid (l1SplitZ_any s 124 124 rfl w hs)
    have hcnt := spl_count 124 s.data.toList
    rw [HSL.out] at hcnt
    have HPL := Lib.hid (fun k hk => plb_part_le (l := s.data.toList) (k := k) hk)
    have HBAD := Lib.hid (fun k i hk hp hi hb => plb_bad (l := s.data.toList) (k := k) (i := i) hk hp hi hb)
    have HLT := Lib.hid (fun h => labT_good (l := s.data.toList) h)
    have HRA := Lib.hid (fun k hk => rdRows_at (l := s.data.toList) (j := k) hk)
    have HRL := Lib.hid (rdRows_length s.data.toList)
    obtain ⟨R, hR⟩ : ∃ R, R = rdRows s.data.toList := ⟨_, rfl⟩
    rw [← hR] at HO HRF HRT HBAD HLT HRA HRL
    clear hR
    have HL2 : Hid (∀ j, j < R.length → (rowOf R j).length ≤ 1048600) := fun j hj => by
      rw [HRL.out] at hj
      rw [HRA.out j hj]
      have h1 := rowLen_le (p := nthS (spl 124 s.data.toList) j)
      have h2 := HPL.out j hj
      rw [HSL.out] at h2
      omega
    obtain ⟨P, hP⟩ : ∃ P, P = spl 124 s.data.toList := ⟨_, rfl⟩
    rw [← hP] at HSp hcnt HPL HBAD HLT HRA HRL
    clear hP
    go_enter Tryd.func14, Tryd.ntmps14
    go_wp2_with fail
    refine HSp.out.mono ?_
    rintro e w1 ⟨a1, cap1, rfl, own1, bel1⟩
    clear HSp
    have hrd := Ow.rd own1
    have z1 := bel1.size
    clear own1
    go_wp2_with fail
    go_loopw [4, 15] (fun ov iv wr => ∃ k : Nat, k ≤ P.length ∧ iv = .int .i64 k ∧ (∃ a cap vs, ov = .slice a k cap ∧ RowsI wr w1.heap.size wr.heap.size a cap (R.take k) vs) ∧ Below w1.heap.size w1 wr) (fun _ iv _ => P.length - (intOf iv).toNat)
    case atStart => exact ⟨0, Nat.zero_le _, rfl, ⟨none, 0, fun _ => (none, 0), rfl, RowsAt.nil _ _ _ _ _⟩, Below.refl _ _⟩
    case round =>
      obtain ⟨k, hk, rfl, ⟨a2, cap2, vs2, rfl, own2⟩, bel2⟩ := hrel
      have z2 := bel2.size
      have HLK : Hid ((R.take k).length = k) := by show _ = _; rw [List.length_take, HRL.out]; omega
      obtain ⟨w2, hw2⟩ : ∃ w2, w2 = wr := ⟨_, rfl⟩
      subst hw2
      by_cases hlt : k < P.length
      · obtain ⟨g1, o1, rfl, hg1, hcell⟩ := Rd.at hrd hlt
        have hc0 := (bel2.cell (p := ⟨g1, o1 + k, none⟩) (by show g1 < _; omega)).trans hcell
        have HRK := Lib.hid (HRA.out k hlt)
        have HTS : Hid (R.take (k + 1) = R.take k ++ [rowOf R k]) := takeR_snoc _ _ (by rw [HRL.out]; exact hlt)
        rw [HRK.out] at HTS
        have HPK := Lib.hid (HPL.out k hlt)
        have hc1 : w2.cell? ⟨g1, o1 + k, none⟩ = some (.string (bs (nthS P k))) := hc0
        clear hcell hc0
        generalize nthS P k = p at *
        by_cases hpe : p = []
        · have hpt := bs_test_nil hpe
          have HR0 : Hid (rdRow p = []) := by show _ = _; rw [hpe]; rfl
          rw [HR0.out] at HTS
          have hown0 : Ow w2 w2.heap.size w2.heap.size 3 1 none ([] : List Int).length 0 (cellI []) := Ow.nil _ _ _ _ _ _ _
          clear hpe
          go_wp2_with (at_builtin; refine wpList_app rfl _ _ _ rfl 23 (.slice none 0 0) 1 24 Tryd.underlying35 ints_info rfl (by decide) w1.heap.size w2.heap.size a2 k cap2 _ rfl (rows_pre own2 HLK.out (Below.refl _ _) _) ⟨w2.heap.size, 0, none⟩ 1 1 [.slice none 0 0] rfl rfl (cell_one_new _ _ _) (by simp [Value.oneCell']) (by decide) (by unfold maxLen; omega) (by omega) (by simp; omega) ?_; intro g' cap' w4 own4 hgr _ _)
          go_roundw
          case rel => exact ⟨k + 1, by omega, by go_num, ⟨some ⟨g', 0, none⟩, cap', _, rfl, by rw [HTS.out]; exact rows_step (r := []) own2 HLK.out (Below.refl _ _) z2 hown0 hgr own4⟩, below_app (bel2.alloc z2 _) (rows_pre own2 HLK.out (Below.refl _ _) _) hgr (Nat.le_refl _) (by simp; omega)⟩
          case measure => simp [intOf]; omega
        · have hpt := bs_test_ne hpe
          have HPE := Lib.hid hpe
          have hpl : p.length ≤ 1048576 := by have := HPK.out; rw [HSL.out] at this; omega
          have HSq := Lib.hid (fun X => l1SplitZ_any (bs p) 44 44 rfl X (by rw [bs_size]; exact hpl))
          have hq1 := spl_count 44 p
          have HQL := Lib.hid (fun i hi => plb_word_le (p := p) (i := i) hi)
          have HQR := Lib.hid (fun i hi => rdRow_at hpe (j := i) hi)
          have HQN := Lib.hid (rdRow_length hpe)
          clear hpe
          rw [bs_data] at HSq
          generalize spl 44 p = Q at *
          go_wp2_with fail
          refine (HSq.out _).mono ?_
          rintro e w3 ⟨a3, cap3, rfl, own3, bel3⟩
          have hrd3 := Ow.rd own3
          have z3 := bel3.size
          have b23 := bel2.trans (bel3.mono z2)
          have z13 := b23.size
          clear own3 hc1 HSq
          go_wp2_with fail
          go_loopw [7, 24] (fun lv iv wx => ∃ i : Nat, i ≤ Q.length ∧ iv = .int .i64 i ∧ (∃ a cap, lv = .slice a i cap ∧ Ow wx w3.heap.size wx.heap.size 3 1 a i cap (cellI (rdRow p))) ∧ Below w3.heap.size w3 wx) (fun _ iv _ => Q.length - (intOf iv).toNat)
          case atStart => exact ⟨0, Nat.zero_le _, rfl, ⟨none, 0, rfl, Ow.nil _ _ _ _ _ _ _⟩, Below.refl _ _⟩
          case round =>
            obtain ⟨i, hi, rfl, ⟨b, cb, rfl, ownb⟩, belx⟩ := hrel
            have zx := belx.size
            have b1x := b23.trans (belx.mono z13)
            by_cases hil : i < Q.length
            · obtain ⟨g5, o5, rfl, hg5, hcell5⟩ := Rd.at hrd3 hil
              have hc5 : wr.cell? ⟨g5, o5 + i, none⟩ = some (.string (bs (nthS Q i))) := (belx.cell (p := ⟨g5, o5 + i, none⟩) (by show g5 < _; omega)).trans hcell5
              have HQI := Lib.hid (HQR.out i hil)
              have hwl : (nthS Q i).length ≤ 1048576 := by have := HQL.out i hil; omega
              clear hcell5
              generalize nthS Q i = q at *
              have HRN : Hid (∀ X, Calls Tryd.prog 42 #[.string (bs q)] X fun e w' => e = .returned (.int .i64 (readL q)) ∧ w' = X) := fun X => l1Read_any (bs q) X (by rw [bs_size]; exact hwl)
              generalize readL q = z at *
              go_wp2_with (first | (go_at_call 42; refine (HRN.out _).mono ?_; rintro e w5 ⟨rfl, hww⟩; subst w5) | (at_builtin; refine wpList_app rfl _ _ _ rfl 3 (.int .i64 0) 1 8 Tryd.underlying23 int_info rfl (by decide) w3.heap.size wr.heap.size b i cb _ rfl (ownb.alloc _) ⟨wr.heap.size, 0, none⟩ 1 1 [.int .i64 z] rfl rfl (cell_one_new _ _ _) (by simp [Value.oneCell']) (by decide) (by unfold maxLen; omega) (by omega) (by simp; omega) ?_; intro g' cap' w6 own6 hgr _ _))
              go_roundw
              case rel => exact ⟨i + 1, by omega, by go_num, ⟨some ⟨g', 0, none⟩, cap', rfl, own6.congr (cellI_app HQI.out)⟩, below_app (belx.alloc zx _) (ownb.alloc _) hgr (Nat.le_refl _) (by simp; omega)⟩
              case measure => simp [intOf]; omega
            · obtain rfl : i = Q.length := by omega
              have ownb2 : Ow wr w2.heap.size wr.heap.size 3 1 b (rdRow p).length cb (cellI (rdRow p)) := by rw [HQN.out]; exact Ow.wide ownb z3 (Nat.le_refl _)
              have b2x := bel3.trans (belx.mono z3)
              have HQ2 := Lib.hid HQN.out.symm
              rw [HQ2.out]
              have hrl : (rdRow p).length ≤ 1048577 := by rw [HQN.out]; omega
              generalize rdRow p = r at *
              go_wp2_with (at_builtin; refine wpList_app rfl _ _ _ rfl 23 (.slice none 0 0) 1 24 Tryd.underlying35 ints_info rfl (by decide) w1.heap.size wr.heap.size a2 k cap2 _ rfl (rows_pre own2 HLK.out b2x _) ⟨wr.heap.size, 0, none⟩ 1 1 [.slice b r.length cb] rfl rfl (cell_one_new _ _ _) (by simp [Value.oneCell']) (by decide) (by unfold maxLen; omega) (by omega) (by simp; omega) ?_; intro g' cap' w4 own4 hgr _ _)
              go_roundw
              case rel => exact ⟨k + 1, by omega, by go_num, ⟨some ⟨g', 0, none⟩, cap', _, rfl, by rw [HTS.out]; exact rows_step own2 HLK.out b2x z2 ownb2 hgr own4⟩, below_app (b1x.alloc (by omega) _) (rows_pre own2 HLK.out b2x _) hgr (Nat.le_refl _) (by simp; omega)⟩
              case measure => simp [intOf]; omega
      · obtain rfl : k = P.length := by omega
        have HTA : Hid (R.take P.length = R) := by show _ = _; rw [← HRL.out]; exact List.take_length
        rw [HTA.out] at own2
        have b2 := bel1.trans (bel2.mono z1)
        have HLB : Hid (Calls Tryd.prog 43 #[.slice a2 P.length cap2] w2 fun e w' => e = .returned (.bool (labOk R)) ∧ Below w2.heap.size w2 w') := by
          have key := txLabels_any a2 cap2 R vs2 w2 w2.heap.size (RowsI.rdII own2) (Nat.le_refl _) (by rw [HRL.out]; omega) HL2.out
          rw [HRL.out] at key
          exact key.mono fun e w' h => ⟨h.1, h.2.below _⟩
        clear HLT HBAD HPL HRA
        cases hok : labOk R with
        | false =>
          have HF4 := Lib.hid hok
          rw [hok] at HLB
          clear hok
          go_wp2_with fail
          refine HLB.out.mono ?_
          rintro e w5 ⟨rfl, bel5⟩
          have b5 := b2.trans (bel5.mono b2.size)
          go_wp2_with fail
          go_ret2
          unfold RetSS
          rw [HO.out, HRF.out HF4.out, HF4.out]
          exact ⟨_, rfl, ⟨none, 0, fun _ => (none, 0), rfl, RowsAt.nil _ _ _ _ _⟩, b5⟩
        | true =>
          have HF4 := Lib.hid hok
          rw [hok] at HLB
          clear hok
          go_wp2_with fail
          refine HLB.out.mono ?_
          rintro e w5 ⟨rfl, bel5⟩
          have b5 := b2.trans (bel5.mono b2.size)
          have own5 := RowsI.new own2 bel5
          go_wp2_with fail
          go_ret2
          unfold RetSS
          rw [HO.out, HRT.out HF4.out, HF4.out]
          exact ⟨_, rfl, ⟨a2, cap2, vs2, by rw [HRL.out]; rfl, RowsAt.wide (RowsAt.top own5) z1 (Nat.le_refl _)⟩, b5⟩
end Go.Proofs.YtmjmgggfmccjmaaDoor
