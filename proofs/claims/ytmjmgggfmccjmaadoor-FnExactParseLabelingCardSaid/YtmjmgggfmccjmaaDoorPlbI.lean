/- ParseLabeling: the walks. -/
import Derived.Test.YtmjmgggfmccjmaaDoorPlbP
import Derived.Test.YtmjmgggfmccjmaaDoorPpI
import Derived.Test.YtmjmgggfmccjmaaDoorLLab
import Derived.Test.YtmjmgggfmccjmaaDoorRet
namespace Go.Proofs.YtmjmgggfmccjmaaDoor
open Go.RowKit
set_option linter.unusedVariables false
set_option linter.unusedSimpArgs false
theorem bs_map_data (xs : List ByteArray) : (xs.map (fun x => x.data.toList)).map bs = xs := by
  induction xs with
  | nil => rfl
  | cons x xs ih => rw [List.map_cons, List.map_cons, ih, bs_eta]
theorem splitB_spl (c : UInt8) (s : ByteArray) : Lib.splitB ⟨#[c]⟩ 0 (Lib.countB s ⟨#[c]⟩) s = (spl c s.data.toList).map bs := by
  have h := Lib.splitB_data ⟨#[c]⟩ 0 (Lib.countB s ⟨#[c]⟩) s
  have h2 : Lib.splitK [c] 0 (Lib.countB s ⟨#[c]⟩) s.data.toList = spl c s.data.toList := splitK_one c _ s.data.toList (Nat.le_refl _)
  have h3 := h.trans h2
  rw [← h3, bs_map_data]
theorem takeR_snoc {α : Type} (ls : List (List α)) (k : Nat) (h : k < ls.length) : ls.take (k + 1) = ls.take k ++ [rowOf ls k] := by
  rw [List.take_succ_eq_append_getElem h, rowOf_eq_getElem _ _ h]
theorem rdRow_take {p : List UInt8} (hp : p ≠ []) {i : Nat} (h : i < (spl 44 p).length) : (rdRow p).take (i + 1) = (rdRow p).take i ++ [readL (nthS (spl 44 p) i)] := by
  rw [take_snoc_nth _ _ (by rw [rdRow_length hp]; exact h), rdRow_at hp h]
theorem plb_part_le {l : List UInt8} {k : Nat} (h : k < (spl 124 l).length) : (nthS (spl 124 l) k).length ≤ l.length := by
  rw [nthS_eq_getElem _ _ h]
  exact spl_le 124 l _ (List.getElem_mem h)
theorem plb_word_le {p : List UInt8} {i : Nat} (h : i < (spl 44 p).length) : (nthS (spl 44 p) i).length ≤ p.length := by
  rw [nthS_eq_getElem _ _ h]
  exact spl_le 44 p _ (List.getElem_mem h)
theorem rowLen_le {p : List UInt8} : (rdRow p).length ≤ p.length + 1 := by
  by_cases hp : p = []
  · subst hp; exact Nat.zero_le _
  · rw [rdRow_length hp]; exact spl_count 44 p
theorem cellI_app {L : List Int} {i : Nat} {z : Int} (h : nth L i = z) : ∀ x, x < (i + 1) * 1 → app (cellI L) (i * 1) [.int .i64 z] x = cellI L x := by
  intro x hx
  unfold app
  by_cases e : x < i
  · rw [if_pos (by omega)]
  · rw [if_neg (by omega), show x - i * 1 = 0 by omega, show x = i by omega, cellI, h]; rfl
theorem bs_test_nil {p : List UInt8} (h : p = []) : ((bs p).toList == []) = true := by rw [Lib.toList_data, h]; rfl
theorem bs_test_ne {p : List UInt8} (h : p ≠ []) : ((bs p).toList == []) = false := by rw [Lib.toList_data, beq_eq_false_iff_ne]; exact h
/-- the rows' own slice, ahead of one row more -/
theorem rows_pre {wr wx : World} {D k : Nat} {a : Option Addr} {cap : Nat} {rows : List (List Int)} {vs : Nat → Option Addr × Nat} (h : RowsI wr D wr.heap.size a cap rows vs) (hl : rows.length = k) (hb : Below wr.heap.size wr wx) (o : Obj) :
    Ow (wx.alloc o) D wx.heap.size 23 1 a k cap (fun j => .slice (vs j).1 (rowOf rows j).length (vs j).2) := by
  have h1 := (RowsAt.new h hb).1
  rw [hl] at h1
  exact Ow.wide (Ow.alloc h1 o) (Nat.le_refl _) hb.size
/-- one row more -/
theorem rows_step {wr wx wy : World} {D k : Nat} {a : Option Addr} {cap : Nat} {rows : List (List Int)} {vs : Nat → Option Addr × Nat} {r : List Int} {b : Option Addr} {cb g' cap' : Nat} (h : RowsI wr D wr.heap.size a cap rows vs) (hl : rows.length = k) (hb : Below wr.heap.size wr wx) (hD : D ≤ wr.heap.size)
    (hr : Ow wx wr.heap.size wx.heap.size 3 1 b r.length cb (cellI r)) (hg : (wx.alloc (.cells #[.slice b r.length cb] 23)).grownBy wy (blk a cap))
    (ho : Ow wy D wy.heap.size 23 1 (some ⟨g', 0, none⟩) (k + 1) cap' (app (fun j => .slice (vs j).1 (rowOf rows j).length (vs j).2) (k * 1) [.slice b r.length cb])) : RowsI wy D wy.heap.size (some ⟨g', 0, none⟩) cap' (rows ++ [r]) (setv vs k (b, cb)) := by
  have bA : Below wx.heap.size wx (wx.alloc (.cells #[.slice b r.length cb] 23)) := (Below.refl _ _).alloc (Nat.le_refl _) _
  have key := RowsAt.snoc (w := wx.alloc (.cells #[.slice b r.length cb] 23)) (hi := wr.heap.size) (RowsAt.new (RowsAt.new h hb) bA) (by decide) (Ow.wide (Ow.alloc hr _) (Nat.le_refl _) bA.size) hD (Nat.le_trans hb.size bA.size) hg (by rw [hl]; exact ho)
  rw [hl] at key
  exact key
theorem splitS_any (s : ByteArray) (c : UInt8) (w : World) (hml : MLen w) (hs : s.size ≤ 1048576) :
    Calls Tryd.prog 44 #[.string s, .string ⟨#[c]⟩] w fun e w' => ∃ a cap, e = .returned (.slice a (spl c s.data.toList).length cap) ∧ Ow w' w.heap.size w'.heap.size 9 1 a (spl c s.data.toList).length cap (cellS (spl c s.data.toList)) ∧ Below w.heap.size w w' := by
  obtain ⟨m, hm⟩ := hml
  have hsp := splitB_spl c s
  have h1 : 1 ≤ (⟨#[c]⟩ : ByteArray).size := Nat.le_refl _
  have hlen := Lib.splitB_all ⟨#[c]⟩ h1 0 _ s rfl
  rw [hsp, List.length_map] at hlen
  have hcnt := spl_count c s.data.toList
  have hsl := size_list s
  have key := Tryd.strings_Split s ⟨#[c]⟩ m w (by omega) hm h1
  rw [hsp, ← hlen] at key
  refine key.mono ?_
  rintro e w1 ⟨rfl, rfl⟩
  generalize spl c s.data.toList = P at *
  refine ⟨some ⟨w.heap.size, 0, none⟩, _, rfl, ?_, (Below.refl _ w).alloc (Nat.le_refl _) _⟩
  refine Ow.of_row (F := cellS P) ⟨_, heap_alloc_new w _, by simp, fun i hi => ?_⟩ (Nat.le_refl _) (by simp) (Nat.le_refl _) (by unfold maxLen; omega) fun j _ => rfl
  rw [Nat.mul_one] at hi
  rw [List.getElem?_toArray, List.map_map, List.getElem?_map, nthS_getElem? hi]
  rfl
set_option maxRecDepth 100000 in
set_option maxHeartbeats 1600000 in
theorem implPlb_any (s : ByteArray) (w : World) (hF : PTab w ∧ SErr w ∧ MLen w) (hs : s.size ≤ 1048576) :
    Calls Tryd.prog 15 #[.string s] w (RetSS (plR s.data.toList) (plOk s.data.toList) w) := by
  have HSL := Lib.hid (size_list s)
  have HFF := Lib.hid hF
  clear hF
  by_cases hd : s.data.toList = [45]
  · have HO := Lib.hid (plOk_dash hd)
    have HR := Lib.hid (plR_dash hd)
    obtain rfl : s = ⟨#[45]⟩ := by rw [← bs_eta s, hd]; rfl
    clear hd
    go_enter Tryd.func15, Tryd.ntmps15
    go_wp2_with fail
    go_ret2
    unfold RetSS
    rw [HO.out, HR.out]
    exact ⟨_, rfl, ⟨none, 0, fun _ => (none, 0), rfl, RowsAt.nil _ _ _ _ _⟩, Below.refl _ _⟩
  · have HO := Lib.hid (plOk_of hd)
    have HRF := Lib.hid (fun h => plR_f hd h)
    have HRT := Lib.hid (fun h => plR_t hd h)
    have hdb : (s.toList == [45]) = false := by
      rw [Lib.toList_data, beq_eq_false_iff_ne]
      exact hd
    clear hd
    have HSp := Lib.hid (splitS_any s 124 w HFF.out.2.2 hs)
    have hcnt := spl_count 124 s.data.toList
    rw [HSL.out] at hcnt
    have HPL := Lib.hid (fun k hk => plb_part_le (l := s.data.toList) (k := k) hk)
    have HBAD := Lib.hid (fun k i hk hp hi hb => plb_bad (l := s.data.toList) (k := k) (i := i) hk hp hi hb)
    have HLT := Lib.hid (fun h => labT_good (l := s.data.toList) h)
    have HRA := Lib.hid (fun k hk => rdRows_at (l := s.data.toList) (j := k) hk)
    have HRL := Lib.hid (rdRows_length s.data.toList)
    obtain ⟨R, hR⟩ : ∃ R, R = rdRows s.data.toList := ⟨_, rfl⟩
    rw [← hR] at HO HRF HRT HBAD HLT HRA HRL
    clear hR
    have HL2 : Hid (∀ j, j < R.length → (rowOf R j).length ≤ 1048600) := fun j hj => by
      rw [HRL.out] at hj
      rw [HRA.out j hj]
      have h1 := rowLen_le (p := nthS (spl 124 s.data.toList) j)
      have h2 := HPL.out j hj
      rw [HSL.out] at h2
      omega
    obtain ⟨P, hP⟩ : ∃ P, P = spl 124 s.data.toList := ⟨_, rfl⟩
    rw [← hP] at HSp hcnt HPL HBAD HLT HRA HRL
    clear hP
    go_enter Tryd.func15, Tryd.ntmps15
    go_wp2_with fail
    refine HSp.out.mono ?_
    rintro e w1 ⟨a1, cap1, rfl, own1, bel1⟩
    clear HSp
    have hrd := Ow.rd own1
    have z1 := bel1.size
    have HF1 : Hid (∀ X, Below w1.heap.size w1 X → PTab X ∧ SErr X ∧ MLen X) := fun X bX => by
      have b := bel1.trans (bX.mono z1)
      exact ⟨HFF.out.1.below b, HFF.out.2.1.below b, HFF.out.2.2.below b⟩
    clear own1 HFF
    go_wp2_with fail
    go_loopw [4, 19] (fun ov iv wr => ∃ k : Nat, k ≤ P.length ∧ iv = .int .i64 k ∧ (∀ j, j < k → rowGood (nthS P j)) ∧ (∃ a cap vs, ov = .slice a k cap ∧ RowsI wr w1.heap.size wr.heap.size a cap (R.take k) vs) ∧ Below w1.heap.size w1 wr) (fun _ iv _ => P.length - (intOf iv).toNat)
    case atStart => exact ⟨0, Nat.zero_le _, rfl, fun j hj => absurd hj (by omega), ⟨none, 0, fun _ => (none, 0), rfl, RowsAt.nil _ _ _ _ _⟩, Below.refl _ _⟩
    case round =>
      obtain ⟨k, hk, rfl, hgood, ⟨a2, cap2, vs2, rfl, own2⟩, bel2⟩ := hrel
      have HG := Lib.hid hgood
      clear hgood
      have z2 := bel2.size
      have HLK : Hid ((R.take k).length = k) := by show _ = _; rw [List.length_take, HRL.out]; omega
      obtain ⟨w2, hw2⟩ : ∃ w2, w2 = wr := ⟨_, rfl⟩
      subst hw2
      by_cases hlt : k < P.length
      · obtain ⟨g1, o1, rfl, hg1, hcell⟩ := Rd.at hrd hlt
        have hc0 := (bel2.cell (p := ⟨g1, o1 + k, none⟩) (by show g1 < _; omega)).trans hcell
        have HRK := Lib.hid (HRA.out k hlt)
        have HTS : Hid (R.take (k + 1) = R.take k ++ [rowOf R k]) := takeR_snoc _ _ (by rw [HRL.out]; exact hlt)
        rw [HRK.out] at HTS
        have HBK := Lib.hid (fun i hp hi hb => HBAD.out k i hlt hp hi hb)
        have HPK := Lib.hid (HPL.out k hlt)
        have HGS : Hid (rowGood (nthS P k) → ∀ j, j < k + 1 → rowGood (nthS P j)) := fun h => all_snoc (p := fun j => rowGood (nthS P j)) HG.out h
        have hc1 : w2.cell? ⟨g1, o1 + k, none⟩ = some (.string (bs (nthS P k))) := hc0
        have HF2 := Lib.hid (HF1.out _ bel2)
        clear hcell hc0
        generalize nthS P k = p at *
        by_cases hpe : p = []
        · have hpt := bs_test_nil hpe
          have HR0 : Hid (rdRow p = []) := by show _ = _; rw [hpe]; rfl
          have HG2 := Lib.hid (HGS.out (fun h => absurd hpe h))
          rw [HR0.out] at HTS
          have hown0 : Ow w2 w2.heap.size w2.heap.size 3 1 none ([] : List Int).length 0 (cellI []) := Ow.nil _ _ _ _ _ _ _
          clear hpe HGS
          go_wp2_with (at_builtin; refine wpList_app rfl _ _ _ rfl 23 (.slice none 0 0) 1 24 Tryd.underlying35 ints_info rfl (by decide) w1.heap.size w2.heap.size a2 k cap2 _ rfl (rows_pre own2 HLK.out (Below.refl _ _) _) ⟨w2.heap.size, 0, none⟩ 1 1 [.slice none 0 0] rfl rfl (cell_one_new _ _ _) (by simp [Value.oneCell']) (by decide) (by unfold maxLen; omega) (by omega) (by simp; omega) ?_; intro g' cap' w4 own4 hgr _ _)
          go_roundw
          case rel => exact ⟨k + 1, by omega, by go_num, HG2.out, ⟨some ⟨g', 0, none⟩, cap', _, rfl, by rw [HTS.out]; exact rows_step (r := []) own2 HLK.out (Below.refl _ _) z2 hown0 hgr own4⟩, below_app (bel2.alloc z2 _) (rows_pre own2 HLK.out (Below.refl _ _) _) hgr (Nat.le_refl _) (by simp; omega)⟩
          case measure => simp [intOf]; omega
        · have hpt := bs_test_ne hpe
          have HPE := Lib.hid hpe
          have hpl : p.length ≤ 1048576 := by have := HPK.out; rw [HSL.out] at this; omega
          have HSq := Lib.hid (fun X h => splitS_any (bs p) 44 X h (by rw [bs_size]; exact hpl))
          have hq1 := spl_count 44 p
          have HQL := Lib.hid (fun i hi => plb_word_le (p := p) (i := i) hi)
          have HQR := Lib.hid (fun i hi => rdRow_at hpe (j := i) hi)
          have HQN := Lib.hid (rdRow_length hpe)
          have HGG : Hid ((∀ i, i < (spl 44 p).length → 0 ≤ readL (nthS (spl 44 p) i)) → ∀ j, j < k + 1 → rowGood (nthS P j)) := fun h => HGS.out (fun _ => h)
          have HBB := Lib.hid (fun i hi hb => HBK.out i hpe hi hb)
          clear hpe HGS HBK
          rw [bs_data] at HSq
          generalize spl 44 p = Q at *
          go_wp2_with fail
          refine (HSq.out _ HF2.out.2.2).mono ?_
          rintro e w3 ⟨a3, cap3, rfl, own3, bel3⟩
          have hrd3 := Ow.rd own3
          have z3 := bel3.size
          have b23 := bel2.trans (bel3.mono z2)
          have z13 := b23.size
          clear own3 hc1 HSq
          go_wp2_with fail
          go_loopw [7, 28] (fun lv iv wx => ∃ i : Nat, i ≤ Q.length ∧ iv = .int .i64 i ∧ (∀ x, x < i → 0 ≤ readL (nthS Q x)) ∧ (∃ a cap, lv = .slice a i cap ∧ Ow wx w3.heap.size wx.heap.size 3 1 a i cap (cellI (rdRow p))) ∧ Below w3.heap.size w3 wx) (fun _ iv _ => Q.length - (intOf iv).toNat)
          case atStart => exact ⟨0, Nat.zero_le _, rfl, fun x hx => absurd hx (by omega), ⟨none, 0, rfl, Ow.nil _ _ _ _ _ _ _⟩, Below.refl _ _⟩
          case round =>
            obtain ⟨i, hi, rfl, hgi, ⟨b, cb, rfl, ownb⟩, belx⟩ := hrel
            have HGI := Lib.hid hgi
            clear hgi
            have zx := belx.size
            have b1x := b23.trans (belx.mono z13)
            by_cases hil : i < Q.length
            · obtain ⟨g5, o5, rfl, hg5, hcell5⟩ := Rd.at hrd3 hil
              have hc5 : wr.cell? ⟨g5, o5 + i, none⟩ = some (.string (bs (nthS Q i))) := (belx.cell (p := ⟨g5, o5 + i, none⟩) (by show g5 < _; omega)).trans hcell5
              have HF3 := Lib.hid (HF1.out _ b1x)
              have HQI := Lib.hid (HQR.out i hil)
              have hwl : (nthS Q i).length ≤ 1048576 := by have := HQL.out i hil; omega
              have HBI := Lib.hid (fun hb => HBB.out i hil hb)
              have HGX : Hid (0 ≤ readL (nthS Q i) → ∀ x, x < i + 1 → 0 ≤ readL (nthS Q x)) := fun h => all_snoc (p := fun x => 0 ≤ readL (nthS Q x)) HGI.out h
              clear hcell5
              generalize nthS Q i = q at *
              have HRN := Lib.hid (fun X h1 h2 => readNumber_any (bs q) X h1 h2 (by rw [bs_size]; exact hwl))
              rw [bs_data] at HRN
              by_cases hq : 0 ≤ readL q
              · have hqd : decide (0 ≤ readL q) = true := decide_eq_true hq
                rw [hqd, rnV_t hq] at HRN
                have HG3 := Lib.hid (HGX.out hq)
                clear hq hqd HGX HBI
                generalize readL q = z at *
                go_wp2_with fail
                refine (HRN.out _ HF3.out.1 HF3.out.2.1).mono ?_
                rintro e w5 ⟨rfl, bel5⟩
                replace ownb := (Ow.new ownb bel5).top
                have b35 := belx.trans (bel5.mono zx)
                have z35 := b35.size
                clear hc5 HRN belx bel5 b1x zx
                go_wp2_with (at_builtin; refine wpList_app rfl _ _ _ rfl 3 (.int .i64 0) 1 8 Tryd.underlying23 int_info rfl (by decide) w3.heap.size w5.heap.size b i cb _ rfl (ownb.alloc _) ⟨w5.heap.size, 0, none⟩ 1 1 [.int .i64 z] rfl rfl (cell_one_new _ _ _) (by simp [Value.oneCell']) (by decide) (by unfold maxLen; omega) (by omega) (by simp; omega) ?_; intro g' cap' w6 own6 hgr _ _)
                go_roundw
                case rel => exact ⟨i + 1, by omega, by go_num, HG3.out, ⟨some ⟨g', 0, none⟩, cap', rfl, own6.congr (cellI_app HQI.out)⟩, below_app (b35.alloc z35 _) (ownb.alloc _) hgr (Nat.le_refl _) (by simp; omega)⟩
                case measure => simp [intOf]; omega
              · have hq1 : readL q = -1 := by have := readL_ge q; omega
                have hqd : decide (0 ≤ readL q) = false := decide_eq_false hq
                rw [hqd, rnV_no hq1] at HRN
                have HF4 := Lib.hid (HBI.out hq1)
                clear hq hqd hq1 HGX HBI
                go_wp2_with fail
                refine (HRN.out _ HF3.out.1 HF3.out.2.1).mono ?_
                rintro e w5 ⟨rfl, bel5⟩
                have b15 := bel1.trans ((b1x.trans (bel5.mono b1x.size)).mono z1)
                go_wp2_with fail
                go_ret2
                unfold RetSS
                rw [HO.out, HRF.out HF4.out, HF4.out]
                exact ⟨_, rfl, ⟨none, 0, fun _ => (none, 0), rfl, RowsAt.nil _ _ _ _ _⟩, b15⟩
            · obtain rfl : i = Q.length := by omega
              have HG2 := Lib.hid (HGG.out HGI.out)
              have ownb2 : Ow wr w2.heap.size wr.heap.size 3 1 b (rdRow p).length cb (cellI (rdRow p)) := by rw [HQN.out]; exact Ow.wide ownb z3 (Nat.le_refl _)
              have b2x := bel3.trans (belx.mono z3)
              have HQ2 := Lib.hid HQN.out.symm
              rw [HQ2.out]
              have hrl : (rdRow p).length ≤ 1048577 := by rw [HQN.out]; omega
              generalize rdRow p = r at *
              go_wp2_with (at_builtin; refine wpList_app rfl _ _ _ rfl 23 (.slice none 0 0) 1 24 Tryd.underlying35 ints_info rfl (by decide) w1.heap.size wr.heap.size a2 k cap2 _ rfl (rows_pre own2 HLK.out b2x _) ⟨wr.heap.size, 0, none⟩ 1 1 [.slice b r.length cb] rfl rfl (cell_one_new _ _ _) (by simp [Value.oneCell']) (by decide) (by unfold maxLen; omega) (by omega) (by simp; omega) ?_; intro g' cap' w4 own4 hgr _ _)
              go_roundw
              case rel => exact ⟨k + 1, by omega, by go_num, HG2.out, ⟨some ⟨g', 0, none⟩, cap', _, rfl, by rw [HTS.out]; exact rows_step own2 HLK.out b2x z2 ownb2 hgr own4⟩, below_app (b1x.alloc (by omega) _) (rows_pre own2 HLK.out b2x _) hgr (Nat.le_refl _) (by simp; omega)⟩
              case measure => simp [intOf]; omega
      · obtain rfl : k = P.length := by omega
        have HTA : Hid (R.take P.length = R) := by show _ = _; rw [← HRL.out]; exact List.take_length
        rw [HTA.out] at own2
        have HLT2 := Lib.hid (HLT.out HG.out)
        have b2 := bel1.trans (bel2.mono z1)
        have HLB : Hid (Calls Tryd.prog 25 #[.slice a2 P.length cap2] w2 fun e w' => e = .returned (.tuple #[.string (labR R), .bool (labOk R)]) ∧ Below w2.heap.size w2 w') := by
          have key := implLab_any a2 cap2 R vs2 w2 w2.heap.size (RowsI.rdII own2) (Nat.le_refl _) (by rw [HRL.out]; omega) HL2.out
          rw [HRL.out] at key
          exact key
        clear HG HLT HBAD HPL HRA
        go_wp2_with fail
        refine HLB.out.mono ?_
        rintro e w5 ⟨rfl, bel5⟩
        have b5 := b2.trans (bel5.mono b2.size)
        have own5 := RowsI.new own2 bel5
        cases hok : labOk R with
        | false =>
          have HF4 := Lib.hid hok
          clear hok
          generalize labR R = tx
          go_wp2_with fail
          go_ret2
          unfold RetSS
          rw [HO.out, HRF.out HF4.out, HF4.out]
          exact ⟨_, rfl, ⟨none, 0, fun _ => (none, 0), rfl, RowsAt.nil _ _ _ _ _⟩, b5⟩
        | true =>
          have HF4 := Lib.hid hok
          have HTX : Hid (labR R = s) := by show _ = _; rw [labR_t hok, HLT2.out, bs_eta]
          clear hok
          rw [HTX.out]
          have hss : (s.toList == s.toList) = true := by simp
          go_wp2_with fail
          go_ret2
          unfold RetSS
          rw [HO.out, HRT.out HF4.out, HF4.out]
          exact ⟨_, rfl, ⟨a2, cap2, vs2, by rw [HRL.out]; rfl, RowsAt.wide (RowsAt.top own5) z1 (Nat.le_refl _)⟩, b5⟩
end Go.Proofs.YtmjmgggfmccjmaaDoor
