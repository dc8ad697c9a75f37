/- LabelingText: the walks. -/
import Derived.Test.YtmjmgggfmccjmaaDoorLabP
namespace Go.Proofs.YtmjmgggfmccjmaaDoor
open Go.RowKit
set_option linter.unusedVariables false
set_option linter.unusedSimpArgs false
theorem str_info : (Tryd.prog.info? 9).map (fun i => (i.zero, i.size, i.bytes)) = some (some (.string ByteArray.empty), 1, 16) := by kernel_rfl
theorem map_bs (ls : List (List UInt8)) : (ls.map bs).map (fun x => x.data.toList) = ls := by
  induction ls with
  | nil => rfl
  | cons x r ih => rw [List.map_cons, List.map_cons, ih, bs_data]
theorem joinS_any (ls : List (List UInt8)) (a : Option Addr) (cap : Nat) (sep : ByteArray) (w : World) (lo hi : Nat) (h : Ow w lo hi 9 1 a ls.length cap (cellS ls)) (hl : (Lib.join ls sep.data.toList).length ≤ 1000000000) (hn : ls.length ≤ 1000000000) :
    Calls Tryd.prog 55 #[.slice a ls.length cap, .string sep] w fun e w' => e = .returned (.string (bs (Lib.join ls sep.data.toList))) ∧ Below w.heap.size w w' := by
  cases hls : ls with
  | nil =>
    refine (Tryd.strings_Join_none a cap sep w).mono ?_
    rintro e w1 ⟨rfl, rfl⟩
    exact ⟨rfl, Below.refl _ _⟩
  | cons x r =>
    rw [← hls]
    have hpos : 0 < ls.length := by rw [hls]; simp
    obtain ⟨h1, h2, h3⟩ := h
    obtain ⟨g, F, rfl, _, _, hr, hf⟩ := h3 (by omega)
    have key := Tryd.strings_Join g 0 cap (ls.map bs) sep w (fun j x hx => by
      rw [List.getElem?_map] at hx
      have hj : j < ls.length := by
        rcases Nat.lt_or_ge j ls.length with hj | hj
        · exact hj
        · rw [List.getElem?_eq_none hj] at hx; cases hx
      rw [nthS_getElem? hj] at hx
      simp only [Option.map_some, Option.some.injEq] at hx
      subst hx
      rw [Nat.zero_add, hr.cell (by omega), hf j (by omega)]; rfl) hr.lt (by rw [List.length_map]; omega) (by rw [List.length_map]; omega) (by rw [map_bs]; omega)
    rw [map_bs, List.length_map] at key
    exact key
theorem itoaS_any (m : Nat) (w : World) (h : m < 100) : Calls Tryd.prog 51 #[.int .i64 m] w fun e w' => e = .returned (.string (bs (Lib.decDigits m))) ∧ w = w' := by
  refine (Tryd.strconv_Itoa_small m h w).mono ?_
  rintro e w1 ⟨rfl, hw⟩
  exact ⟨rfl, hw.symm⟩
/-- a row's cells: one text more -/
theorem cellS_app {ls : List (List UInt8)} {k : Nat} {l : List UInt8} (hl : nthS ls k = l) : ∀ x, x < (k + 1) * 1 → app (cellS ls) (k * 1) [.string (bs l)] x = cellS ls x := by
  intro x hx
  unfold app
  by_cases e : x < k
  · rw [if_pos (by omega)]
  · rw [if_neg (by omega), show x - k * 1 = 0 by omega, show x = k by omega, cellS, hl]; rfl
set_option maxHeartbeats 400000 in
theorem joinNumbers_any (a : Option Addr) (cap : Nat) (r : List Int) (w : World) (B : Nat) (ha : RdI w B a r) (hB : B ≤ w.heap.size) (h6 : r.length ≤ 6) (h99 : allB r 0 99 = true) :
    Calls Tryd.prog 54 #[.slice a r.length cap, .string ⟨#[44]⟩] w fun e w' => e = .returned (.string (bs (labRow r))) ∧ Below w.heap.size w w' := by
  have H99 := Lib.hid h99
  clear h99
  obtain ⟨D, hD⟩ : ∃ D, D = w.heap.size := ⟨_, rfl⟩
  have HD := Lib.hid hD
  rw [← hD]
  have hBD : B ≤ D := by omega
  clear hD hB
  go_enter Tryd.func54, Tryd.ntmps54
  go_wp2_with fail
  go_loopw [5, 10] (fun v i wr => ∃ k : Nat, k ≤ r.length ∧ i = .int .i64 k ∧ (∃ a cap, v = .slice a k cap ∧ Ow wr D wr.heap.size 9 1 a k cap (cellS (labNs r))) ∧ Below D w wr) (fun _ i _ => r.length - (intOf i).toNat)
  case atStart => exact ⟨0, Nat.zero_le _, rfl, ⟨none, 0, rfl, Ow.nil _ _ _ _ _ _ _⟩, Below.refl _ _⟩
  case round =>
    obtain ⟨k, hk, rfl, ⟨b, cb, rfl, hown⟩, hbel⟩ := hrel
    have hDw : D ≤ wr.heap.size := by have := hbel.size; have := HD.out; omega
    by_cases hlt : k < r.length
    · obtain ⟨g, off, rfl, hg, hc0⟩ := Rd.at ha hlt
      have hc1 := (hbel.cell (p := ⟨g, off + k, none⟩) (show g < D by omega)).trans hc0
      have h2 := labB_at H99.out hlt
      obtain ⟨m, hm⟩ := Int.eq_ofNat_of_zero_le h2.1
      have hm2 : m < 100 := by omega
      have HM : Hid (nthS (labNs r) k = Lib.decDigits m) := by show _ = _; rw [labNs_at hlt, hm, numT_nat]
      rw [hm] at hc1
      clear hc0 h2 hm
      go_wp2_with (first | (go_at_call 51; refine (itoaS_any m _ hm2).mono ?_; rintro e w' ⟨rfl, rfl⟩) | (at_builtin; refine wpList_app rfl _ _ _ rfl 9 (.string ByteArray.empty) 1 16 Tryd.underlying61 str_info rfl (by decide) D wr.heap.size b k cb _ rfl (hown.alloc _) ⟨wr.heap.size, 0, none⟩ 1 1 [.string (bs (Lib.decDigits m))] rfl rfl (cell_one_new _ _ _) (by simp [Value.oneCell']) (by decide) (by unfold maxLen; omega) (by omega) (by simp; omega) ?_; intro g' cap' w1 hown1 hgr _ _))
      go_roundw
      case rel =>
        refine ⟨k + 1, by omega, by go_num, ⟨some ⟨g', 0, none⟩, cap', rfl, hown1.congr fun x hx => cellS_app HM.out x hx⟩, ?_⟩
        exact below_app (hbel.alloc hDw _) (hown.alloc _) hgr (Nat.le_refl _) (by simp; omega)
      case measure => simp [intOf]; omega
    · obtain rfl : k = r.length := by omega
      have HJ : Hid (∀ X : World, Ow X D X.heap.size 9 1 b r.length cb (cellS (labNs r)) → Calls Tryd.prog 55 #[.slice b r.length cb, .string ⟨#[44]⟩] X fun e w' => e = .returned (.string (bs (labRow r))) ∧ Below X.heap.size X w') := by
        intro X hX
        have key := joinS_any (labNs r) b cb ⟨#[44]⟩ X D X.heap.size (by rw [labNs_length]; exact hX) (by have := labRow_len h6 H99.out; unfold labRow at this; exact Nat.le_trans this (by decide)) (by rw [labNs_length]; omega)
        rw [labNs_length] at key
        exact key
      go_wp2_with fail
      refine (HJ.out _ hown).mono ?_
      rintro e w1 ⟨rfl, bel1⟩
      go_wp2_with fail
      go_ret
      exact ⟨rfl, hbel.trans (bel1.mono hDw)⟩
theorem labOk_f0 {rows : List (List Int)} (h : ¬ rows.length ≤ 40) : labOk rows = false := by rw [labOk, decide_eq_false h]; rfl
theorem labOk_f1 {rows : List (List Int)} (h : labAll rows = false) : labOk rows = false := by rw [labOk, h, Bool.and_false]
theorem labOk_t {rows : List (List Int)} (h : rows.length ≤ 40) (h' : ∀ j, j < rows.length → labOne (rowOf rows j) = true) : labOk rows = true := by rw [labOk, decide_eq_true h, labAll, decide_eq_true h']; rfl
theorem labOne_f0 {r : List Int} (h : ¬ r.length ≤ 6) : labOne r = false := by rw [labOne, decide_eq_false h]; rfl
theorem labOne_f1 {r : List Int} (h : allB r 0 99 = false) : labOne r = false := by rw [labOne, h, Bool.and_false]
theorem labOne_t {r : List Int} (h : r.length ≤ 6) (h' : allB r 0 99 = true) : labOne r = true := by rw [labOne, decide_eq_true h, h']; rfl
theorem all_snoc {p : Nat → Prop} {k : Nat} (h : ∀ j, j < k → p j) (hk : p k) : ∀ j, j < k + 1 → p j := fun j hj => by
  by_cases e : j = k
  · rw [e]; exact hk
  · exact h j (by omega)
set_option maxRecDepth 100000 in
set_option maxHeartbeats 800000 in
theorem implLab_any (a : Option Addr) (cap : Nat) (rows : List (List Int)) (vs : Nat → Option Addr × Nat) (w : World) (B : Nat) (ha : RdII w B a rows vs) (hB : B ≤ w.heap.size) (hl : rows.length ≤ 1048600) (hl2 : ∀ j, j < rows.length → (rowOf rows j).length ≤ 1048600) :
    Calls Tryd.prog 25 #[.slice a rows.length cap] w fun e w' => e = .returned (.tuple #[.string (labR rows), .bool (labOk rows)]) ∧ Below w.heap.size w w' := by
  have HL2 := Lib.hid hl2
  clear hl2
  by_cases h40 : rows.length ≤ 40
  · obtain ⟨D, hD⟩ : ∃ D, D = w.heap.size := ⟨_, rfl⟩
    have HD := Lib.hid hD
    rw [← hD]
    have hBD : B ≤ D := by omega
    clear hD hB hl
    go_enter Tryd.func25, Tryd.ntmps25
    go_wp2_with fail
    go_loopw [4, 12] (fun v i wr => ∃ k : Nat, k ≤ rows.length ∧ i = .int .i64 k ∧ (∀ j, j < k → labOne (rowOf rows j) = true) ∧ (∃ a cap, v = .slice a k cap ∧ Ow wr D wr.heap.size 9 1 a k cap (cellS (labRows rows))) ∧ Below D w wr) (fun _ i _ => rows.length - (intOf i).toNat)
    case atStart => exact ⟨0, Nat.zero_le _, rfl, fun j hj => absurd hj (by omega), ⟨none, 0, rfl, Ow.nil _ _ _ _ _ _ _⟩, Below.refl _ _⟩
    case round =>
      obtain ⟨k, hk, rfl, hall, ⟨b, cb, rfl, hown⟩, hbel⟩ := hrel
      have HA := Lib.hid hall
      clear hall
      have hDw : D ≤ wr.heap.size := by have := hbel.size; have := HD.out; omega
      by_cases hlt : k < rows.length
      · obtain ⟨g, off, rfl, hg, hc0⟩ := Rd.at ha.1 hlt
        have hc1 := (hbel.cell (p := ⟨g, off + k, none⟩) (show g < D by omega)).trans hc0
        have hrd : RdI wr B (vs k).1 (rowOf rows k) := (ha.2 k hlt).below (hbel.mono hBD)
        have hlk := HL2.out k hlt
        clear hc0
        by_cases h6 : (rowOf rows k).length ≤ 6
        · have HW : Hid (∀ X : World, Below wr.heap.size wr X → Calls Tryd.prog 53 #[.slice (vs k).1 (rowOf rows k).length (vs k).2, .int .i64 0, .int .i64 99] X fun e w' => e = .returned (.bool (allB (rowOf rows k) 0 99)) ∧ Below X.heap.size X w') := fun X hX => allWithin_any _ _ _ 0 99 X B (Rd.below hrd (hX.mono (by omega))) (by have := hX.size; omega) (by omega)
          cases hab : allB (rowOf rows k) 0 99 with
          | false =>
            have HO := Lib.hid (labOk_f1 (labAll_f hlt (labOne_f1 hab)))
            go_wp2_with (go_at_call 53; refine (HW.out _ (Below.refl _ _)).mono ?_; rintro e w1 ⟨rfl, bel1⟩)
            refine bodyPost_ret (v := .tuple #[.string ⟨#[]⟩, .bool false]) (by simp [results, Tryd.results25, go_sem]) rfl ?_
            exact ⟨by rw [labR_f HO.out, HO.out]; first | done | rfl, hbel.trans (bel1.mono hDw)⟩
          | true =>
            have H1 := Lib.hid (labOne_t h6 hab)
            have HAB := Lib.hid hab
            have HR := Lib.hid (labRows_at hlt)
            go_upto_region 9 with (go_at_call 53; refine (HW.out _ (Below.refl _ _)).mono ?_; rintro e w1 ⟨rfl, bel1⟩)
            replace hrd := Rd.below hrd (bel1.mono (by omega))
            have hw1 := bel1.size
            have bel2 := hbel.trans (bel1.mono hDw)
            replace hown := (hown.new bel1).top
            clear hab hc1
            go_wp2_with fail
            refine (joinNumbers_any _ _ _ _ B hrd (by omega) h6 HAB.out).mono ?_
            rintro e w2 ⟨rfl, bel3⟩
            replace hown := (hown.new bel3).top
            have hw2 := bel3.size
            replace bel2 := bel2.trans (bel3.mono (by omega))
            clear bel3 bel1 hrd hbel
            generalize labRow (rowOf rows k) = L at *
            go_wp2_with (at_builtin; refine wpList_app rfl _ _ _ rfl 9 (.string ByteArray.empty) 1 16 Tryd.underlying61 str_info rfl (by decide) D w2.heap.size b k cb _ rfl (hown.alloc _) ⟨w2.heap.size, 0, none⟩ 1 1 [.string (bs L)] rfl rfl (cell_one_new _ _ _) (by simp [Value.oneCell']) (by decide) (by unfold maxLen; omega) (by omega) (by simp; omega) ?_; intro g' cap' w3 hown1 hgr _ _)
            go_roundw
            case rel =>
              refine ⟨k + 1, by omega, by go_num, all_snoc HA.out H1.out, ⟨some ⟨g', 0, none⟩, cap', rfl, hown1.congr fun x hx => cellS_app HR.out x hx⟩, ?_⟩
              exact below_app (bel2.alloc (by omega) _) (hown.alloc _) hgr (Nat.le_refl _) (by simp; omega)
            case measure => simp [intOf]; omega
        · have HO := Lib.hid (labOk_f1 (labAll_f hlt (labOne_f0 h6)))
          go_wp2_with fail
          refine bodyPost_ret (v := .tuple #[.string ⟨#[]⟩, .bool false]) (by simp [results, Tryd.results25, go_sem]) rfl ?_
          exact ⟨by rw [labR_f HO.out, HO.out]; first | done | rfl, hbel⟩
      · obtain rfl : k = rows.length := by omega
        have HO := Lib.hid (labOk_t h40 HA.out)
        have HR := Lib.hid (labR_t HO.out)
        by_cases hz : rows.length = 0
        · have HZ : Hid (labT rows = [45]) := by show _ = _; rw [labT, if_pos hz]
          have hz2 : ((rows.length : Nat) : Int) = 0 := by omega
          clear hz
          go_wp2_with fail
          refine bodyPost_ret (v := .tuple #[.string ⟨#[45]⟩, .bool true]) (by simp [results, Tryd.results25, go_sem]) rfl ?_
          exact ⟨by rw [HR.out, HO.out, HZ.out]; rfl, hbel⟩
        · have HZ : Hid (labT rows = Lib.join (labRows rows) [124]) := by show _ = _; rw [labT, if_neg hz]
          have hz2 : ((rows.length : Nat) : Int) ≠ 0 := by omega
          have HJ : Hid (∀ X : World, Ow X D X.heap.size 9 1 b rows.length cb (cellS (labRows rows)) → Calls Tryd.prog 55 #[.slice b rows.length cb, .string ⟨#[124]⟩] X fun e w' => e = .returned (.string (bs (Lib.join (labRows rows) [124]))) ∧ Below X.heap.size X w') := by
            intro X hX
            have key := joinS_any (labRows rows) b cb ⟨#[124]⟩ X D X.heap.size (by rw [labRows_length]; exact hX) (Nat.le_trans (labT_len HO.out) (by decide)) (by rw [labRows_length]; omega)
            rw [labRows_length] at key
            exact key
          go_wp2_with fail
          refine (HJ.out _ hown).mono ?_
          rintro e w1 ⟨rfl, bel1⟩
          go_wp2_with fail
          refine bodyPost_ret (v := .tuple #[.string (bs (Lib.join (labRows rows) [124])), .bool true]) (by simp [results, Tryd.results25, go_sem]) rfl ?_
          exact ⟨by rw [HR.out, HO.out, HZ.out], hbel.trans (bel1.mono hDw)⟩
  · have HO := Lib.hid (labOk_f0 h40)
    go_enter Tryd.func25, Tryd.ntmps25
    go_wp2_with fail
    refine bodyPost_ret (v := .tuple #[.string ⟨#[]⟩, .bool false]) (by simp [results, Tryd.results25, go_sem]) rfl ?_
    exact ⟨by rw [labR_f HO.out, HO.out]; first | done | rfl, Below.refl _ _⟩
set_option maxRecDepth 100000 in
set_option maxHeartbeats 800000 in
theorem txLabels_any (a : Option Addr) (cap : Nat) (rows : List (List Int)) (vs : Nat → Option Addr × Nat) (w : World) (B : Nat) (ha : RdII w B a rows vs) (hB : B ≤ w.heap.size) (hl : rows.length ≤ 1048600) (hl2 : ∀ j, j < rows.length → (rowOf rows j).length ≤ 1048600) :
    Calls Tryd.prog 43 #[.slice a rows.length cap] w fun e w' => e = .returned (.bool (labOk rows)) ∧ Qt w w' := by
  have HL2 := Lib.hid hl2
  clear hl2
  go_enter Tryd.func43, Tryd.ntmps43
  go_wp2_with fail
  go_loopw [7] (fun i wr => ∃ k : Nat, k ≤ rows.length ∧ i = .int .i64 k ∧ (∀ j, j < k → labOne (rowOf rows j) = true) ∧ Qt w wr) (fun i _ => rows.length - (intOf i).toNat)
  case atStart => exact ⟨0, Nat.zero_le _, rfl, fun j hj => absurd hj (by omega), Qt.refl _⟩
  case round =>
    obtain ⟨k, hk, rfl, hall, hq⟩ := hrel
    have HA := Lib.hid hall
    clear hall
    by_cases hlt : k < rows.length
    · obtain ⟨g, off, rfl, hg, hc0⟩ := Rd.at (ha.1.qt hq) hlt
      have hrd : RdI wr B (vs k).1 (rowOf rows k) := (ha.2 k hlt).qt hq
      have hlk := HL2.out k hlt
      by_cases h6 : (rowOf rows k).length ≤ 6
      · have HW : Hid (Calls Tryd.prog 64 #[.slice (vs k).1 (rowOf rows k).length (vs k).2, .int .i64 0, .int .i64 99] wr fun e w' => e = .returned (.bool (allB (rowOf rows k) 0 99)) ∧ ∃ m, w' = wr.drewN m) := l1All_any _ _ _ 0 99 wr B hrd (by omega)
        cases hab : allB (rowOf rows k) 0 99 with
        | false =>
          have HO := Lib.hid (labOk_f1 (labAll_f hlt (labOne_f1 hab)))
          go_wp2_with (go_at_call 64; refine HW.out.mono ?_; rintro e w1 ⟨rfl, hq1⟩)
          go_ret
          exact ⟨ret_bool HO.out.symm, hq.trans hq1⟩
        | true =>
          have H1 := Lib.hid (labOne_t h6 hab)
          go_wp2_with (go_at_call 64; refine HW.out.mono ?_; rintro e w1 ⟨rfl, hq1⟩)
          go_roundw
          case rel => exact ⟨k + 1, by omega, by go_num, all_snoc HA.out H1.out, hq.trans hq1⟩
          case measure => simp [intOf]; omega
      · have HO := Lib.hid (labOk_f1 (labAll_f hlt (labOne_f0 h6)))
        go_wp2_with fail
        go_ret
        exact ⟨ret_bool HO.out.symm, hq⟩
    · obtain rfl : k = rows.length := by omega
      by_cases h40 : rows.length ≤ 40
      · have HO := Lib.hid (labOk_t h40 HA.out)
        go_wp2_with fail
        go_ret
        exact ⟨ret_bool (by rw [HO.out]; first | rfl | (simp; omega)), hq⟩
      · have HO := Lib.hid (labOk_f0 h40)
        go_wp2_with fail
        go_ret
        exact ⟨ret_bool (by rw [HO.out]; first | rfl | (simp; omega)), hq⟩
theorem bar_add {P : Program} (b : UInt8) (l : List UInt8) (X : World) (h : l.length ≤ 1000000) : (Op.stringOp .add (bs l) ⟨#[b]⟩).run P X = .ok (.string (bs (l ++ [b]))) X := str_add l [b] X (by simp; omega)
set_option maxRecDepth 100000 in
set_option maxHeartbeats 800000 in
theorem txLabeling_any (a : Option Addr) (cap : Nat) (rows : List (List Int)) (vs : Nat → Option Addr × Nat) (w : World) (B : Nat) (ha : RdII w B a rows vs) (hB : B ≤ w.heap.size) (hok : labOk rows = true) :
    Calls Tryd.prog 52 #[.slice a rows.length cap] w fun e w' => e = .returned (.string (bs (labT rows))) ∧ Below w.heap.size w w' := by
  have h40 := (labOk_at hok).1
  have HK := Lib.hid hok
  clear hok
  by_cases hz : rows.length = 0
  · have HZ : Hid (labT rows = [45]) := by show _ = _; rw [labT, if_pos hz]
    have hz2 : ((rows.length : Nat) : Int) = 0 := by omega
    clear hz
    go_enter Tryd.func52, Tryd.ntmps52
    go_wp2_with fail
    go_ret
    exact ⟨by rw [HZ.out]; rfl, Below.refl _ _⟩
  · have HZ : Hid (labT rows = Lib.join (labRows rows) [124]) := by show _ = _; rw [labT, if_neg hz]
    have hz2 : (((rows.length : Nat) : Int) == 0) = false := by rw [beq_eq_false_iff_ne]; omega
    clear hz
    obtain ⟨D, hD⟩ : ∃ D, D = w.heap.size := ⟨_, rfl⟩
    have HD := Lib.hid hD
    rw [← hD]
    have hBD : B ≤ D := by omega
    clear hD hB
    go_enter Tryd.func52, Tryd.ntmps52
    go_wp2_with fail
    go_loopw [3, 13] (fun v i wr => ∃ k : Nat, k ≤ rows.length ∧ i = .int .i64 k ∧ v = .string (bs (joinP [124] (labRows rows) k)) ∧ Below D w wr) (fun _ i _ => rows.length - (intOf i).toNat)
    case atStart => exact ⟨0, Nat.zero_le _, rfl, by rw [joinP_zero]; rfl, Below.refl _ _⟩
    case round =>
      obtain ⟨k, hk, rfl, rfl, hbel⟩ := hrel
      have hDw : D ≤ wr.heap.size := by have := hbel.size; have := HD.out; omega
      by_cases hlt : k < rows.length
      · obtain ⟨g, off, rfl, hg, hc0⟩ := Rd.at ha.1 hlt
        have hc1 := (hbel.cell (p := ⟨g, off + k, none⟩) (show g < D by omega)).trans hc0
        have hrd : RdI wr B (vs k).1 (rowOf rows k) := (ha.2 k hlt).below (hbel.mono hBD)
        clear hc0
        obtain ⟨h6, h99⟩ := (labOk_at HK.out).2 k hlt
        have H99 := Lib.hid h99
        have hP := joinP_len [124] (labRows rows) 19 (labRows_le HK.out) k (by rw [labRows_length]; omega)
        -- what stands ahead of the row
        obtain ⟨base, hbase⟩ : ∃ base, base = joinP [124] (labRows rows) k ++ (if 0 < k then [124] else []) := ⟨_, rfl⟩
        have hbl : base.length ≤ 1000 := by rw [hbase, List.length_append]; split <;> simp <;> omega
        have HB := Lib.hid hbase
        have HN : Hid (base ++ labRow (rowOf rows k) = joinP [124] (labRows rows) (k + 1)) := by
          show _ = _
          rw [hbase]
          by_cases h0 : 0 < k
          · rw [if_pos h0, joinP_next _ _ _ (by rw [labRows_length]; exact hlt) h0, labRows_at hlt]
          · obtain rfl : k = 0 := by omega
            rw [if_neg h0, List.append_nil, joinP_first _ _ (by rw [labRows_length]; exact hlt), labRows_at hlt]
        have hbar : 0 < k → ∀ X : World, (Op.stringOp .add (bs (joinP [124] (labRows rows) k)) ⟨#[124]⟩).run Tryd.prog X = .ok (.string (bs base)) X := fun h0 X => by
          have h := bar_add (P := Tryd.prog) 124 (joinP [124] (labRows rows) k) X (by omega)
          rw [hbase, if_pos h0]
          exact h
        have HBZ : ¬ 0 < k → joinP [124] (labRows rows) k = base := fun h0 => by rw [hbase, if_neg h0, List.append_nil]
        have HLR : Hid (joinP [44] (labNs (rowOf rows k)) (rowOf rows k).length = labRow (rowOf rows k)) := by
          show _ = _
          have := joinP_all [44] (labNs (rowOf rows k))
          rw [labNs_length] at this
          exact this
        clear h99 hbase hP
        generalize (vs k).1 = ra at *
        generalize (vs k).2 = rc at *
        generalize joinP [124] (labRows rows) k = PP at *
        by_cases h0 : 0 < k
        · replace hbar := hbar h0
          clear HBZ
          go_wp2_with fail
          go_loopw [3, 24] (fun v i wx => ∃ j : Nat, j ≤ (rowOf rows k).length ∧ i = .int .i64 j ∧ v = .string (bs (base ++ joinP [44] (labNs (rowOf rows k)) j)) ∧ Below wr.heap.size wr wx) (fun _ i _ => (rowOf rows k).length - (intOf i).toNat)
          case atStart => exact ⟨0, Nat.zero_le _, rfl, by rw [joinP_zero, List.append_nil], Below.refl _ _⟩
          case round =>
            obtain ⟨j, hj, rfl, rfl, hbx⟩ := hrel
            by_cases hlj : j < (rowOf rows k).length
            · obtain ⟨g2, off2, rfl, hg2, hc2⟩ := Rd.at (Rd.below hrd (hbx.mono (by omega))) hlj
              have h2 := labB_at H99.out hlj
              obtain ⟨m, hm⟩ := Int.eq_ofNat_of_zero_le h2.1
              have hm2 : m < 100 := by omega
              have hm3 : m < 1000000 := by omega
              have HM : Hid (nthS (labNs (rowOf rows k)) j = Lib.decDigits m) := by show _ = _; rw [labNs_at hlj, hm, numT_nat]
              rw [hm] at hc2
              clear h2 hm
              have hjl := joinP_len [44] (labNs (rowOf rows k)) 3 (labNs_le H99.out) j (by rw [labNs_length]; omega)
              have hdl : (Lib.decDigits m).length ≤ 2 := numT_len (n := (m : Int)) (by omega)
              obtain ⟨S1, hS1⟩ : ∃ S, S = base ++ joinP [44] (labNs (rowOf rows k)) j := ⟨_, rfl⟩
              obtain ⟨S2, hS2⟩ : ∃ S, S = S1 ++ [44] := ⟨_, rfl⟩
              obtain ⟨S3, hS3⟩ : ∃ S, S = base ++ joinP [44] (labNs (rowOf rows k)) (j + 1) := ⟨_, rfl⟩
              have l1 : S1.length ≤ 1018 := by rw [hS1, List.length_append]; omega
              have l2 : S2.length ≤ 1019 := by rw [hS2, List.length_append]; simp only [List.length_cons, List.length_nil]; omega
              have hcm : ∀ X : World, (Op.stringOp .add (bs S1) ⟨#[44]⟩).run Tryd.prog X = .ok (.string (bs S2)) X := fun X => by rw [hS2]; exact bar_add 44 S1 X (by omega)
              have HS3 := Lib.hid hS3
              rw [← hS1]
              by_cases hj0 : 0 < j
              · have hnm : ∀ X : World, (Op.stringOp .add (bs S2) (decB m)).run Tryd.prog X = .ok (.string (bs S3)) X := fun X => by
                  have e : S3 = S2 ++ Lib.decDigits m := by rw [hS3, hS2, hS1, joinP_next _ _ _ (by rw [labNs_length]; exact hlj) hj0, HM.out]; simp [List.append_assoc]
                  rw [e]; exact str_add S2 _ X (by omega)
                clear hS1 hS2 hS3 l1 l2
                go_wp2_with (go_at_call 65; refine (l1Num_any m _ hm3).mono ?_; rintro e w1 ⟨rfl, bel1⟩)
                go_roundw
                case rel => exact ⟨j + 1, by omega, by go_num, by rw [HS3.out], hbx.trans (bel1.mono hbx.size)⟩
                case measure => simp [intOf]; omega
              · have hnm : ∀ X : World, (Op.stringOp .add (bs S1) (decB m)).run Tryd.prog X = .ok (.string (bs S3)) X := fun X => by
                  have e : S3 = S1 ++ Lib.decDigits m := by
                    rw [hS3, hS1]
                    obtain rfl : j = 0 := by omega
                    rw [joinP_first _ _ (by rw [labNs_length]; exact hlj), HM.out]; simp [List.append_assoc]
                  rw [e]; exact str_add S1 _ X (by omega)
                clear hS1 hS2 hS3 l1 l2
                go_wp2_with (go_at_call 65; refine (l1Num_any m _ hm3).mono ?_; rintro e w1 ⟨rfl, bel1⟩)
                go_roundw
                case rel => exact ⟨j + 1, by omega, by go_num, by rw [HS3.out], hbx.trans (bel1.mono hbx.size)⟩
                case measure => simp [intOf]; omega
            · obtain rfl : j = (rowOf rows k).length := by omega
              have HEQ : Hid (base ++ joinP [44] (labNs (rowOf rows k)) (rowOf rows k).length = joinP [124] (labRows rows) (k + 1)) := by show _ = _; rw [HLR.out, HN.out]
              generalize base ++ joinP [44] (labNs (rowOf rows k)) (rowOf rows k).length = JJ at *
              go_wp2_with fail
              go_roundw
              case rel => exact ⟨k + 1, by omega, by go_num, by rw [HEQ.out], hbel.trans (hbx.mono hDw)⟩
              case measure => simp [intOf]; omega
        · replace HBZ := (HBZ h0).symm
          clear hbar
          subst HBZ
          go_wp2_with fail
          go_loopw [3, 24] (fun v i wx => ∃ j : Nat, j ≤ (rowOf rows k).length ∧ i = .int .i64 j ∧ v = .string (bs (base ++ joinP [44] (labNs (rowOf rows k)) j)) ∧ Below wr.heap.size wr wx) (fun _ i _ => (rowOf rows k).length - (intOf i).toNat)
          case atStart => exact ⟨0, Nat.zero_le _, rfl, by rw [joinP_zero, List.append_nil], Below.refl _ _⟩
          case round =>
            obtain ⟨j, hj, rfl, rfl, hbx⟩ := hrel
            by_cases hlj : j < (rowOf rows k).length
            · obtain ⟨g2, off2, rfl, hg2, hc2⟩ := Rd.at (Rd.below hrd (hbx.mono (by omega))) hlj
              have h2 := labB_at H99.out hlj
              obtain ⟨m, hm⟩ := Int.eq_ofNat_of_zero_le h2.1
              have hm2 : m < 100 := by omega
              have hm3 : m < 1000000 := by omega
              have HM : Hid (nthS (labNs (rowOf rows k)) j = Lib.decDigits m) := by show _ = _; rw [labNs_at hlj, hm, numT_nat]
              rw [hm] at hc2
              clear h2 hm
              have hjl := joinP_len [44] (labNs (rowOf rows k)) 3 (labNs_le H99.out) j (by rw [labNs_length]; omega)
              have hdl : (Lib.decDigits m).length ≤ 2 := numT_len (n := (m : Int)) (by omega)
              obtain ⟨S1, hS1⟩ : ∃ S, S = base ++ joinP [44] (labNs (rowOf rows k)) j := ⟨_, rfl⟩
              obtain ⟨S2, hS2⟩ : ∃ S, S = S1 ++ [44] := ⟨_, rfl⟩
              obtain ⟨S3, hS3⟩ : ∃ S, S = base ++ joinP [44] (labNs (rowOf rows k)) (j + 1) := ⟨_, rfl⟩
              have l1 : S1.length ≤ 1018 := by rw [hS1, List.length_append]; omega
              have l2 : S2.length ≤ 1019 := by rw [hS2, List.length_append]; simp only [List.length_cons, List.length_nil]; omega
              have hcm : ∀ X : World, (Op.stringOp .add (bs S1) ⟨#[44]⟩).run Tryd.prog X = .ok (.string (bs S2)) X := fun X => by rw [hS2]; exact bar_add 44 S1 X (by omega)
              have HS3 := Lib.hid hS3
              rw [← hS1]
              by_cases hj0 : 0 < j
              · have hnm : ∀ X : World, (Op.stringOp .add (bs S2) (decB m)).run Tryd.prog X = .ok (.string (bs S3)) X := fun X => by
                  have e : S3 = S2 ++ Lib.decDigits m := by rw [hS3, hS2, hS1, joinP_next _ _ _ (by rw [labNs_length]; exact hlj) hj0, HM.out]; simp [List.append_assoc]
                  rw [e]; exact str_add S2 _ X (by omega)
                clear hS1 hS2 hS3 l1 l2
                go_wp2_with (go_at_call 65; refine (l1Num_any m _ hm3).mono ?_; rintro e w1 ⟨rfl, bel1⟩)
                go_roundw
                case rel => exact ⟨j + 1, by omega, by go_num, by rw [HS3.out], hbx.trans (bel1.mono hbx.size)⟩
                case measure => simp [intOf]; omega
              · have hnm : ∀ X : World, (Op.stringOp .add (bs S1) (decB m)).run Tryd.prog X = .ok (.string (bs S3)) X := fun X => by
                  have e : S3 = S1 ++ Lib.decDigits m := by
                    rw [hS3, hS1]
                    obtain rfl : j = 0 := by omega
                    rw [joinP_first _ _ (by rw [labNs_length]; exact hlj), HM.out]; simp [List.append_assoc]
                  rw [e]; exact str_add S1 _ X (by omega)
                clear hS1 hS2 hS3 l1 l2
                go_wp2_with (go_at_call 65; refine (l1Num_any m _ hm3).mono ?_; rintro e w1 ⟨rfl, bel1⟩)
                go_roundw
                case rel => exact ⟨j + 1, by omega, by go_num, by rw [HS3.out], hbx.trans (bel1.mono hbx.size)⟩
                case measure => simp [intOf]; omega
            · obtain rfl : j = (rowOf rows k).length := by omega
              have HEQ : Hid (base ++ joinP [44] (labNs (rowOf rows k)) (rowOf rows k).length = joinP [124] (labRows rows) (k + 1)) := by show _ = _; rw [HLR.out, HN.out]
              generalize base ++ joinP [44] (labNs (rowOf rows k)) (rowOf rows k).length = JJ at *
              go_wp2_with fail
              go_roundw
              case rel => exact ⟨k + 1, by omega, by go_num, by rw [HEQ.out], hbel.trans (hbx.mono hDw)⟩
              case measure => simp [intOf]; omega
      · obtain rfl : k = rows.length := by omega
        have HE : Hid (joinP [124] (labRows rows) rows.length = labT rows) := by
          show _ = _
          rw [HZ.out, ← joinP_all, labRows_length]
        go_wp2_with fail
        go_ret
        exact ⟨by rw [HE.out]; rfl, hbel⟩
end Go.Proofs.YtmjmgggfmccjmaaDoor
