/- ParsePort: the walks of txPort and of impl.ParsePort. -/
import Derived.Test.YtmjmgggfmccjmaaDoorRnI
namespace Go.Proofs.YtmjmgggfmccjmaaDoor
open Go.RowKit
set_option linter.unusedVariables false
set_option linter.unusedSimpArgs false
/-- some number stands in the library's variable that strings.Index reads -/
def MLen (w : World) : Prop := ∃ m, w.cell? ⟨0, 0, none⟩ = some (.int .i64 m)
theorem MLen.below {w w' : World} (h : MLen w) (hb : Below w.heap.size w w') : MLen w' := by
  obtain ⟨m, h⟩ := h
  exact ⟨m, (hb.cell (p := ⟨0, 0, none⟩) (World.block_lt_of_cell? w _ h)).trans h⟩
theorem portOk_len {l : List UInt8} (h : (spl 46 l).length ≠ 2) : portOk l = false := by
  unfold portOk
  split
  · rename_i a b hs; rw [hs] at h; exact absurd rfl h
  · rfl
theorem portOk_two {l a b : List UInt8} (h : spl 46 l = [a, b]) : portOk l = (decide (0 ≤ readL a) && decide (0 ≤ readL b)) := by rw [portOk, h]
theorem ppE_two {l a b : List UInt8} (h : spl 46 l = [a, b]) (h2 : portOk l = true) : ppE l = (readL a, readL b) := by
  rw [portOk_two h, Bool.and_eq_true] at h2
  rw [ppE, h]
  exact if_pos ⟨of_decide_eq_true h2.1, of_decide_eq_true h2.2⟩
set_option maxRecDepth 100000 in
set_option maxHeartbeats 800000 in
theorem implPP_any (s : ByteArray) (w : World) (htab : PTab w) (herr : SErr w) (hml : MLen w) (hs : s.size ≤ 1048576) :
    Calls Tryd.prog 27 #[.string s] w fun e w' => e = .returned (.tuple #[.agg #[.int .i64 (ppE s.data.toList).1, .int .i64 (ppE s.data.toList).2], .bool (portOk s.data.toList)]) ∧ Below w.heap.size w w' := by
  have HSL := Lib.hid (size_list s)
  have HK := Lib.hid (portOk_cut s.data.toList)
  have HE := Lib.hid (fun h => ppE_t (l := s.data.toList) h)
  have hc1 : (Lib.cut s.data.toList [46]).1.length ≤ 1048576 := by
    rcases byte_cut 46 s.data.toList with h | ⟨a, r, h, h2⟩
    · rw [cut_one_none h]; show s.data.toList.length ≤ _; rw [HSL.out]; exact hs
    · have e := congrArg List.length h
      rw [HSL.out] at e
      rw [h, cut_one_some h2]; simp at e; show a.length ≤ _; omega
  have hc2 : (Lib.cut s.data.toList [46]).2.1.length ≤ 1048576 := by
    rcases byte_cut 46 s.data.toList with h | ⟨a, r, h, h2⟩
    · rw [cut_one_none h]; show 0 ≤ _; omega
    · have e := congrArg List.length h
      rw [HSL.out] at e
      rw [h, cut_one_some h2]; simp at e; show r.length ≤ _; omega
  have hCut2 : Hid (∀ X, MLen X → Calls Tryd.prog 57 #[.string s, .string ⟨#[46]⟩] X fun e w' => e = .returned (.tuple #[.string (bs (Lib.cut s.data.toList [46]).1), .string (bs (Lib.cut s.data.toList [46]).2.1), .bool (Lib.cut s.data.toList [46]).2.2]) ∧ ∃ n, w' = X.drewN n) := fun X ⟨m, hm⟩ => Tryd.strings_Cut s ⟨#[46]⟩ m X (by omega) hm
  generalize (Lib.cut s.data.toList [46]).1 = c1 at *
  generalize (Lib.cut s.data.toList [46]).2.1 = c2 at *
  generalize (Lib.cut s.data.toList [46]).2.2 = fo at *
  have HR1 : Hid (∀ X, PTab X → SErr X → Calls Tryd.prog 45 #[.string (bs c1)] X fun e w' => e = .returned (.tuple #[.int .i64 (rnV c1), .bool (decide (0 ≤ readL c1))]) ∧ Below X.heap.size X w') := fun X h1 h2 => readNumber_any (bs c1) X h1 h2 (by rw [bs_size]; exact hc1)
  have HR2 : Hid (∀ X, PTab X → SErr X → Calls Tryd.prog 45 #[.string (bs c2)] X fun e w' => e = .returned (.tuple #[.int .i64 (rnV c2), .bool (decide (0 ≤ readL c2))]) ∧ Below X.heap.size X w') := fun X h1 h2 => readNumber_any (bs c2) X h1 h2 (by rw [bs_size]; exact hc2)
  obtain ⟨b1, hb1⟩ : ∃ b, b = decide (0 ≤ readL c1) := ⟨_, rfl⟩
  obtain ⟨b2, hb2⟩ : ∃ b, b = decide (0 ≤ readL c2) := ⟨_, rfl⟩
  rw [← hb1] at HR1
  rw [← hb2] at HR2
  have HB1 := Lib.hid hb1
  have HB2 := Lib.hid hb2
  rw [← hb1, ← hb2] at HK
  clear hb1 hb2 hc1 hc2
  have BE := Bx.made w 44 #[.int .i64 0, .int .i64 0]
  have b0 : Below w.heap.size w (w.alloc (.cells #[.int .i64 0, .int .i64 0] 44)) := (by repeat (first | exact Below.refl _ _ | assumption | refine Below.alloc ?_ (by first | (simp; done) | (simp; omega) | omega) _ | refine Below.setCell ?_ (by first | (simp; done) | (simp; omega) | omega) _ | refine Below.drew ?_ | refine Below.drewN ?_ _))
  go_enter Tryd.func27, Tryd.ntmps27
  go_upto_region 1 with fail
  generalize w.alloc (.cells #[.int .i64 0, .int .i64 0] 44) = w0 at *
  go_wp2_with fail
  refine (hCut2.out _ (hml.below b0)).mono ?_
  rintro e w1 ⟨rfl, n1, hw1⟩
  have bel1 : Below w.heap.size w w1 := by rw [hw1]; exact Below.drewN b0 n1
  replace BE : Bx w1 w.heap.size 44 #[.int .i64 0, .int .i64 0] := by rw [hw1]; exact BE
  clear hw1 hCut2 b0
  go_wp2_with fail
  refine (HR1.out _ (htab.below bel1) (herr.below bel1)).mono ?_
  rintro e w2 ⟨rfl, bel2⟩
  replace BE := BE.new bel2
  replace bel2 := bel1.trans (bel2.mono bel1.size)
  clear bel1
  go_wp2_with fail
  refine (HR2.out _ (htab.below bel2) (herr.below bel2)).mono ?_
  rintro e w3 ⟨rfl, bel3⟩
  replace BE := BE.new bel3
  replace bel3 := bel2.trans (bel3.mono bel2.size)
  have z3 := BE.lt
  clear bel2 HR1 HR2
  cases fo with
  | false =>
    have HO : Hid (portOk s.data.toList = false) := by show _ = _; rw [HK.out]; rfl
    have e0 := BE.cell 0 _ rfl
    have e1 := BE.cell 1 _ rfl
    have f0 := BE.frozen 0
    have f1 := (BE.set 0 (.int .i64 (0))).frozen 1
    have e2 := (BE.set 0 (.int .i64 (0))).cell 1 _ rfl
    go_wp2_with fail
    generalize hW : World.setCell _ _ _ = W
    have B6 : Bx W w.heap.size 44 #[.int .i64 (0), .int .i64 (0)] := by rw [← hW]; exact (BE.set 0 _).set 1 _
    have bW : Below w.heap.size w W := by rw [← hW]; exact (by repeat (first | exact Below.refl _ _ | assumption | refine Below.alloc ?_ (by first | (simp; done) | (simp; omega) | omega) _ | refine Below.setCell ?_ (by first | (simp; done) | (simp; omega) | omega) _ | refine Below.drew ?_ | refine Below.drewN ?_ _))
    clear hW
    have d0 := B6.cell 0 _ rfl
    have d1 := B6.cell 1 _ rfl
    refine bodyPost_ret (v := .tuple #[.agg #[.int .i64 (0), .int .i64 (0)], .bool false]) (by simp [results, Tryd.results27, go_sem, d0, d1]) rfl ?_
    exact ⟨by rw [ppE_f HO.out, HO.out], bW⟩
  | true =>
  cases b1 with
  | false =>
    have HO : Hid (portOk s.data.toList = false) := by show _ = _; rw [HK.out]; rfl
    have e0 := BE.cell 0 _ rfl
    have e1 := BE.cell 1 _ rfl
    have f0 := BE.frozen 0
    have f1 := (BE.set 0 (.int .i64 (0))).frozen 1
    have e2 := (BE.set 0 (.int .i64 (0))).cell 1 _ rfl
    go_wp2_with fail
    generalize hW : World.setCell _ _ _ = W
    have B6 : Bx W w.heap.size 44 #[.int .i64 (0), .int .i64 (0)] := by rw [← hW]; exact (BE.set 0 _).set 1 _
    have bW : Below w.heap.size w W := by rw [← hW]; exact (by repeat (first | exact Below.refl _ _ | assumption | refine Below.alloc ?_ (by first | (simp; done) | (simp; omega) | omega) _ | refine Below.setCell ?_ (by first | (simp; done) | (simp; omega) | omega) _ | refine Below.drew ?_ | refine Below.drewN ?_ _))
    clear hW
    have d0 := B6.cell 0 _ rfl
    have d1 := B6.cell 1 _ rfl
    refine bodyPost_ret (v := .tuple #[.agg #[.int .i64 (0), .int .i64 (0)], .bool false]) (by simp [results, Tryd.results27, go_sem, d0, d1]) rfl ?_
    exact ⟨by rw [ppE_f HO.out, HO.out], bW⟩
  | true =>
  cases b2 with
  | false =>
    have HO : Hid (portOk s.data.toList = false) := by show _ = _; rw [HK.out]; rfl
    have e0 := BE.cell 0 _ rfl
    have e1 := BE.cell 1 _ rfl
    have f0 := BE.frozen 0
    have f1 := (BE.set 0 (.int .i64 (0))).frozen 1
    have e2 := (BE.set 0 (.int .i64 (0))).cell 1 _ rfl
    go_wp2_with fail
    generalize hW : World.setCell _ _ _ = W
    have B6 : Bx W w.heap.size 44 #[.int .i64 (0), .int .i64 (0)] := by rw [← hW]; exact (BE.set 0 _).set 1 _
    have bW : Below w.heap.size w W := by rw [← hW]; exact (by repeat (first | exact Below.refl _ _ | assumption | refine Below.alloc ?_ (by first | (simp; done) | (simp; omega) | omega) _ | refine Below.setCell ?_ (by first | (simp; done) | (simp; omega) | omega) _ | refine Below.drew ?_ | refine Below.drewN ?_ _))
    clear hW
    have d0 := B6.cell 0 _ rfl
    have d1 := B6.cell 1 _ rfl
    refine bodyPost_ret (v := .tuple #[.agg #[.int .i64 (0), .int .i64 (0)], .bool false]) (by simp [results, Tryd.results27, go_sem, d0, d1]) rfl ?_
    exact ⟨by rw [ppE_f HO.out, HO.out], bW⟩
  | true =>
    have HO : Hid (portOk s.data.toList = true) := by show _ = _; rw [HK.out]; rfl
    have HE2 := Lib.hid (HE.out HO.out)
    have HV1 : Hid (rnV c1 = readL c1) := rnV_t (of_decide_eq_true HB1.out.symm)
    have HV2 : Hid (rnV c2 = readL c2) := rnV_t (of_decide_eq_true HB2.out.symm)
    have e0 := BE.cell 0 _ rfl
    have e1 := BE.cell 1 _ rfl
    have f0 := BE.frozen 0
    have f1 := (BE.set 0 (.int .i64 (rnV c1))).frozen 1
    have e2 := (BE.set 0 (.int .i64 (rnV c1))).cell 1 _ rfl
    go_wp2_with fail
    generalize hW : World.setCell _ _ _ = W
    have B6 : Bx W w.heap.size 44 #[.int .i64 (rnV c1), .int .i64 (rnV c2)] := by rw [← hW]; exact (BE.set 0 _).set 1 _
    have bW : Below w.heap.size w W := by rw [← hW]; exact (by repeat (first | exact Below.refl _ _ | assumption | refine Below.alloc ?_ (by first | (simp; done) | (simp; omega) | omega) _ | refine Below.setCell ?_ (by first | (simp; done) | (simp; omega) | omega) _ | refine Below.drew ?_ | refine Below.drewN ?_ _))
    clear hW
    have d0 := B6.cell 0 _ rfl
    have d1 := B6.cell 1 _ rfl
    refine bodyPost_ret (v := .tuple #[.agg #[.int .i64 (rnV c1), .int .i64 (rnV c2)], .bool true]) (by simp [results, Tryd.results27, go_sem, d0, d1]) rfl ?_
    exact ⟨by rw [HE2.out, HO.out, HV1.out, HV2.out], bW⟩
theorem l1SplitZ_any (s : ByteArray) (c : UInt8) (z : Int) (hz : (c.toNat : Int) = z) (w : World) (hs : s.size ≤ 1048576) :
    Calls Tryd.prog 41 #[.string s, .int .u8 z] w fun e w' => ∃ a cap, e = .returned (.slice a (spl c s.data.toList).length cap) ∧ Ow w' w.heap.size w'.heap.size 9 1 a (spl c s.data.toList).length cap (cellS (spl c s.data.toList)) ∧ Below w.heap.size w w' := by
  subst hz
  exact l1Split_any s c w hs
set_option maxRecDepth 100000 in
set_option maxHeartbeats 800000 in
theorem txPort_any (s : ByteArray) (w : World) (hs : s.size ≤ 1048576) :
    Calls Tryd.prog 56 #[.string s] w fun e w' => e = .returned (.tuple #[.agg #[.int .i64 (ppE s.data.toList).1, .int .i64 (ppE s.data.toList).2], .bool (portOk s.data.toList)]) ∧ Below w.heap.size w w' := by
  have HSL := Lib.hid (size_list s)
  have hsp := fun X => l1SplitZ_any s 46 46 rfl X hs
  have HL := Lib.hid (fun x hx => spl_le 46 s.data.toList x hx)
  by_cases h2 : (spl 46 s.data.toList).length = 2
  · obtain ⟨a, b, hab⟩ : ∃ a b, spl 46 s.data.toList = [a, b] := by
      match h : spl 46 s.data.toList, h2 with
      | [a, b], _ => exact ⟨a, b, rfl⟩
    have HA : Hid (a.length ≤ 1048576) := by show _ ≤ _; have := HL.out a (by rw [hab]; simp); rw [HSL.out] at this; omega
    have HB : Hid (b.length ≤ 1048576) := by show _ ≤ _; have := HL.out b (by rw [hab]; simp); rw [HSL.out] at this; omega
    have HK := Lib.hid (portOk_two hab)
    have HE := Lib.hid (fun h => ppE_two hab h)
    rw [hab] at hsp
    have hsp2 := Lib.hid hsp
    clear hsp h2 HL
    have BE := Bx.made w 44 #[.int .i64 0, .int .i64 0]
    have b0 : Below w.heap.size w (w.alloc (.cells #[.int .i64 0, .int .i64 0] 44)) := (by repeat (first | exact Below.refl _ _ | assumption | refine Below.alloc ?_ (by first | (simp; done) | (simp; omega) | omega) _ | refine Below.setCell ?_ (by first | (simp; done) | (simp; omega) | omega) _ | refine Below.drew ?_ | refine Below.drewN ?_ _))
    go_enter Tryd.func56, Tryd.ntmps56
    go_upto_region 1 with fail
    generalize w.alloc (.cells #[.int .i64 0, .int .i64 0] 44) = w0 at *
    go_wp2_with fail
    refine (hsp2.out _).mono ?_
    rintro e w1 ⟨aa, cap, rfl, own, bel⟩
    replace BE := BE.new bel
    replace b0 := b0.trans (bel.mono b0.size)
    obtain ⟨hn, hm, h3⟩ := own
    have hn2 : 2 ≤ cap := hn
    obtain ⟨g, F, rfl, hgl, hgh, hr, hf⟩ := h3 (by omega)
    have hc0 : w1.cell? ⟨g, 0, none⟩ = some (.string (bs a)) := by rw [hr.cell (by omega), hf 0 (by show 0 < 2; omega)]; rfl
    have hc1 : w1.cell? ⟨g, 1, none⟩ = some (.string (bs b)) := by rw [hr.cell (by omega), hf 1 (by show 1 < 2; omega)]; rfl
    clear hr hf hn hm h3 bel hsp2
    have HR1 : Hid (∀ X, Calls Tryd.prog 42 #[.string (bs a)] X fun e w' => e = .returned (.int .i64 (readL a)) ∧ w' = X) := fun X => l1Read_any (bs a) X (by rw [bs_size]; exact HA.out)
    have HR2 : Hid (∀ X, Calls Tryd.prog 42 #[.string (bs b)] X fun e w' => e = .returned (.int .i64 (readL b)) ∧ w' = X) := fun X => l1Read_any (bs b) X (by rw [bs_size]; exact HB.out)
    have hne : (([a, b].length : Int) == 2) = true := rfl
    go_upto_region 4 with fail
    replace b0 := b0.drew
    replace BE : Bx w1.drew w.heap.size 44 #[.int .i64 0, .int .i64 0] := BE
    refine wp_region_held_drew (S := fun X => X.cell? ⟨g, 0, none⟩ = some (.string (bs a)) ∧ X.cell? ⟨g, 1, none⟩ = some (.string (bs b))) (by kernel_rfl) ⟨hc0, hc1⟩ (fun hHeld => ?_)
    replace hc0 : w1.drew.cell? ⟨g, 0, none⟩ = some (.string (bs a)) := hc0
    replace hc1 : w1.drew.cell? ⟨g, 1, none⟩ = some (.string (bs b)) := hc1
    replace hgh : g < w1.drew.heap.size := hgh
    clear hne
    generalize w1.drew = wd at *
    refine wpAnyH_take (i := 0) (v := ?_) rfl (by kernel_rfl) (by kernel_rfl) (by kernel_rfl) (fun _ _ _ h => h) (Or.inl ⟨by rfl, ?_⟩) (by assumption) ?_
    rotate_left
    · (intro w hSw; (try dsimp only at hSw); obtain ⟨hq0, hq1⟩ := hSw; go_simp; try with_reducible rfl)
    try simp only [Act.put, List.getElem_toArray, List.getElem_cons_zero, List.getElem_cons_succ, List.setIfInBounds_toArray, List.set_cons_zero, List.set_cons_succ]
    refine wpAnyH_take (i := 1) (v := ?_) rfl (by kernel_rfl) (by kernel_rfl) (by kernel_rfl) (fun _ _ _ h => h) (Or.inl ⟨by rfl, ?_⟩) (by assumption) ?_
    rotate_left
    · (intro w hSw; (try dsimp only at hSw); obtain ⟨hq0, hq1⟩ := hSw; go_simp; try with_reducible rfl)
    try simp only [Act.put, List.getElem_toArray, List.getElem_cons_zero, List.getElem_cons_succ, List.setIfInBounds_toArray, List.set_cons_zero, List.set_cons_succ]
    refine wpAnyH_take (i := 2) (v := ?_) rfl (by kernel_rfl) (by kernel_rfl) (by kernel_rfl) (fun _ _ _ h => h) (Or.inl ⟨by rfl, ?_⟩) (by assumption) ?_
    rotate_left
    · (intro w hSw; (try dsimp only at hSw); obtain ⟨hq0, hq1⟩ := hSw; go_simp; try with_reducible rfl)
    try simp only [Act.put, List.getElem_toArray, List.getElem_cons_zero, List.getElem_cons_succ, List.setIfInBounds_toArray, List.set_cons_zero, List.set_cons_succ]
    refine wpAnyH_take (i := 4) (v := ?_) rfl (by kernel_rfl) (by kernel_rfl) (by kernel_rfl) (fun _ _ _ h => h) (Or.inl ⟨by rfl, ?_⟩) (by assumption) ?_
    rotate_left
    · (intro w hSw; (try dsimp only at hSw); obtain ⟨hq0, hq1⟩ := hSw; go_simp; try with_reducible rfl)
    try simp only [Act.put, List.getElem_toArray, List.getElem_cons_zero, List.getElem_cons_succ, List.setIfInBounds_toArray, List.set_cons_zero, List.set_cons_succ]
    refine wpAnyH_take (i := 5) (v := ?_) rfl (by kernel_rfl) (by kernel_rfl) (by kernel_rfl) (fun _ _ _ h => h) (Or.inl ⟨by rfl, ?_⟩) (by assumption) ?_
    rotate_left
    · (intro w hSw; (try dsimp only at hSw); obtain ⟨hq0, hq1⟩ := hSw; go_simp; try with_reducible rfl)
    try simp only [Act.put, List.getElem_toArray, List.getElem_cons_zero, List.getElem_cons_succ, List.setIfInBounds_toArray, List.set_cons_zero, List.set_cons_succ]
    refine wpAnyH_take (i := 6) (v := ?_) rfl (by kernel_rfl) (by kernel_rfl) (by kernel_rfl) (fun _ _ _ h => h) (Or.inl ⟨by rfl, ?_⟩) (by assumption) ?_
    rotate_left
    · (intro w hSw; (try dsimp only at hSw); obtain ⟨hq0, hq1⟩ := hSw; go_simp; try with_reducible rfl)
    try simp only [Act.put, List.getElem_toArray, List.getElem_cons_zero, List.getElem_cons_succ, List.setIfInBounds_toArray, List.set_cons_zero, List.set_cons_succ]
    have BN := Bx.made wd 44 #[.int .i64 0, .int .i64 0]
    have bN : Below wd.heap.size wd (wd.alloc (.cells #[.int .i64 0, .int .i64 0] 44)) := (by repeat (first | exact Below.refl _ _ | assumption | refine Below.alloc ?_ (by first | (simp; done) | (simp; omega) | omega) _ | refine Below.setCell ?_ (by first | (simp; done) | (simp; omega) | omega) _ | refine Below.drew ?_ | refine Below.drewN ?_ _))
    have BE1 := BE.new bN
    have b1 := b0.trans (bN.mono b0.size)
    have hS1 := And.intro ((bN.cell (p := ⟨g, 0, none⟩) hgh).trans hc0) ((bN.cell (p := ⟨g, 1, none⟩) hgh).trans hc1)
    obtain ⟨bn, hbn⟩ : ∃ b, b = wd.heap.size := ⟨_, rfl⟩
    rw [← hbn] at BN
    obtain ⟨we, hwe⟩ : ∃ we, we = wd.alloc (.cells #[.int .i64 0, .int .i64 0] 44) := ⟨_, rfl⟩
    rw [← hwe] at BN BE1 b1 hS1
    have HWE := Lib.hid hwe
    have HBN := Lib.hid hbn
    have zg : g < bn := by omega
    have zw : w.heap.size < bn := by have := BE.lt; omega
    clear hwe hbn bN
    have q0 := BN.cell 0 _ rfl
    have q1 := (BN.set 0 (.int .i64 (readL a))).cell 1 _ rfl
    have r0 := BN.frozen 0
    have r1 := (BN.set 0 (.int .i64 (readL a))).frozen 1
    have B2 : Bx ((we.setCell ⟨bn, 0, none⟩ (.int .i64 (readL a))).setCell ⟨bn, 1, none⟩ (.int .i64 (readL b))) bn 44 #[.int .i64 (readL a), .int .i64 (readL b)] := (BN.set 0 _).set 1 _
    have BE2 : Bx ((we.setCell ⟨bn, 0, none⟩ (.int .i64 (readL a))).setCell ⟨bn, 1, none⟩ (.int .i64 (readL b))) w.heap.size 44 #[.int .i64 0, .int .i64 0] := (BE1.far (p := ⟨bn, 0, none⟩) (by show _ ≠ bn; omega) _).far (p := ⟨bn, 1, none⟩) (by show _ ≠ bn; omega) _
    have fr2 : Fr (fun k => k = bn) we ((we.setCell ⟨bn, 0, none⟩ (.int .i64 (readL a))).setCell ⟨bn, 1, none⟩ (.int .i64 (readL b))) := (fr_set we bn 0 _).trans (fr_set _ bn 1 _)
    have b2 := b1.trans (fr2.below (B := w.heap.size) (fun k h1 h2 hc => by omega) b1.size)
    have hS2 : ((we.setCell ⟨bn, 0, none⟩ (.int .i64 (readL a))).setCell ⟨bn, 1, none⟩ (.int .i64 (readL b))).cell? ⟨g, 0, none⟩ = some (.string (bs a)) ∧ ((we.setCell ⟨bn, 0, none⟩ (.int .i64 (readL a))).setCell ⟨bn, 1, none⟩ (.int .i64 (readL b))).cell? ⟨g, 1, none⟩ = some (.string (bs b)) := by
      have hb : ∀ j, ((we.setCell ⟨bn, 0, none⟩ (.int .i64 (readL a))).setCell ⟨bn, 1, none⟩ (.int .i64 (readL b))).cell? ⟨g, j, none⟩ = we.cell? ⟨g, j, none⟩ := fun j => by
        unfold World.cell?
        have zz := b1.size
        rw [fr2.block g (by have := World.block_lt_of_cell? we _ hS1.1; exact this) (by omega)]
      rw [hb, hb]
      exact hS1
    have HQ : Hid (∀ K : Prop, K → K) := fun _ h => h
    clear BE BN b0 b1 BE1 HQ
    refine wpAnyH_ready (rs := [3, 9]) (by kernel_rfl) (by simp) ?_
    refine AllReadyH.cons (o := _) rfl (fun K hK => ?_) (AllReadyH.cons (o := _) rfl (fun K hK => ?_) AllReadyH.nil)
    ·
      go_simp
      refine (HR1.out _).mono ?_
      rintro e w' ⟨rfl, hw⟩
      subst w'
      refine hK.out _ _ ⟨hc0, hc1⟩ (fun hHeld => ?_)
      clear hK K
      try simp only [Act.put, List.getElem_toArray, List.getElem_cons_zero, List.getElem_cons_succ, List.setIfInBounds_toArray, List.set_cons_zero, List.set_cons_succ]
      refine wpAnyH_ready (rs := [7, 9]) (by kernel_rfl) (by simp) ?_
      refine AllReadyH.cons (o := _) rfl (fun K hK => ?_) (AllReadyH.cons (o := _) rfl (fun K hK => ?_) AllReadyH.nil)
      ·
        go_simp
        refine (HR2.out _).mono ?_
        rintro e w' ⟨rfl, hw⟩
        subst w'
        refine hK.out _ _ ⟨hc0, hc1⟩ (fun hHeld => ?_)
        clear hK K
        try simp only [Act.put, List.getElem_toArray, List.getElem_cons_zero, List.getElem_cons_succ, List.setIfInBounds_toArray, List.set_cons_zero, List.set_cons_succ]
        refine wpAnyH_take (i := 8) (v := ?_) rfl (by kernel_rfl) (by kernel_rfl) (by kernel_rfl) (fun _ _ _ h => h) (Or.inl ⟨by rfl, ?_⟩) (by assumption) ?_
        rotate_left
        · (intro w hSw; (try dsimp only at hSw); go_simp; try with_reducible rfl)
        try simp only [Act.put, List.getElem_toArray, List.getElem_cons_zero, List.getElem_cons_succ, List.setIfInBounds_toArray, List.set_cons_zero, List.set_cons_succ]
        refine wpAnyH_ready (rs := [9]) (by kernel_rfl) (by simp) ?_
        refine AllReadyH.cons (o := _) rfl (fun K hK => ?_) AllReadyH.nil
        go_simp
        rw [← HBN.out, ← HWE.out]
        refine hK.out _ _ hS1 (fun hHeld => ?_)
        clear hK K
        try simp only [Act.put, List.getElem_toArray, List.getElem_cons_zero, List.getElem_cons_succ, List.setIfInBounds_toArray, List.set_cons_zero, List.set_cons_succ]
        refine wpAnyH_ready (rs := [10]) (by kernel_rfl) (by simp) ?_
        refine AllReadyH.cons (o := _) rfl (fun K hK => ?_) AllReadyH.nil
        go_simp
        refine hK.out _ _ hS2 (fun hHeld => ?_)
        clear hK K
        try simp only [Act.put, List.getElem_toArray, List.getElem_cons_zero, List.getElem_cons_succ, List.setIfInBounds_toArray, List.set_cons_zero, List.set_cons_succ]
        refine wpAnyH_done (by kernel_rfl) ?_ _
        have BE := BE2
        have b3 := b2
        have q0 := B2.cell 0 _ rfl
        have q1 := B2.cell 1 _ rfl
        generalize (we.setCell ⟨bn, 0, none⟩ (.int .i64 (readL a))).setCell ⟨bn, 1, none⟩ (.int .i64 (readL b)) = wz at *
        have z3 := BE.lt
        clear BE2 B2 b2 hS2 hHeld
        by_cases ha : 0 ≤ readL a
        · by_cases hb : 0 ≤ readL b
          · have HO : Hid (portOk s.data.toList = true) := by show _ = _; rw [HK.out, decide_eq_true ha, decide_eq_true hb]; rfl
            have HE2 := Lib.hid (HE.out HO.out)
            have e0 := BE.cell 0 _ rfl
            have e1 := BE.cell 1 _ rfl
            have f0 := BE.frozen 0
            have f1 := (BE.set 0 (.int .i64 (readL a))).frozen 1
            have e2 := (BE.set 0 (.int .i64 (readL a))).cell 1 _ rfl
            go_wp2_with fail
            generalize hW : World.setCell _ _ _ = W
            have B6 : Bx W w.heap.size 44 #[.int .i64 (readL a), .int .i64 (readL b)] := by rw [← hW]; exact (BE.set 0 _).set 1 _
            have bW : Below w.heap.size w W := by rw [← hW]; exact (by repeat (first | exact Below.refl _ _ | assumption | refine Below.alloc ?_ (by first | (simp; done) | (simp; omega) | omega) _ | refine Below.setCell ?_ (by first | (simp; done) | (simp; omega) | omega) _ | refine Below.drew ?_ | refine Below.drewN ?_ _))
            clear hW
            have d0 := B6.cell 0 _ rfl
            have d1 := B6.cell 1 _ rfl
            refine bodyPost_ret (v := .tuple #[.agg #[.int .i64 (readL a), .int .i64 (readL b)], .bool true]) (by simp [results, Tryd.results56, go_sem, d0, d1]) rfl ?_
            exact ⟨by rw [HE2.out, HO.out], bW⟩
          · have HO : Hid (portOk s.data.toList = false) := by show _ = _; rw [HK.out, decide_eq_false hb, Bool.and_false]
            have hb2 : readL b < 0 := by omega
            clear hb
            have e0 := BE.cell 0 _ rfl
            have e1 := BE.cell 1 _ rfl
            have f0 := BE.frozen 0
            have f1 := (BE.set 0 (.int .i64 (0))).frozen 1
            have e2 := (BE.set 0 (.int .i64 (0))).cell 1 _ rfl
            go_wp2_with fail
            generalize hW : World.setCell _ _ _ = W
            have B6 : Bx W w.heap.size 44 #[.int .i64 (0), .int .i64 (0)] := by rw [← hW]; exact (BE.set 0 _).set 1 _
            have bW : Below w.heap.size w W := by rw [← hW]; exact (by repeat (first | exact Below.refl _ _ | assumption | refine Below.alloc ?_ (by first | (simp; done) | (simp; omega) | omega) _ | refine Below.setCell ?_ (by first | (simp; done) | (simp; omega) | omega) _ | refine Below.drew ?_ | refine Below.drewN ?_ _))
            clear hW
            have d0 := B6.cell 0 _ rfl
            have d1 := B6.cell 1 _ rfl
            refine bodyPost_ret (v := .tuple #[.agg #[.int .i64 (0), .int .i64 (0)], .bool false]) (by simp [results, Tryd.results56, go_sem, d0, d1]) rfl ?_
            exact ⟨by rw [ppE_f HO.out, HO.out], bW⟩
        · have HO : Hid (portOk s.data.toList = false) := by show _ = _; rw [HK.out, decide_eq_false ha]; rfl
          have ha2 : readL a < 0 := by omega
          clear ha
          have e0 := BE.cell 0 _ rfl
          have e1 := BE.cell 1 _ rfl
          have f0 := BE.frozen 0
          have f1 := (BE.set 0 (.int .i64 (0))).frozen 1
          have e2 := (BE.set 0 (.int .i64 (0))).cell 1 _ rfl
          go_wp2_with fail
          generalize hW : World.setCell _ _ _ = W
          have B6 : Bx W w.heap.size 44 #[.int .i64 (0), .int .i64 (0)] := by rw [← hW]; exact (BE.set 0 _).set 1 _
          have bW : Below w.heap.size w W := by rw [← hW]; exact (by repeat (first | exact Below.refl _ _ | assumption | refine Below.alloc ?_ (by first | (simp; done) | (simp; omega) | omega) _ | refine Below.setCell ?_ (by first | (simp; done) | (simp; omega) | omega) _ | refine Below.drew ?_ | refine Below.drewN ?_ _))
          clear hW
          have d0 := B6.cell 0 _ rfl
          have d1 := B6.cell 1 _ rfl
          refine bodyPost_ret (v := .tuple #[.agg #[.int .i64 (0), .int .i64 (0)], .bool false]) (by simp [results, Tryd.results56, go_sem, d0, d1]) rfl ?_
          exact ⟨by rw [ppE_f HO.out, HO.out], bW⟩
      ·
        go_simp
        rw [← HBN.out, ← HWE.out]
        refine hK.out _ _ hS1 (fun hHeld => ?_)
        clear hK K
        try simp only [Act.put, List.getElem_toArray, List.getElem_cons_zero, List.getElem_cons_succ, List.setIfInBounds_toArray, List.set_cons_zero, List.set_cons_succ]
        refine wpAnyH_ready (rs := [7]) (by kernel_rfl) (by simp) ?_
        refine AllReadyH.cons (o := _) rfl (fun K hK => ?_) AllReadyH.nil
        go_simp
        refine (HR2.out _).mono ?_
        rintro e w' ⟨rfl, hw⟩
        subst w'
        refine hK.out _ _ hS1 (fun hHeld => ?_)
        clear hK K
        try simp only [Act.put, List.getElem_toArray, List.getElem_cons_zero, List.getElem_cons_succ, List.setIfInBounds_toArray, List.set_cons_zero, List.set_cons_succ]
        refine wpAnyH_take (i := 8) (v := ?_) rfl (by kernel_rfl) (by kernel_rfl) (by kernel_rfl) (fun _ _ _ h => h) (Or.inl ⟨by rfl, ?_⟩) (by assumption) ?_
        rotate_left
        · (intro w hSw; (try dsimp only at hSw); go_simp; try with_reducible rfl)
        try simp only [Act.put, List.getElem_toArray, List.getElem_cons_zero, List.getElem_cons_succ, List.setIfInBounds_toArray, List.set_cons_zero, List.set_cons_succ]
        refine wpAnyH_ready (rs := [10]) (by kernel_rfl) (by simp) ?_
        refine AllReadyH.cons (o := _) rfl (fun K hK => ?_) AllReadyH.nil
        go_simp
        refine hK.out _ _ hS2 (fun hHeld => ?_)
        clear hK K
        try simp only [Act.put, List.getElem_toArray, List.getElem_cons_zero, List.getElem_cons_succ, List.setIfInBounds_toArray, List.set_cons_zero, List.set_cons_succ]
        refine wpAnyH_done (by kernel_rfl) ?_ _
        have BE := BE2
        have b3 := b2
        have q0 := B2.cell 0 _ rfl
        have q1 := B2.cell 1 _ rfl
        generalize (we.setCell ⟨bn, 0, none⟩ (.int .i64 (readL a))).setCell ⟨bn, 1, none⟩ (.int .i64 (readL b)) = wz at *
        have z3 := BE.lt
        clear BE2 B2 b2 hS2 hHeld
        by_cases ha : 0 ≤ readL a
        · by_cases hb : 0 ≤ readL b
          · have HO : Hid (portOk s.data.toList = true) := by show _ = _; rw [HK.out, decide_eq_true ha, decide_eq_true hb]; rfl
            have HE2 := Lib.hid (HE.out HO.out)
            have e0 := BE.cell 0 _ rfl
            have e1 := BE.cell 1 _ rfl
            have f0 := BE.frozen 0
            have f1 := (BE.set 0 (.int .i64 (readL a))).frozen 1
            have e2 := (BE.set 0 (.int .i64 (readL a))).cell 1 _ rfl
            go_wp2_with fail
            generalize hW : World.setCell _ _ _ = W
            have B6 : Bx W w.heap.size 44 #[.int .i64 (readL a), .int .i64 (readL b)] := by rw [← hW]; exact (BE.set 0 _).set 1 _
            have bW : Below w.heap.size w W := by rw [← hW]; exact (by repeat (first | exact Below.refl _ _ | assumption | refine Below.alloc ?_ (by first | (simp; done) | (simp; omega) | omega) _ | refine Below.setCell ?_ (by first | (simp; done) | (simp; omega) | omega) _ | refine Below.drew ?_ | refine Below.drewN ?_ _))
            clear hW
            have d0 := B6.cell 0 _ rfl
            have d1 := B6.cell 1 _ rfl
            refine bodyPost_ret (v := .tuple #[.agg #[.int .i64 (readL a), .int .i64 (readL b)], .bool true]) (by simp [results, Tryd.results56, go_sem, d0, d1]) rfl ?_
            exact ⟨by rw [HE2.out, HO.out], bW⟩
          · have HO : Hid (portOk s.data.toList = false) := by show _ = _; rw [HK.out, decide_eq_false hb, Bool.and_false]
            have hb2 : readL b < 0 := by omega
            clear hb
            have e0 := BE.cell 0 _ rfl
            have e1 := BE.cell 1 _ rfl
            have f0 := BE.frozen 0
            have f1 := (BE.set 0 (.int .i64 (0))).frozen 1
            have e2 := (BE.set 0 (.int .i64 (0))).cell 1 _ rfl
            go_wp2_with fail
            generalize hW : World.setCell _ _ _ = W
            have B6 : Bx W w.heap.size 44 #[.int .i64 (0), .int .i64 (0)] := by rw [← hW]; exact (BE.set 0 _).set 1 _
            have bW : Below w.heap.size w W := by rw [← hW]; exact (by repeat (first | exact Below.refl _ _ | assumption | refine Below.alloc ?_ (by first | (simp; done) | (simp; omega) | omega) _ | refine Below.setCell ?_ (by first | (simp; done) | (simp; omega) | omega) _ | refine Below.drew ?_ | refine Below.drewN ?_ _))
            clear hW
            have d0 := B6.cell 0 _ rfl
            have d1 := B6.cell 1 _ rfl
            refine bodyPost_ret (v := .tuple #[.agg #[.int .i64 (0), .int .i64 (0)], .bool false]) (by simp [results, Tryd.results56, go_sem, d0, d1]) rfl ?_
            exact ⟨by rw [ppE_f HO.out, HO.out], bW⟩
        · have HO : Hid (portOk s.data.toList = false) := by show _ = _; rw [HK.out, decide_eq_false ha]; rfl
          have ha2 : readL a < 0 := by omega
          clear ha
          have e0 := BE.cell 0 _ rfl
          have e1 := BE.cell 1 _ rfl
          have f0 := BE.frozen 0
          have f1 := (BE.set 0 (.int .i64 (0))).frozen 1
          have e2 := (BE.set 0 (.int .i64 (0))).cell 1 _ rfl
          go_wp2_with fail
          generalize hW : World.setCell _ _ _ = W
          have B6 : Bx W w.heap.size 44 #[.int .i64 (0), .int .i64 (0)] := by rw [← hW]; exact (BE.set 0 _).set 1 _
          have bW : Below w.heap.size w W := by rw [← hW]; exact (by repeat (first | exact Below.refl _ _ | assumption | refine Below.alloc ?_ (by first | (simp; done) | (simp; omega) | omega) _ | refine Below.setCell ?_ (by first | (simp; done) | (simp; omega) | omega) _ | refine Below.drew ?_ | refine Below.drewN ?_ _))
          clear hW
          have d0 := B6.cell 0 _ rfl
          have d1 := B6.cell 1 _ rfl
          refine bodyPost_ret (v := .tuple #[.agg #[.int .i64 (0), .int .i64 (0)], .bool false]) (by simp [results, Tryd.results56, go_sem, d0, d1]) rfl ?_
          exact ⟨by rw [ppE_f HO.out, HO.out], bW⟩
    ·
      go_simp
      rw [← HBN.out, ← HWE.out]
      refine hK.out _ _ hS1 (fun hHeld => ?_)
      clear hK K
      try simp only [Act.put, List.getElem_toArray, List.getElem_cons_zero, List.getElem_cons_succ, List.setIfInBounds_toArray, List.set_cons_zero, List.set_cons_succ]
      refine wpAnyH_ready (rs := [3]) (by kernel_rfl) (by simp) ?_
      refine AllReadyH.cons (o := _) rfl (fun K hK => ?_) AllReadyH.nil
      go_simp
      refine (HR1.out _).mono ?_
      rintro e w' ⟨rfl, hw⟩
      subst w'
      refine hK.out _ _ hS1 (fun hHeld => ?_)
      clear hK K
      try simp only [Act.put, List.getElem_toArray, List.getElem_cons_zero, List.getElem_cons_succ, List.setIfInBounds_toArray, List.set_cons_zero, List.set_cons_succ]
      refine wpAnyH_ready (rs := [7]) (by kernel_rfl) (by simp) ?_
      refine AllReadyH.cons (o := _) rfl (fun K hK => ?_) AllReadyH.nil
      go_simp
      refine (HR2.out _).mono ?_
      rintro e w' ⟨rfl, hw⟩
      subst w'
      refine hK.out _ _ hS1 (fun hHeld => ?_)
      clear hK K
      try simp only [Act.put, List.getElem_toArray, List.getElem_cons_zero, List.getElem_cons_succ, List.setIfInBounds_toArray, List.set_cons_zero, List.set_cons_succ]
      refine wpAnyH_take (i := 8) (v := ?_) rfl (by kernel_rfl) (by kernel_rfl) (by kernel_rfl) (fun _ _ _ h => h) (Or.inl ⟨by rfl, ?_⟩) (by assumption) ?_
      rotate_left
      · (intro w hSw; (try dsimp only at hSw); go_simp; try with_reducible rfl)
      try simp only [Act.put, List.getElem_toArray, List.getElem_cons_zero, List.getElem_cons_succ, List.setIfInBounds_toArray, List.set_cons_zero, List.set_cons_succ]
      refine wpAnyH_ready (rs := [10]) (by kernel_rfl) (by simp) ?_
      refine AllReadyH.cons (o := _) rfl (fun K hK => ?_) AllReadyH.nil
      go_simp
      refine hK.out _ _ hS2 (fun hHeld => ?_)
      clear hK K
      try simp only [Act.put, List.getElem_toArray, List.getElem_cons_zero, List.getElem_cons_succ, List.setIfInBounds_toArray, List.set_cons_zero, List.set_cons_succ]
      refine wpAnyH_done (by kernel_rfl) ?_ _
      have BE := BE2
      have b3 := b2
      have q0 := B2.cell 0 _ rfl
      have q1 := B2.cell 1 _ rfl
      generalize (we.setCell ⟨bn, 0, none⟩ (.int .i64 (readL a))).setCell ⟨bn, 1, none⟩ (.int .i64 (readL b)) = wz at *
      have z3 := BE.lt
      clear BE2 B2 b2 hS2 hHeld
      by_cases ha : 0 ≤ readL a
      · by_cases hb : 0 ≤ readL b
        · have HO : Hid (portOk s.data.toList = true) := by show _ = _; rw [HK.out, decide_eq_true ha, decide_eq_true hb]; rfl
          have HE2 := Lib.hid (HE.out HO.out)
          have e0 := BE.cell 0 _ rfl
          have e1 := BE.cell 1 _ rfl
          have f0 := BE.frozen 0
          have f1 := (BE.set 0 (.int .i64 (readL a))).frozen 1
          have e2 := (BE.set 0 (.int .i64 (readL a))).cell 1 _ rfl
          go_wp2_with fail
          generalize hW : World.setCell _ _ _ = W
          have B6 : Bx W w.heap.size 44 #[.int .i64 (readL a), .int .i64 (readL b)] := by rw [← hW]; exact (BE.set 0 _).set 1 _
          have bW : Below w.heap.size w W := by rw [← hW]; exact (by repeat (first | exact Below.refl _ _ | assumption | refine Below.alloc ?_ (by first | (simp; done) | (simp; omega) | omega) _ | refine Below.setCell ?_ (by first | (simp; done) | (simp; omega) | omega) _ | refine Below.drew ?_ | refine Below.drewN ?_ _))
          clear hW
          have d0 := B6.cell 0 _ rfl
          have d1 := B6.cell 1 _ rfl
          refine bodyPost_ret (v := .tuple #[.agg #[.int .i64 (readL a), .int .i64 (readL b)], .bool true]) (by simp [results, Tryd.results56, go_sem, d0, d1]) rfl ?_
          exact ⟨by rw [HE2.out, HO.out], bW⟩
        · have HO : Hid (portOk s.data.toList = false) := by show _ = _; rw [HK.out, decide_eq_false hb, Bool.and_false]
          have hb2 : readL b < 0 := by omega
          clear hb
          have e0 := BE.cell 0 _ rfl
          have e1 := BE.cell 1 _ rfl
          have f0 := BE.frozen 0
          have f1 := (BE.set 0 (.int .i64 (0))).frozen 1
          have e2 := (BE.set 0 (.int .i64 (0))).cell 1 _ rfl
          go_wp2_with fail
          generalize hW : World.setCell _ _ _ = W
          have B6 : Bx W w.heap.size 44 #[.int .i64 (0), .int .i64 (0)] := by rw [← hW]; exact (BE.set 0 _).set 1 _
          have bW : Below w.heap.size w W := by rw [← hW]; exact (by repeat (first | exact Below.refl _ _ | assumption | refine Below.alloc ?_ (by first | (simp; done) | (simp; omega) | omega) _ | refine Below.setCell ?_ (by first | (simp; done) | (simp; omega) | omega) _ | refine Below.drew ?_ | refine Below.drewN ?_ _))
          clear hW
          have d0 := B6.cell 0 _ rfl
          have d1 := B6.cell 1 _ rfl
          refine bodyPost_ret (v := .tuple #[.agg #[.int .i64 (0), .int .i64 (0)], .bool false]) (by simp [results, Tryd.results56, go_sem, d0, d1]) rfl ?_
          exact ⟨by rw [ppE_f HO.out, HO.out], bW⟩
      · have HO : Hid (portOk s.data.toList = false) := by show _ = _; rw [HK.out, decide_eq_false ha]; rfl
        have ha2 : readL a < 0 := by omega
        clear ha
        have e0 := BE.cell 0 _ rfl
        have e1 := BE.cell 1 _ rfl
        have f0 := BE.frozen 0
        have f1 := (BE.set 0 (.int .i64 (0))).frozen 1
        have e2 := (BE.set 0 (.int .i64 (0))).cell 1 _ rfl
        go_wp2_with fail
        generalize hW : World.setCell _ _ _ = W
        have B6 : Bx W w.heap.size 44 #[.int .i64 (0), .int .i64 (0)] := by rw [← hW]; exact (BE.set 0 _).set 1 _
        have bW : Below w.heap.size w W := by rw [← hW]; exact (by repeat (first | exact Below.refl _ _ | assumption | refine Below.alloc ?_ (by first | (simp; done) | (simp; omega) | omega) _ | refine Below.setCell ?_ (by first | (simp; done) | (simp; omega) | omega) _ | refine Below.drew ?_ | refine Below.drewN ?_ _))
        clear hW
        have d0 := B6.cell 0 _ rfl
        have d1 := B6.cell 1 _ rfl
        refine bodyPost_ret (v := .tuple #[.agg #[.int .i64 (0), .int .i64 (0)], .bool false]) (by simp [results, Tryd.results56, go_sem, d0, d1]) rfl ?_
        exact ⟨by rw [ppE_f HO.out, HO.out], bW⟩
  · have HO := Lib.hid (portOk_len h2)
    have hsp2 := Lib.hid hsp
    clear hsp
    have BE := Bx.made w 44 #[.int .i64 0, .int .i64 0]
    have b0 : Below w.heap.size w (w.alloc (.cells #[.int .i64 0, .int .i64 0] 44)) := (by repeat (first | exact Below.refl _ _ | assumption | refine Below.alloc ?_ (by first | (simp; done) | (simp; omega) | omega) _ | refine Below.setCell ?_ (by first | (simp; done) | (simp; omega) | omega) _ | refine Below.drew ?_ | refine Below.drewN ?_ _))
    go_enter Tryd.func56, Tryd.ntmps56
    go_upto_region 1 with fail
    generalize w.alloc (.cells #[.int .i64 0, .int .i64 0] 44) = w0 at *
    go_wp2_with fail
    refine (hsp2.out _).mono ?_
    rintro e w1 ⟨aa, cap, rfl, own, bel⟩
    replace BE := BE.new bel
    replace b0 := b0.trans (bel.mono b0.size)
    have z3 := BE.lt
    have hne : (((spl 46 s.data.toList).length : Int) == 2) = false := by rw [beq_eq_false_iff_ne]; omega
    have e0 := BE.cell 0 _ rfl
    have e1 := BE.cell 1 _ rfl
    have f0 := BE.frozen 0
    have f1 := (BE.set 0 (.int .i64 (0))).frozen 1
    have e2 := (BE.set 0 (.int .i64 (0))).cell 1 _ rfl
    go_wp2_with fail
    generalize hW : World.setCell _ _ _ = W
    have B6 : Bx W w.heap.size 44 #[.int .i64 (0), .int .i64 (0)] := by rw [← hW]; exact (BE.set 0 _).set 1 _
    have bW : Below w.heap.size w W := by rw [← hW]; exact (by repeat (first | exact Below.refl _ _ | assumption | refine Below.alloc ?_ (by first | (simp; done) | (simp; omega) | omega) _ | refine Below.setCell ?_ (by first | (simp; done) | (simp; omega) | omega) _ | refine Below.drew ?_ | refine Below.drewN ?_ _))
    clear hW
    have d0 := B6.cell 0 _ rfl
    have d1 := B6.cell 1 _ rfl
    refine bodyPost_ret (v := .tuple #[.agg #[.int .i64 (0), .int .i64 (0)], .bool false]) (by simp [results, Tryd.results56, go_sem, d0, d1]) rfl ?_
    exact ⟨by rw [ppE_f HO.out, HO.out], bW⟩
end Go.Proofs.YtmjmgggfmccjmaaDoor
