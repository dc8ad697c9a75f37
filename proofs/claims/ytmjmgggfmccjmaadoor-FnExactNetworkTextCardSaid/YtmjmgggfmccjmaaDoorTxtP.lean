/- PortText: the walks and the law. -/
import Derived.Test.YtmjmgggfmccjmaaDoorTxtE
import Derived.Test.YtmjmgggfmccjmaaDoorEnds
import Derived.Test.YtmjmgggfmccjmaaDoorShelf
import Derived.Stop.LaidErr
namespace Go.Proofs.YtmjmgggfmccjmaaDoor
open Go.RowKit
set_option linter.unusedVariables false
set_option linter.unusedSimpArgs false
def ptOk (x y : Int) : Bool := inR x 0 999999 && inR y 0 999999
def ptR (x y : Int) : ByteArray := if ptOk x y then endT x.toNat y.toNat else ByteArray.empty
theorem ptR_f {x y : Int} (h : ptOk x y = false) : ptR x y = ByteArray.empty := by rw [ptR, h]; rfl
theorem ptR_t {x y : Int} (h : ptOk x y = true) : ptR x y = endT x.toNat y.toNat := by rw [ptR, h]; rfl
theorem ptOk_f0 {x y : Int} (h : inR x 0 999999 = false) : ptOk x y = false := by rw [ptOk, h]; rfl
theorem ptOk_f1 {x y : Int} (h : inR y 0 999999 = false) : ptOk x y = false := by rw [ptOk, h, Bool.and_false]
theorem ptOk_t {x y : Int} (h : inR x 0 999999 = true) (h' : inR y 0 999999 = true) : ptOk x y = true := by rw [ptOk, h, h']; rfl
/-- the library's table of powers -/
def PTab (w : World) : Prop := Lib.TabIs Tryd.prog w "internal/strconv.uint64pow10" .u64 Lib.pow10Tab
theorem txSix_any (x : Int) (w : World) : Calls Tryd.prog 48 #[.int .i64 x] w fun e w' => e = .returned (.bool (inR x 0 999999)) ∧ w = w' := by
  go_enter Tryd.func48, Tryd.ntmps48
  go_wp2_with (go_at_call 62; refine (l1In_any _ _ _ _).mono ?_; rintro e w' ⟨rfl, rfl⟩)
  go_ret
  exact ⟨rfl, rfl⟩
set_option maxRecDepth 100000 in
set_option maxHeartbeats 800000 in
theorem specPort_any (x y : Int) (w : World) : Calls Tryd.prog 19 #[.agg #[.int .i64 x, .int .i64 y]] w fun e w' => e = .returned (.tuple #[.string (ptR x y), .bool (ptOk x y)]) ∧ Below w.heap.size w w' := by
  cases i1 : inR x 0 999999 with
  | false =>
    have HO := Lib.hid (ptOk_f0 (y := y) i1)
    have BE := Bx.made w 44 #[.int .i64 x, .int .i64 y]
    have b0 : Below w.heap.size w (w.alloc (.cells #[.int .i64 x, .int .i64 y] 44)) := (by repeat (first | exact Below.refl _ _ | assumption | refine Below.alloc ?_ (by first | (simp; done) | (simp; omega) | omega) _ | refine Below.setCell ?_ (by first | (simp; done) | (simp; omega) | omega) _ | refine Below.drew ?_ | refine Below.drewN ?_ _))
    go_enter Tryd.func19, Tryd.ntmps19
    go_upto_region 1 with fail
    generalize w.alloc (.cells #[.int .i64 x, .int .i64 y] 44) = W0 at *
    have q0 := BE.cell 0 _ rfl
    have q1 := BE.cell 1 _ rfl
    clear BE
    go_wp2_with (go_at_call 48; refine (txSix_any _ _).mono ?_; rintro e w' ⟨rfl, rfl⟩)
    refine bodyPost_ret (v := .tuple #[.string ⟨#[]⟩, .bool false]) (by simp [results, Tryd.results19, go_sem]) rfl ?_
    exact ⟨by rw [ptR_f HO.out, HO.out]; first | done | rfl, b0⟩
  | true =>
  cases i2 : inR y 0 999999 with
  | false =>
    have HO := Lib.hid (ptOk_f1 (x := x) i2)
    have BE := Bx.made w 44 #[.int .i64 x, .int .i64 y]
    have b0 : Below w.heap.size w (w.alloc (.cells #[.int .i64 x, .int .i64 y] 44)) := (by repeat (first | exact Below.refl _ _ | assumption | refine Below.alloc ?_ (by first | (simp; done) | (simp; omega) | omega) _ | refine Below.setCell ?_ (by first | (simp; done) | (simp; omega) | omega) _ | refine Below.drew ?_ | refine Below.drewN ?_ _))
    go_enter Tryd.func19, Tryd.ntmps19
    go_upto_region 1 with fail
    generalize w.alloc (.cells #[.int .i64 x, .int .i64 y] 44) = W0 at *
    have q0 := BE.cell 0 _ rfl
    have q1 := BE.cell 1 _ rfl
    clear BE
    go_wp2_with (go_at_call 48; refine (txSix_any _ _).mono ?_; rintro e w' ⟨rfl, rfl⟩)
    refine bodyPost_ret (v := .tuple #[.string ⟨#[]⟩, .bool false]) (by simp [results, Tryd.results19, go_sem]) rfl ?_
    exact ⟨by rw [ptR_f HO.out, HO.out]; first | done | rfl, b0⟩
  | true =>
    have HO := Lib.hid (ptOk_t i1 i2)
    obtain ⟨hx0, hx1⟩ := inR_iff.1 i1
    obtain ⟨hy0, hy1⟩ := inR_iff.1 i2
    obtain ⟨a, rfl⟩ := Int.eq_ofNat_of_zero_le hx0
    obtain ⟨b, rfl⟩ := Int.eq_ofNat_of_zero_le hy0
    have ha : a < 1000000 := by omega
    have hb : b < 1000000 := by omega
    clear hx0 hx1 hy0 hy1
    have BE := Bx.made w 44 #[.int .i64 (a : Int), .int .i64 (b : Int)]
    have b0 : Below w.heap.size w (w.alloc (.cells #[.int .i64 (a : Int), .int .i64 (b : Int)] 44)) := (by repeat (first | exact Below.refl _ _ | assumption | refine Below.alloc ?_ (by first | (simp; done) | (simp; omega) | omega) _ | refine Below.setCell ?_ (by first | (simp; done) | (simp; omega) | omega) _ | refine Below.drew ?_ | refine Below.drewN ?_ _))
    go_enter Tryd.func19, Tryd.ntmps19
    go_upto_region 1 with fail
    generalize w.alloc (.cells #[.int .i64 (a : Int), .int .i64 (b : Int)] 44) = W0 at *
    have q0 := BE.cell 0 _ rfl
    have q1 := BE.cell 1 _ rfl
    clear BE
    go_wp2_with (first | (go_at_call 48; refine (txSix_any _ _).mono ?_; rintro e w' ⟨rfl, rfl⟩) | (go_at_call 49; refine (txEnd_any a b _ ha hb).mono ?_; rintro e w1 ⟨rfl, bel1⟩))
    refine bodyPost_ret (v := .tuple #[.string (endT a b), .bool true]) (by simp [results, Tryd.results19, go_sem]) rfl ?_
    exact ⟨by rw [ptR_t HO.out, HO.out]; rfl, b0.trans (bel1.mono b0.size)⟩
theorem grow_below {w w1 : World} (h : ∃ (k : Nat) (os : Array Obj), w1 = Go.Sort.grow (w.drewN k) os) : Below w.heap.size w w1 := by
  obtain ⟨k, os, rfl⟩ := h
  refine ⟨rfl, rfl, rfl, ?_, fun j hj => ?_⟩
  · show w.heap.size ≤ (w.heap ++ os).size
    rw [Array.size_append]; omega
  · show (w.heap ++ os)[j]? = w.heap[j]?
    rw [Array.getElem?_append_left hj]
theorem itoa_any (m : Nat) (w : World) (hm : m < 1000000) (htab : PTab w) :
    Calls Tryd.prog 51 #[.int .i64 m] w fun e w' => e = .returned (.string (decB m)) ∧ Below w.heap.size w w' := by
  refine (Tryd.strconv_Itoa (m : Int) (by omega) (by omega) w htab).mono ?_
  rintro e w1 ⟨rfl, hg⟩
  exact ⟨by rw [itoaB], grow_below hg⟩
theorem PTab.below {w w' : World} (h : PTab w) (hb : Below w.heap.size w w') : PTab w' := by
  unfold PTab Lib.TabIs World.var? at h ⊢
  rw [show Tryd.prog.globalNamed "internal/strconv.uint64pow10" = some 3 by kernel_rfl] at h ⊢
  simp only [Option.bind_some] at h ⊢
  have hlt : 3 < w.heap.size := by
    rcases Nat.lt_or_ge 3 w.heap.size with h' | h'
    · exact h'
    · rw [Array.getElem?_eq_none h'] at h; cases h
  rw [hb.block _ hlt]
  exact h
/-- the table's fact from a row's list -/
theorem ptab_of {W : World} {a b : String × DataW Unit} {r : List (String × DataW Unit)} (h : laidMet Tryd.prog (a :: b :: ("internal/strconv.uint64pow10", Lib.tabData .u64 Lib.pow10Tab) :: r) W) : PTab W :=
  Lib.tabIs_of_head (g := 3) (t := 147) (e := 125) (n := 20) (by kernel_rfl) (by kernel_rfl) (by kernel_rfl) (by kernel_rfl) (by kernel_rfl) (by kernel_rfl) h.tail.tail
set_option maxRecDepth 100000 in
set_option maxHeartbeats 800000 in
theorem implPort_any (x y : Int) (w : World) (htab : PTab w) : Calls Tryd.prog 21 #[.agg #[.int .i64 x, .int .i64 y]] w fun e w' => e = .returned (.tuple #[.string (ptR x y), .bool (ptOk x y)]) ∧ Below w.heap.size w w' := by
  cases i1 : inR x 0 999999 with
  | false =>
    have HO := Lib.hid (ptOk_f0 (y := y) i1)
    have BE := Bx.made w 44 #[.int .i64 x, .int .i64 y]
    have b0 : Below w.heap.size w (w.alloc (.cells #[.int .i64 x, .int .i64 y] 44)) := (by repeat (first | exact Below.refl _ _ | assumption | refine Below.alloc ?_ (by first | (simp; done) | (simp; omega) | omega) _ | refine Below.setCell ?_ (by first | (simp; done) | (simp; omega) | omega) _ | refine Below.drew ?_ | refine Below.drewN ?_ _))
    go_enter Tryd.func21, Tryd.ntmps21
    go_upto_region 1 with fail
    generalize w.alloc (.cells #[.int .i64 x, .int .i64 y] 44) = W0 at *
    have q0 := BE.cell 0 _ rfl
    have q1 := BE.cell 1 _ rfl
    clear BE
    go_wp2_with (go_at_call 50; refine (within_any _ _ _ _).mono ?_; rintro e w' ⟨rfl, rfl⟩)
    refine bodyPost_ret (v := .tuple #[.string ⟨#[]⟩, .bool false]) (by simp [results, Tryd.results21, go_sem]) rfl ?_
    exact ⟨by rw [ptR_f HO.out, HO.out]; first | done | rfl, b0⟩
  | true =>
  cases i2 : inR y 0 999999 with
  | false =>
    have HO := Lib.hid (ptOk_f1 (x := x) i2)
    have BE := Bx.made w 44 #[.int .i64 x, .int .i64 y]
    have b0 : Below w.heap.size w (w.alloc (.cells #[.int .i64 x, .int .i64 y] 44)) := (by repeat (first | exact Below.refl _ _ | assumption | refine Below.alloc ?_ (by first | (simp; done) | (simp; omega) | omega) _ | refine Below.setCell ?_ (by first | (simp; done) | (simp; omega) | omega) _ | refine Below.drew ?_ | refine Below.drewN ?_ _))
    go_enter Tryd.func21, Tryd.ntmps21
    go_upto_region 1 with fail
    generalize w.alloc (.cells #[.int .i64 x, .int .i64 y] 44) = W0 at *
    have q0 := BE.cell 0 _ rfl
    have q1 := BE.cell 1 _ rfl
    clear BE
    go_wp2_with (go_at_call 50; refine (within_any _ _ _ _).mono ?_; rintro e w' ⟨rfl, rfl⟩)
    refine bodyPost_ret (v := .tuple #[.string ⟨#[]⟩, .bool false]) (by simp [results, Tryd.results21, go_sem]) rfl ?_
    exact ⟨by rw [ptR_f HO.out, HO.out]; first | done | rfl, b0⟩
  | true =>
    have HO := Lib.hid (ptOk_t i1 i2)
    obtain ⟨hx0, hx1⟩ := inR_iff.1 i1
    obtain ⟨hy0, hy1⟩ := inR_iff.1 i2
    obtain ⟨a, rfl⟩ := Int.eq_ofNat_of_zero_le hx0
    obtain ⟨b, rfl⟩ := Int.eq_ofNat_of_zero_le hy0
    have ha : a < 1000000 := by omega
    have hb : b < 1000000 := by omega
    clear hx0 hx1 hy0 hy1
    have hdot := fun X => dot_add a X ha
    have hend := fun X => endT_add a b X ha hb
    have BE := Bx.made w 44 #[.int .i64 (a : Int), .int .i64 (b : Int)]
    have b0 : Below w.heap.size w (w.alloc (.cells #[.int .i64 (a : Int), .int .i64 (b : Int)] 44)) := (by repeat (first | exact Below.refl _ _ | assumption | refine Below.alloc ?_ (by first | (simp; done) | (simp; omega) | omega) _ | refine Below.setCell ?_ (by first | (simp; done) | (simp; omega) | omega) _ | refine Below.drew ?_ | refine Below.drewN ?_ _))
    go_enter Tryd.func21, Tryd.ntmps21
    go_upto_region 1 with fail
    generalize w.alloc (.cells #[.int .i64 (a : Int), .int .i64 (b : Int)] 44) = W0 at *
    have q0 := BE.cell 0 _ rfl
    have q1 := BE.cell 1 _ rfl
    go_upto_region 3 with (go_at_call 50; refine (within_any _ _ _ _).mono ?_; rintro e w' ⟨rfl, rfl⟩)
    clear q0 q1
    have bd := b0.drew
    have ht := htab.below bd
    have BEd : Bx W0.drew w.heap.size 44 #[.int .i64 (a : Int), .int .i64 (b : Int)] := BE
    refine wp_region_held_drew (S := fun X => X.cell? ⟨w.heap.size, 0, none⟩ = some (.int .i64 (a : Int)) ∧ X.cell? ⟨w.heap.size, 1, none⟩ = some (.int .i64 (b : Int))) (by kernel_rfl) ⟨BEd.cell 0 _ rfl, BEd.cell 1 _ rfl⟩ (fun hHeld => ?_)
    clear BE b0
    generalize W0.drew = wd at *
    refine wpAnyH_take (i := 0) (v := ?_) rfl (by kernel_rfl) (by kernel_rfl) (by kernel_rfl) (fun _ _ _ h => h) (Or.inl ⟨by rfl, ?_⟩) (by assumption) ?_
    rotate_left
    · (intro w hSw; (try dsimp only at hSw); obtain ⟨hq0, hq1⟩ := hSw; go_simp; try with_reducible rfl)
    try simp only [Act.put, List.getElem_toArray, List.getElem_cons_zero, List.getElem_cons_succ, List.setIfInBounds_toArray, List.set_cons_zero, List.set_cons_succ]
    refine wpAnyH_take (i := 1) (v := ?_) rfl (by kernel_rfl) (by kernel_rfl) (by kernel_rfl) (fun _ _ _ h => h) (Or.inl ⟨by rfl, ?_⟩) (by assumption) ?_
    rotate_left
    · (intro w hSw; (try dsimp only at hSw); obtain ⟨hq0, hq1⟩ := hSw; go_simp; try with_reducible rfl)
    try simp only [Act.put, List.getElem_toArray, List.getElem_cons_zero, List.getElem_cons_succ, List.setIfInBounds_toArray, List.set_cons_zero, List.set_cons_succ]
    refine wpAnyH_take (i := 4) (v := ?_) rfl (by kernel_rfl) (by kernel_rfl) (by kernel_rfl) (fun _ _ _ h => h) (Or.inl ⟨by rfl, ?_⟩) (by assumption) ?_
    rotate_left
    · (intro w hSw; (try dsimp only at hSw); obtain ⟨hq0, hq1⟩ := hSw; go_simp; try with_reducible rfl)
    try simp only [Act.put, List.getElem_toArray, List.getElem_cons_zero, List.getElem_cons_succ, List.setIfInBounds_toArray, List.set_cons_zero, List.set_cons_succ]
    refine wpAnyH_take (i := 5) (v := ?_) rfl (by kernel_rfl) (by kernel_rfl) (by kernel_rfl) (fun _ _ _ h => h) (Or.inl ⟨by rfl, ?_⟩) (by assumption) ?_
    rotate_left
    · (intro w hSw; (try dsimp only at hSw); obtain ⟨hq0, hq1⟩ := hSw; go_simp; try with_reducible rfl)
    try simp only [Act.put, List.getElem_toArray, List.getElem_cons_zero, List.getElem_cons_succ, List.setIfInBounds_toArray, List.set_cons_zero, List.set_cons_succ]
    refine wpAnyH_ready (rs := [2]) (by kernel_rfl) (by simp) ?_
    refine AllReadyH.cons (o := _) rfl (fun K hK => ?_) AllReadyH.nil
    go_simp
    refine (itoa_any a _ ha (htab.below bd)).mono ?_
    rintro e w1 ⟨rfl, bel⟩
    replace BEd := BEd.new bel
    replace bd := bd.trans (bel.mono bd.size)
    clear bel
    refine hK.out _ _ ⟨BEd.cell 0 _ rfl, BEd.cell 1 _ rfl⟩ (fun hHeld => ?_)
    clear hK K
    try simp only [Act.put, List.getElem_toArray, List.getElem_cons_zero, List.getElem_cons_succ, List.setIfInBounds_toArray, List.set_cons_zero, List.set_cons_succ]
    refine wpAnyH_take (i := 3) (v := ?_) rfl (by kernel_rfl) (by kernel_rfl) (by kernel_rfl) (fun _ _ _ h => h) (Or.inl ⟨by rfl, ?_⟩) (by assumption) ?_
    rotate_left
    · (intro w hSw; (try dsimp only at hSw); go_simp; try with_reducible rfl)
    try simp only [Act.put, List.getElem_toArray, List.getElem_cons_zero, List.getElem_cons_succ, List.setIfInBounds_toArray, List.set_cons_zero, List.set_cons_succ]
    refine wpAnyH_ready (rs := [6]) (by kernel_rfl) (by simp) ?_
    refine AllReadyH.cons (o := _) rfl (fun K hK => ?_) AllReadyH.nil
    go_simp
    refine (itoa_any b _ hb (htab.below bd)).mono ?_
    rintro e w2 ⟨rfl, bel⟩
    replace BEd := BEd.new bel
    replace bd := bd.trans (bel.mono bd.size)
    clear bel
    refine hK.out _ _ ⟨BEd.cell 0 _ rfl, BEd.cell 1 _ rfl⟩ (fun hHeld => ?_)
    clear hK K
    try simp only [Act.put, List.getElem_toArray, List.getElem_cons_zero, List.getElem_cons_succ, List.setIfInBounds_toArray, List.set_cons_zero, List.set_cons_succ]
    refine wpAnyH_take (i := 7) (v := ?_) rfl (by kernel_rfl) (by kernel_rfl) (by kernel_rfl) (fun _ _ _ h => h) (Or.inl ⟨by rfl, ?_⟩) (by assumption) ?_
    rotate_left
    · (intro w hSw; (try dsimp only at hSw); go_simp; try with_reducible rfl)
    try simp only [Act.put, List.getElem_toArray, List.getElem_cons_zero, List.getElem_cons_succ, List.setIfInBounds_toArray, List.set_cons_zero, List.set_cons_succ]
    refine wpAnyH_ready (rs := [8]) (by kernel_rfl) (by simp) ?_
    refine AllReadyH.cons (o := _) rfl (fun K hK => ?_) AllReadyH.nil
    go_simp
    refine hK.out _ _ ⟨BEd.cell 0 _ rfl, BEd.cell 1 _ rfl⟩ (fun hHeld => ?_)
    clear hK K
    try simp only [Act.put, List.getElem_toArray, List.getElem_cons_zero, List.getElem_cons_succ, List.setIfInBounds_toArray, List.set_cons_zero, List.set_cons_succ]
    refine wpAnyH_ready (rs := [9]) (by kernel_rfl) (by simp) ?_
    refine AllReadyH.cons (o := _) rfl (fun K hK => ?_) AllReadyH.nil
    go_simp
    refine hK.out _ _ ⟨BEd.cell 0 _ rfl, BEd.cell 1 _ rfl⟩ (fun hHeld => ?_)
    clear hK K
    try simp only [Act.put, List.getElem_toArray, List.getElem_cons_zero, List.getElem_cons_succ, List.setIfInBounds_toArray, List.set_cons_zero, List.set_cons_succ]
    refine wpAnyH_done (by kernel_rfl) ?_ _
    go_wp2_with fail
    refine bodyPost_ret (v := .tuple #[.string (endT a b), .bool true]) (by simp [results, Tryd.results21, go_sem]) rfl ?_
    exact ⟨by rw [ptR_t HO.out, HO.out]; rfl, bd⟩
set_option maxRecDepth 100000 in
set_option maxHeartbeats 800000 in
theorem FnExactPortText_walk (x y : Int) (w : World) (hx : -9223372036854775808 ≤ x ∧ x ≤ 9223372036854775807) (hy : -9223372036854775808 ≤ y ∧ y ≤ 9223372036854775807) (htab : PTab w) :
    Calls Tryd.prog 5 #[.agg #[.int .i64 x, .int .i64 y]] w fun e w' => e = .returned (.bool true) ∧ Below w.heap.size w w' := by
  have b0 : Below w.heap.size w (w.alloc (.cells #[.int .i64 x, .int .i64 y] 42)) := (by repeat (first | exact Below.refl _ _ | assumption | refine Below.alloc ?_ (by first | (simp; done) | (simp; omega) | omega) _ | refine Below.setCell ?_ (by first | (simp; done) | (simp; omega) | omega) _ | refine Below.drew ?_ | refine Below.drewN ?_ _))
  have BE := Bx.made w 42 #[.int .i64 x, .int .i64 y]
  go_enter Tryd.func5, Tryd.ntmps5
  go_upto_region 1 with fail
  generalize w.alloc (.cells #[.int .i64 x, .int .i64 y] 42) = W0 at *
  have q0 := BE.cell 0 _ rfl
  have q1 := BE.cell 1 _ rfl
  go_wp2_with fail
  refine (toEnd_any x y _).mono ?_
  rintro e w1 ⟨rfl, bel1⟩
  replace BE := BE.new bel1
  replace b0 := b0.trans (bel1.mono b0.size)
  clear bel1 q0 q1 W0
  go_wp2_with fail
  refine (specPort_any x y _).mono ?_
  rintro e w2 ⟨rfl, bel1⟩
  replace BE := BE.new bel1
  replace b0 := b0.trans (bel1.mono b0.size)
  clear bel1 w1
  have q0 := BE.cell 0 _ rfl
  have q1 := BE.cell 1 _ rfl
  go_wp2_with fail
  refine (toEnd_any x y _).mono ?_
  rintro e w1 ⟨rfl, bel1⟩
  replace BE := BE.new bel1
  replace b0 := b0.trans (bel1.mono b0.size)
  clear bel1 q0 q1 w2
  go_wp2_with fail
  refine (implPort_any x y _ (htab.below b0)).mono ?_
  rintro e w2 ⟨rfl, bel1⟩
  replace b0 := b0.trans (bel1.mono b0.size)
  clear bel1 BE w1
  generalize ptR x y = R at *
  generalize ptOk x y = ok at *
  go_wp2_with fail
  go_ret
  exact ⟨rfl, b0⟩
/-- the table's fact from the row's list -/
theorem ptab_PortText {W : World} (h : laidMetH Tryd.prog Rows.fnExactPortTextRow.laid W) : PTab W := by
  rw [MakeChecks.laidMetH_plain _ _ _ (by kernel_rfl)] at h
  have h1 : laidMet Tryd.prog [("math/bits.deBruijn32tab", Rows.laid_math_bits_deBruijn32tab), ("math/bits.deBruijn64tab", Rows.laid_math_bits_deBruijn64tab), ("internal/strconv.uint64pow10", Lib.tabData .u64 Lib.pow10Tab)] W := h
  exact ptab_of h1
end Go.Proofs.YtmjmgggfmccjmaaDoor
