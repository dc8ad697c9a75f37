/- RemoveEdge: impl's closure and function; the law. -/
import Derived.Test.YtlooinhdehkcdaaPrtI
namespace Go.Proofs.Ytlooinhdehkcdaa
open Go.RowKit
set_option linter.unusedVariables false
set_option linter.unusedSimpArgs false





theorem mapNth {l : List Int} {n : Nat} (h : l.length = n) : (List.range n).map (fun v => nth l v) = l := by
  refine list_ext_nth (by simp [h]) fun j hj => ?_
  rw [nth_rangeMapV _ _ _ (by simpa using hj)]
theorem mapNums {β : Type} (f : Int → β) (n : Nat) : (numsL n).map f = (List.range n).map fun (v : Nat) => f (v : Int) := by
  have e : numsL n = (List.range n).map fun v => ((v : Nat) : Int) := by
    refine list_ext_nth (by rw [numsL_length]; simp) fun j hj => ?_
    rw [numsL_length] at hj
    rw [numsL_nth hj, nth_rangeMapV _ _ _ hj]
  rw [e, List.map_map]; rfl
theorem numsOk {N : Net} (h : netB N = true) {v i : Nat} (hv : v < N.ends.length) (hi : i < (rowOf N.ends v).length) : PartOk N (numsL N.ends.length) (rmK N.ends v i) (fun x => x) := by
  refine ⟨by rw [numsL_length]; exact (netB_small h).1, fun k hk => ?_⟩
  rw [numsL_length] at hk
  refine ⟨k, numsL_nth hk, hk, rfl, fun j hj hkp => ?_⟩
  obtain ⟨p, q, e, hp, hq, _⟩ := net_back h hk hj
  refine ⟨p, by rw [numsL_length]; exact hp, by rw [e, numsL_nth hp], ?_⟩
  exact rmK_back h hv hi hk hj hkp
theorem numsPart {N : Net} (h : netB N = true) (kp : Nat → Nat → Bool) : partN N (numsL N.ends.length) kp (fun x => x) = cutN N kp := by
  unfold partN partT cutN
  rw [List.take_length, mapNums, mapNums, mapNums]
  simp only [Int.toNat_natCast]
  have h3 : N.inputs.length = N.ends.length := by have := (netB_small h).2.2.2.2; omega
  rw [mapNth h3]
  rcases netB_ids h with h1 | h1
  · rw [h1, if_neg (Nat.lt_irrefl 0)]
    rw [List.length_eq_zero_iff.1 h1]
  · rw [mapNth h1, if_pos (by have := (netB_small h).2.1; omega)]
set_option maxRecDepth 100000 in
set_option maxHeartbeats 800000 in
theorem rmC_any (v i p q w j x1 x2 : Nat) (X : World) (h1 : Bx X x1 62 #[.int .i64 (v : Int), .int .i64 (i : Int)]) (h2 : Bx X x2 62 #[.int .i64 (p : Int), .int .i64 (q : Int)]) :
    Calls Try.prog 57 #[.int .i64 (w : Int), .int .i64 (j : Int), .pointer (some ⟨x1, 0, none⟩), .pointer (some ⟨x2, 0, none⟩)] X fun e w' => e = .returned (.bool (!(decide (w = v ∧ j = i)) && !(decide (((w : Nat) : Int) = (p : Int) ∧ ((j : Nat) : Int) = (q : Int))))) ∧ Below X.heap.size X w' := by
  have a0 := h1.cell 0 _ rfl
  have a1 := h1.cell 1 _ rfl
  have b0 := h2.cell 0 _ rfl
  have b1 := h2.cell 1 _ rfl
  clear h1 h2
  cases hc1 : decide (w = v ∧ j = i) with
  | true =>
    obtain ⟨rfl, rfl⟩ := of_decide_eq_true hc1
    clear hc1
    go_enter Try.func57, Try.ntmps57
    go_wp2_with fail
    go_ret
    exact ⟨rfl, Below.refl _ _⟩
  | false =>
    have hc1 := of_decide_eq_false hc1
    cases hc2 : decide (((w : Nat) : Int) = (p : Int) ∧ ((j : Nat) : Int) = (q : Int)) with
    | true =>
      have hc2 := of_decide_eq_true hc2
      go_enter Try.func57, Try.ntmps57
      go_wp2_with fail
      all_goals
        go_ret
        exact ⟨rfl, Below.refl _ _⟩
    | false =>
      have hc2 := of_decide_eq_false hc2
      go_enter Try.func57, Try.ntmps57
      go_wp2_with fail
      all_goals
        go_ret
        exact ⟨rfl, Below.refl _ _⟩
set_option maxRecDepth 100000 in
set_option maxHeartbeats 3200000 in
theorem rmv_any (V : Value) (N : Net) (v i : Int) (w : World) (B : Nat) (hv : NetIn w B V N) (hB : B ≤ w.heap.size) (hs : NetSmall N) :
    Calls Try.prog 22 #[V, .int .i64 v, .int .i64 i] w (PostN (rmN N v i) (rmOk N v i) w) := by
  have HV2 := Lib.hid hv
  have HV := Lib.hid hv
  have HS := Lib.hid hs
  obtain ⟨a, c, vs, ai, ci, ap, cp, rfl, h1, _⟩ := hv
  have hl : N.ends.length ≤ 1048576 := by unfold NetSmall at hs; omega
  have BA := (Bx.made w 29 #[.slice a N.ends.length c, .slice ai N.ids.length ci, .slice ap N.inputs.length cp]).alloc (.cells #[.slice none 0 0, .slice none 0 0, .slice none 0 0] 29)
  have BR := Bx.made (w.alloc (.cells #[.slice a N.ends.length c, .slice ai N.ids.length ci, .slice ap N.inputs.length cp] 29)) 29 #[.slice none 0 0, .slice none 0 0, .slice none 0 0]
  have b0 : Below w.heap.size w ((w.alloc (.cells #[.slice a N.ends.length c, .slice ai N.ids.length ci, .slice ap N.inputs.length cp] 29)).alloc (.cells #[.slice none 0 0, .slice none 0 0, .slice none 0 0] 29)) := (by repeat (first | exact Below.refl _ _ | assumption | refine Below.alloc ?_ (by first | (simp; done) | (simp; omega) | omega) _ | refine Below.setCell ?_ (by first | (simp; done) | (simp; omega) | omega) _ | refine Below.drew ?_ | refine Below.drewN ?_ _))
  have z0 : w.heap.size + 1 + 1 ≤ ((w.alloc (.cells #[.slice a N.ends.length c, .slice ai N.ids.length ci, .slice ap N.inputs.length cp] 29)).alloc (.cells #[.slice none 0 0, .slice none 0 0, .slice none 0 0] 29)).heap.size := by simp
  rw [World.size_alloc] at BR
  clear hs h1
  go_enter Try.func22, Try.ntmps22
  go_wp2_with fail
  generalize (w.alloc (.cells #[.slice a N.ends.length c, .slice ai N.ids.length ci, .slice ap N.inputs.length cp] 29)).alloc (.cells #[.slice none 0 0, .slice none 0 0, .slice none 0 0] 29) = w0 at *
  refine (isNetwork_any _ N _ B (HV.out.below (b0.mono hB)).rd (Nat.le_trans hB b0.size) HS.out).mono ?_
  rintro e w1 ⟨rfl, bel1⟩
  replace BA := BA.new bel1
  replace BR := BR.new bel1
  have z1 := bel1.size
  have bb := b0.trans (bel1.mono b0.size)
  clear b0 bel1
  cases hn : netB N with
  | false =>
    have HF : Hid (rmOk N v i = false) := Lib.hid (rmOk_f0 hn)
    clear hn
    have e0 := BR.cell 0 _ rfl
    have e1 := BR.cell 1 _ rfl
    have e2 := BR.cell 2 _ rfl
    have f0 := BR.frozen 0
    have f1 := BR.frozen 1
    have f2 := BR.frozen 2
    go_wp2_with fail
    clear e0 e1 e2 f0 f1 f2
    generalize hW : World.setCell _ _ _ = W
    have B6 : Bx W (w.heap.size + 1) 29 #[.slice none 0 0, .slice none 0 0, .slice none 0 0] := by rw [← hW]; exact ((BR.set 0 _).set 1 _).set 2 _
    have fr6 : Fr (fun k => k = w.heap.size + 1) w1 W := by rw [← hW]; exact fr3 _ _ _ _ _
    clear hW
    have z6 := fr6.size
    have d0 := B6.cell 0 _ rfl
    have d1 := B6.cell 1 _ rfl
    have d2 := B6.cell 2 _ rfl
    refine bodyPost_ret (v := .tuple #[.agg #[.slice none 0 0, .slice none 0 0, .slice none 0 0], .bool false]) (by simp [results, Try.results22, go_sem, d0, d1, d2]) rfl ?_
    rw [rmN_f HF.out, id HF.out]
    exact ⟨_, rfl, NetAt.nilN _ _ _, bb.trans (fr6.below (fun k h1 h2 hc => by omega) bb.size)⟩
  | true =>
  have HN := Lib.hid hn
  clear hn
  have HSM := Lib.hid (netB_small HN.out)
  have hle : N.ends.length ≤ 40 := HSM.out.1
  have hge : 1 ≤ N.ends.length := HSM.out.2.1
  have HRW := Lib.hid (fun j (hj : j < N.ends.length) => net_row HN.out hj)
  obtain ⟨a9, c9, vs9, ai9, ci9, ap9, cp9, heq, h1, h2, h3, _⟩ := HV2.out
  replace heq := heq.symm
  simp only [Value.agg.injEq, Array.mk.injEq, List.cons.injEq, Value.slice.injEq, and_true, true_and] at heq
  obtain ⟨⟨rfl, rfl⟩, ⟨rfl, rfl⟩, rfl, rfl⟩ := heq
  have h1w := h1
  clear h1 h2 h3
  have c0 := BA.cell 0 _ rfl
  have c1 := BA.cell 1 _ rfl
  have c2 := BA.cell 2 _ rfl
  go_wp2_with fail
  refine (hasPort_any _ _ _ N.ends vs9 _ _ _ _ _ v i _ B (h1w.below (bb.mono hB)) (Nat.le_trans hB bb.size) hl (fun j hj => by have := HRW.out j hj; omega)).mono ?_
  rintro e w2 ⟨rfl, bel2⟩
  replace BA := BA.new bel2
  replace BR := BR.new bel2
  have z2 := bel2.size
  replace bb := bb.trans (bel2.mono bb.size)
  clear c0 c1 c2 bel2
  cases hn : hasP N.ends v i with
  | false =>
    have HF : Hid (rmOk N v i = false) := Lib.hid ((rmOk_n HN.out).trans hn)
    clear hn
    have e0 := BR.cell 0 _ rfl
    have e1 := BR.cell 1 _ rfl
    have e2 := BR.cell 2 _ rfl
    have f0 := BR.frozen 0
    have f1 := BR.frozen 1
    have f2 := BR.frozen 2
    go_wp2_with fail
    clear e0 e1 e2 f0 f1 f2
    generalize hW : World.setCell _ _ _ = W
    have B6 : Bx W (w.heap.size + 1) 29 #[.slice none 0 0, .slice none 0 0, .slice none 0 0] := by rw [← hW]; exact ((BR.set 0 _).set 1 _).set 2 _
    have fr6 : Fr (fun k => k = w.heap.size + 1) w2 W := by rw [← hW]; exact fr3 _ _ _ _ _
    clear hW
    have z6 := fr6.size
    have d0 := B6.cell 0 _ rfl
    have d1 := B6.cell 1 _ rfl
    have d2 := B6.cell 2 _ rfl
    refine bodyPost_ret (v := .tuple #[.agg #[.slice none 0 0, .slice none 0 0, .slice none 0 0], .bool false]) (by simp [results, Try.results22, go_sem, d0, d1, d2]) rfl ?_
    rw [rmN_f HF.out, id HF.out]
    exact ⟨_, rfl, NetAt.nilN _ _ _, bb.trans (fr6.below (fun k h1 h2 hc => by omega) bb.size)⟩
  | true =>
  have HT : Hid (rmOk N v i = true) := Lib.hid ((rmOk_n HN.out).trans hn)
  obtain ⟨v, i, rfl, rfl, hvl, hil⟩ := hasP_nat hn
  obtain ⟨p, q, hpq, hp, hq, _⟩ := net_back HN.out hvl hil
  have HPQ := Lib.hid hpq
  clear hn hpq
  obtain ⟨gE, offE, hae, hgE, hcE⟩ := Rd.at (h1w.1.below (bb.mono hB)) hvl
  subst hae
  obtain ⟨gR, offR, har, hgR, e1, e2⟩ := RdE.at ((h1w.2 v hvl).below (bb.mono hB)) hil
  rw [har] at hcE
  rw [HPQ.out] at e1 e2
  generalize (vs9 v).2 = cR at *
  have HHW := Lib.hid h1w
  clear h1w har hp hq
  go_upto_region 3 with fail
  go_cut [8, 9] (fun t8 t9 W => ∃ b8 b9, t8 = .pointer (some ⟨b8, 0, none⟩) ∧ t9 = .pointer (some ⟨b9, 0, none⟩) ∧ Bx W b8 62 #[.int .i64 (v : Int), .int .i64 (i : Int)] ∧ Bx W b9 62 #[.int .i64 (p : Int), .int .i64 (q : Int)] ∧ Below w2.heap.size w2 W)
  case first =>
    have hSb : ∀ X, Below w2.heap.size w2.drew X → X.cell? ⟨w.heap.size, 0, none⟩ = some (.slice (some ⟨gE, offE, none⟩) N.ends.length c9) ∧ X.cell? ⟨gE, offE + v, none⟩ = some (.slice (some ⟨gR, offR, none⟩) (rowOf N.ends v).length cR) ∧ X.cell? ⟨gR, offR + i * 2, none⟩ = some (.int .i64 (p : Int)) ∧ X.cell? ⟨gR, offR + i * 2 + 1, none⟩ = some (.int .i64 (q : Int)) := fun X hX =>
      ⟨(hX.cell (p := ⟨w.heap.size, 0, none⟩) (by show w.heap.size < _; omega)).trans (BA.cell 0 _ rfl), (hX.cell (p := ⟨gE, offE + v, none⟩) (by show gE < _; omega)).trans hcE, (hX.cell (p := ⟨gR, offR + i * 2, none⟩) (by show gR < _; omega)).trans e1, (hX.cell (p := ⟨gR, offR + i * 2 + 1, none⟩) (by show gR < _; omega)).trans e2⟩
    have hS0 : w2.drew.cell? ⟨w.heap.size, 0, none⟩ = some (.slice (some ⟨gE, offE, none⟩) N.ends.length c9) := BA.cell 0 _ rfl
    have hS1 : w2.drew.cell? ⟨gE, offE + v, none⟩ = some (.slice (some ⟨gR, offR, none⟩) (rowOf N.ends v).length cR) := hcE
    have hS2 : w2.drew.cell? ⟨gR, offR + i * 2, none⟩ = some (.int .i64 (p : Int)) := e1
    have hS3 : w2.drew.cell? ⟨gR, offR + i * 2 + 1, none⟩ = some (.int .i64 (q : Int)) := e2
    have zd : w2.drew.heap.size = w2.heap.size := rfl
    have zd2 : w2.heap.size ≤ w2.drew.heap.size := Nat.le_refl _
    have bwd : Below w2.heap.size w2 w2.drew := (Below.refl _ _).drew
    clear hcE e1 e2
    refine wp_region_until 14 (fun X => X.cell? ⟨w.heap.size, 0, none⟩ = some (.slice (some ⟨gE, offE, none⟩) N.ends.length c9) ∧ X.cell? ⟨gE, offE + v, none⟩ = some (.slice (some ⟨gR, offR, none⟩) (rowOf N.ends v).length cR) ∧ X.cell? ⟨gR, offR + i * 2, none⟩ = some (.int .i64 (p : Int)) ∧ X.cell? ⟨gR, offR + i * 2 + 1, none⟩ = some (.int .i64 (q : Int))) (by kernel_rfl) ⟨hS0, hS1, hS2, hS3⟩ (fun hHeld => ?_)
    rw [← zd] at hSb
    replace bb := bb.drew
    replace BR : Bx w2.drew (w.heap.size + 1) 29 #[.slice none 0 0, .slice none 0 0, .slice none 0 0] := BR
    clear zd BA
    generalize w2.drew = wd at *
    refine wpU_take (i := 0) (v := ?_) rfl (by kernel_rfl) (by kernel_rfl) (by kernel_rfl) (by kernel_rfl) (by kernel_rfl) (by kernel_rfl) (fun _ _ _ h => h) (Or.inl ⟨by rfl, ?_⟩) (by assumption) ?_
    rotate_left
    · (intro w hSw; (try dsimp only at hSw); obtain ⟨hq0, hq1, hq2, hq3⟩ := hSw; go_simp; try with_reducible rfl)
    try simp only [Act.put, List.getElem_toArray, List.getElem_cons_zero, List.getElem_cons_succ, List.setIfInBounds_toArray, List.set_cons_zero, List.set_cons_succ]
    refine wpU_take (i := 1) (v := ?_) rfl (by kernel_rfl) (by kernel_rfl) (by kernel_rfl) (by kernel_rfl) (by kernel_rfl) (by kernel_rfl) (fun _ _ _ h => h) (Or.inl ⟨by rfl, ?_⟩) (by assumption) ?_
    rotate_left
    · (intro w hSw; (try dsimp only at hSw); obtain ⟨hq0, hq1, hq2, hq3⟩ := hSw; go_simp; try with_reducible rfl)
    try simp only [Act.put, List.getElem_toArray, List.getElem_cons_zero, List.getElem_cons_succ, List.setIfInBounds_toArray, List.set_cons_zero, List.set_cons_succ]
    refine wpU_take (i := 2) (v := ?_) rfl (by kernel_rfl) (by kernel_rfl) (by kernel_rfl) (by kernel_rfl) (by kernel_rfl) (by kernel_rfl) (fun _ _ _ h => h) (Or.inl ⟨by rfl, ?_⟩) (by assumption) ?_
    rotate_left
    · (intro w hSw; (try dsimp only at hSw); obtain ⟨hq0, hq1, hq2, hq3⟩ := hSw; go_simp; try with_reducible rfl)
    try simp only [Act.put, List.getElem_toArray, List.getElem_cons_zero, List.getElem_cons_succ, List.setIfInBounds_toArray, List.set_cons_zero, List.set_cons_succ]
    refine wpU_take (i := 3) (v := ?_) rfl (by kernel_rfl) (by kernel_rfl) (by kernel_rfl) (by kernel_rfl) (by kernel_rfl) (by kernel_rfl) (fun _ _ _ h => h) (Or.inl ⟨by rfl, ?_⟩) (by assumption) ?_
    rotate_left
    · (intro w hSw; (try dsimp only at hSw); obtain ⟨hq0, hq1, hq2, hq3⟩ := hSw; go_simp; try with_reducible rfl)
    try simp only [Act.put, List.getElem_toArray, List.getElem_cons_zero, List.getElem_cons_succ, List.setIfInBounds_toArray, List.set_cons_zero, List.set_cons_succ]
    refine wpU_take (i := 4) (v := ?_) rfl (by kernel_rfl) (by kernel_rfl) (by kernel_rfl) (by kernel_rfl) (by kernel_rfl) (by kernel_rfl) (fun _ _ _ h => h) (Or.inl ⟨by rfl, ?_⟩) (by assumption) ?_
    rotate_left
    · (intro w hSw; (try dsimp only at hSw); obtain ⟨hq0, hq1, hq2, hq3⟩ := hSw; go_simp; try with_reducible rfl)
    try simp only [Act.put, List.getElem_toArray, List.getElem_cons_zero, List.getElem_cons_succ, List.setIfInBounds_toArray, List.set_cons_zero, List.set_cons_succ]
    refine wpU_take (i := 5) (v := ?_) rfl (by kernel_rfl) (by kernel_rfl) (by kernel_rfl) (by kernel_rfl) (by kernel_rfl) (by kernel_rfl) (fun _ _ _ h => h) (Or.inl ⟨by rfl, ?_⟩) (by assumption) ?_
    rotate_left
    · (intro w hSw; (try dsimp only at hSw); obtain ⟨hq0, hq1, hq2, hq3⟩ := hSw; go_simp; try with_reducible rfl)
    try simp only [Act.put, List.getElem_toArray, List.getElem_cons_zero, List.getElem_cons_succ, List.setIfInBounds_toArray, List.set_cons_zero, List.set_cons_succ]
    refine wpU_take (i := 6) (v := ?_) rfl (by kernel_rfl) (by kernel_rfl) (by kernel_rfl) (by kernel_rfl) (by kernel_rfl) (by kernel_rfl) (fun _ _ _ h => h) (Or.inl ⟨by rfl, ?_⟩) (by assumption) ?_
    rotate_left
    · (intro w hSw; (try dsimp only at hSw); obtain ⟨hq0, hq1, hq2, hq3⟩ := hSw; go_simp; try with_reducible rfl)
    try simp only [Act.put, List.getElem_toArray, List.getElem_cons_zero, List.getElem_cons_succ, List.setIfInBounds_toArray, List.set_cons_zero, List.set_cons_succ]
    refine wpU_take (i := 7) (v := ?_) rfl (by kernel_rfl) (by kernel_rfl) (by kernel_rfl) (by kernel_rfl) (by kernel_rfl) (by kernel_rfl) (fun _ _ _ h => h) (Or.inl ⟨by rfl, ?_⟩) (by assumption) ?_
    rotate_left
    · (intro w hSw; (try dsimp only at hSw); obtain ⟨hq0, hq1, hq2, hq3⟩ := hSw; go_simp; try with_reducible rfl)
    try simp only [Act.put, List.getElem_toArray, List.getElem_cons_zero, List.getElem_cons_succ, List.setIfInBounds_toArray, List.set_cons_zero, List.set_cons_succ]
    refine wpU_take (i := 8) (v := ?_) rfl (by kernel_rfl) (by kernel_rfl) (by kernel_rfl) (by kernel_rfl) (by kernel_rfl) (by kernel_rfl) (fun _ _ _ h => h) (Or.inl ⟨by rfl, ?_⟩) (by assumption) ?_
    rotate_left
    · (intro w hSw; (try dsimp only at hSw); obtain ⟨hq0, hq1, hq2, hq3⟩ := hSw; go_simp; try with_reducible rfl)
    try simp only [Act.put, List.getElem_toArray, List.getElem_cons_zero, List.getElem_cons_succ, List.setIfInBounds_toArray, List.set_cons_zero, List.set_cons_succ]
    refine wpU_take (i := 9) (v := ?_) rfl (by kernel_rfl) (by kernel_rfl) (by kernel_rfl) (by kernel_rfl) (by kernel_rfl) (by kernel_rfl) (fun _ _ _ h => h) (Or.inl ⟨by rfl, ?_⟩) (by assumption) ?_
    rotate_left
    · (intro w hSw; (try dsimp only at hSw); obtain ⟨hq0, hq1, hq2, hq3⟩ := hSw; go_simp; try with_reducible rfl)
    try simp only [Act.put, List.getElem_toArray, List.getElem_cons_zero, List.getElem_cons_succ, List.setIfInBounds_toArray, List.set_cons_zero, List.set_cons_succ]
    refine wpU_take (i := 10) (v := ?_) rfl (by kernel_rfl) (by kernel_rfl) (by kernel_rfl) (by kernel_rfl) (by kernel_rfl) (by kernel_rfl) (fun _ _ _ h => h) (Or.inl ⟨by rfl, ?_⟩) (by assumption) ?_
    rotate_left
    · (intro w hSw; (try dsimp only at hSw); obtain ⟨hq0, hq1, hq2, hq3⟩ := hSw; go_simp; try with_reducible rfl)
    try simp only [Act.put, List.getElem_toArray, List.getElem_cons_zero, List.getElem_cons_succ, List.setIfInBounds_toArray, List.set_cons_zero, List.set_cons_succ]
    have bt : Below wd.heap.size wd wd := Below.refl _ _
    refine wpU_ready (rs := [11, 12]) (by kernel_rfl) (by simp) (by kernel_rfl) ?_
    refine AllReadyU.cons (o := _) rfl (fun K hK => ?_) (AllReadyU.cons (o := _) rfl (fun K hK => ?_) AllReadyU.nil)
    go_simp
    have B8 := Bx.made wd 62 #[.int .i64 0, .int .i64 0]
    have bx : Below wd.heap.size wd (wd.alloc (.cells #[.int .i64 0, .int .i64 0] 62)) := (by repeat (first | exact Below.refl _ _ | assumption | refine Below.alloc ?_ (by first | (simp; done) | (simp; omega) | omega) _ | refine Below.setCell ?_ (by first | (simp; done) | (simp; omega) | omega) _ | refine Below.drew ?_ | refine Below.drewN ?_ _))
    have zx : wd.heap.size + 1 ≤ (wd.alloc (.cells #[.int .i64 0, .int .i64 0] 62)).heap.size := by simp
    obtain ⟨b8, hb⟩ : ∃ x, x = wd.heap.size := ⟨_, rfl⟩
    rw [← hb] at B8 ⊢
    have zb8 : wd.heap.size ≤ b8 := by omega
    have yb8 : b8 ≤ wd.heap.size := by omega
    clear hb
    replace bt := bt.trans (bx.mono bt.size)
    generalize wd.alloc (.cells #[.int .i64 0, .int .i64 0] 62) = w8x at *
    have zt8 := bt.size
    refine hK.out _ _ (hSb w8x bt) (fun hHeld => ?_)
    clear hK K bx
    try simp only [Act.put, List.getElem_toArray, List.getElem_cons_zero, List.getElem_cons_succ, List.setIfInBounds_toArray, List.set_cons_zero, List.set_cons_succ]
    refine wpU_ready (rs := [12]) (by kernel_rfl) (by simp) (by kernel_rfl) ?_
    refine AllReadyU.cons (o := _) rfl (fun K hK => ?_) AllReadyU.nil
    go_simp
    have B9 := Bx.made w8x 62 #[.int .i64 0, .int .i64 0]
    have bx : Below w8x.heap.size w8x (w8x.alloc (.cells #[.int .i64 0, .int .i64 0] 62)) := (by repeat (first | exact Below.refl _ _ | assumption | refine Below.alloc ?_ (by first | (simp; done) | (simp; omega) | omega) _ | refine Below.setCell ?_ (by first | (simp; done) | (simp; omega) | omega) _ | refine Below.drew ?_ | refine Below.drewN ?_ _))
    have zx : w8x.heap.size + 1 ≤ (w8x.alloc (.cells #[.int .i64 0, .int .i64 0] 62)).heap.size := by simp
    replace B8 := B8.new bx
    obtain ⟨b9, hb⟩ : ∃ x, x = w8x.heap.size := ⟨_, rfl⟩
    rw [← hb] at B9 ⊢
    have zb9 : w8x.heap.size ≤ b9 := by omega
    have yb9 : b9 ≤ w8x.heap.size := by omega
    clear hb
    replace bt := bt.trans (bx.mono bt.size)
    generalize w8x.alloc (.cells #[.int .i64 0, .int .i64 0] 62) = w9x at *
    have zt9 := bt.size
    refine hK.out _ _ (hSb w9x bt) (fun hHeld => ?_)
    clear hK K bx
    try simp only [Act.put, List.getElem_toArray, List.getElem_cons_zero, List.getElem_cons_succ, List.setIfInBounds_toArray, List.set_cons_zero, List.set_cons_succ]
    refine wpU_ready (rs := [13]) (by kernel_rfl) (by simp) (by kernel_rfl) ?_
    refine AllReadyU.cons (o := _) rfl (fun K hK => ?_) AllReadyU.nil
    have hne : b8 ≠ b9 := by omega
    have k0 := B8.cell 0 _ rfl
    have k1 := B8.cell 1 _ rfl
    have f0 := B8.frozen 0
    have f1 := B8.frozen 1
    go_simp
    clear k0 k1 f0 f1
    generalize hW : World.setCell _ _ _ = W
    have B8' : Bx W b8 62 #[.int .i64 (v : Int), .int .i64 (i : Int)] := by rw [← hW]; exact (B8.set 0 _).set 1 _
    replace B9 : Bx W b9 62 #[.int .i64 0, .int .i64 0] := by rw [← hW]; exact (B9.far (p := ⟨b8, 0, none⟩) (fun h => hne h.symm) _).far (p := ⟨b8, 1, none⟩) (fun h => hne h.symm) _
    have fW : Fr (fun k => k = b8) w9x W := by rw [← hW]; exact (fr_set _ _ _ _).trans (fr_set _ _ _ _)
    clear hW B8
    have B8 := B8'
    clear B8'
    have zW := fW.size
    replace bt := bt.trans (fW.below (B := wd.heap.size) (fun k h1 h2 hc => by omega) bt.size)
    refine hK.out _ _ (hSb W bt) (fun hHeld => ?_)
    clear hK K
    try simp only [Act.put, List.getElem_toArray, List.getElem_cons_zero, List.getElem_cons_succ, List.setIfInBounds_toArray, List.set_cons_zero, List.set_cons_succ]
    have hne9 : b8 ≠ b9 := by omega
    refine wpU_last (by kernel_rfl) ?_
    refine wpAnyH_ready (rs := [14]) (by kernel_rfl) (by simp) ?_
    refine AllReadyH.cons (o := _) rfl (fun K hK => ?_) AllReadyH.nil
    have k0 := B9.cell 0 _ rfl
    have k1 := B9.cell 1 _ rfl
    have f0 := B9.frozen 0
    have f1 := B9.frozen 1
    go_simp
    clear k0 k1 f0 f1
    generalize hV : World.setCell _ _ _ = V9
    have D8 : Bx V9 b8 62 #[.int .i64 (v : Int), .int .i64 (i : Int)] := by rw [← hV]; exact (B8.far (p := ⟨b9, 0, none⟩) hne9 _).far (p := ⟨b9, 1, none⟩) hne9 _
    have D9 : Bx V9 b9 62 #[.int .i64 (p : Int), .int .i64 (q : Int)] := by rw [← hV]; exact (B9.set 0 _).set 1 _
    have fV : Fr (fun k => k = b9) W V9 := by rw [← hV]; exact (fr_set _ _ _ _).trans (fr_set _ _ _ _)
    clear hV B8 B9
    have bt4 := bt.trans (fV.below (B := wd.heap.size) (fun k h1 h2 hc => by omega) bt.size)
    refine hK.out _ _ trivial (fun _ => ?_)
    clear hK K
    try simp only [Act.put, List.getElem_toArray, List.getElem_cons_zero, List.getElem_cons_succ, List.setIfInBounds_toArray, List.set_cons_zero, List.set_cons_succ]
    refine wpAnyH_done (by kernel_rfl) ?_ _
    clear hHeld
    go_wp2_with fail
    go_meet
    exact ⟨b8, b9, rfl, rfl, D8, D9, bwd.trans (bt4.mono zd2)⟩
    go_simp
    have B9 := Bx.made wd 62 #[.int .i64 0, .int .i64 0]
    have bx : Below wd.heap.size wd (wd.alloc (.cells #[.int .i64 0, .int .i64 0] 62)) := (by repeat (first | exact Below.refl _ _ | assumption | refine Below.alloc ?_ (by first | (simp; done) | (simp; omega) | omega) _ | refine Below.setCell ?_ (by first | (simp; done) | (simp; omega) | omega) _ | refine Below.drew ?_ | refine Below.drewN ?_ _))
    have zx : wd.heap.size + 1 ≤ (wd.alloc (.cells #[.int .i64 0, .int .i64 0] 62)).heap.size := by simp
    obtain ⟨b9, hb⟩ : ∃ x, x = wd.heap.size := ⟨_, rfl⟩
    rw [← hb] at B9 ⊢
    have zb9 : wd.heap.size ≤ b9 := by omega
    have yb9 : b9 ≤ wd.heap.size := by omega
    clear hb
    replace bt := bt.trans (bx.mono bt.size)
    generalize wd.alloc (.cells #[.int .i64 0, .int .i64 0] 62) = w9x at *
    have zt9 := bt.size
    refine hK.out _ _ (hSb w9x bt) (fun hHeld => ?_)
    clear hK K bx
    try simp only [Act.put, List.getElem_toArray, List.getElem_cons_zero, List.getElem_cons_succ, List.setIfInBounds_toArray, List.set_cons_zero, List.set_cons_succ]
    refine wpU_ready (rs := [11]) (by kernel_rfl) (by simp) (by kernel_rfl) ?_
    refine AllReadyU.cons (o := _) rfl (fun K hK => ?_) AllReadyU.nil
    go_simp
    have B8 := Bx.made w9x 62 #[.int .i64 0, .int .i64 0]
    have bx : Below w9x.heap.size w9x (w9x.alloc (.cells #[.int .i64 0, .int .i64 0] 62)) := (by repeat (first | exact Below.refl _ _ | assumption | refine Below.alloc ?_ (by first | (simp; done) | (simp; omega) | omega) _ | refine Below.setCell ?_ (by first | (simp; done) | (simp; omega) | omega) _ | refine Below.drew ?_ | refine Below.drewN ?_ _))
    have zx : w9x.heap.size + 1 ≤ (w9x.alloc (.cells #[.int .i64 0, .int .i64 0] 62)).heap.size := by simp
    replace B9 := B9.new bx
    obtain ⟨b8, hb⟩ : ∃ x, x = w9x.heap.size := ⟨_, rfl⟩
    rw [← hb] at B8 ⊢
    have zb8 : w9x.heap.size ≤ b8 := by omega
    have yb8 : b8 ≤ w9x.heap.size := by omega
    clear hb
    replace bt := bt.trans (bx.mono bt.size)
    generalize w9x.alloc (.cells #[.int .i64 0, .int .i64 0] 62) = w8x at *
    have zt8 := bt.size
    refine hK.out _ _ (hSb w8x bt) (fun hHeld => ?_)
    clear hK K bx
    try simp only [Act.put, List.getElem_toArray, List.getElem_cons_zero, List.getElem_cons_succ, List.setIfInBounds_toArray, List.set_cons_zero, List.set_cons_succ]
    refine wpU_ready (rs := [13]) (by kernel_rfl) (by simp) (by kernel_rfl) ?_
    refine AllReadyU.cons (o := _) rfl (fun K hK => ?_) AllReadyU.nil
    have hne : b8 ≠ b9 := by omega
    have k0 := B8.cell 0 _ rfl
    have k1 := B8.cell 1 _ rfl
    have f0 := B8.frozen 0
    have f1 := B8.frozen 1
    go_simp
    clear k0 k1 f0 f1
    generalize hW : World.setCell _ _ _ = W
    have B8' : Bx W b8 62 #[.int .i64 (v : Int), .int .i64 (i : Int)] := by rw [← hW]; exact (B8.set 0 _).set 1 _
    replace B9 : Bx W b9 62 #[.int .i64 0, .int .i64 0] := by rw [← hW]; exact (B9.far (p := ⟨b8, 0, none⟩) (fun h => hne h.symm) _).far (p := ⟨b8, 1, none⟩) (fun h => hne h.symm) _
    have fW : Fr (fun k => k = b8) w8x W := by rw [← hW]; exact (fr_set _ _ _ _).trans (fr_set _ _ _ _)
    clear hW B8
    have B8 := B8'
    clear B8'
    have zW := fW.size
    replace bt := bt.trans (fW.below (B := wd.heap.size) (fun k h1 h2 hc => by omega) bt.size)
    refine hK.out _ _ (hSb W bt) (fun hHeld => ?_)
    clear hK K
    try simp only [Act.put, List.getElem_toArray, List.getElem_cons_zero, List.getElem_cons_succ, List.setIfInBounds_toArray, List.set_cons_zero, List.set_cons_succ]
    have hne9 : b8 ≠ b9 := by omega
    refine wpU_last (by kernel_rfl) ?_
    refine wpAnyH_ready (rs := [14]) (by kernel_rfl) (by simp) ?_
    refine AllReadyH.cons (o := _) rfl (fun K hK => ?_) AllReadyH.nil
    have k0 := B9.cell 0 _ rfl
    have k1 := B9.cell 1 _ rfl
    have f0 := B9.frozen 0
    have f1 := B9.frozen 1
    go_simp
    clear k0 k1 f0 f1
    generalize hV : World.setCell _ _ _ = V9
    have D8 : Bx V9 b8 62 #[.int .i64 (v : Int), .int .i64 (i : Int)] := by rw [← hV]; exact (B8.far (p := ⟨b9, 0, none⟩) hne9 _).far (p := ⟨b9, 1, none⟩) hne9 _
    have D9 : Bx V9 b9 62 #[.int .i64 (p : Int), .int .i64 (q : Int)] := by rw [← hV]; exact (B9.set 0 _).set 1 _
    have fV : Fr (fun k => k = b9) W V9 := by rw [← hV]; exact (fr_set _ _ _ _).trans (fr_set _ _ _ _)
    clear hV B8 B9
    have bt4 := bt.trans (fV.below (B := wd.heap.size) (fun k h1 h2 hc => by omega) bt.size)
    refine hK.out _ _ trivial (fun _ => ?_)
    clear hK K
    try simp only [Act.put, List.getElem_toArray, List.getElem_cons_zero, List.getElem_cons_succ, List.setIfInBounds_toArray, List.set_cons_zero, List.set_cons_succ]
    refine wpAnyH_done (by kernel_rfl) ?_ _
    clear hHeld
    go_wp2_with fail
    go_meet
    exact ⟨b8, b9, rfl, rfl, D8, D9, bwd.trans (bt4.mono zd2)⟩
  case rest =>
    clear hcE e1 e2
    obtain ⟨b8, b9, rfl, rfl, D8, D9, bel3⟩ := hcut
    generalize wc = w3 at *
    replace BA := BA.new bel3
    replace BR := BR.new bel3
    replace bb := bb.trans (bel3.mono bb.size)
    have z3 := bel3.size
    clear bel3
    go_upto_region 4 with fail
    have hk0 : w3.drew.cell? ⟨w.heap.size, 0, none⟩ = some (.slice (some ⟨gE, offE, none⟩) N.ends.length c9) := BA.cell 0 _ rfl
    have hk1 : w3.drew.cell? ⟨w.heap.size, 1, none⟩ = some (.slice ai9 N.ids.length ci9) := BA.cell 1 _ rfl
    have hk2 : w3.drew.cell? ⟨w.heap.size, 2, none⟩ = some (.slice ap9 N.inputs.length cp9) := BA.cell 2 _ rfl
    refine wp_region_held_drew (S := fun X => X.cell? ⟨w.heap.size, 0, none⟩ = some (.slice (some ⟨gE, offE, none⟩) N.ends.length c9) ∧ X.cell? ⟨w.heap.size, 1, none⟩ = some (.slice ai9 N.ids.length ci9) ∧ X.cell? ⟨w.heap.size, 2, none⟩ = some (.slice ap9 N.inputs.length cp9)) (by kernel_rfl) ⟨hk0, hk1, hk2⟩ (fun hHeld => ?_)
    clear hk0 hk1 hk2
    replace bb := bb.drew
    replace BA : Bx w3.drew w.heap.size 29 #[.slice (some ⟨gE, offE, none⟩) N.ends.length c9, .slice ai9 N.ids.length ci9, .slice ap9 N.inputs.length cp9] := BA
    replace BR : Bx w3.drew (w.heap.size + 1) 29 #[.slice none 0 0, .slice none 0 0, .slice none 0 0] := BR
    replace D8 : Bx w3.drew b8 62 #[.int .i64 (v : Int), .int .i64 (i : Int)] := D8
    replace D9 : Bx w3.drew b9 62 #[.int .i64 (p : Int), .int .i64 (q : Int)] := D9
    have zd : w3.drew.heap.size = w3.heap.size := rfl
    rw [← zd] at z3
    clear zd
    generalize w3.drew = wd at *
    refine wpAnyH_take (i := 0) (v := ?_) rfl (by kernel_rfl) (by kernel_rfl) (by kernel_rfl) (fun _ _ _ h => h) (Or.inl ⟨by rfl, ?_⟩) (by assumption) ?_
    rotate_left
    · (intro w hSw; (try dsimp only at hSw); go_simp; try with_reducible rfl)
    try simp only [Act.put, List.getElem_toArray, List.getElem_cons_zero, List.getElem_cons_succ, List.setIfInBounds_toArray, List.set_cons_zero, List.set_cons_succ]
    refine wpAnyH_take (i := 1) (v := ?_) rfl (by kernel_rfl) (by kernel_rfl) (by kernel_rfl) (fun _ _ _ h => h) (Or.inl ⟨by rfl, ?_⟩) (by assumption) ?_
    rotate_left
    · (intro w hSw; (try dsimp only at hSw); go_simp; try with_reducible rfl)
    try simp only [Act.put, List.getElem_toArray, List.getElem_cons_zero, List.getElem_cons_succ, List.setIfInBounds_toArray, List.set_cons_zero, List.set_cons_succ]
    refine wpAnyH_take (i := 2) (v := ?_) rfl (by kernel_rfl) (by kernel_rfl) (by kernel_rfl) (fun _ _ _ h => h) (Or.inl ⟨by rfl, ?_⟩) (by assumption) ?_
    rotate_left
    · (intro w hSw; (try dsimp only at hSw); go_simp; try with_reducible rfl)
    try simp only [Act.put, List.getElem_toArray, List.getElem_cons_zero, List.getElem_cons_succ, List.setIfInBounds_toArray, List.set_cons_zero, List.set_cons_succ]
    refine wpAnyH_take (i := 3) (v := ?_) rfl (by kernel_rfl) (by kernel_rfl) (by kernel_rfl) (fun _ _ _ h => h) (Or.inl ⟨by rfl, ?_⟩) (by assumption) ?_
    rotate_left
    · (intro w hSw; (try dsimp only at hSw); go_simp; try with_reducible rfl)
    try simp only [Act.put, List.getElem_toArray, List.getElem_cons_zero, List.getElem_cons_succ, List.setIfInBounds_toArray, List.set_cons_zero, List.set_cons_succ]
    refine wpAnyH_take (i := 5) (v := ?_) rfl (by kernel_rfl) (by kernel_rfl) (by kernel_rfl) (fun _ _ _ h => h) (Or.inl ⟨by rfl, ?_⟩) (by assumption) ?_
    rotate_left
    · (intro w hSw; (try dsimp only at hSw); go_simp; try with_reducible rfl)
    try simp only [Act.put, List.getElem_toArray, List.getElem_cons_zero, List.getElem_cons_succ, List.setIfInBounds_toArray, List.set_cons_zero, List.set_cons_succ]
    refine wpAnyH_ready (rs := [4]) (by kernel_rfl) (by simp) ?_
    refine AllReadyH.cons (o := _) rfl (fun K hK => ?_) AllReadyH.nil
    go_simp
    refine (numbersTo_any N.ends.length _ (by omega) (by omega)).mono ?_
    rintro e w5 ⟨gn, rfl, hnums, bel5⟩
    replace hnums := Ow.rd hnums
    replace BA := BA.new bel5
    replace BR := BR.new bel5
    replace D8 := D8.new bel5
    replace D9 := D9.new bel5
    replace bb := bb.trans (bel5.mono bb.size)
    have z5 := bel5.size
    clear bel5
    refine hK.out _ _ ⟨BA.cell 0 _ rfl, BA.cell 1 _ rfl, BA.cell 2 _ rfl⟩ (fun hHeld => ?_)
    clear hK K
    try simp only [Act.put, List.getElem_toArray, List.getElem_cons_zero, List.getElem_cons_succ, List.setIfInBounds_toArray, List.set_cons_zero, List.set_cons_succ]
    refine wpAnyH_ready (rs := [6]) (by kernel_rfl) (by simp) ?_
    refine AllReadyH.cons (o := _) rfl (fun K hK => ?_) AllReadyH.nil
    have l8 := D8.lt
    have l9 := D9.lt
    have HPR : Hid (Calls Try.prog 55 #[.agg #[.slice (some ⟨gE, offE, none⟩) N.ends.length c9, .slice ai9 N.ids.length ci9, .slice ap9 N.inputs.length cp9], .slice (some ⟨gn, 0, none⟩) N.ends.length N.ends.length, .func (.func 57) #[] #[.pointer (some ⟨b8, 0, none⟩), .pointer (some ⟨b9, 0, none⟩)]] w5 fun e w' => ∃ x, e = .returned x ∧ NetAt w' w5.heap.size w'.heap.size x (cutN N (rmK N.ends v i)) ∧ Below w5.heap.size w5 w') := by
      have h := partR_any _ N (numsL N.ends.length) (rmK N.ends v i) (fun x => x) (some ⟨gn, 0, none⟩) N.ends.length b8 b9 w5 w5.heap.size (netIn_more (HV.out.below (bb.mono hB)) (Nat.le_trans hB bb.size)) hnums (Nat.le_refl _) HN.out (numsOk HN.out hvl hil) (fun X v' i' bX hv' hi' => by
        have h9 := rmC_any v i p q v' i' b8 b9 X (D8.below bX l8) (D9.below bX l9)
        unfold rmK
        rw [HPQ.out]
        exact h9)
      rw [numsL_length, numsPart HN.out] at h
      exact h
    go_simp
    refine HPR.out.mono ?_
    rintro e w9 ⟨x9, rfl, own9, bel9⟩
    replace BA := BA.new bel9
    replace BR := BR.new bel9
    replace bb := bb.trans (bel9.mono bb.size)
    have z9 := bel9.size
    clear bel9 D8 D9 HPR
    obtain ⟨Nk, hNk⟩ : ∃ Nk, Nk = cutN N (rmK N.ends v i) := ⟨_, rfl⟩
    rw [← hNk] at own9
    have HNk := Lib.hid hNk
    clear hNk
    obtain ⟨ax, cx, aix, cix, apx, cpx, rfl, own9⟩ := own9.shape
    refine hK.out _ _ ⟨BA.cell 0 _ rfl, BA.cell 1 _ rfl, BA.cell 2 _ rfl⟩ (fun hHeld => ?_)
    clear hK K
    try simp only [Act.put, List.getElem_toArray, List.getElem_cons_zero, List.getElem_cons_succ, List.setIfInBounds_toArray, List.set_cons_zero, List.set_cons_succ]
    refine wpAnyH_ready (rs := [7]) (by kernel_rfl) (by simp) ?_
    refine AllReadyH.cons (o := _) rfl (fun K hK => ?_) AllReadyH.nil
    have e0 := BR.cell 0 _ rfl
    have e1 := BR.cell 1 _ rfl
    have e2 := BR.cell 2 _ rfl
    have f0 := BR.frozen 0
    have f1 := BR.frozen 1
    have f2 := BR.frozen 2
    go_simp
    clear e0 e1 e2 f0 f1 f2
    generalize hW : World.setCell _ _ _ = W
    have B6 : Bx W (w.heap.size + 1) 29 #[.slice ax Nk.ends.length cx, .slice aix Nk.ids.length cix, .slice apx Nk.inputs.length cpx] := by rw [← hW]; exact ((BR.set 0 _).set 1 _).set 2 _
    have fr6 : Fr (fun k => k = w.heap.size + 1) w9 W := by rw [← hW]; exact fr3 _ _ _ _ _
    clear hW
    have z6 := fr6.size
    have d0 := B6.cell 0 _ rfl
    have d1 := B6.cell 1 _ rfl
    have d2 := B6.cell 2 _ rfl
    refine hK.out _ _ ⟨(BA.fr fr6 (by omega)).cell 0 _ rfl, (BA.fr fr6 (by omega)).cell 1 _ rfl, (BA.fr fr6 (by omega)).cell 2 _ rfl⟩ (fun hHeld => ?_)
    clear hK K
    try simp only [Act.put, List.getElem_toArray, List.getElem_cons_zero, List.getElem_cons_succ, List.setIfInBounds_toArray, List.set_cons_zero, List.set_cons_succ]
    refine wpAnyH_ready (rs := [8]) (by kernel_rfl) (by simp) ?_
    refine AllReadyH.cons (o := _) rfl (fun K hK => ?_) AllReadyH.nil
    go_simp
    refine hK.out _ _ ⟨(BA.fr fr6 (by omega)).cell 0 _ rfl, (BA.fr fr6 (by omega)).cell 1 _ rfl, (BA.fr fr6 (by omega)).cell 2 _ rfl⟩ (fun hHeld => ?_)
    clear hK K
    try simp only [Act.put, List.getElem_toArray, List.getElem_cons_zero, List.getElem_cons_succ, List.setIfInBounds_toArray, List.set_cons_zero, List.set_cons_succ]
    refine wpAnyH_done (by kernel_rfl) ?_ _
    go_wp2_with fail
    refine bodyPost_ret (v := .tuple #[.agg #[.slice ax Nk.ends.length cx, .slice aix Nk.ids.length cix, .slice apx Nk.inputs.length cpx], .bool true]) (by simp [results, Try.results22, go_sem, d0, d1, d2]) rfl ?_
    rw [rmN_t HT.out, HT.out, ← HNk.out]
    exact ⟨_, rfl, (own9.frBx BR fr6).wide (lo' := w.heap.size) (hi' := W.heap.size) (by omega) (by omega), bb.trans (fr6.below (fun k h1 h2 hc => by omega) bb.size)⟩
set_option maxHeartbeats 800000 in
theorem FnExactRemoveEdge_walk (v : Value) (N : Net) (p q : Int) (w : World) (hv : NetRd w w.heap.size v N) (hm : NetLens N) (hp0 : -9223372036854775808 ≤ p) (hp1 : p ≤ 9223372036854775807) (hq0 : -9223372036854775808 ≤ q) (hq1 : q ≤ 9223372036854775807) :
    Calls Try.prog 6 #[v, .int .i64 p, .int .i64 q] w fun e w' => e = .returned (.bool true) ∧ Below w.heap.size w w' := by
  have HV := Lib.hid hv
  obtain ⟨a, c, vs, ai, ci, ap, cp, rfl, h1, h2, h3⟩ := hv
  clear h1 h2 h3
  have BA := Bx.made w 25 #[.slice a N.ends.length c, .slice ai N.ids.length ci, .slice ap N.inputs.length cp]
  have b0 : Below w.heap.size w (w.alloc (.cells #[.slice a N.ends.length c, .slice ai N.ids.length ci, .slice ap N.inputs.length cp] 25)) := (by repeat (first | exact Below.refl _ _ | assumption | refine Below.alloc ?_ (by first | (simp; done) | (simp; omega) | omega) _ | refine Below.setCell ?_ (by first | (simp; done) | (simp; omega) | omega) _ | refine Below.drew ?_ | refine Below.drewN ?_ _))
  by_cases hsm : netSz N ≤ 1048576
  case neg =>
    go_enter Try.func6, Try.ntmps6
    go_wp2_with fail
    refine (szNetwork_any _ N _ _ (HV.out.below b0) b0.size hm).mono ?_
    rintro e w1 ⟨rfl, bel1⟩
    rw [szL_no hsm]
    go_wp2_with fail
    go_ret
    exact ⟨rfl, b0.trans (bel1.mono b0.size)⟩
  have hS : NetSmall N := hsm
  have HSM := Lib.hid hsm
  clear hsm
  go_enter Try.func6, Try.ntmps6
  go_wp2_with fail
  refine (szNetwork_any _ N _ _ (HV.out.below b0) b0.size hm).mono ?_
  rintro e w1 ⟨rfl, bel1⟩
  rw [szL_yes HSM.out]
  replace BA := BA.new bel1
  have b1 := b0.trans (bel1.mono b0.size)
  have z1 := b1.size
  clear b0 bel1
  have hnn : ¬ (((1048576 - netSz N : Nat) : Int) < 0) := by omega
  have cA0 := BA.cell 0 _ rfl
  have cA1 := BA.cell 1 _ rfl
  have cA2 := BA.cell 2 _ rfl
  go_wp2_with fail
  clear cA0 cA1 cA2
  refine (toNetwork_any _ N _ _ (HV.out.below b1) z1 hS).mono ?_
  rintro e w2 ⟨v2, rfl, own2, bel2⟩
  replace BA := BA.new bel2
  have b2 := b1.trans (bel2.mono z1)
  have z2 := b2.size
  have z12 := bel2.size
  clear b1 bel2
  go_wp2_with fail
  have HS : Hid (∀ V X B, NetIn X B V N → B ≤ X.heap.size → Calls Try.prog 21 #[V, .int .i64 p, .int .i64 q] X (PostN (rmN N p q) (rmOk N p q) X)) := Lib.hid fun V X B h1 h2 => rmvS_any V N p q X B h1 h2 hS
  have HI : Hid (∀ V X B, NetIn X B V N → B ≤ X.heap.size → Calls Try.prog 22 #[V, .int .i64 p, .int .i64 q] X (PostN (rmN N p q) (rmOk N p q) X)) := Lib.hid fun V X B h1 h2 => rmv_any V N p q X B h1 h2 hS
  have hR : NetSmall (rmN N p q) := rmN_sm hS
  generalize rmN N p q = R at *
  generalize rmOk N p q = ok at *
  refine (HS.out v2 _ _ own2.in_ (Nat.le_refl _)).mono ?_
  rintro e wS ⟨vw, rfl, ownw, bel3⟩
  obtain ⟨aw, cw, aiw, ciw, apw, cpw, rfl, ownw⟩ := ownw.shape
  have lA : w.heap.size < w2.heap.size := BA.lt
  have z23 := bel3.size
  clear own2 HS
  replace BA := BA.new bel3
  have b3 := b2.trans (bel3.mono z2)
  clear b2 bel3
  have BW := Bx.made wS 29 #[.slice aw R.ends.length cw, .slice aiw R.ids.length ciw, .slice apw R.inputs.length cpw]
  have bxS : Below wS.heap.size wS (wS.alloc (.cells #[.slice aw R.ends.length cw, .slice aiw R.ids.length ciw, .slice apw R.inputs.length cpw] 29)) := (by repeat (first | exact Below.refl _ _ | assumption | refine Below.alloc ?_ (by first | (simp; done) | (simp; omega) | omega) _ | refine Below.setCell ?_ (by first | (simp; done) | (simp; omega) | omega) _ | refine Below.drew ?_ | refine Below.drewN ?_ _))
  replace BA := BA.new bxS
  have cA0 := BA.cell 0 _ rfl
  have cA1 := BA.cell 1 _ rfl
  have cA2 := BA.cell 2 _ rfl
  go_wp2_with fail
  clear cA0 cA1 cA2
  replace ownw := ownw.new bxS
  replace b3 := b3.trans (bxS.mono b3.size)
  have zS3 : wS.heap.size + 1 ≤ (wS.alloc (.cells #[.slice aw R.ends.length cw, .slice aiw R.ids.length ciw, .slice apw R.inputs.length cpw] 29)).heap.size := by simp
  generalize wS.alloc (.cells #[.slice aw R.ends.length cw, .slice aiw R.ids.length ciw, .slice apw R.inputs.length cpw] 29) = w3 at *
  clear bxS
  have z3 := b3.size
  refine (toNetwork_any _ N _ _ (HV.out.below b3) z3 hS).mono ?_
  rintro e w4 ⟨v4, rfl, own4, bel4⟩
  replace BA := BA.new bel4
  have b4 := b3.trans (bel4.mono z3)
  have z4 := b4.size
  have z34 := bel4.size
  clear b3
  obtain ⟨a4, c4, vs4, ai4, ci4, ap4, cp4, he4, hn4⟩ : ∃ a c vs ai ci ap cp, v4 = .agg #[.slice a N.ends.length c, .slice ai N.ids.length ci, .slice ap N.inputs.length cp] ∧ NetAt w4 w3.heap.size w4.heap.size (.agg #[.slice a N.ends.length c, .slice ai N.ids.length ci, .slice ap N.inputs.length cp]) N := by
    obtain ⟨a, c, vs, ai, ci, ap, cp, hv, _⟩ := id own4
    exact ⟨a, c, vs, ai, ci, ap, cp, hv, hv ▸ own4⟩
  subst he4
  clear own4
  go_wp2_with fail
  have BX := Bx.made w4 29 #[.slice a4 N.ends.length c4, .slice ai4 N.ids.length ci4, .slice ap4 N.inputs.length cp4]
  have b4' : Below w4.heap.size w4 (w4.alloc (.cells #[.slice a4 N.ends.length c4, .slice ai4 N.ids.length ci4, .slice ap4 N.inputs.length cp4] 29)) := (by repeat (first | exact Below.refl _ _ | assumption | refine Below.alloc ?_ (by first | (simp; done) | (simp; omega) | omega) _ | refine Below.setCell ?_ (by first | (simp; done) | (simp; omega) | omega) _ | refine Below.drew ?_ | refine Below.drewN ?_ _))
  replace BA := BA.new b4'
  replace hn4 := hn4.new b4'
  have b5 := b4.trans (b4'.mono z4)
  have z5 := b5.size
  have z45 := b4'.size
  clear b4
  replace ownw := (ownw.new bel4).new b4'
  replace BW := (BW.new bel4).new b4'
  clear bel4 b4'
  refine (HI.out _ _ _ hn4.in_ z45).mono ?_
  rintro e wI ⟨vg, rfl, owng, bel5⟩
  obtain ⟨ag, cg, aig, cig, apg, cpg, rfl, owng⟩ := owng.shape
  simp only [World.size_alloc] at owng
  have zg : w4.heap.size + 1 ≤ wI.heap.size := by have := bel5.size; simpa using this
  replace ownw := ownw.new bel5
  replace BA := BA.new bel5
  replace BX := BX.new bel5
  replace BW := BW.new bel5
  replace hn4 := hn4.new bel5
  have b6 := b5.trans (bel5.mono z5)
  clear b5 bel5 z5 z45
  have BG := Bx.made wI 29 #[.slice ag R.ends.length cg, .slice aig R.ids.length cig, .slice apg R.inputs.length cpg]
  have bxI : Below wI.heap.size wI (wI.alloc (.cells #[.slice ag R.ends.length cg, .slice aig R.ids.length cig, .slice apg R.inputs.length cpg] 29)) := (by repeat (first | exact Below.refl _ _ | assumption | refine Below.alloc ?_ (by first | (simp; done) | (simp; omega) | omega) _ | refine Below.setCell ?_ (by first | (simp; done) | (simp; omega) | omega) _ | refine Below.drew ?_ | refine Below.drewN ?_ _))
  replace BW := BW.new bxI
  have cW0 := BW.cell 0 _ rfl
  have cW1 := BW.cell 1 _ rfl
  have cW2 := BW.cell 2 _ rfl
  have hbb : (ok != ok) = false := by simp
  go_wp2_with fail
  clear cW0 cW1 cW2
  replace BA := BA.new bxI
  replace BX := BX.new bxI
  replace hn4 := hn4.new bxI
  replace ownw := ownw.new bxI
  replace owng := owng.new bxI
  have b6' := b6.trans (bxI.mono b6.size)
  have zI5 : wI.heap.size + 1 ≤ (wI.alloc (.cells #[.slice ag R.ends.length cg, .slice aig R.ids.length cig, .slice apg R.inputs.length cpg] 29)).heap.size := by simp
  generalize wI.alloc (.cells #[.slice ag R.ends.length cg, .slice aig R.ids.length cig, .slice apg R.inputs.length cpg] 29) = w5 at *
  clear bxI b6
  have z6 := b6'.size
  refine (eqNetwork_any _ _ R _ _ _ _ _ owng ownw (by omega) (by omega) hR).mono ?_
  rintro e w6 ⟨rfl, bel6⟩
  replace ownw := ownw.new bel6
  replace owng := owng.new bel6
  replace BA := BA.new bel6
  replace BX := BX.new bel6
  replace BW := BW.new bel6
  replace BG := BG.new bel6
  replace hn4 := hn4.new bel6
  have b7 := b6'.trans (bel6.mono z6)
  have z7 := b7.size
  have z67 := bel6.size
  clear b6' bel6
  go_wp2_with fail
  have HS : Hid (∀ X, Below w6.heap.size w6 X → X.cell? ⟨w.heap.size, 0, none⟩ = some (.slice a N.ends.length c) ∧ X.cell? ⟨w.heap.size, 1, none⟩ = some (.slice ai N.ids.length ci) ∧ X.cell? ⟨w.heap.size, 2, none⟩ = some (.slice ap N.inputs.length cp) ∧ X.cell? ⟨w4.heap.size, 0, none⟩ = some (.slice a4 N.ends.length c4) ∧ X.cell? ⟨w4.heap.size, 1, none⟩ = some (.slice ai4 N.ids.length ci4) ∧ X.cell? ⟨w4.heap.size, 2, none⟩ = some (.slice ap4 N.inputs.length cp4) ∧ Below w6.heap.size w6 X) :=
    fun X bX => ⟨(BA.new bX).cell 0 _ rfl, (BA.new bX).cell 1 _ rfl, (BA.new bX).cell 2 _ rfl, (BX.new bX).cell 0 _ rfl, (BX.new bX).cell 1 _ rfl, (BX.new bX).cell 2 _ rfl, bX⟩
  have HT : Hid (∀ X, Below w6.heap.size w6 X → Calls Try.prog 12 #[.agg #[.slice a N.ends.length c, .slice ai N.ids.length ci, .slice ap N.inputs.length cp]] X fun e w' => ∃ v', e = .returned v' ∧ NetAt w' X.heap.size w'.heap.size v' N ∧ Below w6.heap.size w6 w') :=
    fun X bX => (toNetwork_any _ N _ _ (HV.out.below (b7.trans (bX.mono z7))) (Nat.le_trans z7 bX.size) hS).mono fun e w' ⟨v', h1, h2, h3⟩ => ⟨v', h1, h2, bX.trans (h3.mono bX.size)⟩
  have HE : Hid (∀ X v6 lo, Below w6.heap.size w6 X → NetAt X lo X.heap.size v6 N → Calls Try.prog 14 #[.agg #[.slice a4 N.ends.length c4, .slice ai4 N.ids.length ci4, .slice ap4 N.inputs.length cp4], v6] X fun e w' => e = .returned (.bool true) ∧ Below w6.heap.size w6 w') :=
    fun X v6 lo bX hX => (eqNetwork_any _ _ N _ _ _ _ _ (hn4.new bX) hX (by have := bX.size; omega) (Nat.le_refl _) hS).mono fun e w' ⟨h1, h2⟩ => ⟨h1, bX.trans (h2.mono bX.size)⟩
  have bd : Below w6.heap.size w6 w6.drew := (Below.refl _ _).drew
  go_region_held3 (fun X => X.cell? ⟨w.heap.size, 0, none⟩ = some (.slice a N.ends.length c) ∧ X.cell? ⟨w.heap.size, 1, none⟩ = some (.slice ai N.ids.length ci) ∧ X.cell? ⟨w.heap.size, 2, none⟩ = some (.slice ap N.inputs.length cp) ∧ X.cell? ⟨w4.heap.size, 0, none⟩ = some (.slice a4 N.ends.length c4) ∧ X.cell? ⟨w4.heap.size, 1, none⟩ = some (.slice ai4 N.ids.length ci4) ∧ X.cell? ⟨w4.heap.size, 2, none⟩ = some (.slice ap4 N.inputs.length cp4) ∧ Below w6.heap.size w6 X) (exact HS.out _ (by assumption)) (first | (go_at_call 12; refine (HT.out _ (by first | assumption | (go_split_ands; assumption))).mono ?_; rintro e w7 ⟨v7, rfl, own7, bel7⟩) | (go_at_call 14; refine (HE.out _ _ _ (by assumption) (by assumption)).mono ?_; rintro e w8 ⟨rfl, bel8⟩))
  all_goals
    clear HS HT HE bd
    have y8 := bel8.size
    replace BA := BA.new bel8
    replace BX := BX.new bel8
    replace BW := BW.new bel8
    replace BG := BG.new bel8
    replace hn4 := hn4.new bel8
    replace ownw := ownw.new bel8
    replace owng := owng.new bel8
    have b8 := b7.trans (bel8.mono z7)
    clear b7 bel8
    have cX0 := BX.cell 0 _ rfl
    have cX1 := BX.cell 1 _ rfl
    have cX2 := BX.cell 2 _ rfl
    go_wp2_with fail
    clear cX0 cX1 cX2
    refine (markNetwork_any _ N 1 _ _ _ hn4 (by omega) hS (by omega)).mono ?_
    rintro e w9 ⟨rfl, hn9, fr9⟩
    clear hn9 hn4 BX
    have z89 := fr9.size
    replace BA := BA.fr fr9 (by omega)
    replace BW := BW.fr fr9 (by omega)
    replace BG := BG.fr fr9 (by omega)
    replace ownw := ownw.fr fr9 (fun k h1 h2 hc => by omega)
    replace owng := owng.fr fr9 (fun k h1 h2 hc => by omega)
    have b9 := b8.trans (fr9.below (B := w.heap.size) (fun k h1 h2 hc => by omega) (by omega))
    have z9 := b9.size
    clear b8 fr9
    have d9 : decide (((1 + netTot N : Nat) : Int) < 0) = false := decide_eq_false (by omega)
    have cG0 := BG.cell 0 _ rfl
    have cG1 := BG.cell 1 _ rfl
    have cG2 := BG.cell 2 _ rfl
    have cW0 := BW.cell 0 _ rfl
    have cW1 := BW.cell 1 _ rfl
    have cW2 := BW.cell 2 _ rfl
    go_wp2_with fail
    clear cG0 cG1 cG2 cW0 cW1 cW2
    refine (eqNetwork_any _ _ R _ _ _ _ _ owng ownw (by omega) (by omega) hR).mono ?_
    rintro e w10 ⟨rfl, bel10⟩
    replace ownw := ownw.new bel10
    replace owng := owng.new bel10
    replace BA := BA.new bel10
    replace BW := BW.new bel10
    replace BG := BG.new bel10
    have b10 := b9.trans (bel10.mono z9)
    have z10 := b10.size
    have y10 := bel10.size
    clear b9 bel10
    have cG0 := BG.cell 0 _ rfl
    have cG1 := BG.cell 1 _ rfl
    have cG2 := BG.cell 2 _ rfl
    go_wp2_with fail
    clear cG0 cG1 cG2
    refine (markNetwork_any _ R 1 _ _ _ owng (by omega) hR (by omega)).mono ?_
    rintro e w11 ⟨rfl, owngm, fr11⟩
    replace BA := BA.fr fr11 (by omega)
    replace BW := BW.fr fr11 (by omega)
    replace BG := BG.fr fr11 (by omega)
    replace ownw := ownw.fr fr11 (fun k h1 h2 hc => by omega)
    have b11 := b10.trans (fr11.below (B := w.heap.size) (fun k h1 h2 hc => by omega) (by omega))
    have z11 := b11.size
    have y11 := fr11.size
    clear b10 fr11 owng
    have cG0 := BG.cell 0 _ rfl
    have cG1 := BG.cell 1 _ rfl
    have cG2 := BG.cell 2 _ rfl
    go_wp2_with fail
    clear cG0 cG1 cG2
    refine (heldNetwork_any _ R 1 _ _ _ owngm (by omega) hR (by omega)).mono ?_
    rintro e w12 ⟨rfl, bel12⟩
    replace BA := BA.new bel12
    replace BW := BW.new bel12
    replace BG := BG.new bel12
    replace ownw := ownw.new bel12
    replace owngm := owngm.new bel12
    have b12 := b11.trans (bel12.mono z11)
    have z12' := b12.size
    have y12 := bel12.size
    clear b11 bel12
    have cA0 := BA.cell 0 _ rfl
    have cA1 := BA.cell 1 _ rfl
    have cA2 := BA.cell 2 _ rfl
    have hlt : ¬ (((1 + netTot R : Nat) : Int) < 0) := by omega
    go_wp2_with fail
    clear cA0 cA1 cA2 BA
    refine (toNetwork_any _ N _ _ (HV.out.below b12) z12' hS).mono ?_
    rintro e w13 ⟨v13, rfl, own13, bel13⟩
    replace BW := BW.new bel13
    replace BG := BG.new bel13
    replace ownw := ownw.new bel13
    replace owngm := owngm.new bel13
    have b13 := b12.trans (bel13.mono z12')
    have z13 := b13.size
    have y13 := bel13.size
    clear b12 bel13
    go_wp2_with fail
    refine (HI.out _ _ _ own13.in_ (Nat.le_refl _)).mono ?_
    rintro e wH ⟨vh, rfl, ownh, bel14⟩
    obtain ⟨ah, chh, aih, cih, aph, cph, rfl, ownh⟩ := ownh.shape
    replace BW := BW.new bel14
    replace BG := BG.new bel14
    replace ownw := ownw.new bel14
    replace owngm := owngm.new bel14
    have b14 := b13.trans (bel14.mono z13)
    have y14 := bel14.size
    clear b13 bel14 own13
    have bxH : Below wH.heap.size wH (wH.alloc (.cells #[.slice ah R.ends.length chh, .slice aih R.ids.length cih, .slice aph R.inputs.length cph] 29)) := (by repeat (first | exact Below.refl _ _ | assumption | refine Below.alloc ?_ (by first | (simp; done) | (simp; omega) | omega) _ | refine Below.setCell ?_ (by first | (simp; done) | (simp; omega) | omega) _ | refine Below.drew ?_ | refine Below.drewN ?_ _))
    replace BW := BW.new bxH
    replace BG := BG.new bxH
    have cW0 := BW.cell 0 _ rfl
    have cW1 := BW.cell 1 _ rfl
    have cW2 := BW.cell 2 _ rfl
    go_wp2_with fail
    clear cW0 cW1 cW2
    replace ownw := ownw.new bxH
    replace owngm := owngm.new bxH
    replace ownh := ownh.new bxH
    have b14' := b14.trans (bxH.mono b14.size)
    have zxH := bxH.size
    generalize wH.alloc (.cells #[.slice ah R.ends.length chh, .slice aih R.ids.length cih, .slice aph R.inputs.length cph] 29) = w14 at *
    clear bxH b14
    have z14 := b14'.size
    refine (eqNetwork_any _ _ R _ _ _ _ _ ownh ownw (by omega) (by omega) hR).mono ?_
    rintro e w15 ⟨rfl, bel15⟩
    replace owngm := owngm.new bel15
    replace BG := BG.new bel15
    have b15 := b14'.trans (bel15.mono z14)
    have z15 := b15.size
    have y15 := bel15.size
    clear b14' bel15 ownh ownw BW
    have cG0 := BG.cell 0 _ rfl
    have cG1 := BG.cell 1 _ rfl
    have cG2 := BG.cell 2 _ rfl
    go_wp2_with fail
    clear cG0 cG1 cG2
    refine (heldNetwork_any _ R 1 _ _ _ owngm (by omega) hR (by omega)).mono ?_
    rintro e w16 ⟨rfl, bel16⟩
    go_wp2_with fail
    go_ret
    exact ⟨rfl, b15.trans (bel16.mono z15)⟩
end Go.Proofs.Ytlooinhdehkcdaa
