/- KeepNodes: both functions. -/
import Derived.Test.YtlooinhdehkcdaaKepS
import Derived.Test.YtlooinhdehkcdaaPrtK
import Derived.Test.YtlooinhdehkcdaaShelf
namespace Go.Proofs.Ytlooinhdehkcdaa
open Go.RowKit
set_option linter.unusedVariables false
set_option linter.unusedSimpArgs false



theorem hasB_contains (l : List Int) (x : Int) : (l.take l.length).contains x = hasB l x := by
  rw [List.take_length, Bool.eq_iff_iff, List.contains_iff_mem]
  unfold hasB
  rw [decide_eq_true_iff]
  constructor
  · intro h
    obtain ⟨j, hj, rfl⟩ := List.getElem_of_mem h
    exact ⟨j, hj, nth_eq_getElem l j hj⟩
  · rintro ⟨j, hj, rfl⟩
    exact nth_mem l j hj
set_option maxRecDepth 100000 in
set_option maxHeartbeats 3200000 in
theorem keepS_any (V : Value) (N : Net) (al : Option Addr) (capl : Nat) (l : List Int) (w : World) (B : Nat) (hv : NetIn w B V N) (hB : B ≤ w.heap.size) (ha : RdI w w.heap.size al l) (hlen : l.length ≤ 1048576) (hs : NetSmall N) :
    Calls Try.prog 23 #[V, .slice al l.length capl] w (PostN (kpN N l) (kpOk N l) w) := by
  have HA := Lib.hid ha
  clear ha
  have HV := Lib.hid hv
  have HS := Lib.hid hs
  obtain ⟨a, c, vs, ai, ci, ap, cp, rfl, h1, _⟩ := hv
  have hl : N.ends.length ≤ 1048576 := by unfold NetSmall at hs; omega
  have BA := (Bx.made w 29 #[.slice a N.ends.length c, .slice ai N.ids.length ci, .slice ap N.inputs.length cp]).alloc (.cells #[.slice none 0 0, .slice none 0 0, .slice none 0 0] 29)
  have BR := Bx.made (w.alloc (.cells #[.slice a N.ends.length c, .slice ai N.ids.length ci, .slice ap N.inputs.length cp] 29)) 29 #[.slice none 0 0, .slice none 0 0, .slice none 0 0]
  have b0 : Below w.heap.size w ((w.alloc (.cells #[.slice a N.ends.length c, .slice ai N.ids.length ci, .slice ap N.inputs.length cp] 29)).alloc (.cells #[.slice none 0 0, .slice none 0 0, .slice none 0 0] 29)) := (by repeat (first | exact Below.refl _ _ | assumption | refine Below.alloc ?_ (by first | (simp; done) | (simp; omega) | omega) _ | refine Below.setCell ?_ (by first | (simp; done) | (simp; omega) | omega) _ | refine Below.drew ?_ | refine Below.drewN ?_ _))
  have z0 : w.heap.size + 1 + 1 ≤ ((w.alloc (.cells #[.slice a N.ends.length c, .slice ai N.ids.length ci, .slice ap N.inputs.length cp] 29)).alloc (.cells #[.slice none 0 0, .slice none 0 0, .slice none 0 0] 29)).heap.size := by simp
  rw [World.size_alloc] at BR
  clear hs h1
  go_enter Try.func23, Try.ntmps23
  go_wp2_with fail
  generalize (w.alloc (.cells #[.slice a N.ends.length c, .slice ai N.ids.length ci, .slice ap N.inputs.length cp] 29)).alloc (.cells #[.slice none 0 0, .slice none 0 0, .slice none 0 0] 29) = w0 at *
  refine (neGood_any _ N _ B (HV.out.below (b0.mono hB)) (Nat.le_trans hB b0.size) HS.out).mono ?_
  rintro e w1 ⟨rfl, bel1⟩
  replace BA := BA.new bel1
  replace BR := BR.new bel1
  have z1 := bel1.size
  have bb := b0.trans (bel1.mono b0.size)
  clear b0 bel1
  cases hn : netB N with
  | false =>
    have HF : Hid (kpOk N l = false) := Lib.hid (kpOk_f0 hn)
    clear hn
    have e0 := BR.cell 0 _ rfl
    have e1 := BR.cell 1 _ rfl
    have e2 := BR.cell 2 _ rfl
    have f0 := BR.frozen 0
    have f1 := BR.frozen 1
    have f2 := BR.frozen 2
    go_wp2_with fail
    clear e0 e1 e2 f0 f1 f2
    generalize hW : World.setCell _ _ _ = W
    have B6 : Bx W (w.heap.size + 1) 29 #[.slice none 0 0, .slice none 0 0, .slice none 0 0] := by rw [← hW]; exact ((BR.set 0 _).set 1 _).set 2 _
    have fr6 : Fr (fun k => k = w.heap.size + 1) w1 W := by rw [← hW]; exact fr3 _ _ _ _ _
    clear hW
    have z6 := fr6.size
    have d0 := B6.cell 0 _ rfl
    have d1 := B6.cell 1 _ rfl
    have d2 := B6.cell 2 _ rfl
    refine bodyPost_ret (v := .tuple #[.agg #[.slice none 0 0, .slice none 0 0, .slice none 0 0], .bool false]) (by simp [results, Try.results23, go_sem, d0, d1, d2]) rfl ?_
    rw [kpN_f HF.out, id HF.out]
    exact ⟨_, rfl, NetAt.nilN _ _ _, bb.trans (fr6.below (fun k h1 h2 hc => by omega) bb.size)⟩
  | true =>
  have HN := Lib.hid hn
  clear hn
  have HSM := Lib.hid (netB_small HN.out)
  have hle : N.ends.length ≤ 40 := HSM.out.1
  have hge : 1 ≤ N.ends.length := HSM.out.2.1
  by_cases hl0 : l.length = 0
  · have HF : Hid (kpOk N l = false) := Lib.hid (kpOk_f1 hl0)
    have hz : ((l.length : Int) == 0) = true := by simp [hl0]
    clear hl0
    have e0 := BR.cell 0 _ rfl
    have e1 := BR.cell 1 _ rfl
    have e2 := BR.cell 2 _ rfl
    have f0 := BR.frozen 0
    have f1 := BR.frozen 1
    have f2 := BR.frozen 2
    go_wp2_with fail
    clear e0 e1 e2 f0 f1 f2
    generalize hW : World.setCell _ _ _ = W
    have B6 : Bx W (w.heap.size + 1) 29 #[.slice none 0 0, .slice none 0 0, .slice none 0 0] := by rw [← hW]; exact ((BR.set 0 _).set 1 _).set 2 _
    have fr6 : Fr (fun k => k = w.heap.size + 1) w1 W := by rw [← hW]; exact fr3 _ _ _ _ _
    clear hW
    have z6 := fr6.size
    have d0 := B6.cell 0 _ rfl
    have d1 := B6.cell 1 _ rfl
    have d2 := B6.cell 2 _ rfl
    refine bodyPost_ret (v := .tuple #[.agg #[.slice none 0 0, .slice none 0 0, .slice none 0 0], .bool false]) (by simp [results, Try.results23, go_sem, d0, d1, d2]) rfl ?_
    rw [kpN_f HF.out, id HF.out]
    exact ⟨_, rfl, NetAt.nilN _ _ _, bb.trans (fr6.below (fun k h1 h2 hc => by omega) bb.size)⟩
  have hz : ((l.length : Int) == 0) = false := beq_eq_false_iff_ne.2 (by omega)
  have hl1 : 1 ≤ l.length := by omega
  clear hl0
  have c0 := BA.cell 0 _ rfl
  have c1 := BA.cell 1 _ rfl
  have c2 := BA.cell 2 _ rfl
  go_wp2_with fail
  refine (l1Rising_any al capl l 0 ((N.ends.length : Int) - 1) _ w.heap.size (HA.out.below bb) (by omega)).mono ?_
  rintro e w2 ⟨rfl, hq⟩
  have bel2 := Qt.below hq w1.heap.size
  replace BA := BA.new bel2
  replace BR := BR.new bel2
  have z2 := bel2.size
  replace bb := bb.trans (bel2.mono bb.size)
  clear c0 c1 c2 bel2 hq
  cases hr : risB l 0 ((N.ends.length : Int) - 1) with
  | false =>
    have HF : Hid (kpOk N l = false) := Lib.hid ((kpOk_n HN.out (by omega)).trans hr)
    clear hr
    have e0 := BR.cell 0 _ rfl
    have e1 := BR.cell 1 _ rfl
    have e2 := BR.cell 2 _ rfl
    have f0 := BR.frozen 0
    have f1 := BR.frozen 1
    have f2 := BR.frozen 2
    go_wp2_with fail
    clear e0 e1 e2 f0 f1 f2
    generalize hW : World.setCell _ _ _ = W
    have B6 : Bx W (w.heap.size + 1) 29 #[.slice none 0 0, .slice none 0 0, .slice none 0 0] := by rw [← hW]; exact ((BR.set 0 _).set 1 _).set 2 _
    have fr6 : Fr (fun k => k = w.heap.size + 1) w2 W := by rw [← hW]; exact fr3 _ _ _ _ _
    clear hW
    have z6 := fr6.size
    have d0 := B6.cell 0 _ rfl
    have d1 := B6.cell 1 _ rfl
    have d2 := B6.cell 2 _ rfl
    refine bodyPost_ret (v := .tuple #[.agg #[.slice none 0 0, .slice none 0 0, .slice none 0 0], .bool false]) (by simp [results, Try.results23, go_sem, d0, d1, d2]) rfl ?_
    rw [kpN_f HF.out, id HF.out]
    exact ⟨_, rfl, NetAt.nilN _ _ _, bb.trans (fr6.below (fun k h1 h2 hc => by omega) bb.size)⟩
  | true =>
  have HT : Hid (kpOk N l = true) := Lib.hid ((kpOk_n HN.out (by omega)).trans hr)
  clear hr
  have c0 := BA.cell 0 _ rfl
  have c1 := BA.cell 1 _ rfl
  have c2 := BA.cell 2 _ rfl
  go_wp2_with fail
  refine (neKeep_any _ N al capl l _ B (HV.out.below (bb.mono hB)) (Rd.more (HA.out.below bb) bb.size) (Nat.le_trans hB bb.size) HT.out).mono ?_
  rintro e w9 ⟨x9, rfl, own9, bel9⟩
  replace BR := BR.new bel9
  replace bb := bb.trans (bel9.mono bb.size)
  have z9 := bel9.size
  clear c0 c1 c2 bel9 BA
  obtain ⟨Nk, hNk⟩ : ∃ Nk, Nk = partN N l (kpK N.ends l) (posL N.ends.length l) := ⟨_, rfl⟩
  rw [← hNk] at own9
  have HNk := Lib.hid hNk
  clear hNk
  obtain ⟨ax, cx, aix, cix, apx, cpx, rfl, own9⟩ := own9.shape
  have e0 := BR.cell 0 _ rfl
  have e1 := BR.cell 1 _ rfl
  have e2 := BR.cell 2 _ rfl
  have f0 := BR.frozen 0
  have f1 := BR.frozen 1
  have f2 := BR.frozen 2
  go_wp2_with fail
  clear e0 e1 e2 f0 f1 f2
  generalize hW : World.setCell _ _ _ = W
  have B6 : Bx W (w.heap.size + 1) 29 #[.slice ax Nk.ends.length cx, .slice aix Nk.ids.length cix, .slice apx Nk.inputs.length cpx] := by rw [← hW]; exact ((BR.set 0 _).set 1 _).set 2 _
  have fr6 : Fr (fun k => k = w.heap.size + 1) w9 W := by rw [← hW]; exact fr3 _ _ _ _ _
  clear hW
  have z6 := fr6.size
  have d0 := B6.cell 0 _ rfl
  have d1 := B6.cell 1 _ rfl
  have d2 := B6.cell 2 _ rfl
  refine bodyPost_ret (v := .tuple #[.agg #[.slice ax Nk.ends.length cx, .slice aix Nk.ids.length cix, .slice apx Nk.inputs.length cpx], .bool true]) (by simp [results, Try.results23, go_sem, d0, d1, d2]) rfl ?_
  rw [kpN_t HT.out, HT.out, ← HNk.out]
  exact ⟨_, rfl, (own9.frBx BR fr6).wide (lo' := w.heap.size) (hi' := W.heap.size) (by omega) (by omega), bb.trans (fr6.below (fun k h1 h2 hc => by omega) bb.size)⟩
set_option maxRecDepth 100000 in
set_option maxHeartbeats 800000 in
theorem kpC_any (N : Net) (l : List Int) (v i x1 x2 : Nat) (al a0 : Option Addr) (capl c0 : Nat) (I P : Value) (vs0 : Nat → Option Addr × Nat) (X : World) (B B' : Nat) (h1 : Bx X x1 23 #[.slice al l.length capl]) (h2 : Bx X x2 29 #[.slice a0 N.ends.length c0, I, P])
    (hE : RdEE X B a0 N.ends vs0) (ha : RdI X B' al l) (hl0 : 0 < l.length) (hl : l.length ≤ 1048576) (hle : N.ends.length ≤ 40) (hv : v < N.ends.length) (hi : i < (rowOf N.ends v).length) (hr : (rowOf N.ends v).length ≤ 6) :
    Calls Try.prog 85 #[.int .i64 (v : Int), .int .i64 (i : Int), .pointer (some ⟨x1, 0, none⟩), .pointer (some ⟨x2, 0, none⟩)] X fun e w' => e = .returned (.bool (kpK N.ends l v i)) ∧ Below X.heap.size X w' := by
  obtain ⟨g0, off0, rfl, _, hc⟩ := Rd.at hE.1 hv
  obtain ⟨g1, off1, har, _, e1, _⟩ := RdE.at (hE.2 v hv) hi
  obtain ⟨gl, offl, rfl, hgl, hcl⟩ := ha hl0
  rw [har] at hc
  have HK : Hid (kpK N.ends l v i = hasB l (nthE (rowOf N.ends v) i).1) := Lib.hid rfl
  generalize kpK N.ends l v i = kk at *
  generalize (nthE (rowOf N.ends v) i).1 = p at *
  generalize (vs0 v).2 = cR at *
  have hs0 : X.drew.cell? ⟨x1, 0, none⟩ = some (.slice (some ⟨gl, offl, none⟩) l.length capl) := h1.cell 0 _ rfl
  have hs1 : X.drew.cell? ⟨x2, 0, none⟩ = some (.slice (some ⟨g0, off0, none⟩) N.ends.length c0) := h2.cell 0 _ rfl
  have hs2 : X.drew.cell? ⟨g0, off0 + v, none⟩ = some (.slice (some ⟨g1, off1, none⟩) (rowOf N.ends v).length cR) := hc
  have hs3 : X.drew.cell? ⟨g1, off1 + i * 2, none⟩ = some (.int .i64 p) := e1
  have HCL := Lib.hid hcl
  clear hE ha h1 h2 hcl hc e1 har
  go_enter Try.func85, Try.ntmps85
  go_upto_region 1 with fail
  refine wp_region_held_drew (S := fun X => X.cell? ⟨x1, 0, none⟩ = some (.slice (some ⟨gl, offl, none⟩) l.length capl) ∧ X.cell? ⟨x2, 0, none⟩ = some (.slice (some ⟨g0, off0, none⟩) N.ends.length c0) ∧ X.cell? ⟨g0, off0 + v, none⟩ = some (.slice (some ⟨g1, off1, none⟩) (rowOf N.ends v).length cR) ∧ X.cell? ⟨g1, off1 + i * 2, none⟩ = some (.int .i64 p)) (by kernel_rfl) ⟨hs0, hs1, hs2, hs3⟩ (fun hHeld => ?_)
  refine wpAnyH_take (i := 0) (v := ?_) rfl (by kernel_rfl) (by kernel_rfl) (by kernel_rfl) (fun _ _ _ h => h) (Or.inl ⟨by rfl, ?_⟩) (by assumption) ?_
  rotate_left
  · (intro w hSw; (try dsimp only at hSw); obtain ⟨hq0, hq1, hq2, hq3⟩ := hSw; go_simp; try with_reducible rfl)
  try simp only [Act.put, List.getElem_toArray, List.getElem_cons_zero, List.getElem_cons_succ, List.setIfInBounds_toArray, List.set_cons_zero, List.set_cons_succ]
  refine wpAnyH_take (i := 1) (v := ?_) rfl (by kernel_rfl) (by kernel_rfl) (by kernel_rfl) (fun _ _ _ h => h) (Or.inl ⟨by rfl, ?_⟩) (by assumption) ?_
  rotate_left
  · (intro w hSw; (try dsimp only at hSw); obtain ⟨hq0, hq1, hq2, hq3⟩ := hSw; go_simp; try with_reducible rfl)
  try simp only [Act.put, List.getElem_toArray, List.getElem_cons_zero, List.getElem_cons_succ, List.setIfInBounds_toArray, List.set_cons_zero, List.set_cons_succ]
  refine wpAnyH_take (i := 2) (v := ?_) rfl (by kernel_rfl) (by kernel_rfl) (by kernel_rfl) (fun _ _ _ h => h) (Or.inl ⟨by rfl, ?_⟩) (by assumption) ?_
  rotate_left
  · (intro w hSw; (try dsimp only at hSw); obtain ⟨hq0, hq1, hq2, hq3⟩ := hSw; go_simp; try with_reducible rfl)
  try simp only [Act.put, List.getElem_toArray, List.getElem_cons_zero, List.getElem_cons_succ, List.setIfInBounds_toArray, List.set_cons_zero, List.set_cons_succ]
  refine wpAnyH_take (i := 3) (v := ?_) rfl (by kernel_rfl) (by kernel_rfl) (by kernel_rfl) (fun _ _ _ h => h) (Or.inl ⟨by rfl, ?_⟩) (by assumption) ?_
  rotate_left
  · (intro w hSw; (try dsimp only at hSw); obtain ⟨hq0, hq1, hq2, hq3⟩ := hSw; go_simp; try with_reducible rfl)
  try simp only [Act.put, List.getElem_toArray, List.getElem_cons_zero, List.getElem_cons_succ, List.setIfInBounds_toArray, List.set_cons_zero, List.set_cons_succ]
  refine wpAnyH_take (i := 4) (v := ?_) rfl (by kernel_rfl) (by kernel_rfl) (by kernel_rfl) (fun _ _ _ h => h) (Or.inl ⟨by rfl, ?_⟩) (by assumption) ?_
  rotate_left
  · (intro w hSw; (try dsimp only at hSw); obtain ⟨hq0, hq1, hq2, hq3⟩ := hSw; go_simp; try with_reducible rfl)
  try simp only [Act.put, List.getElem_toArray, List.getElem_cons_zero, List.getElem_cons_succ, List.setIfInBounds_toArray, List.set_cons_zero, List.set_cons_succ]
  refine wpAnyH_take (i := 5) (v := ?_) rfl (by kernel_rfl) (by kernel_rfl) (by kernel_rfl) (fun _ _ _ h => h) (Or.inl ⟨by rfl, ?_⟩) (by assumption) ?_
  rotate_left
  · (intro w hSw; (try dsimp only at hSw); obtain ⟨hq0, hq1, hq2, hq3⟩ := hSw; go_simp; try with_reducible rfl)
  try simp only [Act.put, List.getElem_toArray, List.getElem_cons_zero, List.getElem_cons_succ, List.setIfInBounds_toArray, List.set_cons_zero, List.set_cons_succ]
  refine wpAnyH_take (i := 6) (v := ?_) rfl (by kernel_rfl) (by kernel_rfl) (by kernel_rfl) (fun _ _ _ h => h) (Or.inl ⟨by rfl, ?_⟩) (by assumption) ?_
  rotate_left
  · (intro w hSw; (try dsimp only at hSw); obtain ⟨hq0, hq1, hq2, hq3⟩ := hSw; go_simp; try with_reducible rfl)
  try simp only [Act.put, List.getElem_toArray, List.getElem_cons_zero, List.getElem_cons_succ, List.setIfInBounds_toArray, List.set_cons_zero, List.set_cons_succ]
  refine wpAnyH_take (i := 7) (v := ?_) rfl (by kernel_rfl) (by kernel_rfl) (by kernel_rfl) (fun _ _ _ h => h) (Or.inl ⟨by rfl, ?_⟩) (by assumption) ?_
  rotate_left
  · (intro w hSw; (try dsimp only at hSw); obtain ⟨hq0, hq1, hq2, hq3⟩ := hSw; go_simp; try with_reducible rfl)
  try simp only [Act.put, List.getElem_toArray, List.getElem_cons_zero, List.getElem_cons_succ, List.setIfInBounds_toArray, List.set_cons_zero, List.set_cons_succ]
  refine wpAnyH_take (i := 8) (v := ?_) rfl (by kernel_rfl) (by kernel_rfl) (by kernel_rfl) (fun _ _ _ h => h) (Or.inl ⟨by rfl, ?_⟩) (by assumption) ?_
  rotate_left
  · (intro w hSw; (try dsimp only at hSw); obtain ⟨hq0, hq1, hq2, hq3⟩ := hSw; go_simp; try with_reducible rfl)
  try simp only [Act.put, List.getElem_toArray, List.getElem_cons_zero, List.getElem_cons_succ, List.setIfInBounds_toArray, List.set_cons_zero, List.set_cons_succ]
  refine wpAnyH_take (i := 9) (v := ?_) rfl (by kernel_rfl) (by kernel_rfl) (by kernel_rfl) (fun _ _ _ h => h) (Or.inl ⟨by rfl, ?_⟩) (by assumption) ?_
  rotate_left
  · (intro w hSw; (try dsimp only at hSw); obtain ⟨hq0, hq1, hq2, hq3⟩ := hSw; go_simp; try with_reducible rfl)
  try simp only [Act.put, List.getElem_toArray, List.getElem_cons_zero, List.getElem_cons_succ, List.setIfInBounds_toArray, List.set_cons_zero, List.set_cons_succ]
  refine wpAnyH_ready (rs := [10]) (by kernel_rfl) (by simp) ?_
  refine AllReadyH.cons (o := _) rfl (fun K hK => ?_) AllReadyH.nil
  go_simp
  refine (Try.slices_Contains_int gl offl l.length capl l p X.drew (Nat.le_refl _) (by omega) (fun j hj => HCL.out j hj)).mono ?_
  rintro e w2 ⟨rfl, hw⟩
  subst hw
  rw [hasB_contains, ← HK.out]
  refine hK.out _ _ hHeld (fun _ => ?_)
  clear hK K
  try simp only [Act.put, List.getElem_toArray, List.getElem_cons_zero, List.getElem_cons_succ, List.setIfInBounds_toArray, List.set_cons_zero, List.set_cons_succ]
  refine wpAnyH_ready (rs := [11]) (by kernel_rfl) (by simp) ?_
  refine AllReadyH.cons (o := _) rfl (fun K hK => ?_) AllReadyH.nil
  go_simp
  refine hK.out _ _ hHeld (fun _ => ?_)
  clear hK K
  try simp only [Act.put, List.getElem_toArray, List.getElem_cons_zero, List.getElem_cons_succ, List.setIfInBounds_toArray, List.set_cons_zero, List.set_cons_succ]
  refine wpAnyH_done (by kernel_rfl) ?_ _
  go_wp2_with fail
  go_ret
  exact ⟨rfl, (Below.refl _ _).drew⟩
set_option maxRecDepth 100000 in
set_option maxHeartbeats 1600000 in
theorem keepNodes_any (V : Value) (N : Net) (al : Option Addr) (capl : Nat) (l : List Int) (w : World) (B : Nat) (hv : NetIn w B V N) (ha : RdI w w.heap.size al l) (hB : B ≤ w.heap.size) (hok : kpOk N l = true) :
    Calls Try.prog 61 #[V, .slice al l.length capl] w fun e w' => ∃ x, e = .returned x ∧ NetAt w' w.heap.size w'.heap.size x (partN N l (kpK N.ends l) (posL N.ends.length l)) ∧ Below w.heap.size w w' := by
  obtain ⟨hnet, hl0, hris⟩ := kpOk_ris hok
  have HOK := Lib.hid (kpPart hnet hris)
  have HN := Lib.hid hnet
  have HV := Lib.hid hv
  have HSM := Lib.hid (netB_small hnet)
  have hnl : l.length ≤ 40 := HOK.out.1
  have HA := Lib.hid ha
  have hle : N.ends.length ≤ 40 := HSM.out.1
  obtain ⟨a0, c0, vs0, ai0, ci0, ap0, cp0, rfl, h1, _⟩ := hv
  have H1 := Lib.hid h1
  clear hnet hris ha h1 hok
  have BA := ((Bx.made w 29 #[.slice a0 N.ends.length c0, .slice ai0 N.ids.length ci0, .slice ap0 N.inputs.length cp0]).alloc (.cells #[.slice al l.length capl] 23)).alloc (.cells #[.slice none 0 0, .slice none 0 0, .slice none 0 0] 29)
  have BK := (Bx.made (w.alloc (.cells #[.slice a0 N.ends.length c0, .slice ai0 N.ids.length ci0, .slice ap0 N.inputs.length cp0] 29)) 23 #[.slice al l.length capl]).alloc (.cells #[.slice none 0 0, .slice none 0 0, .slice none 0 0] 29)
  have BR := Bx.made ((w.alloc (.cells #[.slice a0 N.ends.length c0, .slice ai0 N.ids.length ci0, .slice ap0 N.inputs.length cp0] 29)).alloc (.cells #[.slice al l.length capl] 23)) 29 #[.slice none 0 0, .slice none 0 0, .slice none 0 0]
  have b0 : Below w.heap.size w (((w.alloc (.cells #[.slice a0 N.ends.length c0, .slice ai0 N.ids.length ci0, .slice ap0 N.inputs.length cp0] 29)).alloc (.cells #[.slice al l.length capl] 23)).alloc (.cells #[.slice none 0 0, .slice none 0 0, .slice none 0 0] 29)) := (by repeat (first | exact Below.refl _ _ | assumption | refine Below.alloc ?_ (by first | (simp; done) | (simp; omega) | omega) _ | refine Below.setCell ?_ (by first | (simp; done) | (simp; omega) | omega) _ | refine Below.drew ?_ | refine Below.drewN ?_ _))
  have z0 : w.heap.size + 1 + 1 + 1 ≤ (((w.alloc (.cells #[.slice a0 N.ends.length c0, .slice ai0 N.ids.length ci0, .slice ap0 N.inputs.length cp0] 29)).alloc (.cells #[.slice al l.length capl] 23)).alloc (.cells #[.slice none 0 0, .slice none 0 0, .slice none 0 0] 29)).heap.size := by simp
  rw [World.size_alloc] at BK
  rw [World.size_alloc, World.size_alloc] at BR
  have d0 := BA.cell 0 _ rfl
  have d1 := BA.cell 1 _ rfl
  have d2 := BA.cell 2 _ rfl
  have d3 := BK.cell 0 _ rfl
  go_enter Try.func61, Try.ntmps61
  go_wp2_with fail
  clear d0 d1 d2 d3
  generalize ((w.alloc (.cells #[.slice a0 N.ends.length c0, .slice ai0 N.ids.length ci0, .slice ap0 N.inputs.length cp0] 29)).alloc (.cells #[.slice al l.length capl] 23)).alloc (.cells #[.slice none 0 0, .slice none 0 0, .slice none 0 0] 29) = w0 at *
  refine (partK_any _ N l (kpK N.ends l) (posL N.ends.length l) al capl (w.heap.size + 1) w.heap.size w0 w.heap.size (netIn_more (HV.out.below (b0.mono hB)) hB) (HA.out.below b0) b0.size HN.out HOK.out (fun X v i bX hv' hi' => kpC_any N l v i (w.heap.size + 1) w.heap.size al a0 capl c0 _ _ vs0 X B w.heap.size (BK.below bX (by omega)) (BA.below bX (by omega)) (H1.out.below ((b0.trans (bX.mono b0.size)).mono hB)) (HA.out.below (b0.trans (bX.mono b0.size))) hl0 (by omega) hle hv' hi' (net_row HN.out hv'))).mono ?_
  rintro e w9 ⟨x9, rfl, own9, bel9⟩
  replace BR := BR.new bel9
  have bb := b0.trans (bel9.mono b0.size)
  have z9 := bel9.size
  clear bel9 BA BK
  obtain ⟨Nk, hNk⟩ : ∃ Nk, Nk = partN N l (kpK N.ends l) (posL N.ends.length l) := ⟨_, rfl⟩
  rw [← hNk] at own9
  have HNk := Lib.hid hNk
  clear hNk
  obtain ⟨ax, cx, aix, cix, apx, cpx, rfl, own9⟩ := own9.shape
  have e0 := BR.cell 0 _ rfl
  have e1 := BR.cell 1 _ rfl
  have e2 := BR.cell 2 _ rfl
  have f0 := BR.frozen 0
  have f1 := BR.frozen 1
  have f2 := BR.frozen 2
  go_wp2_with fail
  clear e0 e1 e2 f0 f1 f2
  generalize hW : World.setCell _ _ _ = W
  have B6 : Bx W (w.heap.size + 1 + 1) 29 #[.slice ax Nk.ends.length cx, .slice aix Nk.ids.length cix, .slice apx Nk.inputs.length cpx] := by rw [← hW]; exact ((BR.set 0 _).set 1 _).set 2 _
  have fr6 : Fr (fun k => k = w.heap.size + 1 + 1) w9 W := by rw [← hW]; exact fr3 _ _ _ _ _
  clear hW
  have z6 := fr6.size
  have d0 := B6.cell 0 _ rfl
  have d1 := B6.cell 1 _ rfl
  have d2 := B6.cell 2 _ rfl
  refine bodyPost_ret (v := .agg #[.slice ax Nk.ends.length cx, .slice aix Nk.ids.length cix, .slice apx Nk.inputs.length cpx]) (by simp [results, Try.results61, go_sem, d0, d1, d2]) rfl ?_
  rw [← HNk.out]
  exact ⟨_, rfl, (own9.frBx BR fr6).wide (by omega) (by omega), bb.trans (fr6.below (fun k h1 h2 hc => by omega) bb.size)⟩
set_option maxRecDepth 100000 in
set_option maxHeartbeats 3200000 in
theorem keep_any (V : Value) (N : Net) (al : Option Addr) (capl : Nat) (l : List Int) (w : World) (B : Nat) (hv : NetIn w B V N) (hB : B ≤ w.heap.size) (ha : RdI w w.heap.size al l) (hlen : l.length ≤ 1048576) (hs : NetSmall N) :
    Calls Try.prog 25 #[V, .slice al l.length capl] w (PostN (kpN N l) (kpOk N l) w) := by
  have HA := Lib.hid ha
  clear ha
  have HV := Lib.hid hv
  have HS := Lib.hid hs
  obtain ⟨a, c, vs, ai, ci, ap, cp, rfl, h1, _⟩ := hv
  have hl : N.ends.length ≤ 1048576 := by unfold NetSmall at hs; omega
  have BA := (Bx.made w 29 #[.slice a N.ends.length c, .slice ai N.ids.length ci, .slice ap N.inputs.length cp]).alloc (.cells #[.slice none 0 0, .slice none 0 0, .slice none 0 0] 29)
  have BR := Bx.made (w.alloc (.cells #[.slice a N.ends.length c, .slice ai N.ids.length ci, .slice ap N.inputs.length cp] 29)) 29 #[.slice none 0 0, .slice none 0 0, .slice none 0 0]
  have b0 : Below w.heap.size w ((w.alloc (.cells #[.slice a N.ends.length c, .slice ai N.ids.length ci, .slice ap N.inputs.length cp] 29)).alloc (.cells #[.slice none 0 0, .slice none 0 0, .slice none 0 0] 29)) := (by repeat (first | exact Below.refl _ _ | assumption | refine Below.alloc ?_ (by first | (simp; done) | (simp; omega) | omega) _ | refine Below.setCell ?_ (by first | (simp; done) | (simp; omega) | omega) _ | refine Below.drew ?_ | refine Below.drewN ?_ _))
  have z0 : w.heap.size + 1 + 1 ≤ ((w.alloc (.cells #[.slice a N.ends.length c, .slice ai N.ids.length ci, .slice ap N.inputs.length cp] 29)).alloc (.cells #[.slice none 0 0, .slice none 0 0, .slice none 0 0] 29)).heap.size := by simp
  rw [World.size_alloc] at BR
  clear hs h1
  go_enter Try.func25, Try.ntmps25
  go_wp2_with fail
  generalize (w.alloc (.cells #[.slice a N.ends.length c, .slice ai N.ids.length ci, .slice ap N.inputs.length cp] 29)).alloc (.cells #[.slice none 0 0, .slice none 0 0, .slice none 0 0] 29) = w0 at *
  refine (isNetwork_any _ N _ B (HV.out.below (b0.mono hB)).rd (Nat.le_trans hB b0.size) HS.out).mono ?_
  rintro e w1 ⟨rfl, bel1⟩
  replace BA := BA.new bel1
  replace BR := BR.new bel1
  have z1 := bel1.size
  have bb := b0.trans (bel1.mono b0.size)
  clear b0 bel1
  cases hn : netB N with
  | false =>
    have HF : Hid (kpOk N l = false) := Lib.hid (kpOk_f0 hn)
    clear hn
    have e0 := BR.cell 0 _ rfl
    have e1 := BR.cell 1 _ rfl
    have e2 := BR.cell 2 _ rfl
    have f0 := BR.frozen 0
    have f1 := BR.frozen 1
    have f2 := BR.frozen 2
    go_wp2_with fail
    clear e0 e1 e2 f0 f1 f2
    generalize hW : World.setCell _ _ _ = W
    have B6 : Bx W (w.heap.size + 1) 29 #[.slice none 0 0, .slice none 0 0, .slice none 0 0] := by rw [← hW]; exact ((BR.set 0 _).set 1 _).set 2 _
    have fr6 : Fr (fun k => k = w.heap.size + 1) w1 W := by rw [← hW]; exact fr3 _ _ _ _ _
    clear hW
    have z6 := fr6.size
    have d0 := B6.cell 0 _ rfl
    have d1 := B6.cell 1 _ rfl
    have d2 := B6.cell 2 _ rfl
    refine bodyPost_ret (v := .tuple #[.agg #[.slice none 0 0, .slice none 0 0, .slice none 0 0], .bool false]) (by simp [results, Try.results25, go_sem, d0, d1, d2]) rfl ?_
    rw [kpN_f HF.out, id HF.out]
    exact ⟨_, rfl, NetAt.nilN _ _ _, bb.trans (fr6.below (fun k h1 h2 hc => by omega) bb.size)⟩
  | true =>
  have HN := Lib.hid hn
  clear hn
  have HSM := Lib.hid (netB_small HN.out)
  have hle : N.ends.length ≤ 40 := HSM.out.1
  have hge : 1 ≤ N.ends.length := HSM.out.2.1
  by_cases hl0 : l.length = 0
  · have HF : Hid (kpOk N l = false) := Lib.hid (kpOk_f1 hl0)
    have hz : ((l.length : Int) == 0) = true := by simp [hl0]
    clear hl0
    have e0 := BR.cell 0 _ rfl
    have e1 := BR.cell 1 _ rfl
    have e2 := BR.cell 2 _ rfl
    have f0 := BR.frozen 0
    have f1 := BR.frozen 1
    have f2 := BR.frozen 2
    go_wp2_with fail
    clear e0 e1 e2 f0 f1 f2
    generalize hW : World.setCell _ _ _ = W
    have B6 : Bx W (w.heap.size + 1) 29 #[.slice none 0 0, .slice none 0 0, .slice none 0 0] := by rw [← hW]; exact ((BR.set 0 _).set 1 _).set 2 _
    have fr6 : Fr (fun k => k = w.heap.size + 1) w1 W := by rw [← hW]; exact fr3 _ _ _ _ _
    clear hW
    have z6 := fr6.size
    have d0 := B6.cell 0 _ rfl
    have d1 := B6.cell 1 _ rfl
    have d2 := B6.cell 2 _ rfl
    refine bodyPost_ret (v := .tuple #[.agg #[.slice none 0 0, .slice none 0 0, .slice none 0 0], .bool false]) (by simp [results, Try.results25, go_sem, d0, d1, d2]) rfl ?_
    rw [kpN_f HF.out, id HF.out]
    exact ⟨_, rfl, NetAt.nilN _ _ _, bb.trans (fr6.below (fun k h1 h2 hc => by omega) bb.size)⟩
  have hz : ((l.length : Int) == 0) = false := beq_eq_false_iff_ne.2 (by omega)
  have hl1 : 1 ≤ l.length := by omega
  clear hl0
  have c0 := BA.cell 0 _ rfl
  have c1 := BA.cell 1 _ rfl
  have c2 := BA.cell 2 _ rfl
  go_wp2_with fail
  refine (increasing_any al capl l 0 ((N.ends.length : Int) - 1) _ w.heap.size (HA.out.below bb) (by omega)).mono ?_
  rintro e w2 ⟨rfl, hq⟩
  have bel2 := Qt.below hq w1.heap.size
  replace BA := BA.new bel2
  replace BR := BR.new bel2
  have z2 := bel2.size
  replace bb := bb.trans (bel2.mono bb.size)
  clear c0 c1 c2 bel2 hq
  cases hr : risB l 0 ((N.ends.length : Int) - 1) with
  | false =>
    have HF : Hid (kpOk N l = false) := Lib.hid ((kpOk_n HN.out (by omega)).trans hr)
    clear hr
    have e0 := BR.cell 0 _ rfl
    have e1 := BR.cell 1 _ rfl
    have e2 := BR.cell 2 _ rfl
    have f0 := BR.frozen 0
    have f1 := BR.frozen 1
    have f2 := BR.frozen 2
    go_wp2_with fail
    clear e0 e1 e2 f0 f1 f2
    generalize hW : World.setCell _ _ _ = W
    have B6 : Bx W (w.heap.size + 1) 29 #[.slice none 0 0, .slice none 0 0, .slice none 0 0] := by rw [← hW]; exact ((BR.set 0 _).set 1 _).set 2 _
    have fr6 : Fr (fun k => k = w.heap.size + 1) w2 W := by rw [← hW]; exact fr3 _ _ _ _ _
    clear hW
    have z6 := fr6.size
    have d0 := B6.cell 0 _ rfl
    have d1 := B6.cell 1 _ rfl
    have d2 := B6.cell 2 _ rfl
    refine bodyPost_ret (v := .tuple #[.agg #[.slice none 0 0, .slice none 0 0, .slice none 0 0], .bool false]) (by simp [results, Try.results25, go_sem, d0, d1, d2]) rfl ?_
    rw [kpN_f HF.out, id HF.out]
    exact ⟨_, rfl, NetAt.nilN _ _ _, bb.trans (fr6.below (fun k h1 h2 hc => by omega) bb.size)⟩
  | true =>
  have HT : Hid (kpOk N l = true) := Lib.hid ((kpOk_n HN.out (by omega)).trans hr)
  clear hr
  have c0 := BA.cell 0 _ rfl
  have c1 := BA.cell 1 _ rfl
  have c2 := BA.cell 2 _ rfl
  go_wp2_with fail
  refine (keepNodes_any _ N al capl l _ B (HV.out.below (bb.mono hB)) (Rd.more (HA.out.below bb) bb.size) (Nat.le_trans hB bb.size) HT.out).mono ?_
  rintro e w9 ⟨x9, rfl, own9, bel9⟩
  replace BR := BR.new bel9
  replace bb := bb.trans (bel9.mono bb.size)
  have z9 := bel9.size
  clear c0 c1 c2 bel9 BA
  obtain ⟨Nk, hNk⟩ : ∃ Nk, Nk = partN N l (kpK N.ends l) (posL N.ends.length l) := ⟨_, rfl⟩
  rw [← hNk] at own9
  have HNk := Lib.hid hNk
  clear hNk
  obtain ⟨ax, cx, aix, cix, apx, cpx, rfl, own9⟩ := own9.shape
  have e0 := BR.cell 0 _ rfl
  have e1 := BR.cell 1 _ rfl
  have e2 := BR.cell 2 _ rfl
  have f0 := BR.frozen 0
  have f1 := BR.frozen 1
  have f2 := BR.frozen 2
  go_wp2_with fail
  clear e0 e1 e2 f0 f1 f2
  generalize hW : World.setCell _ _ _ = W
  have B6 : Bx W (w.heap.size + 1) 29 #[.slice ax Nk.ends.length cx, .slice aix Nk.ids.length cix, .slice apx Nk.inputs.length cpx] := by rw [← hW]; exact ((BR.set 0 _).set 1 _).set 2 _
  have fr6 : Fr (fun k => k = w.heap.size + 1) w9 W := by rw [← hW]; exact fr3 _ _ _ _ _
  clear hW
  have z6 := fr6.size
  have d0 := B6.cell 0 _ rfl
  have d1 := B6.cell 1 _ rfl
  have d2 := B6.cell 2 _ rfl
  refine bodyPost_ret (v := .tuple #[.agg #[.slice ax Nk.ends.length cx, .slice aix Nk.ids.length cix, .slice apx Nk.inputs.length cpx], .bool true]) (by simp [results, Try.results25, go_sem, d0, d1, d2]) rfl ?_
  rw [kpN_t HT.out, HT.out, ← HNk.out]
  exact ⟨_, rfl, (own9.frBx BR fr6).wide (lo' := w.heap.size) (hi' := W.heap.size) (by omega) (by omega), bb.trans (fr6.below (fun k h1 h2 hc => by omega) bb.size)⟩
end Go.Proofs.Ytlooinhdehkcdaa
