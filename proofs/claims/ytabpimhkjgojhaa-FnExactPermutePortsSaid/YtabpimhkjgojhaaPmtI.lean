/- PermutePorts: impl's function; both functions. -/
import Derived.Test.YtabpimhkjgojhaaPmt
namespace Go.Proofs.Ytabpimhkjgojhaa
open Go.RowKit
set_option linter.unusedVariables false
set_option linter.unusedSimpArgs false


theorem Fr.cell {C : Nat → Prop} {w w' : World} (h : Fr C w w') {p : Addr} (hp : p.block < w.heap.size) (hc : ¬ C p.block) : w'.cell? p = w.cell? p := by
  unfold World.cell?; rw [h.block _ hp hc]
set_option maxRecDepth 100000 in
set_option maxHeartbeats 800000 in
theorem moved_any (v p q pv pp : Nat) (l : List Int) (al : Option Addr) (capl B : Nat) (X : World) (hv : X.cell? ⟨pv, 0, none⟩ = some (.int .i64 (v : Int))) (hp : X.cell? ⟨pp, 0, none⟩ = some (.slice al l.length capl)) (ha : RdI X B al l) (hB : B ≤ X.heap.size) (hq : v = p → q < l.length) (hl : l.length ≤ 1048576) :
    Calls Try.prog 75 #[.agg #[.int .i64 p, .int .i64 q], .pointer (some ⟨pv, 0, none⟩), .pointer (some ⟨pp, 0, none⟩)] X fun e w' => e = .returned (.agg #[.int .i64 (mvE v l ((p : Int), (q : Int))).1, .int .i64 (mvE v l ((p : Int), (q : Int))).2]) ∧ Below X.heap.size X w' := by
  have b0 : Below X.heap.size X ((X.alloc (.cells #[.int .i64 (p : Int), .int .i64 (q : Int)] 62)).alloc (.cells #[.int .i64 0, .int .i64 0] 62)) := (by repeat (first | exact Below.refl _ _ | assumption | refine Below.alloc ?_ (by first | (simp; done) | (simp; omega) | omega) _ | refine Below.setCell ?_ (by first | (simp; done) | (simp; omega) | omega) _ | refine Below.drew ?_ | refine Below.drewN ?_ _))
  have hv0 := (b0.cell (p := ⟨pv, 0, none⟩) (World.block_lt_of_cell? X _ hv)).trans hv
  have hp0 := (b0.cell (p := ⟨pp, 0, none⟩) (World.block_lt_of_cell? X _ hp)).trans hp
  have hpv1 : pv < X.heap.size := World.block_lt_of_cell? X _ hv
  have hpp1 : pp < X.heap.size := World.block_lt_of_cell? X _ hp
  clear hv hp
  by_cases hpv : v = p
  · subst hpv
    have hql := hq rfl
    obtain ⟨gl, offl, rfl, hgl, hcl⟩ := ha (by omega)
    have hcq := (b0.cell (p := ⟨gl, offl + q, none⟩) (by show gl < _; omega)).trans (hcl q hql)
    have hmv : mvE v l ((v : Int), (q : Int)) = ((v : Int), nth l q) := by rw [mvE, if_pos rfl]; rfl
    have HMV := Lib.hid hmv
    have hgl1 : gl < X.heap.size := by omega
    clear hmv hcl hq ha
    go_enter Try.func75, Try.ntmps75
    go_wp2_with fail
    refine bodyPost_ret (v := .agg #[.int .i64 (v : Int), .int .i64 (nth l q)]) (by simp [results, Try.results75, go_sem]) rfl ?_
    rw [HMV.out]
    exact ⟨rfl, (by repeat (first | exact Below.refl _ _ | assumption | refine Below.alloc ?_ (by first | (simp; done) | (simp; omega) | omega) _ | refine Below.setCell ?_ (by first | (simp; done) | (simp; omega) | omega) _ | refine Below.drew ?_ | refine Below.drewN ?_ _))⟩
  · have hpv2 : ¬ (p : Int) = (v : Int) := by omega
    have hmv : mvE v l ((p : Int), (q : Int)) = ((p : Int), (q : Int)) := by rw [mvE, if_neg hpv2]
    have HMV := Lib.hid hmv
    clear hmv hq
    go_enter Try.func75, Try.ntmps75
    go_wp2_with fail
    refine bodyPost_ret (v := .agg #[.int .i64 (p : Int), .int .i64 (q : Int)]) (by simp [results, Try.results75, go_sem]) rfl ?_
    rw [HMV.out]
    exact ⟨rfl, (by repeat (first | exact Below.refl _ _ | assumption | refine Below.alloc ?_ (by first | (simp; done) | (simp; omega) | omega) _ | refine Below.setCell ?_ (by first | (simp; done) | (simp; omega) | omega) _ | refine Below.drew ?_ | refine Below.drewN ?_ _))⟩
set_option maxRecDepth 100000 in
set_option maxHeartbeats 3200000 in
theorem pmt_any (V : Value) (N : Net) (v : Int) (al : Option Addr) (capl : Nat) (l : List Int) (w : World) (B : Nat) (hv : NetIn w B V N) (hB : B ≤ w.heap.size) (ha : RdI w w.heap.size al l) (hcl : l.length ≤ capl) (hs : NetSmall N) (hlen : l.length ≤ 1048576) :
    Calls Try.prog 30 #[V, .int .i64 v, .slice al l.length capl] w (PostN (ppR N v l) (ppB N v l) w) := by
  have HV := Lib.hid hv
  have HS := Lib.hid hs
  obtain ⟨a, c, vs, ai, ci, ap, cp, rfl, h1, h2, h3, _⟩ := hv
  have hl : N.ends.length ≤ 1048576 := by unfold NetSmall at hs; omega
  have BA := (((Bx.made w 25 #[.slice a N.ends.length c, .slice ai N.ids.length ci, .slice ap N.inputs.length cp]).alloc (.cells #[.int .i64 v] 3)).alloc (.cells #[.slice al l.length capl] 22)).alloc (.cells #[.slice none 0 0, .slice none 0 0, .slice none 0 0] 25)
  have BV := ((Bx.made (w.alloc (.cells #[.slice a N.ends.length c, .slice ai N.ids.length ci, .slice ap N.inputs.length cp] 25)) 3 #[.int .i64 v]).alloc (.cells #[.slice al l.length capl] 22)).alloc (.cells #[.slice none 0 0, .slice none 0 0, .slice none 0 0] 25)
  have BP := (Bx.made ((w.alloc (.cells #[.slice a N.ends.length c, .slice ai N.ids.length ci, .slice ap N.inputs.length cp] 25)).alloc (.cells #[.int .i64 v] 3)) 22 #[.slice al l.length capl]).alloc (.cells #[.slice none 0 0, .slice none 0 0, .slice none 0 0] 25)
  have BR := Bx.made (((w.alloc (.cells #[.slice a N.ends.length c, .slice ai N.ids.length ci, .slice ap N.inputs.length cp] 25)).alloc (.cells #[.int .i64 v] 3)).alloc (.cells #[.slice al l.length capl] 22)) 25 #[.slice none 0 0, .slice none 0 0, .slice none 0 0]
  simp only [World.size_alloc] at BV BP BR
  have b0 : Below w.heap.size w ((((w.alloc (.cells #[.slice a N.ends.length c, .slice ai N.ids.length ci, .slice ap N.inputs.length cp] 25)).alloc (.cells #[.int .i64 v] 3)).alloc (.cells #[.slice al l.length capl] 22)).alloc (.cells #[.slice none 0 0, .slice none 0 0, .slice none 0 0] 25)) := (by repeat (first | exact Below.refl _ _ | assumption | refine Below.alloc ?_ (by first | (simp; done) | (simp; omega) | omega) _ | refine Below.setCell ?_ (by first | (simp; done) | (simp; omega) | omega) _ | refine Below.drew ?_ | refine Below.drewN ?_ _))
  have z0 : w.heap.size + 1 + 1 + 1 + 1 ≤ ((((w.alloc (.cells #[.slice a N.ends.length c, .slice ai N.ids.length ci, .slice ap N.inputs.length cp] 25)).alloc (.cells #[.int .i64 v] 3)).alloc (.cells #[.slice al l.length capl] 22)).alloc (.cells #[.slice none 0 0, .slice none 0 0, .slice none 0 0] 25)).heap.size := by simp
  have HR0 := Lib.hid h1
  clear hs h1 h2 h3
  go_enter Try.func30, Try.ntmps30
  go_upto_region 1 with fail
  generalize ((((w.alloc (.cells #[.slice a N.ends.length c, .slice ai N.ids.length ci, .slice ap N.inputs.length cp] 25)).alloc (.cells #[.int .i64 v] 3)).alloc (.cells #[.slice al l.length capl] 22)).alloc (.cells #[.slice none 0 0, .slice none 0 0, .slice none 0 0] 25)) = w0 at *
  have HSS : Hid (∀ X, Below w0.heap.size w0 X → X.cell? ⟨w.heap.size, 0, none⟩ = some (.slice a N.ends.length c) ∧ X.cell? ⟨w.heap.size, 1, none⟩ = some (.slice ai N.ids.length ci) ∧ X.cell? ⟨w.heap.size, 2, none⟩ = some (.slice ap N.inputs.length cp) ∧ X.cell? ⟨w.heap.size + 1, 0, none⟩ = some (.int .i64 v) ∧ X.cell? ⟨w.heap.size + 1 + 1, 0, none⟩ = some (.slice al l.length capl)) := Lib.hid fun X bX => ⟨(BA.new bX).cell 0 _ rfl, (BA.new bX).cell 1 _ rfl, (BA.new bX).cell 2 _ rfl, (BV.new bX).cell 0 _ rfl, (BP.new bX).cell 0 _ rfl⟩
  cases hn : netB N with
  | false =>
    have HN := Lib.hid hn
    have HF := Lib.hid (ppB_f0 (v := v) (l := l) hn)
    clear hn
    refine wp_region_held_drew (S := fun X => X.cell? ⟨w.heap.size, 0, none⟩ = some (.slice a N.ends.length c) ∧ X.cell? ⟨w.heap.size, 1, none⟩ = some (.slice ai N.ids.length ci) ∧ X.cell? ⟨w.heap.size, 2, none⟩ = some (.slice ap N.inputs.length cp) ∧ X.cell? ⟨w.heap.size + 1, 0, none⟩ = some (.int .i64 v) ∧ X.cell? ⟨w.heap.size + 1 + 1, 0, none⟩ = some (.slice al l.length capl)) (by kernel_rfl) (HSS.out _ ((Below.refl _ _).drew)) (fun hHeld => ?_)
    refine wpAnyH_take (i := 0) (v := ?_) rfl (by kernel_rfl) (by kernel_rfl) (by kernel_rfl) (fun _ _ _ h => h) (Or.inl ⟨by rfl, ?_⟩) (by assumption) ?_
    rotate_left
    · (intro w hSw; (try dsimp only at hSw); go_simp; try with_reducible rfl)
    try simp only [Act.put, List.getElem_toArray, List.getElem_cons_zero, List.getElem_cons_succ, List.setIfInBounds_toArray, List.set_cons_zero, List.set_cons_succ]
    refine wpAnyH_ready (rs := [1]) (by kernel_rfl) (by simp) ?_
    refine AllReadyH.cons (o := _) rfl (fun K hK => ?_) AllReadyH.nil
    go_simp
    have bd := b0.drew
    refine (isNetwork_any _ N _ B (HV.out.below (bd.mono hB)).rd (Nat.le_trans hB bd.size) HS.out).mono ?_
    rintro e w1 ⟨rfl, bel1⟩
    rw [HN.out]
    have b1 : Below w0.heap.size w0 w1 := ((Below.refl _ _).drew).trans bel1
    clear bel1 bd
    refine hK.out _ _ (HSS.out _ b1) (fun hHeld => ?_)
    clear hK K
    try simp only [Act.put, List.getElem_toArray, List.getElem_cons_zero, List.getElem_cons_succ, List.setIfInBounds_toArray, List.set_cons_zero, List.set_cons_succ]
    refine wpAnyH_take (i := 2) (v := ?_) rfl (by kernel_rfl) (by kernel_rfl) (by kernel_rfl) (fun _ _ _ h => h) (Or.inl ⟨by rfl, ?_⟩) (by assumption) ?_
    rotate_left
    · (intro w hSw; (try dsimp only at hSw); go_simp; try with_reducible rfl)
    try simp only [Act.put, List.getElem_toArray, List.getElem_cons_zero, List.getElem_cons_succ, List.setIfInBounds_toArray, List.set_cons_zero, List.set_cons_succ]
    refine wpAnyH_take (i := 3) (v := ?_) rfl (by kernel_rfl) (by kernel_rfl) (by kernel_rfl) (fun _ _ _ h => h) (Or.inl ⟨by rfl, ?_⟩) (by assumption) ?_
    rotate_left
    · (intro w hSw; (try dsimp only at hSw); go_simp; try with_reducible rfl)
    try simp only [Act.put, List.getElem_toArray, List.getElem_cons_zero, List.getElem_cons_succ, List.setIfInBounds_toArray, List.set_cons_zero, List.set_cons_succ]
    refine wpAnyH_take (i := 4) (v := undef) rfl (by kernel_rfl) (by kernel_rfl) (by kernel_rfl) (fun _ _ _ h => h) (Or.inr ⟨by rfl, rfl⟩) (by assumption) ?_
    try simp only [Act.put, List.getElem_toArray, List.getElem_cons_zero, List.getElem_cons_succ, List.setIfInBounds_toArray, List.set_cons_zero, List.set_cons_succ]
    refine wpAnyH_take (i := 5) (v := undef) rfl (by kernel_rfl) (by kernel_rfl) (by kernel_rfl) (fun _ _ _ h => h) (Or.inr ⟨by rfl, rfl⟩) (by assumption) ?_
    try simp only [Act.put, List.getElem_toArray, List.getElem_cons_zero, List.getElem_cons_succ, List.setIfInBounds_toArray, List.set_cons_zero, List.set_cons_succ]
    refine wpAnyH_take (i := 6) (v := undef) rfl (by kernel_rfl) (by kernel_rfl) (by kernel_rfl) (fun _ _ _ h => h) (Or.inr ⟨by rfl, rfl⟩) (by assumption) ?_
    try simp only [Act.put, List.getElem_toArray, List.getElem_cons_zero, List.getElem_cons_succ, List.setIfInBounds_toArray, List.set_cons_zero, List.set_cons_succ]
    refine wpAnyH_take (i := 7) (v := undef) rfl (by kernel_rfl) (by kernel_rfl) (by kernel_rfl) (fun _ _ _ h => h) (Or.inr ⟨by rfl, rfl⟩) (by assumption) ?_
    try simp only [Act.put, List.getElem_toArray, List.getElem_cons_zero, List.getElem_cons_succ, List.setIfInBounds_toArray, List.set_cons_zero, List.set_cons_succ]
    refine wpAnyH_take (i := 8) (v := ?_) rfl (by kernel_rfl) (by kernel_rfl) (by kernel_rfl) (fun _ _ _ h => h) (Or.inl ⟨by rfl, ?_⟩) (by assumption) ?_
    rotate_left
    · (intro w hSw; (try dsimp only at hSw); go_simp; try with_reducible rfl)
    try simp only [Act.put, List.getElem_toArray, List.getElem_cons_zero, List.getElem_cons_succ, List.setIfInBounds_toArray, List.set_cons_zero, List.set_cons_succ]
    refine wpAnyH_take (i := 9) (v := ?_) rfl (by kernel_rfl) (by kernel_rfl) (by kernel_rfl) (fun _ _ _ h => h) (Or.inl ⟨by rfl, ?_⟩) (by assumption) ?_
    rotate_left
    · (intro w hSw; (try dsimp only at hSw); go_simp; try with_reducible rfl)
    try simp only [Act.put, List.getElem_toArray, List.getElem_cons_zero, List.getElem_cons_succ, List.setIfInBounds_toArray, List.set_cons_zero, List.set_cons_succ]
    refine wpAnyH_take (i := 10) (v := undef) rfl (by kernel_rfl) (by kernel_rfl) (by kernel_rfl) (fun _ _ _ h => h) (Or.inr ⟨by rfl, rfl⟩) (by assumption) ?_
    try simp only [Act.put, List.getElem_toArray, List.getElem_cons_zero, List.getElem_cons_succ, List.setIfInBounds_toArray, List.set_cons_zero, List.set_cons_succ]
    refine wpAnyH_take (i := 11) (v := undef) rfl (by kernel_rfl) (by kernel_rfl) (by kernel_rfl) (fun _ _ _ h => h) (Or.inr ⟨by rfl, rfl⟩) (by assumption) ?_
    try simp only [Act.put, List.getElem_toArray, List.getElem_cons_zero, List.getElem_cons_succ, List.setIfInBounds_toArray, List.set_cons_zero, List.set_cons_succ]
    refine wpAnyH_take (i := 12) (v := undef) rfl (by kernel_rfl) (by kernel_rfl) (by kernel_rfl) (fun _ _ _ h => h) (Or.inr ⟨by rfl, rfl⟩) (by assumption) ?_
    try simp only [Act.put, List.getElem_toArray, List.getElem_cons_zero, List.getElem_cons_succ, List.setIfInBounds_toArray, List.set_cons_zero, List.set_cons_succ]
    refine wpAnyH_take (i := 13) (v := undef) rfl (by kernel_rfl) (by kernel_rfl) (by kernel_rfl) (fun _ _ _ h => h) (Or.inr ⟨by rfl, rfl⟩) (by assumption) ?_
    try simp only [Act.put, List.getElem_toArray, List.getElem_cons_zero, List.getElem_cons_succ, List.setIfInBounds_toArray, List.set_cons_zero, List.set_cons_succ]
    refine wpAnyH_take (i := 14) (v := undef) rfl (by kernel_rfl) (by kernel_rfl) (by kernel_rfl) (fun _ _ _ h => h) (Or.inr ⟨by rfl, rfl⟩) (by assumption) ?_
    try simp only [Act.put, List.getElem_toArray, List.getElem_cons_zero, List.getElem_cons_succ, List.setIfInBounds_toArray, List.set_cons_zero, List.set_cons_succ]
    refine wpAnyH_take (i := 15) (v := undef) rfl (by kernel_rfl) (by kernel_rfl) (by kernel_rfl) (fun _ _ _ h => h) (Or.inr ⟨by rfl, rfl⟩) (by assumption) ?_
    try simp only [Act.put, List.getElem_toArray, List.getElem_cons_zero, List.getElem_cons_succ, List.setIfInBounds_toArray, List.set_cons_zero, List.set_cons_succ]
    refine wpAnyH_take (i := 16) (v := undef) rfl (by kernel_rfl) (by kernel_rfl) (by kernel_rfl) (fun _ _ _ h => h) (Or.inr ⟨by rfl, rfl⟩) (by assumption) ?_
    try simp only [Act.put, List.getElem_toArray, List.getElem_cons_zero, List.getElem_cons_succ, List.setIfInBounds_toArray, List.set_cons_zero, List.set_cons_succ]
    refine wpAnyH_take (i := 17) (v := undef) rfl (by kernel_rfl) (by kernel_rfl) (by kernel_rfl) (fun _ _ _ h => h) (Or.inr ⟨by rfl, rfl⟩) (by assumption) ?_
    try simp only [Act.put, List.getElem_toArray, List.getElem_cons_zero, List.getElem_cons_succ, List.setIfInBounds_toArray, List.set_cons_zero, List.set_cons_succ]
    refine wpAnyH_take (i := 18) (v := undef) rfl (by kernel_rfl) (by kernel_rfl) (by kernel_rfl) (fun _ _ _ h => h) (Or.inr ⟨by rfl, rfl⟩) (by assumption) ?_
    try simp only [Act.put, List.getElem_toArray, List.getElem_cons_zero, List.getElem_cons_succ, List.setIfInBounds_toArray, List.set_cons_zero, List.set_cons_succ]
    refine wpAnyH_take (i := 19) (v := ?_) rfl (by kernel_rfl) (by kernel_rfl) (by kernel_rfl) (fun _ _ _ h => h) (Or.inl ⟨by rfl, ?_⟩) (by assumption) ?_
    rotate_left
    · (intro w hSw; (try dsimp only at hSw); go_simp; try with_reducible rfl)
    try simp only [Act.put, List.getElem_toArray, List.getElem_cons_zero, List.getElem_cons_succ, List.setIfInBounds_toArray, List.set_cons_zero, List.set_cons_succ]
    refine wpAnyH_done (by kernel_rfl) ?_ _
    clear hHeld
    replace BR := BR.new b1
    have bbW := b0.trans (b1.mono b0.size)
    have e0 := BR.cell 0 _ rfl
    have e1 := BR.cell 1 _ rfl
    have e2 := BR.cell 2 _ rfl
    have f0 := BR.frozen 0
    have f1 := BR.frozen 1
    have f2 := BR.frozen 2
    go_wp2_with fail
    clear e0 e1 e2 f0 f1 f2
    generalize hW : World.setCell _ _ _ = W
    have B6 : Bx W (w.heap.size + 1 + 1 + 1) 25 #[.slice none 0 0, .slice none 0 0, .slice none 0 0] := by rw [← hW]; exact ((BR.set 0 _).set 1 _).set 2 _
    have fr6 : Fr (fun k => k = w.heap.size + 1 + 1 + 1) w1 W := by rw [← hW]; exact fr3 _ _ _ _ _
    clear hW
    have z6 := fr6.size
    have d0 := B6.cell 0 _ rfl
    have d1 := B6.cell 1 _ rfl
    have d2 := B6.cell 2 _ rfl
    refine bodyPost_ret (v := .tuple #[.agg #[.slice none 0 0, .slice none 0 0, .slice none 0 0], .bool false]) (by simp [results, Try.results30, go_sem, d0, d1, d2]) rfl ?_
    rw [ppR_f HF.out, HF.out]
    exact ⟨_, rfl, NetAt.nilN _ _ _, bbW.trans (fr6.below (fun k h1 h2 hc => by omega) bbW.size)⟩
  | true =>
  have HN := Lib.hid hn
  cases hh : hasN N.ends v with
  | false =>
    have HH := Lib.hid hh
    have HF := Lib.hid (ppB_f1 (N := N) (l := l) hh)
    clear hn hh
    refine wp_region_held_drew (S := fun X => X.cell? ⟨w.heap.size, 0, none⟩ = some (.slice a N.ends.length c) ∧ X.cell? ⟨w.heap.size, 1, none⟩ = some (.slice ai N.ids.length ci) ∧ X.cell? ⟨w.heap.size, 2, none⟩ = some (.slice ap N.inputs.length cp) ∧ X.cell? ⟨w.heap.size + 1, 0, none⟩ = some (.int .i64 v) ∧ X.cell? ⟨w.heap.size + 1 + 1, 0, none⟩ = some (.slice al l.length capl)) (by kernel_rfl) (HSS.out _ ((Below.refl _ _).drew)) (fun hHeld => ?_)
    refine wpAnyH_take (i := 0) (v := ?_) rfl (by kernel_rfl) (by kernel_rfl) (by kernel_rfl) (fun _ _ _ h => h) (Or.inl ⟨by rfl, ?_⟩) (by assumption) ?_
    rotate_left
    · (intro w hSw; (try dsimp only at hSw); go_simp; try with_reducible rfl)
    try simp only [Act.put, List.getElem_toArray, List.getElem_cons_zero, List.getElem_cons_succ, List.setIfInBounds_toArray, List.set_cons_zero, List.set_cons_succ]
    refine wpAnyH_ready (rs := [1]) (by kernel_rfl) (by simp) ?_
    refine AllReadyH.cons (o := _) rfl (fun K hK => ?_) AllReadyH.nil
    go_simp
    have bd := b0.drew
    refine (isNetwork_any _ N _ B (HV.out.below (bd.mono hB)).rd (Nat.le_trans hB bd.size) HS.out).mono ?_
    rintro e w1 ⟨rfl, bel1⟩
    rw [HN.out]
    have b1 : Below w0.heap.size w0 w1 := ((Below.refl _ _).drew).trans bel1
    clear bel1 bd
    refine hK.out _ _ (HSS.out _ b1) (fun hHeld => ?_)
    clear hK K
    try simp only [Act.put, List.getElem_toArray, List.getElem_cons_zero, List.getElem_cons_succ, List.setIfInBounds_toArray, List.set_cons_zero, List.set_cons_succ]
    refine wpAnyH_take (i := 2) (v := ?_) rfl (by kernel_rfl) (by kernel_rfl) (by kernel_rfl) (fun _ _ _ h => h) (Or.inl ⟨by rfl, ?_⟩) (by assumption) ?_
    rotate_left
    · (intro w hSw; (try dsimp only at hSw); go_simp; try with_reducible rfl)
    try simp only [Act.put, List.getElem_toArray, List.getElem_cons_zero, List.getElem_cons_succ, List.setIfInBounds_toArray, List.set_cons_zero, List.set_cons_succ]
    refine wpAnyH_take (i := 3) (v := ?_) rfl (by kernel_rfl) (by kernel_rfl) (by kernel_rfl) (fun _ _ _ h => h) (Or.inl ⟨by rfl, ?_⟩) (by assumption) ?_
    rotate_left
    · (intro w hSw; (try dsimp only at hSw); go_simp; try with_reducible rfl)
    try simp only [Act.put, List.getElem_toArray, List.getElem_cons_zero, List.getElem_cons_succ, List.setIfInBounds_toArray, List.set_cons_zero, List.set_cons_succ]
    refine wpAnyH_take (i := 4) (v := ?_) rfl (by kernel_rfl) (by kernel_rfl) (by kernel_rfl) (fun _ _ _ h => h) (Or.inl ⟨by rfl, ?_⟩) (by assumption) ?_
    rotate_left
    · (intro w hSw; (try dsimp only at hSw); go_simp; try with_reducible rfl)
    try simp only [Act.put, List.getElem_toArray, List.getElem_cons_zero, List.getElem_cons_succ, List.setIfInBounds_toArray, List.set_cons_zero, List.set_cons_succ]
    refine wpAnyH_take (i := 5) (v := ?_) rfl (by kernel_rfl) (by kernel_rfl) (by kernel_rfl) (fun _ _ _ h => h) (Or.inl ⟨by rfl, ?_⟩) (by assumption) ?_
    rotate_left
    · (intro w hSw; (try dsimp only at hSw); go_simp; try with_reducible rfl)
    try simp only [Act.put, List.getElem_toArray, List.getElem_cons_zero, List.getElem_cons_succ, List.setIfInBounds_toArray, List.set_cons_zero, List.set_cons_succ]
    refine wpAnyH_ready (rs := [6]) (by kernel_rfl) (by simp) ?_
    refine AllReadyH.cons (o := _) rfl (fun K hK => ?_) AllReadyH.nil
    go_simp
    refine (hasNode_any a ai ap N.ends c _ _ _ _ _ w1 hl).mono ?_
    rintro e w2 ⟨rfl, bel2⟩
    rw [HH.out]
    have b2 := b1.trans (bel2.mono b1.size)
    clear bel2
    refine hK.out _ _ (HSS.out _ b2) (fun hHeld => ?_)
    clear hK K
    try simp only [Act.put, List.getElem_toArray, List.getElem_cons_zero, List.getElem_cons_succ, List.setIfInBounds_toArray, List.set_cons_zero, List.set_cons_succ]
    refine wpAnyH_take (i := 7) (v := ?_) rfl (by kernel_rfl) (by kernel_rfl) (by kernel_rfl) (fun _ _ _ h => h) (Or.inl ⟨by rfl, ?_⟩) (by assumption) ?_
    rotate_left
    · (intro w hSw; (try dsimp only at hSw); go_simp; try with_reducible rfl)
    try simp only [Act.put, List.getElem_toArray, List.getElem_cons_zero, List.getElem_cons_succ, List.setIfInBounds_toArray, List.set_cons_zero, List.set_cons_succ]
    refine wpAnyH_take (i := 8) (v := ?_) rfl (by kernel_rfl) (by kernel_rfl) (by kernel_rfl) (fun _ _ _ h => h) (Or.inl ⟨by rfl, ?_⟩) (by assumption) ?_
    rotate_left
    · (intro w hSw; (try dsimp only at hSw); go_simp; try with_reducible rfl)
    try simp only [Act.put, List.getElem_toArray, List.getElem_cons_zero, List.getElem_cons_succ, List.setIfInBounds_toArray, List.set_cons_zero, List.set_cons_succ]
    refine wpAnyH_take (i := 9) (v := ?_) rfl (by kernel_rfl) (by kernel_rfl) (by kernel_rfl) (fun _ _ _ h => h) (Or.inl ⟨by rfl, ?_⟩) (by assumption) ?_
    rotate_left
    · (intro w hSw; (try dsimp only at hSw); go_simp; try with_reducible rfl)
    try simp only [Act.put, List.getElem_toArray, List.getElem_cons_zero, List.getElem_cons_succ, List.setIfInBounds_toArray, List.set_cons_zero, List.set_cons_succ]
    refine wpAnyH_take (i := 10) (v := undef) rfl (by kernel_rfl) (by kernel_rfl) (by kernel_rfl) (fun _ _ _ h => h) (Or.inr ⟨by rfl, rfl⟩) (by assumption) ?_
    try simp only [Act.put, List.getElem_toArray, List.getElem_cons_zero, List.getElem_cons_succ, List.setIfInBounds_toArray, List.set_cons_zero, List.set_cons_succ]
    refine wpAnyH_take (i := 11) (v := undef) rfl (by kernel_rfl) (by kernel_rfl) (by kernel_rfl) (fun _ _ _ h => h) (Or.inr ⟨by rfl, rfl⟩) (by assumption) ?_
    try simp only [Act.put, List.getElem_toArray, List.getElem_cons_zero, List.getElem_cons_succ, List.setIfInBounds_toArray, List.set_cons_zero, List.set_cons_succ]
    refine wpAnyH_take (i := 12) (v := undef) rfl (by kernel_rfl) (by kernel_rfl) (by kernel_rfl) (fun _ _ _ h => h) (Or.inr ⟨by rfl, rfl⟩) (by assumption) ?_
    try simp only [Act.put, List.getElem_toArray, List.getElem_cons_zero, List.getElem_cons_succ, List.setIfInBounds_toArray, List.set_cons_zero, List.set_cons_succ]
    refine wpAnyH_take (i := 13) (v := undef) rfl (by kernel_rfl) (by kernel_rfl) (by kernel_rfl) (fun _ _ _ h => h) (Or.inr ⟨by rfl, rfl⟩) (by assumption) ?_
    try simp only [Act.put, List.getElem_toArray, List.getElem_cons_zero, List.getElem_cons_succ, List.setIfInBounds_toArray, List.set_cons_zero, List.set_cons_succ]
    refine wpAnyH_take (i := 14) (v := undef) rfl (by kernel_rfl) (by kernel_rfl) (by kernel_rfl) (fun _ _ _ h => h) (Or.inr ⟨by rfl, rfl⟩) (by assumption) ?_
    try simp only [Act.put, List.getElem_toArray, List.getElem_cons_zero, List.getElem_cons_succ, List.setIfInBounds_toArray, List.set_cons_zero, List.set_cons_succ]
    refine wpAnyH_take (i := 15) (v := undef) rfl (by kernel_rfl) (by kernel_rfl) (by kernel_rfl) (fun _ _ _ h => h) (Or.inr ⟨by rfl, rfl⟩) (by assumption) ?_
    try simp only [Act.put, List.getElem_toArray, List.getElem_cons_zero, List.getElem_cons_succ, List.setIfInBounds_toArray, List.set_cons_zero, List.set_cons_succ]
    refine wpAnyH_take (i := 16) (v := undef) rfl (by kernel_rfl) (by kernel_rfl) (by kernel_rfl) (fun _ _ _ h => h) (Or.inr ⟨by rfl, rfl⟩) (by assumption) ?_
    try simp only [Act.put, List.getElem_toArray, List.getElem_cons_zero, List.getElem_cons_succ, List.setIfInBounds_toArray, List.set_cons_zero, List.set_cons_succ]
    refine wpAnyH_take (i := 17) (v := undef) rfl (by kernel_rfl) (by kernel_rfl) (by kernel_rfl) (fun _ _ _ h => h) (Or.inr ⟨by rfl, rfl⟩) (by assumption) ?_
    try simp only [Act.put, List.getElem_toArray, List.getElem_cons_zero, List.getElem_cons_succ, List.setIfInBounds_toArray, List.set_cons_zero, List.set_cons_succ]
    refine wpAnyH_take (i := 18) (v := undef) rfl (by kernel_rfl) (by kernel_rfl) (by kernel_rfl) (fun _ _ _ h => h) (Or.inr ⟨by rfl, rfl⟩) (by assumption) ?_
    try simp only [Act.put, List.getElem_toArray, List.getElem_cons_zero, List.getElem_cons_succ, List.setIfInBounds_toArray, List.set_cons_zero, List.set_cons_succ]
    refine wpAnyH_take (i := 19) (v := ?_) rfl (by kernel_rfl) (by kernel_rfl) (by kernel_rfl) (fun _ _ _ h => h) (Or.inl ⟨by rfl, ?_⟩) (by assumption) ?_
    rotate_left
    · (intro w hSw; (try dsimp only at hSw); go_simp; try with_reducible rfl)
    try simp only [Act.put, List.getElem_toArray, List.getElem_cons_zero, List.getElem_cons_succ, List.setIfInBounds_toArray, List.set_cons_zero, List.set_cons_succ]
    refine wpAnyH_done (by kernel_rfl) ?_ _
    clear hHeld
    replace BR := BR.new b2
    have bbW := b0.trans (b2.mono b0.size)
    have e0 := BR.cell 0 _ rfl
    have e1 := BR.cell 1 _ rfl
    have e2 := BR.cell 2 _ rfl
    have f0 := BR.frozen 0
    have f1 := BR.frozen 1
    have f2 := BR.frozen 2
    go_wp2_with fail
    clear e0 e1 e2 f0 f1 f2
    generalize hW : World.setCell _ _ _ = W
    have B6 : Bx W (w.heap.size + 1 + 1 + 1) 25 #[.slice none 0 0, .slice none 0 0, .slice none 0 0] := by rw [← hW]; exact ((BR.set 0 _).set 1 _).set 2 _
    have fr6 : Fr (fun k => k = w.heap.size + 1 + 1 + 1) w2 W := by rw [← hW]; exact fr3 _ _ _ _ _
    clear hW
    have z6 := fr6.size
    have d0 := B6.cell 0 _ rfl
    have d1 := B6.cell 1 _ rfl
    have d2 := B6.cell 2 _ rfl
    refine bodyPost_ret (v := .tuple #[.agg #[.slice none 0 0, .slice none 0 0, .slice none 0 0], .bool false]) (by simp [results, Try.results30, go_sem, d0, d1, d2]) rfl ?_
    rw [ppR_f HF.out, HF.out]
    exact ⟨_, rfl, NetAt.nilN _ _ _, bbW.trans (fr6.below (fun k h1 h2 hc => by omega) bbW.size)⟩
  | true =>
  have HH := Lib.hid hh
  have HT := Lib.hid (ppB_t (l := l) hn hh)
  obtain ⟨vn, rfl, hvn⟩ := hasN_nat hh
  rw [Int.toNat_natCast] at HT
  have hle : N.ends.length ≤ 40 := (netB_small hn).1
  have hL0 := net_row hn hvn
  clear hn hh
  obtain ⟨g0, off0, rfl, hg0, hc0⟩ := HR0.out.1 (by omega)
  have HC0 := Lib.hid hc0
  clear hc0
  have hcv := fun X (bX : Below w0.heap.size w0 X) => ((b0.trans (bX.mono b0.size)).cell (p := ⟨g0, off0 + vn, none⟩) (by show g0 < _; omega)).trans (HC0.out vn hvn)
  have HCV := Lib.hid hcv
  clear hcv
  have HS3 : Hid (∀ X, Below w0.heap.size w0 X → X.cell? ⟨w.heap.size, 0, none⟩ = some (.slice (some ⟨g0, off0, none⟩) N.ends.length c) ∧ X.cell? ⟨w.heap.size, 1, none⟩ = some (.slice ai N.ids.length ci) ∧ X.cell? ⟨w.heap.size, 2, none⟩ = some (.slice ap N.inputs.length cp) ∧ X.cell? ⟨w.heap.size + 1, 0, none⟩ = some (.int .i64 (vn : Int)) ∧ X.cell? ⟨w.heap.size + 1 + 1, 0, none⟩ = some (.slice al l.length capl) ∧ X.cell? ⟨g0, off0 + vn, none⟩ = some (.slice (vs vn).1 (rowOf N.ends vn).length (vs vn).2)) := Lib.hid fun X bX => ⟨(BA.new bX).cell 0 _ rfl, (BA.new bX).cell 1 _ rfl, (BA.new bX).cell 2 _ rfl, (BV.new bX).cell 0 _ rfl, (BP.new bX).cell 0 _ rfl, HCV.out _ bX⟩
  cases hpm : permB l (rowOf N.ends vn).length with
  | false =>
    have HP := Lib.hid hpm
    have HF := Lib.hid (HT.out.trans hpm)
    clear hpm
    refine wp_region_held_drew (S := fun X => X.cell? ⟨w.heap.size, 0, none⟩ = some (.slice (some ⟨g0, off0, none⟩) N.ends.length c) ∧ X.cell? ⟨w.heap.size, 1, none⟩ = some (.slice ai N.ids.length ci) ∧ X.cell? ⟨w.heap.size, 2, none⟩ = some (.slice ap N.inputs.length cp) ∧ X.cell? ⟨w.heap.size + 1, 0, none⟩ = some (.int .i64 (vn : Int)) ∧ X.cell? ⟨w.heap.size + 1 + 1, 0, none⟩ = some (.slice al l.length capl) ∧ X.cell? ⟨g0, off0 + vn, none⟩ = some (.slice (vs vn).1 (rowOf N.ends vn).length (vs vn).2)) (by kernel_rfl) (HS3.out _ ((Below.refl _ _).drew)) (fun hHeld => ?_)
    refine wpAnyH_take (i := 0) (v := ?_) rfl (by kernel_rfl) (by kernel_rfl) (by kernel_rfl) (fun _ _ _ h => h) (Or.inl ⟨by rfl, ?_⟩) (by assumption) ?_
    rotate_left
    · (intro w hSw; (try dsimp only at hSw); go_simp; try with_reducible rfl)
    try simp only [Act.put, List.getElem_toArray, List.getElem_cons_zero, List.getElem_cons_succ, List.setIfInBounds_toArray, List.set_cons_zero, List.set_cons_succ]
    refine wpAnyH_ready (rs := [1]) (by kernel_rfl) (by simp) ?_
    refine AllReadyH.cons (o := _) rfl (fun K hK => ?_) AllReadyH.nil
    go_simp
    have bd := b0.drew
    refine (isNetwork_any _ N _ B (HV.out.below (bd.mono hB)).rd (Nat.le_trans hB bd.size) HS.out).mono ?_
    rintro e w1 ⟨rfl, bel1⟩
    rw [HN.out]
    have b1 : Below w0.heap.size w0 w1 := ((Below.refl _ _).drew).trans bel1
    clear bel1 bd
    refine hK.out _ _ (HS3.out _ b1) (fun hHeld => ?_)
    clear hK K
    try simp only [Act.put, List.getElem_toArray, List.getElem_cons_zero, List.getElem_cons_succ, List.setIfInBounds_toArray, List.set_cons_zero, List.set_cons_succ]
    refine wpAnyH_take (i := 2) (v := ?_) rfl (by kernel_rfl) (by kernel_rfl) (by kernel_rfl) (fun _ _ _ h => h) (Or.inl ⟨by rfl, ?_⟩) (by assumption) ?_
    rotate_left
    · (intro w hSw; (try dsimp only at hSw); go_simp; try with_reducible rfl)
    try simp only [Act.put, List.getElem_toArray, List.getElem_cons_zero, List.getElem_cons_succ, List.setIfInBounds_toArray, List.set_cons_zero, List.set_cons_succ]
    refine wpAnyH_take (i := 3) (v := ?_) rfl (by kernel_rfl) (by kernel_rfl) (by kernel_rfl) (fun _ _ _ h => h) (Or.inl ⟨by rfl, ?_⟩) (by assumption) ?_
    rotate_left
    · (intro w hSw; (try dsimp only at hSw); go_simp; try with_reducible rfl)
    try simp only [Act.put, List.getElem_toArray, List.getElem_cons_zero, List.getElem_cons_succ, List.setIfInBounds_toArray, List.set_cons_zero, List.set_cons_succ]
    refine wpAnyH_take (i := 4) (v := ?_) rfl (by kernel_rfl) (by kernel_rfl) (by kernel_rfl) (fun _ _ _ h => h) (Or.inl ⟨by rfl, ?_⟩) (by assumption) ?_
    rotate_left
    · (intro w hSw; (try dsimp only at hSw); go_simp; try with_reducible rfl)
    try simp only [Act.put, List.getElem_toArray, List.getElem_cons_zero, List.getElem_cons_succ, List.setIfInBounds_toArray, List.set_cons_zero, List.set_cons_succ]
    refine wpAnyH_take (i := 5) (v := ?_) rfl (by kernel_rfl) (by kernel_rfl) (by kernel_rfl) (fun _ _ _ h => h) (Or.inl ⟨by rfl, ?_⟩) (by assumption) ?_
    rotate_left
    · (intro w hSw; (try dsimp only at hSw); go_simp; try with_reducible rfl)
    try simp only [Act.put, List.getElem_toArray, List.getElem_cons_zero, List.getElem_cons_succ, List.setIfInBounds_toArray, List.set_cons_zero, List.set_cons_succ]
    refine wpAnyH_ready (rs := [6]) (by kernel_rfl) (by simp) ?_
    refine AllReadyH.cons (o := _) rfl (fun K hK => ?_) AllReadyH.nil
    go_simp
    refine (hasNode_any _ ai ap N.ends c _ _ _ _ _ w1 hl).mono ?_
    rintro e w2 ⟨rfl, bel2⟩
    rw [HH.out]
    have b2 := b1.trans (bel2.mono b1.size)
    clear bel2
    refine hK.out _ _ (HS3.out _ b2) (fun hHeld => ?_)
    clear hK K
    try simp only [Act.put, List.getElem_toArray, List.getElem_cons_zero, List.getElem_cons_succ, List.setIfInBounds_toArray, List.set_cons_zero, List.set_cons_succ]
    refine wpAnyH_take (i := 7) (v := ?_) rfl (by kernel_rfl) (by kernel_rfl) (by kernel_rfl) (fun _ _ _ h => h) (Or.inl ⟨by rfl, ?_⟩) (by assumption) ?_
    rotate_left
    · (intro w hSw; (try dsimp only at hSw); go_simp; try with_reducible rfl)
    try simp only [Act.put, List.getElem_toArray, List.getElem_cons_zero, List.getElem_cons_succ, List.setIfInBounds_toArray, List.set_cons_zero, List.set_cons_succ]
    refine wpAnyH_take (i := 8) (v := ?_) rfl (by kernel_rfl) (by kernel_rfl) (by kernel_rfl) (fun _ _ _ h => h) (Or.inl ⟨by rfl, ?_⟩) (by assumption) ?_
    rotate_left
    · (intro w hSw; (try dsimp only at hSw); go_simp; try with_reducible rfl)
    try simp only [Act.put, List.getElem_toArray, List.getElem_cons_zero, List.getElem_cons_succ, List.setIfInBounds_toArray, List.set_cons_zero, List.set_cons_succ]
    refine wpAnyH_take (i := 9) (v := ?_) rfl (by kernel_rfl) (by kernel_rfl) (by kernel_rfl) (fun _ _ _ h => h) (Or.inl ⟨by rfl, ?_⟩) (by assumption) ?_
    rotate_left
    · (intro w hSw; (try dsimp only at hSw); go_simp; try with_reducible rfl)
    try simp only [Act.put, List.getElem_toArray, List.getElem_cons_zero, List.getElem_cons_succ, List.setIfInBounds_toArray, List.set_cons_zero, List.set_cons_succ]
    refine wpAnyH_take (i := 10) (v := ?_) rfl (by kernel_rfl) (by kernel_rfl) (by kernel_rfl) (fun _ _ _ h => h) (Or.inl ⟨by rfl, ?_⟩) (by assumption) ?_
    rotate_left
    · (intro w hSw; (try dsimp only at hSw); go_simp; try with_reducible rfl)
    try simp only [Act.put, List.getElem_toArray, List.getElem_cons_zero, List.getElem_cons_succ, List.setIfInBounds_toArray, List.set_cons_zero, List.set_cons_succ]
    refine wpAnyH_take (i := 11) (v := ?_) rfl (by kernel_rfl) (by kernel_rfl) (by kernel_rfl) (fun _ _ _ h => h) (Or.inl ⟨by rfl, ?_⟩) (by assumption) ?_
    rotate_left
    · (intro w hSw; (try dsimp only at hSw); go_simp; try with_reducible rfl)
    try simp only [Act.put, List.getElem_toArray, List.getElem_cons_zero, List.getElem_cons_succ, List.setIfInBounds_toArray, List.set_cons_zero, List.set_cons_succ]
    refine wpAnyH_take (i := 12) (v := ?_) rfl (by kernel_rfl) (by kernel_rfl) (by kernel_rfl) (fun _ _ _ h => h) (Or.inl ⟨by rfl, ?_⟩) (by assumption) ?_
    rotate_left
    · (intro w hSw; (try dsimp only at hSw); go_simp; try with_reducible rfl)
    try simp only [Act.put, List.getElem_toArray, List.getElem_cons_zero, List.getElem_cons_succ, List.setIfInBounds_toArray, List.set_cons_zero, List.set_cons_succ]
    refine wpAnyH_take (i := 13) (v := ?_) rfl (by kernel_rfl) (by kernel_rfl) (by kernel_rfl) (fun _ _ _ h => h) (Or.inl ⟨by rfl, ?_⟩) (by assumption) ?_
    rotate_left
    · (intro w hSw; (try dsimp only at hSw); go_simp; try with_reducible rfl)
    try simp only [Act.put, List.getElem_toArray, List.getElem_cons_zero, List.getElem_cons_succ, List.setIfInBounds_toArray, List.set_cons_zero, List.set_cons_succ]
    refine wpAnyH_take (i := 14) (v := ?_) rfl (by kernel_rfl) (by kernel_rfl) (by kernel_rfl) (fun _ _ _ h => h) (Or.inl ⟨by rfl, ?_⟩) (by assumption) ?_
    rotate_left
    · (intro w hSw; (try dsimp only at hSw); go_simp; try with_reducible rfl)
    try simp only [Act.put, List.getElem_toArray, List.getElem_cons_zero, List.getElem_cons_succ, List.setIfInBounds_toArray, List.set_cons_zero, List.set_cons_succ]
    refine wpAnyH_take (i := 15) (v := ?_) rfl (by kernel_rfl) (by kernel_rfl) (by kernel_rfl) (fun _ _ _ h => h) (Or.inl ⟨by rfl, ?_⟩) (by assumption) ?_
    rotate_left
    · (intro w hSw; (try dsimp only at hSw); go_simp; try with_reducible rfl)
    try simp only [Act.put, List.getElem_toArray, List.getElem_cons_zero, List.getElem_cons_succ, List.setIfInBounds_toArray, List.set_cons_zero, List.set_cons_succ]
    refine wpAnyH_take (i := 16) (v := ?_) rfl (by kernel_rfl) (by kernel_rfl) (by kernel_rfl) (fun _ _ _ h => h) (Or.inl ⟨by rfl, ?_⟩) (by assumption) ?_
    rotate_left
    · (intro w hSw; (try dsimp only at hSw); go_simp; try with_reducible rfl)
    try simp only [Act.put, List.getElem_toArray, List.getElem_cons_zero, List.getElem_cons_succ, List.setIfInBounds_toArray, List.set_cons_zero, List.set_cons_succ]
    refine wpAnyH_ready (rs := [17]) (by kernel_rfl) (by simp) ?_
    refine AllReadyH.cons (o := _) rfl (fun K hK => ?_) AllReadyH.nil
    go_simp
    have bb2 := b0.trans (b2.mono b0.size)
    refine (isPermutation_any al capl l (rowOf N.ends vn).length w2 w.heap.size (Rd.below ha bb2) bb2.size hlen (by omega)).mono ?_
    rintro e w3 ⟨rfl, bel3⟩
    rw [HP.out]
    have b3 := b2.trans (bel3.mono b2.size)
    clear bel3 bb2
    refine hK.out _ _ (HS3.out _ b3) (fun hHeld => ?_)
    clear hK K
    try simp only [Act.put, List.getElem_toArray, List.getElem_cons_zero, List.getElem_cons_succ, List.setIfInBounds_toArray, List.set_cons_zero, List.set_cons_succ]
    refine wpAnyH_take (i := 18) (v := ?_) rfl (by kernel_rfl) (by kernel_rfl) (by kernel_rfl) (fun _ _ _ h => h) (Or.inl ⟨by rfl, ?_⟩) (by assumption) ?_
    rotate_left
    · (intro w hSw; (try dsimp only at hSw); go_simp; try with_reducible rfl)
    try simp only [Act.put, List.getElem_toArray, List.getElem_cons_zero, List.getElem_cons_succ, List.setIfInBounds_toArray, List.set_cons_zero, List.set_cons_succ]
    refine wpAnyH_take (i := 19) (v := ?_) rfl (by kernel_rfl) (by kernel_rfl) (by kernel_rfl) (fun _ _ _ h => h) (Or.inl ⟨by rfl, ?_⟩) (by assumption) ?_
    rotate_left
    · (intro w hSw; (try dsimp only at hSw); go_simp; try with_reducible rfl)
    try simp only [Act.put, List.getElem_toArray, List.getElem_cons_zero, List.getElem_cons_succ, List.setIfInBounds_toArray, List.set_cons_zero, List.set_cons_succ]
    refine wpAnyH_done (by kernel_rfl) ?_ _
    clear hHeld b1 b2
    replace BR := BR.new b3
    have bbW := b0.trans (b3.mono b0.size)
    have e0 := BR.cell 0 _ rfl
    have e1 := BR.cell 1 _ rfl
    have e2 := BR.cell 2 _ rfl
    have f0 := BR.frozen 0
    have f1 := BR.frozen 1
    have f2 := BR.frozen 2
    go_wp2_with fail
    clear e0 e1 e2 f0 f1 f2
    generalize hW : World.setCell _ _ _ = W
    have B6 : Bx W (w.heap.size + 1 + 1 + 1) 25 #[.slice none 0 0, .slice none 0 0, .slice none 0 0] := by rw [← hW]; exact ((BR.set 0 _).set 1 _).set 2 _
    have fr6 : Fr (fun k => k = w.heap.size + 1 + 1 + 1) w3 W := by rw [← hW]; exact fr3 _ _ _ _ _
    clear hW
    have z6 := fr6.size
    have d0 := B6.cell 0 _ rfl
    have d1 := B6.cell 1 _ rfl
    have d2 := B6.cell 2 _ rfl
    refine bodyPost_ret (v := .tuple #[.agg #[.slice none 0 0, .slice none 0 0, .slice none 0 0], .bool false]) (by simp [results, Try.results30, go_sem, d0, d1, d2]) rfl ?_
    rw [ppR_f HF.out, HF.out]
    exact ⟨_, rfl, NetAt.nilN _ _ _, bbW.trans (fr6.below (fun k h1 h2 hc => by omega) bbW.size)⟩
  | true =>
  have HP := Lib.hid hpm
  have HB := Lib.hid (HT.out.trans hpm)
  have HLL := Lib.hid (permB_len hpm)
  clear hpm
  refine wp_region_held_drew (S := fun X => X.cell? ⟨w.heap.size, 0, none⟩ = some (.slice (some ⟨g0, off0, none⟩) N.ends.length c) ∧ X.cell? ⟨w.heap.size, 1, none⟩ = some (.slice ai N.ids.length ci) ∧ X.cell? ⟨w.heap.size, 2, none⟩ = some (.slice ap N.inputs.length cp) ∧ X.cell? ⟨w.heap.size + 1, 0, none⟩ = some (.int .i64 (vn : Int)) ∧ X.cell? ⟨w.heap.size + 1 + 1, 0, none⟩ = some (.slice al l.length capl) ∧ X.cell? ⟨g0, off0 + vn, none⟩ = some (.slice (vs vn).1 (rowOf N.ends vn).length (vs vn).2)) (by kernel_rfl) (HS3.out _ ((Below.refl _ _).drew)) (fun hHeld => ?_)
  refine wpAnyH_take (i := 0) (v := ?_) rfl (by kernel_rfl) (by kernel_rfl) (by kernel_rfl) (fun _ _ _ h => h) (Or.inl ⟨by rfl, ?_⟩) (by assumption) ?_
  rotate_left
  · (intro w hSw; (try dsimp only at hSw); go_simp; try with_reducible rfl)
  try simp only [Act.put, List.getElem_toArray, List.getElem_cons_zero, List.getElem_cons_succ, List.setIfInBounds_toArray, List.set_cons_zero, List.set_cons_succ]
  refine wpAnyH_ready (rs := [1]) (by kernel_rfl) (by simp) ?_
  refine AllReadyH.cons (o := _) rfl (fun K hK => ?_) AllReadyH.nil
  go_simp
  have bd := b0.drew
  refine (isNetwork_any _ N _ B (HV.out.below (bd.mono hB)).rd (Nat.le_trans hB bd.size) HS.out).mono ?_
  rintro e w1 ⟨rfl, bel1⟩
  rw [HN.out]
  have b1 : Below w0.heap.size w0 w1 := ((Below.refl _ _).drew).trans bel1
  clear bel1 bd
  refine hK.out _ _ (HS3.out _ b1) (fun hHeld => ?_)
  clear hK K
  try simp only [Act.put, List.getElem_toArray, List.getElem_cons_zero, List.getElem_cons_succ, List.setIfInBounds_toArray, List.set_cons_zero, List.set_cons_succ]
  refine wpAnyH_take (i := 2) (v := ?_) rfl (by kernel_rfl) (by kernel_rfl) (by kernel_rfl) (fun _ _ _ h => h) (Or.inl ⟨by rfl, ?_⟩) (by assumption) ?_
  rotate_left
  · (intro w hSw; (try dsimp only at hSw); go_simp; try with_reducible rfl)
  try simp only [Act.put, List.getElem_toArray, List.getElem_cons_zero, List.getElem_cons_succ, List.setIfInBounds_toArray, List.set_cons_zero, List.set_cons_succ]
  refine wpAnyH_take (i := 3) (v := ?_) rfl (by kernel_rfl) (by kernel_rfl) (by kernel_rfl) (fun _ _ _ h => h) (Or.inl ⟨by rfl, ?_⟩) (by assumption) ?_
  rotate_left
  · (intro w hSw; (try dsimp only at hSw); go_simp; try with_reducible rfl)
  try simp only [Act.put, List.getElem_toArray, List.getElem_cons_zero, List.getElem_cons_succ, List.setIfInBounds_toArray, List.set_cons_zero, List.set_cons_succ]
  refine wpAnyH_take (i := 4) (v := ?_) rfl (by kernel_rfl) (by kernel_rfl) (by kernel_rfl) (fun _ _ _ h => h) (Or.inl ⟨by rfl, ?_⟩) (by assumption) ?_
  rotate_left
  · (intro w hSw; (try dsimp only at hSw); go_simp; try with_reducible rfl)
  try simp only [Act.put, List.getElem_toArray, List.getElem_cons_zero, List.getElem_cons_succ, List.setIfInBounds_toArray, List.set_cons_zero, List.set_cons_succ]
  refine wpAnyH_take (i := 5) (v := ?_) rfl (by kernel_rfl) (by kernel_rfl) (by kernel_rfl) (fun _ _ _ h => h) (Or.inl ⟨by rfl, ?_⟩) (by assumption) ?_
  rotate_left
  · (intro w hSw; (try dsimp only at hSw); go_simp; try with_reducible rfl)
  try simp only [Act.put, List.getElem_toArray, List.getElem_cons_zero, List.getElem_cons_succ, List.setIfInBounds_toArray, List.set_cons_zero, List.set_cons_succ]
  refine wpAnyH_ready (rs := [6]) (by kernel_rfl) (by simp) ?_
  refine AllReadyH.cons (o := _) rfl (fun K hK => ?_) AllReadyH.nil
  go_simp
  refine (hasNode_any _ ai ap N.ends c _ _ _ _ _ w1 hl).mono ?_
  rintro e w2 ⟨rfl, bel2⟩
  rw [HH.out]
  have b2 := b1.trans (bel2.mono b1.size)
  clear bel2
  refine hK.out _ _ (HS3.out _ b2) (fun hHeld => ?_)
  clear hK K
  try simp only [Act.put, List.getElem_toArray, List.getElem_cons_zero, List.getElem_cons_succ, List.setIfInBounds_toArray, List.set_cons_zero, List.set_cons_succ]
  refine wpAnyH_take (i := 7) (v := ?_) rfl (by kernel_rfl) (by kernel_rfl) (by kernel_rfl) (fun _ _ _ h => h) (Or.inl ⟨by rfl, ?_⟩) (by assumption) ?_
  rotate_left
  · (intro w hSw; (try dsimp only at hSw); go_simp; try with_reducible rfl)
  try simp only [Act.put, List.getElem_toArray, List.getElem_cons_zero, List.getElem_cons_succ, List.setIfInBounds_toArray, List.set_cons_zero, List.set_cons_succ]
  refine wpAnyH_take (i := 8) (v := ?_) rfl (by kernel_rfl) (by kernel_rfl) (by kernel_rfl) (fun _ _ _ h => h) (Or.inl ⟨by rfl, ?_⟩) (by assumption) ?_
  rotate_left
  · (intro w hSw; (try dsimp only at hSw); go_simp; try with_reducible rfl)
  try simp only [Act.put, List.getElem_toArray, List.getElem_cons_zero, List.getElem_cons_succ, List.setIfInBounds_toArray, List.set_cons_zero, List.set_cons_succ]
  refine wpAnyH_take (i := 9) (v := ?_) rfl (by kernel_rfl) (by kernel_rfl) (by kernel_rfl) (fun _ _ _ h => h) (Or.inl ⟨by rfl, ?_⟩) (by assumption) ?_
  rotate_left
  · (intro w hSw; (try dsimp only at hSw); go_simp; try with_reducible rfl)
  try simp only [Act.put, List.getElem_toArray, List.getElem_cons_zero, List.getElem_cons_succ, List.setIfInBounds_toArray, List.set_cons_zero, List.set_cons_succ]
  refine wpAnyH_take (i := 10) (v := ?_) rfl (by kernel_rfl) (by kernel_rfl) (by kernel_rfl) (fun _ _ _ h => h) (Or.inl ⟨by rfl, ?_⟩) (by assumption) ?_
  rotate_left
  · (intro w hSw; (try dsimp only at hSw); go_simp; try with_reducible rfl)
  try simp only [Act.put, List.getElem_toArray, List.getElem_cons_zero, List.getElem_cons_succ, List.setIfInBounds_toArray, List.set_cons_zero, List.set_cons_succ]
  refine wpAnyH_take (i := 11) (v := ?_) rfl (by kernel_rfl) (by kernel_rfl) (by kernel_rfl) (fun _ _ _ h => h) (Or.inl ⟨by rfl, ?_⟩) (by assumption) ?_
  rotate_left
  · (intro w hSw; (try dsimp only at hSw); go_simp; try with_reducible rfl)
  try simp only [Act.put, List.getElem_toArray, List.getElem_cons_zero, List.getElem_cons_succ, List.setIfInBounds_toArray, List.set_cons_zero, List.set_cons_succ]
  refine wpAnyH_take (i := 12) (v := ?_) rfl (by kernel_rfl) (by kernel_rfl) (by kernel_rfl) (fun _ _ _ h => h) (Or.inl ⟨by rfl, ?_⟩) (by assumption) ?_
  rotate_left
  · (intro w hSw; (try dsimp only at hSw); go_simp; try with_reducible rfl)
  try simp only [Act.put, List.getElem_toArray, List.getElem_cons_zero, List.getElem_cons_succ, List.setIfInBounds_toArray, List.set_cons_zero, List.set_cons_succ]
  refine wpAnyH_take (i := 13) (v := ?_) rfl (by kernel_rfl) (by kernel_rfl) (by kernel_rfl) (fun _ _ _ h => h) (Or.inl ⟨by rfl, ?_⟩) (by assumption) ?_
  rotate_left
  · (intro w hSw; (try dsimp only at hSw); go_simp; try with_reducible rfl)
  try simp only [Act.put, List.getElem_toArray, List.getElem_cons_zero, List.getElem_cons_succ, List.setIfInBounds_toArray, List.set_cons_zero, List.set_cons_succ]
  refine wpAnyH_take (i := 14) (v := ?_) rfl (by kernel_rfl) (by kernel_rfl) (by kernel_rfl) (fun _ _ _ h => h) (Or.inl ⟨by rfl, ?_⟩) (by assumption) ?_
  rotate_left
  · (intro w hSw; (try dsimp only at hSw); go_simp; try with_reducible rfl)
  try simp only [Act.put, List.getElem_toArray, List.getElem_cons_zero, List.getElem_cons_succ, List.setIfInBounds_toArray, List.set_cons_zero, List.set_cons_succ]
  refine wpAnyH_take (i := 15) (v := ?_) rfl (by kernel_rfl) (by kernel_rfl) (by kernel_rfl) (fun _ _ _ h => h) (Or.inl ⟨by rfl, ?_⟩) (by assumption) ?_
  rotate_left
  · (intro w hSw; (try dsimp only at hSw); go_simp; try with_reducible rfl)
  try simp only [Act.put, List.getElem_toArray, List.getElem_cons_zero, List.getElem_cons_succ, List.setIfInBounds_toArray, List.set_cons_zero, List.set_cons_succ]
  refine wpAnyH_take (i := 16) (v := ?_) rfl (by kernel_rfl) (by kernel_rfl) (by kernel_rfl) (fun _ _ _ h => h) (Or.inl ⟨by rfl, ?_⟩) (by assumption) ?_
  rotate_left
  · (intro w hSw; (try dsimp only at hSw); go_simp; try with_reducible rfl)
  try simp only [Act.put, List.getElem_toArray, List.getElem_cons_zero, List.getElem_cons_succ, List.setIfInBounds_toArray, List.set_cons_zero, List.set_cons_succ]
  refine wpAnyH_ready (rs := [17]) (by kernel_rfl) (by simp) ?_
  refine AllReadyH.cons (o := _) rfl (fun K hK => ?_) AllReadyH.nil
  go_simp
  have bb2 := b0.trans (b2.mono b0.size)
  refine (isPermutation_any al capl l (rowOf N.ends vn).length w2 w.heap.size (Rd.below ha bb2) bb2.size hlen (by omega)).mono ?_
  rintro e w3 ⟨rfl, bel3⟩
  rw [HP.out]
  have b3 := b2.trans (bel3.mono b2.size)
  clear bel3 bb2
  refine hK.out _ _ (HS3.out _ b3) (fun hHeld => ?_)
  clear hK K
  try simp only [Act.put, List.getElem_toArray, List.getElem_cons_zero, List.getElem_cons_succ, List.setIfInBounds_toArray, List.set_cons_zero, List.set_cons_succ]
  refine wpAnyH_take (i := 18) (v := ?_) rfl (by kernel_rfl) (by kernel_rfl) (by kernel_rfl) (fun _ _ _ h => h) (Or.inl ⟨by rfl, ?_⟩) (by assumption) ?_
  rotate_left
  · (intro w hSw; (try dsimp only at hSw); go_simp; try with_reducible rfl)
  try simp only [Act.put, List.getElem_toArray, List.getElem_cons_zero, List.getElem_cons_succ, List.setIfInBounds_toArray, List.set_cons_zero, List.set_cons_succ]
  refine wpAnyH_take (i := 19) (v := ?_) rfl (by kernel_rfl) (by kernel_rfl) (by kernel_rfl) (fun _ _ _ h => h) (Or.inl ⟨by rfl, ?_⟩) (by assumption) ?_
  rotate_left
  · (intro w hSw; (try dsimp only at hSw); go_simp; try with_reducible rfl)
  try simp only [Act.put, List.getElem_toArray, List.getElem_cons_zero, List.getElem_cons_succ, List.setIfInBounds_toArray, List.set_cons_zero, List.set_cons_succ]
  refine wpAnyH_done (by kernel_rfl) ?_ _
  clear hHeld b1 b2
  replace BA := BA.new b3
  replace BV := BV.new b3
  replace BP := BP.new b3
  replace BR := BR.new b3
  have bb := b0.trans (b3.mono b0.size)
  have z3 := b3.size
  clear b3 HSS HS3 HCV b0
  have c0 := BA.cell 0 _ rfl
  have c1 := BA.cell 1 _ rfl
  have c2 := BA.cell 2 _ rfl
  go_wp2_with fail
  clear c0 c1 c2
  refine (copyNetwork_any _ N _ B (HV.out.below (bb.mono hB)) (Nat.le_trans hB bb.size) HS.out).mono ?_
  rintro e w4 ⟨x4, rfl, own4, bel4⟩
  replace BA := BA.new bel4
  replace BV := BV.new bel4
  replace BP := BP.new bel4
  replace BR := BR.new bel4
  replace bb := bb.trans (bel4.mono bb.size)
  have z4 := bel4.size
  clear bel4
  obtain ⟨a4, c4, vs4, ai4, ci4, ap4, cp4, rfl, hE, owni, ownp, hdis⟩ := own4
  go_upto_region 5 with fail
  have hbx := Bx.made w4 25 #[.slice a4 N.ends.length c4, .slice ai4 N.ids.length ci4, .slice ap4 N.inputs.length cp4]
  have b5 : Below w4.heap.size w4 (w4.alloc (.cells #[.slice a4 N.ends.length c4, .slice ai4 N.ids.length ci4, .slice ap4 N.inputs.length cp4] 25)) := (by repeat (first | exact Below.refl _ _ | assumption | refine Below.alloc ?_ (by first | (simp; done) | (simp; omega) | omega) _ | refine Below.setCell ?_ (by first | (simp; done) | (simp; omega) | omega) _ | refine Below.drew ?_ | refine Below.drewN ?_ _))
  have z5 : w4.heap.size + 1 ≤ (w4.alloc (.cells #[.slice a4 N.ends.length c4, .slice ai4 N.ids.length ci4, .slice ap4 N.inputs.length cp4] 25)).heap.size := by simp
  generalize w4.alloc (.cells #[.slice a4 N.ends.length c4, .slice ai4 N.ids.length ci4, .slice ap4 N.inputs.length cp4] 25) = w5 at *
  obtain ⟨b, hb⟩ : ∃ b, b = w4.heap.size := ⟨_, rfl⟩
  obtain ⟨lo, hlo0⟩ : ∃ lo, lo = w3.heap.size := ⟨_, rfl⟩
  rw [← hlo0] at hE owni ownp
  rw [← hb] at hbx ⊢
  replace BA := BA.new b5
  replace BV := BV.new b5
  replace BP := BP.new b5
  replace BR := BR.new b5
  replace bb := bb.trans (b5.mono bb.size)
  have hNB : NBx w5 lo b (pmN N vn l 0 0) := by
    unfold pmN
    rw [pmT_zero]
    exact ⟨a4, c4, vs4, ai4, ci4, ap4, cp4, hbx, RowsAt.top (RowsAt.new hE b5), Ow.top (Ow.new owni b5), Ow.top (Ow.new ownp b5), hdis⟩
  have hlo : lo ≤ w5.heap.size := by omega
  have zb : lo ≤ b := by omega
  have zl : w.heap.size + 1 + 1 + 1 + 1 ≤ lo := by omega
  have ha5 : RdI w5 w.heap.size al l := Rd.below ha bb
  clear hb hlo0 b5 z5 hbx hE owni ownp hdis z3 z4
  have q0 := BA.cell 0 _ rfl
  have HBN := Lib.hid (fun k j (hk : k < N.ends.length) (hj : j < (rowOf N.ends k).length) => net_back HN.out hk hj)
  have HST := Lib.hid (fun k i q (hk : k < N.ends.length) (hi : i < (rowOf N.ends k).length) hq => pmT_set N.ends vn l k i q hk hi hq)
  have HLN := Lib.hid (fun k i j (hj : j < N.ends.length) => pmT_len N.ends vn l k i j hj)
  have HL0 := Lib.hid (fun k i => pmT_length N.ends vn l k i)
  have HMV : Hid (∀ X p q, Below lo w5 X → lo ≤ X.heap.size → (vn = p → q < l.length) → Calls Try.prog 75 #[.agg #[.int .i64 ((p : Nat) : Int), .int .i64 ((q : Nat) : Int)], .pointer (some ⟨w.heap.size + 1, 0, none⟩), .pointer (some ⟨w.heap.size + 1 + 1, 0, none⟩)] X fun e w' => e = .returned (.agg #[.int .i64 (mvE vn l ((p : Int), (q : Int))).1, .int .i64 (mvE vn l ((p : Int), (q : Int))).2]) ∧ Below X.heap.size X w') :=
    Lib.hid fun X p q bX hX hq => moved_any vn p q _ _ l al capl w.heap.size X ((BV.below bX (by omega)).cell 0 _ rfl) ((BP.below bX (by omega)).cell 0 _ rfl) (Rd.below ha5 (bX.mono (by omega))) (by omega) hq hlen
  go_wp2_with fail
  clear q0
  go_loopw [42] (fun iv wr => ∃ k : Nat, k ≤ N.ends.length ∧ iv = .int .i64 k ∧ NBx wr lo b (pmN N vn l k 0) ∧ Below lo w5 wr ∧ lo ≤ wr.heap.size) (fun iv _ => N.ends.length - (intOf iv).toNat)
  case atStart => exact ⟨0, Nat.zero_le _, rfl, hNB, Below.refl _ _, hlo⟩
  case round =>
    obtain ⟨k, hk, rfl, hNB, bel, zlo⟩ := hrel
    by_cases hlt : k < N.ends.length
    · have bbr := bb.trans (bel.mono (by omega))
      have hc1 := (bbr.cell (p := ⟨g0, off0 + k, none⟩) (by show g0 < _; omega)).trans (HC0.out k hlt)
      have hrow := HR0.out.2 k hlt
      have hL1 := net_row HN.out hlt
      have HBK := Lib.hid (fun j (hj : j < (rowOf N.ends k).length) => HBN.out k j hlt hj)
      have HSK := Lib.hid (fun i q (hi : i < (rowOf N.ends k).length) hq => HST.out k i q hlt hi hq)
      have HNX := Lib.hid (show pmN N vn l k (rowOf N.ends k).length = pmN N vn l (k + 1) 0 by unfold pmN; rw [pmT_next])
      have HKL := Lib.hid (fun (hkv : vn = k) => show l.length = (rowOf N.ends k).length by rw [HLL.out, hkv])
      have HKP := Lib.hid (fun (hkv : vn = k) i (hi : i < (rowOf N.ends k).length) => permB_at (n := (rowOf N.ends k).length) (by rw [← hkv]; exact HP.out) hi)
      generalize hes : rowOf N.ends k = es at *
      have HES := Lib.hid hes
      clear hes
      generalize (vs k).1 = ax at *
      generalize (vs k).2 = cx at *
      go_wp2_with fail
      clear hc1
      go_loopw [49] (fun iv wr => ∃ i : Nat, i ≤ es.length ∧ iv = .int .i64 i ∧ NBx wr lo b (pmN N vn l k i) ∧ Below lo w5 wr ∧ lo ≤ wr.heap.size) (fun iv _ => es.length - (intOf iv).toNat)
      case atStart => exact ⟨0, Nat.zero_le _, rfl, hNB, bel, zlo⟩
      case round =>
        obtain ⟨i, hi, rfl, hNB, bel, zlo⟩ := hrel
        by_cases hil : i < es.length
        · have bbr := bb.trans (bel.mono (by omega))
          obtain ⟨p, q, hpq, hp, hq, _⟩ := HBK.out i hil
          obtain ⟨g1, off1, rfl, _, e1, e2⟩ := RdE.at (hrow.below (bbr.mono hB)) hil
          rw [hpq] at e1 e2
          obtain ⟨t2, ht2, ht3, ht4⟩ : ∃ t2 : Nat, mvE vn l ((k : Int), (i : Int)) = ((k : Int), (t2 : Int)) ∧ t2 < es.length ∧ t2 = if k = vn then (nth l i).toNat else i := by
            by_cases hkv : vn = k
            · obtain ⟨pk, h8, h9⟩ := HKP.out hkv i hil
              exact ⟨pk, by rw [mvE, if_pos (by simp [hkv])]; simp [h8], h9, by rw [if_pos hkv.symm, h8, Int.toNat_natCast]⟩
            · exact ⟨i, by rw [mvE, if_neg (by simp; omega)], hil, by rw [if_neg (fun h => hkv h.symm)]⟩
          have HT2 := Lib.hid ht2
          have HPS := Lib.hid (HSK.out i t2 hil ht4)
          have HPQ := Lib.hid hpq
          have hkq : vn = k → i < l.length := fun h => by have := HKL.out h; omega
          have hpq2 : vn = p → q < l.length := fun h => by have := HLL.out; rw [h] at this; omega
          have HKQ := Lib.hid hkq
          have HPQ2 := Lib.hid hpq2
          clear hpq ht2 ht4 hkq hpq2
          have BE := Bx.made wr 62 #[.int .i64 (p : Int), .int .i64 (q : Int)]
          have bE : Below wr.heap.size wr (wr.alloc (.cells #[.int .i64 (p : Int), .int .i64 (q : Int)] 62)) := (by repeat (first | exact Below.refl _ _ | assumption | refine Below.alloc ?_ (by first | (simp; done) | (simp; omega) | omega) _ | refine Below.setCell ?_ (by first | (simp; done) | (simp; omega) | omega) _ | refine Below.drew ?_ | refine Below.drewN ?_ _))
          go_upto_region 11 with fail
          clear e1 e2
          have zE := BE.lt
          generalize wr.alloc (.cells #[.int .i64 (p : Int), .int .i64 (q : Int)] 62) = w6 at *
          go_wp2_with fail
          refine (HMV.out w6 k i (bel.trans (bE.mono zlo)) (Nat.le_trans zlo bE.size) HKQ.out).mono ?_
          rintro e w7 ⟨rfl, bel7⟩
          rw [HT2.out]
          replace BE := BE.new bel7
          replace bE := bE.trans (bel7.mono bE.size)
          have z7 := bel7.size
          clear bel7
          have BT := Bx.made w7 62 #[.int .i64 (k : Int), .int .i64 (t2 : Int)]
          have bT : Below w7.heap.size w7 (w7.alloc (.cells #[.int .i64 (k : Int), .int .i64 (t2 : Int)] 62)) := (by repeat (first | exact Below.refl _ _ | assumption | refine Below.alloc ?_ (by first | (simp; done) | (simp; omega) | omega) _ | refine Below.setCell ?_ (by first | (simp; done) | (simp; omega) | omega) _ | refine Below.drew ?_ | refine Below.drewN ?_ _))
          go_upto_region 12 with fail
          replace BE := BE.new bT
          replace bE := bE.trans (bT.mono bE.size)
          have zT := BT.lt
          clear bT
          generalize w7.alloc (.cells #[.int .i64 (k : Int), .int .i64 (t2 : Int)] 62) = w8 at *
          generalize hge : wr.heap.size = ge at *
          have hge2 : wr.heap.size ≤ ge := by omega
          have hge3 : ge ≤ wr.heap.size := by omega
          generalize hgt : w7.heap.size = gt at *
          rw [← hge] at bE
          clear hge hgt
          have zlo9 : lo ≤ wr.heap.size := by omega
          have hk9 : k < (pmT N.ends vn l k i).length := by rw [HL0.out]; exact hlt
          have ht9 : t2 < (rowOf (pmT N.ends vn l k i) k).length := by rw [HLN.out _ _ _ hlt, HES.out]; exact ht3
          obtain ⟨A, cA, g, cg, k0, k1, k2, k3, kf, kg, hNB5, hfr5, hAg, hbg, hA9, hg9⟩ := NBx.setEndA (w := w8.drew) (v := k) (i := t2) 0 0 hNB bE.drew hk9 ht9
          have k0' : w8.drew.cell? ⟨b, 0, none⟩ = some (.slice (some ⟨A, 0, none⟩) N.ends.length cA) := by rw [← HL0.out k i]; exact k0
          have k1' : w8.drew.cell? ⟨A, k, none⟩ = some (.slice (some ⟨g, 0, none⟩) es.length cg) := by rw [← HES.out, ← HLN.out k i k hlt]; exact k1
          have hb9 : b < wr.heap.size := hNB.lt
          clear k0 k1 k2 k3 kf hNB5 hfr5
          have BE' : Bx w8.drew ge 62 #[.int .i64 (p : Int), .int .i64 (q : Int)] := BE
          have BT' : Bx w8.drew gt 62 #[.int .i64 (k : Int), .int .i64 (t2 : Int)] := BT
          refine wp_region_held_drew (S := fun X => X.cell? ⟨b, 0, none⟩ = some (.slice (some ⟨A, 0, none⟩) N.ends.length cA) ∧ X.cell? ⟨A, k, none⟩ = some (.slice (some ⟨g, 0, none⟩) es.length cg) ∧ X.cell? ⟨gt, 0, none⟩ = some (.int .i64 (k : Int)) ∧ X.cell? ⟨gt, 1, none⟩ = some (.int .i64 (t2 : Int)) ∧ X.cell? ⟨ge, 0, none⟩ = some (.int .i64 (p : Int)) ∧ X.cell? ⟨ge, 1, none⟩ = some (.int .i64 (q : Int))) (by kernel_rfl) ⟨k0', k1', BT'.cell 0 _ rfl, BT'.cell 1 _ rfl, BE'.cell 0 _ rfl, BE'.cell 1 _ rfl⟩ (fun hHeld => ?_)
          clear BE BT
          have bE' := bE.drew
          have z8 : gt < w8.drew.heap.size := BT'.lt
          have z9 : ge < w8.drew.heap.size := BE'.lt
          clear bE
          generalize w8.drew = wd at *
          refine wpAnyH_take (i := 0) (v := ?_) rfl (by kernel_rfl) (by kernel_rfl) (by kernel_rfl) (fun _ _ _ h => h) (Or.inl ⟨by rfl, ?_⟩) (by assumption) ?_
          rotate_left
          · (intro w hSw; (try dsimp only at hSw); go_simp; try with_reducible rfl)
          try simp only [Act.put, List.getElem_toArray, List.getElem_cons_zero, List.getElem_cons_succ, List.setIfInBounds_toArray, List.set_cons_zero, List.set_cons_succ]
          refine wpAnyH_take (i := 1) (v := ?_) rfl (by kernel_rfl) (by kernel_rfl) (by kernel_rfl) (fun _ _ _ h => h) (Or.inl ⟨by rfl, ?_⟩) (by assumption) ?_
          rotate_left
          · (intro w hSw; (try dsimp only at hSw); go_simp; try with_reducible rfl)
          try simp only [Act.put, List.getElem_toArray, List.getElem_cons_zero, List.getElem_cons_succ, List.setIfInBounds_toArray, List.set_cons_zero, List.set_cons_succ]
          refine wpAnyH_take (i := 2) (v := ?_) rfl (by kernel_rfl) (by kernel_rfl) (by kernel_rfl) (fun _ _ _ h => h) (Or.inl ⟨by rfl, ?_⟩) (by assumption) ?_
          rotate_left
          · (intro w hSw; (try dsimp only at hSw); go_simp; try with_reducible rfl)
          try simp only [Act.put, List.getElem_toArray, List.getElem_cons_zero, List.getElem_cons_succ, List.setIfInBounds_toArray, List.set_cons_zero, List.set_cons_succ]
          refine wpAnyH_take (i := 3) (v := ?_) rfl (by kernel_rfl) (by kernel_rfl) (by kernel_rfl) (fun _ _ _ h => h) (Or.inl ⟨by rfl, ?_⟩) (by assumption) ?_
          rotate_left
          · (intro w hSw; (try dsimp only at hSw); go_simp; try with_reducible rfl)
          try simp only [Act.put, List.getElem_toArray, List.getElem_cons_zero, List.getElem_cons_succ, List.setIfInBounds_toArray, List.set_cons_zero, List.set_cons_succ]
          refine wpAnyH_take (i := 4) (v := ?_) rfl (by kernel_rfl) (by kernel_rfl) (by kernel_rfl) (fun _ _ _ h => h) (Or.inl ⟨by rfl, ?_⟩) (by assumption) ?_
          rotate_left
          · (intro w hSw; (try dsimp only at hSw); go_simp; try with_reducible rfl)
          try simp only [Act.put, List.getElem_toArray, List.getElem_cons_zero, List.getElem_cons_succ, List.setIfInBounds_toArray, List.set_cons_zero, List.set_cons_succ]
          refine wpAnyH_take (i := 5) (v := ?_) rfl (by kernel_rfl) (by kernel_rfl) (by kernel_rfl) (fun _ _ _ h => h) (Or.inl ⟨by rfl, ?_⟩) (by assumption) ?_
          rotate_left
          · (intro w hSw; (try dsimp only at hSw); go_simp; try with_reducible rfl)
          try simp only [Act.put, List.getElem_toArray, List.getElem_cons_zero, List.getElem_cons_succ, List.setIfInBounds_toArray, List.set_cons_zero, List.set_cons_succ]
          refine wpAnyH_take (i := 6) (v := ?_) rfl (by kernel_rfl) (by kernel_rfl) (by kernel_rfl) (fun _ _ _ h => h) (Or.inl ⟨by rfl, ?_⟩) (by assumption) ?_
          rotate_left
          · (intro w hSw; (try dsimp only at hSw); go_simp; try with_reducible rfl)
          try simp only [Act.put, List.getElem_toArray, List.getElem_cons_zero, List.getElem_cons_succ, List.setIfInBounds_toArray, List.set_cons_zero, List.set_cons_succ]
          refine wpAnyH_take (i := 7) (v := ?_) rfl (by kernel_rfl) (by kernel_rfl) (by kernel_rfl) (fun _ _ _ h => h) (Or.inl ⟨by rfl, ?_⟩) (by assumption) ?_
          rotate_left
          · (intro w hSw; (try dsimp only at hSw); go_simp; try with_reducible rfl)
          try simp only [Act.put, List.getElem_toArray, List.getElem_cons_zero, List.getElem_cons_succ, List.setIfInBounds_toArray, List.set_cons_zero, List.set_cons_succ]
          refine wpAnyH_take (i := 8) (v := ?_) rfl (by kernel_rfl) (by kernel_rfl) (by kernel_rfl) (fun _ _ _ h => h) (Or.inl ⟨by rfl, ?_⟩) (by assumption) ?_
          rotate_left
          · (intro w hSw; (try dsimp only at hSw); go_simp; try with_reducible rfl)
          try simp only [Act.put, List.getElem_toArray, List.getElem_cons_zero, List.getElem_cons_succ, List.setIfInBounds_toArray, List.set_cons_zero, List.set_cons_succ]
          refine wpAnyH_take (i := 9) (v := ?_) rfl (by kernel_rfl) (by kernel_rfl) (by kernel_rfl) (fun _ _ _ h => h) (Or.inl ⟨by rfl, ?_⟩) (by assumption) ?_
          rotate_left
          · (intro w hSw; (try dsimp only at hSw); go_simp; try with_reducible rfl)
          try simp only [Act.put, List.getElem_toArray, List.getElem_cons_zero, List.getElem_cons_succ, List.setIfInBounds_toArray, List.set_cons_zero, List.set_cons_succ]
          refine wpAnyH_ready (rs := [10]) (by kernel_rfl) (by simp) ?_
          refine AllReadyH.cons (o := _) rfl (fun K hK => ?_) AllReadyH.nil
          go_simp
          refine (HMV.out wd p q (bel.trans (bE'.mono zlo9)) (Nat.le_trans zlo9 bE'.size) HPQ2.out).mono ?_
          rintro e wc ⟨rfl, bel9⟩
          have zc := bel9.size
          have BEc := BE'.new bel9
          have BTc := BT'.new bel9
          have bEc := bE'.trans (bel9.mono bE'.size)
          have k0c := (bel9.cell (p := ⟨b, 0, none⟩) (by show b < _; have := bE'.size; omega)).trans k0'
          have k1c := (bel9.cell (p := ⟨A, k, none⟩) (by show A < _; have := bE'.size; omega)).trans k1'
          obtain ⟨mx, my, hmxy⟩ : ∃ x y, mvE vn l ((p : Int), (q : Int)) = (x, y) := ⟨_, _, rfl⟩
          have HMXY := Lib.hid hmxy
          rw [hmxy]
          clear hmxy
          refine hK.out _ _ (⟨k0c, k1c, BTc.cell 0 _ rfl, BTc.cell 1 _ rfl, BEc.cell 0 _ rfl, BEc.cell 1 _ rfl⟩) (fun hHeld => ?_)
          clear hK K
          try simp only [Act.put, List.getElem_toArray, List.getElem_cons_zero, List.getElem_cons_succ, List.setIfInBounds_toArray, List.set_cons_zero, List.set_cons_succ]
          refine wpAnyH_take (i := 11) (v := ?_) rfl (by kernel_rfl) (by kernel_rfl) (by kernel_rfl) (fun _ _ _ h => h) (Or.inl ⟨by rfl, ?_⟩) (by assumption) ?_
          rotate_left
          · (intro w hSw; (try dsimp only at hSw); go_simp; try with_reducible rfl)
          try simp only [Act.put, List.getElem_toArray, List.getElem_cons_zero, List.getElem_cons_succ, List.setIfInBounds_toArray, List.set_cons_zero, List.set_cons_succ]
          obtain ⟨A2, cA2, g2, cg2, k0, k1, k2, k3, kf, kg2, hNB5, hfr5, _, _, _, _⟩ := NBx.setEndA (w := wc) (v := k) (i := t2) mx my hNB bEc hk9 ht9
          have e0 := k0c.symm.trans k0
          simp only [Option.some.injEq, Value.slice.injEq, Addr.mk.injEq, and_true, true_and] at e0
          obtain ⟨rfl, -, -⟩ := e0
          have e1 := k1c.symm.trans k1
          simp only [Option.some.injEq, Value.slice.injEq, Addr.mk.injEq, and_true, true_and] at e1
          obtain ⟨rfl, -, -⟩ := e1
          have kf1 := kf (t2 * 2)
          have kf2 := kf (t2 * 2 + 1)
          have BE5 := BEc.fr hfr5 (by omega)
          have BT5 := BTc.fr hfr5 (by omega)
          have k05 := (hfr5.cell (p := ⟨b, 0, none⟩) (by show b < _; have := bEc.size; omega) hbg).trans k0c
          have k15 := (hfr5.cell (p := ⟨A, k, none⟩) (by show A < _; have := bEc.size; omega) hAg).trans k1c
          refine wpAnyH_ready (rs := [12]) (by kernel_rfl) (by simp) ?_
          refine AllReadyH.cons (o := _) rfl (fun K hK => ?_) AllReadyH.nil
          go_simp
          refine hK.out _ _ (⟨k05, k15, BT5.cell 0 _ rfl, BT5.cell 1 _ rfl, BE5.cell 0 _ rfl, BE5.cell 1 _ rfl⟩) (fun hHeld => ?_)
          clear hK K
          try simp only [Act.put, List.getElem_toArray, List.getElem_cons_zero, List.getElem_cons_succ, List.setIfInBounds_toArray, List.set_cons_zero, List.set_cons_succ]
          refine wpAnyH_done (by kernel_rfl) ?_ _
          have bel10 := bel.trans (bEc.mono zlo9)
          have bel11 := bel10.trans (hfr5.below (B := lo) (fun x h1 h2 hc => by omega) (Nat.le_trans zlo9 bEc.size))
          have z11 := Nat.le_trans (Nat.le_trans zlo9 bEc.size) hfr5.size
          have HFIN := Lib.hid (fun X (h9 : NBx X lo b { pmN N vn l k i with ends := (pmT N.ends vn l k i).set k ((rowOf (pmT N.ends vn l k i) k).set t2 (mx, my)) }) => show NBx X lo b (pmN N vn l k (i + 1)) by
            have h8 := HPS.out
            rw [HPQ.out, HMXY.out] at h8
            unfold pmN
            rw [← h8]
            exact h9)
          clear hHeld kf1 kf2 kf k0 k1 k2 k3 k0c k1c k05 k15 BE5 BT5 BEc BTc BE' BT' k0' k1'
          go_wp2_with fail
          go_roundw
          case rel => exact ⟨i + 1, by omega, by go_num, HFIN.out _ hNB5, bel11, z11⟩
          case measure => simp [intOf]; omega
        · have HIE := Lib.hid (show i = es.length by omega)
          rw [HIE.out, HNX.out] at hNB
          go_wp2_with fail
          go_roundw
          case rel => exact ⟨k + 1, by omega, by go_num, hNB, bel, zlo⟩
          case measure => simp [intOf]; omega
    · have HKE := Lib.hid (show k = N.ends.length by omega)
      rw [HKE.out] at hNB
      have hBR := BR.below bel (by omega)
      have bbr := bb.trans (bel.mono (by omega))
      obtain ⟨ax, cx, aix, cix, apx, cpx, BO, own9⟩ := hNB.at_
      have HL9 := Lib.hid (show (pmN N vn l N.ends.length 0).ends.length = N.ends.length from HL0.out _ _)
      have HRR := Lib.hid (show ppR N (vn : Int) l = pmN N vn l N.ends.length 0 by rw [ppR, HB.out]; rfl)
      generalize pmN N vn l N.ends.length 0 = RR at *
      have q0 := BO.cell 0 _ rfl
      have q1 := BO.cell 1 _ rfl
      have q2 := BO.cell 2 _ rfl
      have e0 := hBR.cell 0 _ rfl
      have e1 := hBR.cell 1 _ rfl
      have e2 := hBR.cell 2 _ rfl
      have f0 := hBR.frozen 0
      have f1 := hBR.frozen 1
      have f2 := hBR.frozen 2
      go_wp2_with fail
      clear q0 q1 q2 e0 e1 e2 f0 f1 f2
      generalize hW : World.setCell _ _ _ = W
      have B6 : Bx W (w.heap.size + 1 + 1 + 1) 25 #[.slice ax RR.ends.length cx, .slice aix RR.ids.length cix, .slice apx RR.inputs.length cpx] := by rw [← hW]; exact ((hBR.set 0 _).set 1 _).set 2 _
      have fr6 : Fr (fun k => k = w.heap.size + 1 + 1 + 1) wr W := by rw [← hW]; exact fr3 _ _ _ _ _
      clear hW
      have z6 := fr6.size
      have d0 := B6.cell 0 _ rfl
      have d1 := B6.cell 1 _ rfl
      have d2 := B6.cell 2 _ rfl
      refine bodyPost_ret (v := .tuple #[.agg #[.slice ax RR.ends.length cx, .slice aix RR.ids.length cix, .slice apx RR.inputs.length cpx], .bool true]) (by simp [results, Try.results30, go_sem, d0, d1, d2]) rfl ?_
      rw [HRR.out, HB.out]
      exact ⟨_, rfl, (own9.frBx hBR fr6).wide (lo' := w.heap.size) (hi' := W.heap.size) (by omega) (by omega), bbr.trans (fr6.below (fun k h1 h2 hc => by omega) bbr.size)⟩
set_option maxRecDepth 100000 in
set_option maxHeartbeats 800000 in
theorem pmtS_any (V : Value) (N : Net) (v : Int) (al : Option Addr) (capl : Nat) (l : List Int) (w : World) (B : Nat) (hv : NetIn w B V N) (hB : B ≤ w.heap.size) (ha : RdI w w.heap.size al l) (hcl : l.length ≤ capl) (hs : NetSmall N) (hlen : l.length ≤ 1048576) :
    Calls Try.prog 29 #[V, .int .i64 v, .slice al l.length capl] w (PostN (ppR N v l) (ppB N v l) w) := by
  have HV := Lib.hid hv
  have HS := Lib.hid hs
  obtain ⟨a, c, vs, ai, ci, ap, cp, rfl, h1, _⟩ := hv
  have hl : N.ends.length ≤ 1048576 := by unfold NetSmall at hs; omega
  have BA := (Bx.made w 25 #[.slice a N.ends.length c, .slice ai N.ids.length ci, .slice ap N.inputs.length cp]).alloc (.cells #[.slice none 0 0, .slice none 0 0, .slice none 0 0] 25)
  have BR := Bx.made (w.alloc (.cells #[.slice a N.ends.length c, .slice ai N.ids.length ci, .slice ap N.inputs.length cp] 25)) 25 #[.slice none 0 0, .slice none 0 0, .slice none 0 0]
  have b0 : Below w.heap.size w ((w.alloc (.cells #[.slice a N.ends.length c, .slice ai N.ids.length ci, .slice ap N.inputs.length cp] 25)).alloc (.cells #[.slice none 0 0, .slice none 0 0, .slice none 0 0] 25)) := (by repeat (first | exact Below.refl _ _ | assumption | refine Below.alloc ?_ (by first | (simp; done) | (simp; omega) | omega) _ | refine Below.setCell ?_ (by first | (simp; done) | (simp; omega) | omega) _ | refine Below.drew ?_ | refine Below.drewN ?_ _))
  have z0 : w.heap.size + 1 + 1 ≤ ((w.alloc (.cells #[.slice a N.ends.length c, .slice ai N.ids.length ci, .slice ap N.inputs.length cp] 25)).alloc (.cells #[.slice none 0 0, .slice none 0 0, .slice none 0 0] 25)).heap.size := by simp
  rw [World.size_alloc] at BR
  clear hs h1
  go_enter Try.func29, Try.ntmps29
  go_wp2_with fail
  generalize (w.alloc (.cells #[.slice a N.ends.length c, .slice ai N.ids.length ci, .slice ap N.inputs.length cp] 25)).alloc (.cells #[.slice none 0 0, .slice none 0 0, .slice none 0 0] 25) = w0 at *
  refine (neNode_any _ N _ _ B (HV.out.below (b0.mono hB)) (Nat.le_trans hB b0.size) HS.out).mono ?_
  rintro e w1 ⟨rfl, bel1⟩
  replace BA := BA.new bel1
  replace BR := BR.new bel1
  have z1 := bel1.size
  have bb := b0.trans (bel1.mono b0.size)
  clear b0 bel1
  cases hn : ndB N v with
  | false =>
    have HF := Lib.hid (show ppB N v l = false by rw [ppB]; rw [ndB] at hn; rw [hn]; rfl)
    clear hn
    have e0 := BR.cell 0 _ rfl
    have e1 := BR.cell 1 _ rfl
    have e2 := BR.cell 2 _ rfl
    have f0 := BR.frozen 0
    have f1 := BR.frozen 1
    have f2 := BR.frozen 2
    go_wp2_with fail
    clear e0 e1 e2 f0 f1 f2
    generalize hW : World.setCell _ _ _ = W
    have B6 : Bx W (w.heap.size + 1) 25 #[.slice none 0 0, .slice none 0 0, .slice none 0 0] := by rw [← hW]; exact ((BR.set 0 _).set 1 _).set 2 _
    have fr6 : Fr (fun k => k = w.heap.size + 1) w1 W := by rw [← hW]; exact fr3 _ _ _ _ _
    clear hW
    have z6 := fr6.size
    have d0 := B6.cell 0 _ rfl
    have d1 := B6.cell 1 _ rfl
    have d2 := B6.cell 2 _ rfl
    refine bodyPost_ret (v := .tuple #[.agg #[.slice none 0 0, .slice none 0 0, .slice none 0 0], .bool false]) (by simp [results, Try.results29, go_sem, d0, d1, d2]) rfl ?_
    rw [ppR_f HF.out, id HF.out]
    exact ⟨_, rfl, NetAt.nilN _ _ _, bb.trans (fr6.below (fun k h1 h2 hc => by omega) bb.size)⟩
  | true =>
    have hnb : netB N = true ∧ hasN N.ends v = true := by rw [ndB, Bool.and_eq_true] at hn; exact hn
    have HN := Lib.hid hnb.1
    have HT := Lib.hid (ppB_t (l := l) hnb.1 hnb.2)
    obtain ⟨vn, rfl, hvn⟩ := hasN_nat hnb.2
    rw [Int.toNat_natCast] at HT
    have hL0 := net_row hnb.1 hvn
    have h1 := HV.out
    obtain ⟨a', c', vs', ai', ci', ap', cp', he, hE, _⟩ := h1
    simp only [Value.agg.injEq, Array.mk.injEq, List.cons.injEq, Value.slice.injEq, true_and, and_true] at he
    obtain ⟨⟨rfl, rfl⟩, ⟨rfl, rfl⟩, rfl, rfl⟩ := he
    obtain ⟨g0, off0, rfl, hg0, hc0⟩ := hE.1 (by omega)
    have hcv := (bb.cell (p := ⟨g0, off0 + vn, none⟩) (by show g0 < _; omega)).trans (hc0 vn hvn)
    clear hn hnb hc0 hE
    have c0 := BA.cell 0 _ rfl
    have c1 := BA.cell 1 _ rfl
    have c2 := BA.cell 2 _ rfl
    go_wp2_with fail
    clear hcv
    refine (nePerm_any al capl l (rowOf N.ends vn).length w1 w.heap.size (Rd.below ha bb) hlen (by omega) hcl).mono ?_
    rintro e w2 ⟨rfl, hq⟩
    have bel2 : Below w1.heap.size w1 w2 := Qt.below hq _
    clear hq
    replace BA := BA.new bel2
    replace BR := BR.new bel2
    have z2 := bel2.size
    replace bb := bb.trans (bel2.mono bb.size)
    clear c0 c1 c2 bel2
    cases hpm : permB l (rowOf N.ends vn).length with
    | false =>
      have HF := Lib.hid (HT.out.trans hpm)
      clear hpm
      have e0 := BR.cell 0 _ rfl
      have e1 := BR.cell 1 _ rfl
      have e2 := BR.cell 2 _ rfl
      have f0 := BR.frozen 0
      have f1 := BR.frozen 1
      have f2 := BR.frozen 2
      go_wp2_with fail
      clear e0 e1 e2 f0 f1 f2
      generalize hW : World.setCell _ _ _ = W
      have B6 : Bx W (w.heap.size + 1) 25 #[.slice none 0 0, .slice none 0 0, .slice none 0 0] := by rw [← hW]; exact ((BR.set 0 _).set 1 _).set 2 _
      have fr6 : Fr (fun k => k = w.heap.size + 1) w2 W := by rw [← hW]; exact fr3 _ _ _ _ _
      clear hW
      have z6 := fr6.size
      have d0 := B6.cell 0 _ rfl
      have d1 := B6.cell 1 _ rfl
      have d2 := B6.cell 2 _ rfl
      refine bodyPost_ret (v := .tuple #[.agg #[.slice none 0 0, .slice none 0 0, .slice none 0 0], .bool false]) (by simp [results, Try.results29, go_sem, d0, d1, d2]) rfl ?_
      rw [ppR_f HF.out, id HF.out]
      exact ⟨_, rfl, NetAt.nilN _ _ _, bb.trans (fr6.below (fun k h1 h2 hc => by omega) bb.size)⟩
    | true =>
      have HP := Lib.hid hpm
      have HB := Lib.hid (HT.out.trans hpm)
      clear hpm
      have c0 := BA.cell 0 _ rfl
      have c1 := BA.cell 1 _ rfl
      have c2 := BA.cell 2 _ rfl
      go_wp2_with fail
      refine (nePorts_any _ N vn al capl l _ B w.heap.size (HV.out.below (bb.mono hB)) (Nat.le_trans hB bb.size) (Rd.below ha bb) bb.size HS.out HN.out hvn HP.out).mono ?_
      rintro e w3 ⟨x3, rfl, own3, bel3⟩
      replace BR := BR.new bel3
      replace bb := bb.trans (bel3.mono bb.size)
      have z3 := bel3.size
      clear bel3 BA c0 c1 c2
      obtain ⟨ax, cx, aix, cix, apx, cpx, rfl, own3⟩ := own3.shape
      have HRR := Lib.hid (show ppR N (vn : Int) l = psN N vn l (rowOf N.ends vn).length by
        rw [ppR, HB.out]
        show pmN N vn l N.ends.length 0 = _
        unfold pmN psN
        rw [psT_all HN.out vn hvn])
      generalize psN N vn l (rowOf N.ends vn).length = RR at *
      have e0 := BR.cell 0 _ rfl
      have e1 := BR.cell 1 _ rfl
      have e2 := BR.cell 2 _ rfl
      have f0 := BR.frozen 0
      have f1 := BR.frozen 1
      have f2 := BR.frozen 2
      go_wp2_with fail
      clear e0 e1 e2 f0 f1 f2
      generalize hW : World.setCell _ _ _ = W
      have B6 : Bx W (w.heap.size + 1) 25 #[.slice ax RR.ends.length cx, .slice aix RR.ids.length cix, .slice apx RR.inputs.length cpx] := by rw [← hW]; exact ((BR.set 0 _).set 1 _).set 2 _
      have fr6 : Fr (fun k => k = w.heap.size + 1) w3 W := by rw [← hW]; exact fr3 _ _ _ _ _
      clear hW
      have z6 := fr6.size
      have d0 := B6.cell 0 _ rfl
      have d1 := B6.cell 1 _ rfl
      have d2 := B6.cell 2 _ rfl
      refine bodyPost_ret (v := .tuple #[.agg #[.slice ax RR.ends.length cx, .slice aix RR.ids.length cix, .slice apx RR.inputs.length cpx], .bool true]) (by simp [results, Try.results29, go_sem, d0, d1, d2]) rfl ?_
      rw [HRR.out, HB.out]
      exact ⟨_, rfl, (own3.frBx BR fr6).wide (lo' := w.heap.size) (hi' := W.heap.size) (by omega) (by omega), bb.trans (fr6.below (fun k h1 h2 hc => by omega) bb.size)⟩
end Go.Proofs.Ytabpimhkjgojhaa
