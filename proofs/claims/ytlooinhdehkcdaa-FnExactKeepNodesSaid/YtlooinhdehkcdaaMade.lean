/- Networks made of edges: spec's neJoin. -/
import Derived.Test.YtlooinhdehkcdaaIf
namespace Go.Proofs.Ytlooinhdehkcdaa
open Go.RowKit
set_option linter.unusedVariables false
set_option linter.unusedSimpArgs false

/-- rows of ints are no rows of ends -/
theorem rb_ne {w : World} {lo hi lo' hi' A c : Nat} {rows : Rows2} {vs : Nat → Option Addr × Nat} {a : Option Addr} {n cap : Nat} {f : Nat → Value} (hE : RowsE w lo hi (some ⟨A, 0, none⟩) c rows vs) (hc : 0 < rows.length) (ho : Ow w lo' hi' 3 1 a n cap f) {k : Nat} (hk : blk a cap = some k) : ¬ RB A rows vs k := by
  rintro (rfl | ⟨j, hj, hjk⟩)
  · have hbA : blk (some (⟨k, 0, none⟩ : Addr)) c = some k := by have := hE.1.1; rw [blk, if_neg (by omega)]; rfl
    exact ne_of_or (hE.1.ne_of_type ho (by decide)) hbA hk
  · exact ne_of_or ((hE.2.1 j hj).ne_of_type ho (by decide)) hjk hk
theorem rb_in {w : World} {lo hi A c : Nat} {rows : Rows2} {vs : Nat → Option Addr × Nat} (hE : RowsE w lo hi (some ⟨A, 0, none⟩) c rows vs) (hc : 0 < rows.length) {k : Nat} (h : RB A rows vs k) : lo ≤ k ∧ k < hi := by
  rcases h with rfl | ⟨j, hj, hjk⟩
  · have hbA : blk (some (⟨k, 0, none⟩ : Addr)) c = some k := by have := hE.1.1; rw [blk, if_neg (by omega)]; rfl
    exact Ow.blk_in hE.1 hbA
  · exact Ow.blk_in (hE.2.1 j hj) hjk
def joinN (N : Net) (v u : Nat) : Net := { N with ends := joinR N.ends v u }
set_option maxRecDepth 100000 in
set_option maxHeartbeats 800000 in
theorem neJoin_any (V : Value) (N : Net) (v u : Nat) (w : World) (B : Nat) (hv : NetIn w B V N) (hB : B ≤ w.heap.size) (hs : NetSmall N) (hvl : v < N.ends.length) (hul : u < N.ends.length) :
    Calls Try.prog 48 #[V, .int .i64 v, .int .i64 u] w fun e w' => ∃ x, e = .returned x ∧ NetAt w' w.heap.size w'.heap.size x (joinN N v u) ∧ Below w.heap.size w w' := by
  have HV := Lib.hid hv
  have HS := Lib.hid hs
  have hlv := hs.row v hvl
  have hlu := hs.row u hul
  obtain ⟨a0, c0, vs0, ai0, ci0, ap0, cp0, rfl, _⟩ := hv
  have BA := (Bx.made w 29 #[.slice a0 N.ends.length c0, .slice ai0 N.ids.length ci0, .slice ap0 N.inputs.length cp0]).alloc (.cells #[.slice none 0 0, .slice none 0 0, .slice none 0 0] 29)
  have BR := Bx.made (w.alloc (.cells #[.slice a0 N.ends.length c0, .slice ai0 N.ids.length ci0, .slice ap0 N.inputs.length cp0] 29)) 29 #[.slice none 0 0, .slice none 0 0, .slice none 0 0]
  have b0 : Below w.heap.size w ((w.alloc (.cells #[.slice a0 N.ends.length c0, .slice ai0 N.ids.length ci0, .slice ap0 N.inputs.length cp0] 29)).alloc (.cells #[.slice none 0 0, .slice none 0 0, .slice none 0 0] 29)) := (by repeat (first | exact Below.refl _ _ | assumption | refine Below.alloc ?_ (by first | (simp; done) | (simp; omega) | omega) _ | refine Below.setCell ?_ (by first | (simp; done) | (simp; omega) | omega) _ | refine Below.drew ?_ | refine Below.drewN ?_ _))
  rw [World.size_alloc] at BR
  unfold NetSmall at hs
  have hle : N.ends.length ≤ 1048576 := by omega
  clear hs
  go_enter Try.func48, Try.ntmps48
  go_wp2_with fail
  refine (neOwn_any _ N _ B (HV.out.below (b0.mono hB)) (Nat.le_trans hB b0.size) HS.out).mono ?_
  rintro e w1 ⟨x1, rfl, own1, bel1⟩
  replace BR := BR.new bel1
  have z0 : w.heap.size + 1 + 1 ≤ w1.heap.size := by have := bel1.size; simpa using this
  have b1 := b0.trans (bel1.mono b0.size)
  obtain ⟨a, c, vs, ai, ci, ap, cp, rfl, hE, owni, ownp, hdis⟩ := own1
  simp only [World.size_alloc] at hE owni ownp
  clear BA b0 bel1
  go_upto_region 2 with fail
  have hbx := Bx.made w1 29 #[.slice a N.ends.length c, .slice ai N.ids.length ci, .slice ap N.inputs.length cp]
  have b2 : Below w1.heap.size w1 (w1.alloc (.cells #[.slice a N.ends.length c, .slice ai N.ids.length ci, .slice ap N.inputs.length cp] 29)) := (by repeat (first | exact Below.refl _ _ | assumption | refine Below.alloc ?_ (by first | (simp; done) | (simp; omega) | omega) _ | refine Below.setCell ?_ (by first | (simp; done) | (simp; omega) | omega) _ | refine Below.drew ?_ | refine Below.drewN ?_ _))
  have z1 : w1.heap.size + 1 ≤ (w1.alloc (.cells #[.slice a N.ends.length c, .slice ai N.ids.length ci, .slice ap N.inputs.length cp] 29)).heap.size := by simp
  generalize w1.alloc (.cells #[.slice a N.ends.length c, .slice ai N.ids.length ci, .slice ap N.inputs.length cp] 29) = w2 at *
  obtain ⟨b, hb⟩ : ∃ b, b = w1.heap.size := ⟨_, rfl⟩
  obtain ⟨lo, hlo0⟩ : ∃ lo, lo = w.heap.size + 1 + 1 := ⟨_, rfl⟩
  rw [← hlo0] at hE owni ownp
  rw [← hb] at hbx ⊢
  replace BR := BR.new b2
  replace hE := RowsAt.top (RowsAt.new hE b2)
  replace owni := Ow.top (Ow.new owni b2)
  replace ownp := Ow.top (Ow.new ownp b2)
  have bb := b1.trans (b2.mono b1.size)
  have hlo : lo ≤ w2.heap.size := by omega
  have zb : lo ≤ b := by omega
  have zl : w.heap.size + 1 + 1 ≤ lo := by omega
  clear hb hlo0 b1 b2 z1
  obtain ⟨A, hA, _, _⟩ := Ow.addr hE.1 (by omega)
  subst hA
  obtain ⟨n, hn⟩ : ∃ n, n = N.ends.length := ⟨_, rfl⟩
  have HN := Lib.hid hn
  have hnl : n ≤ 1048576 := by omega
  have hvn : v < n := by omega
  have hun : u < n := by omega
  rw [← hn] at hbx ⊢
  have HNI := Lib.hid (fun (k : Nat) (hk : blk ai ci = some k) => rb_ne hE (by omega) owni hk)
  have HNP := Lib.hid (fun (k : Nat) (hk : blk ap cp = some k) => rb_ne hE (by omega) ownp hk)
  have HIN := Lib.hid (fun (k : Nat) (h : RB A N.ends vs k) => rb_in hE (by omega) h)
  have hv1 := hvl
  clear hn
  have q0 := hbx.cell 0 _ rfl
  obtain ⟨gv, ov, hav, _, hcv⟩ := Rd.at (Ow.rd hE.1) hvl
  obtain ⟨rfl, rfl⟩ : A = gv ∧ 0 = ov := by injection hav with h; injection h with h1 h2; exact ⟨h1, h2⟩
  obtain ⟨gu, ou, hau, _, hcu⟩ := Rd.at (Ow.rd hE.1) hul
  obtain ⟨rfl, rfl⟩ : A = gu ∧ 0 = ou := by injection hau with h; injection h with h1 h2; exact ⟨h1, h2⟩
  clear hav hau
  rw [Nat.zero_add] at hcv hcu
  by_cases huv : v = u
  · subst huv
    have hbe : ((v : Int) == (v : Int)) = true := by simp
    go_wp2_with fail
    clear hcv hcu q0 hbe
    have hS0 : w2.drew.cell? ⟨b, 0, none⟩ = some (.slice (some ⟨A, 0, none⟩) n c) := hbx.cell 0 _ rfl
    have hw1 : Below w2.heap.size w2 (w2.drew.alloc (.cells #[.int .i64 (v : Int), .int .i64 (((rowOf N.ends v).length + 1) : Int)] 62)) := (by repeat (first | exact Below.refl _ _ | assumption | refine Below.alloc ?_ (by first | (simp; done) | (simp; omega) | omega) _ | refine Below.setCell ?_ (by first | (simp; done) | (simp; omega) | omega) _ | refine Below.drew ?_ | refine Below.drewN ?_ _))
    have hS1 := (hbx.new hw1).cell 0 _ rfl
    have hrow1 : Ow (w2.drew.alloc (.cells #[.int .i64 (v : Int), .int .i64 (((rowOf N.ends v).length + 1) : Int)] 62)) lo w2.heap.size 62 2 (vs v).1 (rowOf N.ends v).length (vs v).2 (cellE (rowOf N.ends v)) := Ow.new (hE.2.1 v hv1) hw1
    have hnews : ∀ jj uu, [Value.int .i64 (v : Int), Value.int .i64 (((rowOf N.ends v).length + 1) : Int)][jj]? = some uu → (w2.drew.alloc (.cells #[.int .i64 (v : Int), .int .i64 (((rowOf N.ends v).length + 1) : Int)] 62)).cell? (Addr.add ⟨w2.heap.size, 0, none⟩ jj) = some uu := news2 _ _ _ _
    obtain ⟨gq, offq, haeq, _, hcv⟩ := Rd.at (Ow.rd hE.1) hv1
    obtain ⟨rfl, rfl⟩ : A = gq ∧ 0 = offq := by injection haeq with h; injection h with h1 h2; exact ⟨h1, h2⟩
    clear haeq
    rw [Nat.zero_add] at hcv
    refine wp_region_held_drew (S := fun X => X.cell? ⟨b, 0, none⟩ = some (.slice (some ⟨A, 0, none⟩) n c)) (by kernel_rfl) hS0 (fun hHeld => ?_)
    refine wpAnyH_take (i := 0) (v := ?_) rfl (by kernel_rfl) (by kernel_rfl) (by kernel_rfl) (fun _ _ _ h => h) (Or.inl ⟨by rfl, ?_⟩) (by assumption) ?_
    rotate_left
    · (intro w hSw; (try dsimp only at hSw); go_simp; try with_reducible rfl)
    try simp only [Act.put, List.getElem_toArray, List.getElem_cons_zero, List.getElem_cons_succ, List.setIfInBounds_toArray, List.set_cons_zero, List.set_cons_succ]
    refine wpAnyH_take (i := 1) (v := ?_) rfl (by kernel_rfl) (by kernel_rfl) (by kernel_rfl) (fun _ _ _ h => h) (Or.inl ⟨by rfl, ?_⟩) (by assumption) ?_
    rotate_left
    · (intro w hSw; (try dsimp only at hSw); go_simp; try with_reducible rfl)
    try simp only [Act.put, List.getElem_toArray, List.getElem_cons_zero, List.getElem_cons_succ, List.setIfInBounds_toArray, List.set_cons_zero, List.set_cons_succ]
    refine wpAnyH_take (i := 2) (v := ?_) rfl (by kernel_rfl) (by kernel_rfl) (by kernel_rfl) (fun _ _ _ h => h) (Or.inl ⟨by rfl, ?_⟩) (by assumption) ?_
    rotate_left
    · (intro w hSw; (try dsimp only at hSw); go_simp; try with_reducible rfl)
    try simp only [Act.put, List.getElem_toArray, List.getElem_cons_zero, List.getElem_cons_succ, List.setIfInBounds_toArray, List.set_cons_zero, List.set_cons_succ]
    refine wpAnyH_take (i := 3) (v := ?_) rfl (by kernel_rfl) (by kernel_rfl) (by kernel_rfl) (fun _ _ _ h => h) (Or.inl ⟨by rfl, ?_⟩) (by assumption) ?_
    rotate_left
    · (intro w hSw; (try dsimp only at hSw); go_simp; try with_reducible rfl)
    try simp only [Act.put, List.getElem_toArray, List.getElem_cons_zero, List.getElem_cons_succ, List.setIfInBounds_toArray, List.set_cons_zero, List.set_cons_succ]
    refine wpAnyH_take (i := 4) (v := ?_) rfl (by kernel_rfl) (by kernel_rfl) (by kernel_rfl) (fun _ _ _ h => h) (Or.inl ⟨by rfl, ?_⟩) (by assumption) ?_
    rotate_left
    · (intro w hSw; (try dsimp only at hSw); go_simp; try with_reducible rfl)
    try simp only [Act.put, List.getElem_toArray, List.getElem_cons_zero, List.getElem_cons_succ, List.setIfInBounds_toArray, List.set_cons_zero, List.set_cons_succ]
    refine wpAnyH_take (i := 5) (v := ?_) rfl (by kernel_rfl) (by kernel_rfl) (by kernel_rfl) (fun _ _ _ h => h) (Or.inl ⟨by rfl, ?_⟩) (by assumption) ?_
    rotate_left
    · (intro w hSw; (try dsimp only at hSw); go_simp; try with_reducible rfl)
    try simp only [Act.put, List.getElem_toArray, List.getElem_cons_zero, List.getElem_cons_succ, List.setIfInBounds_toArray, List.set_cons_zero, List.set_cons_succ]
    refine wpAnyH_take (i := 6) (v := ?_) rfl (by kernel_rfl) (by kernel_rfl) (by kernel_rfl) (fun _ _ _ h => h) (Or.inl ⟨by rfl, ?_⟩) (by assumption) ?_
    rotate_left
    · (intro w hSw; (try dsimp only at hSw); go_simp; try with_reducible rfl)
    try simp only [Act.put, List.getElem_toArray, List.getElem_cons_zero, List.getElem_cons_succ, List.setIfInBounds_toArray, List.set_cons_zero, List.set_cons_succ]
    refine wpAnyH_take (i := 8) (v := ?_) rfl (by kernel_rfl) (by kernel_rfl) (by kernel_rfl) (fun _ _ _ h => h) (Or.inl ⟨by rfl, ?_⟩) (by assumption) ?_
    rotate_left
    · (intro w hSw; (try dsimp only at hSw); go_simp; try with_reducible rfl)
    try simp only [Act.put, List.getElem_toArray, List.getElem_cons_zero, List.getElem_cons_succ, List.setIfInBounds_toArray, List.set_cons_zero, List.set_cons_succ]
    refine wpAnyH_take (i := 9) (v := ?_) rfl (by kernel_rfl) (by kernel_rfl) (by kernel_rfl) (fun _ _ _ h => h) (Or.inl ⟨by rfl, ?_⟩) (by assumption) ?_
    rotate_left
    · (intro w hSw; (try dsimp only at hSw); go_simp; try with_reducible rfl)
    try simp only [Act.put, List.getElem_toArray, List.getElem_cons_zero, List.getElem_cons_succ, List.setIfInBounds_toArray, List.set_cons_zero, List.set_cons_succ]
    refine wpAnyH_take (i := 10) (v := ?_) rfl (by kernel_rfl) (by kernel_rfl) (by kernel_rfl) (fun _ _ _ h => h) (Or.inl ⟨by rfl, ?_⟩) (by assumption) ?_
    rotate_left
    · (intro w hSw; (try dsimp only at hSw); go_simp; try with_reducible rfl)
    try simp only [Act.put, List.getElem_toArray, List.getElem_cons_zero, List.getElem_cons_succ, List.setIfInBounds_toArray, List.set_cons_zero, List.set_cons_succ]
    refine wpAnyH_ready (rs := [7, 11]) (by kernel_rfl) (by simp) ?_
    refine AllReadyH.cons (o := _) rfl (fun K hK => ?_) (AllReadyH.cons (o := _) rfl (fun K hK => ?_) AllReadyH.nil)
    go_simp
    refine hK.out _ _ (hS0) (fun hHeld => ?_)
    clear hK K
    try simp only [Act.put, List.getElem_toArray, List.getElem_cons_zero, List.getElem_cons_succ, List.setIfInBounds_toArray, List.set_cons_zero, List.set_cons_succ]
    refine wpAnyH_ready (rs := [11]) (by kernel_rfl) (by simp) ?_
    refine AllReadyH.cons (o := _) rfl (fun K hK => ?_) AllReadyH.nil
    go_simp
    refine hK.out _ _ (hS1) (fun hHeld => ?_)
    clear hK K
    try simp only [Act.put, List.getElem_toArray, List.getElem_cons_zero, List.getElem_cons_succ, List.setIfInBounds_toArray, List.set_cons_zero, List.set_cons_succ]
    refine wpAnyH_ready (rs := [12]) (by kernel_rfl) (by simp) ?_
    refine AllReadyH.cons (o := _) rfl (fun K hK => ?_) AllReadyH.nil
    rw [if_pos (by rfl)]
    refine step_app _ _ _ rfl 62 (.agg #[.int .i64 0, .int .i64 0]) 2 16 Try.underlying60 end_info rfl (by decide) lo w2.heap.size (vs v).1 (rowOf N.ends v).length (vs v).2 _ rfl hrow1 ⟨w2.heap.size, 0, none⟩ 1 1 [.int .i64 (v : Int), .int .i64 (((rowOf N.ends v).length + 1) : Int)] rfl rfl hnews (by simp [Value.oneCell']) (by decide) (by unfold maxLen; omega) (by omega) (by simp; omega) ?_
    intro g' cap' w2 own2 hgr hbg _
    obtain ⟨hbx2, hc2, hf2, vt, hE', hbx', hfr', hrb'⟩ := addP_mem hbx hE hv1 hw1 hlo hgr own2 hbg
    have hS2 := hbx2.cell 0 _ rfl
    have hS3 := hbx'.cell 0 _ rfl
    refine hK.out _ _ hS2 (fun hHeld => ?_)
    clear hK K
    try simp only [Act.put, List.getElem_toArray, List.getElem_cons_zero, List.getElem_cons_succ, List.setIfInBounds_toArray, List.set_cons_zero, List.set_cons_succ]
    refine wpAnyH_take (i := 13) (v := ?_) rfl (by kernel_rfl) (by kernel_rfl) (by kernel_rfl) (fun _ _ _ h => h) (Or.inl ⟨by rfl, ?_⟩) (by assumption) ?_
    rotate_left
    · (intro w hSw; (try dsimp only at hSw); go_simp; try with_reducible rfl)
    try simp only [Act.put, List.getElem_toArray, List.getElem_cons_zero, List.getElem_cons_succ, List.setIfInBounds_toArray, List.set_cons_zero, List.set_cons_succ]
    refine wpAnyH_ready (rs := [14]) (by kernel_rfl) (by simp) ?_
    refine AllReadyH.cons (o := _) rfl (fun K hK => ?_) AllReadyH.nil
    go_simp
    refine hK.out _ _ (hS3) (fun hHeld => ?_)
    clear hK K
    try simp only [Act.put, List.getElem_toArray, List.getElem_cons_zero, List.getElem_cons_succ, List.setIfInBounds_toArray, List.set_cons_zero, List.set_cons_succ]
    refine wpAnyH_done (by kernel_rfl) ?_ _
    clear hHeld hS2 hS3 hc2 hf2 hbx2 own2 hgr hbg
    rotate_left
    go_simp
    refine hK.out _ _ (hS1) (fun hHeld => ?_)
    clear hK K
    try simp only [Act.put, List.getElem_toArray, List.getElem_cons_zero, List.getElem_cons_succ, List.setIfInBounds_toArray, List.set_cons_zero, List.set_cons_succ]
    refine wpAnyH_ready (rs := [7]) (by kernel_rfl) (by simp) ?_
    refine AllReadyH.cons (o := _) rfl (fun K hK => ?_) AllReadyH.nil
    go_simp
    refine hK.out _ _ (hS1) (fun hHeld => ?_)
    clear hK K
    try simp only [Act.put, List.getElem_toArray, List.getElem_cons_zero, List.getElem_cons_succ, List.setIfInBounds_toArray, List.set_cons_zero, List.set_cons_succ]
    refine wpAnyH_ready (rs := [12]) (by kernel_rfl) (by simp) ?_
    refine AllReadyH.cons (o := _) rfl (fun K hK => ?_) AllReadyH.nil
    rw [if_pos (by rfl)]
    refine step_app _ _ _ rfl 62 (.agg #[.int .i64 0, .int .i64 0]) 2 16 Try.underlying60 end_info rfl (by decide) lo w2.heap.size (vs v).1 (rowOf N.ends v).length (vs v).2 _ rfl hrow1 ⟨w2.heap.size, 0, none⟩ 1 1 [.int .i64 (v : Int), .int .i64 (((rowOf N.ends v).length + 1) : Int)] rfl rfl hnews (by simp [Value.oneCell']) (by decide) (by unfold maxLen; omega) (by omega) (by simp; omega) ?_
    intro g' cap' w2 own2 hgr hbg _
    obtain ⟨hbx2, hc2, hf2, vt, hE', hbx', hfr', hrb'⟩ := addP_mem hbx hE hv1 hw1 hlo hgr own2 hbg
    have hS2 := hbx2.cell 0 _ rfl
    have hS3 := hbx'.cell 0 _ rfl
    refine hK.out _ _ hS2 (fun hHeld => ?_)
    clear hK K
    try simp only [Act.put, List.getElem_toArray, List.getElem_cons_zero, List.getElem_cons_succ, List.setIfInBounds_toArray, List.set_cons_zero, List.set_cons_succ]
    refine wpAnyH_take (i := 13) (v := ?_) rfl (by kernel_rfl) (by kernel_rfl) (by kernel_rfl) (fun _ _ _ h => h) (Or.inl ⟨by rfl, ?_⟩) (by assumption) ?_
    rotate_left
    · (intro w hSw; (try dsimp only at hSw); go_simp; try with_reducible rfl)
    try simp only [Act.put, List.getElem_toArray, List.getElem_cons_zero, List.getElem_cons_succ, List.setIfInBounds_toArray, List.set_cons_zero, List.set_cons_succ]
    refine wpAnyH_ready (rs := [14]) (by kernel_rfl) (by simp) ?_
    refine AllReadyH.cons (o := _) rfl (fun K hK => ?_) AllReadyH.nil
    go_simp
    refine hK.out _ _ (hS3) (fun hHeld => ?_)
    clear hK K
    try simp only [Act.put, List.getElem_toArray, List.getElem_cons_zero, List.getElem_cons_succ, List.setIfInBounds_toArray, List.set_cons_zero, List.set_cons_succ]
    refine wpAnyH_done (by kernel_rfl) ?_ _
    clear hHeld hS2 hS3 hc2 hf2 hbx2 own2 hgr hbg
    rotate_left
    all_goals
      clear hS0 hS1 hw1 hrow1 hnews hcv hbx hE
      generalize hWW : World.setCell w2 _ _ = w4 at hE' hbx' hfr' ⊢
      clear hWW
      replace hE' := RowsAt.top hE'
      obtain ⟨hE, hbx, hfr, hrb⟩ := (⟨hE', hbx', hfr', hrb'⟩ : _ ∧ _ ∧ _ ∧ _)
      clear hE' hbx' hfr' hrb'
      replace owni := Ow.frB owni hfr HNI.out
      replace ownp := Ow.frB ownp hfr HNP.out
      replace BR := BR.fr hfr (fun h => by have := HIN.out _ h; omega)
      replace bb := bb.trans (hfr.below (B := w.heap.size) (fun k h1 h2 hc => by have := HIN.out _ hc; omega) bb.size)
      have z4 := hfr.size
      clear hfr hrb HNI HNP HIN
      obtain ⟨r1, hr1⟩ : ∃ r1, r1 = addP N.ends v (v : Int) (((rowOf N.ends v).length + 1) : Int) := ⟨_, rfl⟩
      rw [← hr1] at hE
      have hrl : r1.length = N.ends.length := by rw [hr1, addP_length]
      have hru : (rowOf r1 v).length ≤ 1048577 := by rw [hr1, addP_row _ _ _ _ _ hvl]; split; (· rw [List.length_append]; simp; omega); omega
      have HR1 := Lib.hid hr1
      clear hr1
      replace hv1 : v < r1.length := by omega
      replace hlo : lo ≤ w4.heap.size := by omega
      have HNI := Lib.hid (fun (k : Nat) (hk : blk ai ci = some k) => rb_ne hE (by omega) owni hk)
      have HNP := Lib.hid (fun (k : Nat) (hk : blk ap cp = some k) => rb_ne hE (by omega) ownp hk)
      have HIN := Lib.hid (fun (k : Nat) (h : RB A r1 vt k) => rb_in hE (by omega) h)
      have HRL := Lib.hid hrl
      clear hrl
      go_wp2_with fail
      have hS0 : w4.drew.cell? ⟨b, 0, none⟩ = some (.slice (some ⟨A, 0, none⟩) n c) := hbx.cell 0 _ rfl
      have hw1 : Below w4.heap.size w4 (w4.drew.alloc (.cells #[.int .i64 (v : Int), .int .i64 ((rowOf N.ends v).length : Int)] 62)) := (by repeat (first | exact Below.refl _ _ | assumption | refine Below.alloc ?_ (by first | (simp; done) | (simp; omega) | omega) _ | refine Below.setCell ?_ (by first | (simp; done) | (simp; omega) | omega) _ | refine Below.drew ?_ | refine Below.drewN ?_ _))
      have hS1 := (hbx.new hw1).cell 0 _ rfl
      have hrow1 : Ow (w4.drew.alloc (.cells #[.int .i64 (v : Int), .int .i64 ((rowOf N.ends v).length : Int)] 62)) lo w4.heap.size 62 2 (vt v).1 (rowOf r1 v).length (vt v).2 (cellE (rowOf r1 v)) := Ow.new (hE.2.1 v hv1) hw1
      have hnews : ∀ jj uu, [Value.int .i64 (v : Int), Value.int .i64 ((rowOf N.ends v).length : Int)][jj]? = some uu → (w4.drew.alloc (.cells #[.int .i64 (v : Int), .int .i64 ((rowOf N.ends v).length : Int)] 62)).cell? (Addr.add ⟨w4.heap.size, 0, none⟩ jj) = some uu := news2 _ _ _ _
      obtain ⟨gq, offq, haeq, _, hcv⟩ := Rd.at (Ow.rd hE.1) hv1
      obtain ⟨rfl, rfl⟩ : A = gq ∧ 0 = offq := by injection haeq with h; injection h with h1 h2; exact ⟨h1, h2⟩
      clear haeq
      rw [Nat.zero_add] at hcv
      refine wp_region_held_drew (S := fun X => X.cell? ⟨b, 0, none⟩ = some (.slice (some ⟨A, 0, none⟩) n c)) (by kernel_rfl) hS0 (fun hHeld => ?_)
      refine wpAnyH_take (i := 0) (v := ?_) rfl (by kernel_rfl) (by kernel_rfl) (by kernel_rfl) (fun _ _ _ h => h) (Or.inl ⟨by rfl, ?_⟩) (by assumption) ?_
      rotate_left
      · (intro w hSw; (try dsimp only at hSw); go_simp; try with_reducible rfl)
      try simp only [Act.put, List.getElem_toArray, List.getElem_cons_zero, List.getElem_cons_succ, List.setIfInBounds_toArray, List.set_cons_zero, List.set_cons_succ]
      refine wpAnyH_take (i := 1) (v := ?_) rfl (by kernel_rfl) (by kernel_rfl) (by kernel_rfl) (fun _ _ _ h => h) (Or.inl ⟨by rfl, ?_⟩) (by assumption) ?_
      rotate_left
      · (intro w hSw; (try dsimp only at hSw); go_simp; try with_reducible rfl)
      try simp only [Act.put, List.getElem_toArray, List.getElem_cons_zero, List.getElem_cons_succ, List.setIfInBounds_toArray, List.set_cons_zero, List.set_cons_succ]
      refine wpAnyH_take (i := 2) (v := ?_) rfl (by kernel_rfl) (by kernel_rfl) (by kernel_rfl) (fun _ _ _ h => h) (Or.inl ⟨by rfl, ?_⟩) (by assumption) ?_
      rotate_left
      · (intro w hSw; (try dsimp only at hSw); go_simp; try with_reducible rfl)
      try simp only [Act.put, List.getElem_toArray, List.getElem_cons_zero, List.getElem_cons_succ, List.setIfInBounds_toArray, List.set_cons_zero, List.set_cons_succ]
      refine wpAnyH_take (i := 3) (v := ?_) rfl (by kernel_rfl) (by kernel_rfl) (by kernel_rfl) (fun _ _ _ h => h) (Or.inl ⟨by rfl, ?_⟩) (by assumption) ?_
      rotate_left
      · (intro w hSw; (try dsimp only at hSw); go_simp; try with_reducible rfl)
      try simp only [Act.put, List.getElem_toArray, List.getElem_cons_zero, List.getElem_cons_succ, List.setIfInBounds_toArray, List.set_cons_zero, List.set_cons_succ]
      refine wpAnyH_take (i := 4) (v := ?_) rfl (by kernel_rfl) (by kernel_rfl) (by kernel_rfl) (fun _ _ _ h => h) (Or.inl ⟨by rfl, ?_⟩) (by assumption) ?_
      rotate_left
      · (intro w hSw; (try dsimp only at hSw); go_simp; try with_reducible rfl)
      try simp only [Act.put, List.getElem_toArray, List.getElem_cons_zero, List.getElem_cons_succ, List.setIfInBounds_toArray, List.set_cons_zero, List.set_cons_succ]
      refine wpAnyH_take (i := 5) (v := ?_) rfl (by kernel_rfl) (by kernel_rfl) (by kernel_rfl) (fun _ _ _ h => h) (Or.inl ⟨by rfl, ?_⟩) (by assumption) ?_
      rotate_left
      · (intro w hSw; (try dsimp only at hSw); go_simp; try with_reducible rfl)
      try simp only [Act.put, List.getElem_toArray, List.getElem_cons_zero, List.getElem_cons_succ, List.setIfInBounds_toArray, List.set_cons_zero, List.set_cons_succ]
      refine wpAnyH_take (i := 6) (v := ?_) rfl (by kernel_rfl) (by kernel_rfl) (by kernel_rfl) (fun _ _ _ h => h) (Or.inl ⟨by rfl, ?_⟩) (by assumption) ?_
      rotate_left
      · (intro w hSw; (try dsimp only at hSw); go_simp; try with_reducible rfl)
      try simp only [Act.put, List.getElem_toArray, List.getElem_cons_zero, List.getElem_cons_succ, List.setIfInBounds_toArray, List.set_cons_zero, List.set_cons_succ]
      refine wpAnyH_take (i := 8) (v := ?_) rfl (by kernel_rfl) (by kernel_rfl) (by kernel_rfl) (fun _ _ _ h => h) (Or.inl ⟨by rfl, ?_⟩) (by assumption) ?_
      rotate_left
      · (intro w hSw; (try dsimp only at hSw); go_simp; try with_reducible rfl)
      try simp only [Act.put, List.getElem_toArray, List.getElem_cons_zero, List.getElem_cons_succ, List.setIfInBounds_toArray, List.set_cons_zero, List.set_cons_succ]
      refine wpAnyH_take (i := 9) (v := ?_) rfl (by kernel_rfl) (by kernel_rfl) (by kernel_rfl) (fun _ _ _ h => h) (Or.inl ⟨by rfl, ?_⟩) (by assumption) ?_
      rotate_left
      · (intro w hSw; (try dsimp only at hSw); go_simp; try with_reducible rfl)
      try simp only [Act.put, List.getElem_toArray, List.getElem_cons_zero, List.getElem_cons_succ, List.setIfInBounds_toArray, List.set_cons_zero, List.set_cons_succ]
      refine wpAnyH_take (i := 10) (v := ?_) rfl (by kernel_rfl) (by kernel_rfl) (by kernel_rfl) (fun _ _ _ h => h) (Or.inl ⟨by rfl, ?_⟩) (by assumption) ?_
      rotate_left
      · (intro w hSw; (try dsimp only at hSw); go_simp; try with_reducible rfl)
      try simp only [Act.put, List.getElem_toArray, List.getElem_cons_zero, List.getElem_cons_succ, List.setIfInBounds_toArray, List.set_cons_zero, List.set_cons_succ]
      refine wpAnyH_ready (rs := [7, 11]) (by kernel_rfl) (by simp) ?_
      refine AllReadyH.cons (o := _) rfl (fun K hK => ?_) (AllReadyH.cons (o := _) rfl (fun K hK => ?_) AllReadyH.nil)
      go_simp
      refine hK.out _ _ (hS0) (fun hHeld => ?_)
      clear hK K
      try simp only [Act.put, List.getElem_toArray, List.getElem_cons_zero, List.getElem_cons_succ, List.setIfInBounds_toArray, List.set_cons_zero, List.set_cons_succ]
      refine wpAnyH_ready (rs := [11]) (by kernel_rfl) (by simp) ?_
      refine AllReadyH.cons (o := _) rfl (fun K hK => ?_) AllReadyH.nil
      go_simp
      refine hK.out _ _ (hS1) (fun hHeld => ?_)
      clear hK K
      try simp only [Act.put, List.getElem_toArray, List.getElem_cons_zero, List.getElem_cons_succ, List.setIfInBounds_toArray, List.set_cons_zero, List.set_cons_succ]
      refine wpAnyH_ready (rs := [12]) (by kernel_rfl) (by simp) ?_
      refine AllReadyH.cons (o := _) rfl (fun K hK => ?_) AllReadyH.nil
      rw [if_pos (by rfl)]
      refine step_app _ _ _ rfl 62 (.agg #[.int .i64 0, .int .i64 0]) 2 16 Try.underlying60 end_info rfl (by decide) lo w4.heap.size (vt v).1 (rowOf r1 v).length (vt v).2 _ rfl hrow1 ⟨w4.heap.size, 0, none⟩ 1 1 [.int .i64 (v : Int), .int .i64 ((rowOf N.ends v).length : Int)] rfl rfl hnews (by simp [Value.oneCell']) (by decide) (by unfold maxLen; omega) (by omega) (by simp; omega) ?_
      intro g' cap' w2 own2 hgr hbg _
      obtain ⟨hbx2, hc2, hf2, vu, hE', hbx', hfr', hrb'⟩ := addP_mem hbx hE hv1 hw1 hlo hgr own2 hbg
      have hS2 := hbx2.cell 0 _ rfl
      have hS3 := hbx'.cell 0 _ rfl
      refine hK.out _ _ hS2 (fun hHeld => ?_)
      clear hK K
      try simp only [Act.put, List.getElem_toArray, List.getElem_cons_zero, List.getElem_cons_succ, List.setIfInBounds_toArray, List.set_cons_zero, List.set_cons_succ]
      refine wpAnyH_take (i := 13) (v := ?_) rfl (by kernel_rfl) (by kernel_rfl) (by kernel_rfl) (fun _ _ _ h => h) (Or.inl ⟨by rfl, ?_⟩) (by assumption) ?_
      rotate_left
      · (intro w hSw; (try dsimp only at hSw); go_simp; try with_reducible rfl)
      try simp only [Act.put, List.getElem_toArray, List.getElem_cons_zero, List.getElem_cons_succ, List.setIfInBounds_toArray, List.set_cons_zero, List.set_cons_succ]
      refine wpAnyH_ready (rs := [14]) (by kernel_rfl) (by simp) ?_
      refine AllReadyH.cons (o := _) rfl (fun K hK => ?_) AllReadyH.nil
      go_simp
      refine hK.out _ _ (hS3) (fun hHeld => ?_)
      clear hK K
      try simp only [Act.put, List.getElem_toArray, List.getElem_cons_zero, List.getElem_cons_succ, List.setIfInBounds_toArray, List.set_cons_zero, List.set_cons_succ]
      refine wpAnyH_done (by kernel_rfl) ?_ _
      clear hHeld hS2 hS3 hc2 hf2 hbx2 own2 hgr hbg
      rotate_left
      go_simp
      refine hK.out _ _ (hS1) (fun hHeld => ?_)
      clear hK K
      try simp only [Act.put, List.getElem_toArray, List.getElem_cons_zero, List.getElem_cons_succ, List.setIfInBounds_toArray, List.set_cons_zero, List.set_cons_succ]
      refine wpAnyH_ready (rs := [7]) (by kernel_rfl) (by simp) ?_
      refine AllReadyH.cons (o := _) rfl (fun K hK => ?_) AllReadyH.nil
      go_simp
      refine hK.out _ _ (hS1) (fun hHeld => ?_)
      clear hK K
      try simp only [Act.put, List.getElem_toArray, List.getElem_cons_zero, List.getElem_cons_succ, List.setIfInBounds_toArray, List.set_cons_zero, List.set_cons_succ]
      refine wpAnyH_ready (rs := [12]) (by kernel_rfl) (by simp) ?_
      refine AllReadyH.cons (o := _) rfl (fun K hK => ?_) AllReadyH.nil
      rw [if_pos (by rfl)]
      refine step_app _ _ _ rfl 62 (.agg #[.int .i64 0, .int .i64 0]) 2 16 Try.underlying60 end_info rfl (by decide) lo w4.heap.size (vt v).1 (rowOf r1 v).length (vt v).2 _ rfl hrow1 ⟨w4.heap.size, 0, none⟩ 1 1 [.int .i64 (v : Int), .int .i64 ((rowOf N.ends v).length : Int)] rfl rfl hnews (by simp [Value.oneCell']) (by decide) (by unfold maxLen; omega) (by omega) (by simp; omega) ?_
      intro g' cap' w2 own2 hgr hbg _
      obtain ⟨hbx2, hc2, hf2, vu, hE', hbx', hfr', hrb'⟩ := addP_mem hbx hE hv1 hw1 hlo hgr own2 hbg
      have hS2 := hbx2.cell 0 _ rfl
      have hS3 := hbx'.cell 0 _ rfl
      refine hK.out _ _ hS2 (fun hHeld => ?_)
      clear hK K
      try simp only [Act.put, List.getElem_toArray, List.getElem_cons_zero, List.getElem_cons_succ, List.setIfInBounds_toArray, List.set_cons_zero, List.set_cons_succ]
      refine wpAnyH_take (i := 13) (v := ?_) rfl (by kernel_rfl) (by kernel_rfl) (by kernel_rfl) (fun _ _ _ h => h) (Or.inl ⟨by rfl, ?_⟩) (by assumption) ?_
      rotate_left
      · (intro w hSw; (try dsimp only at hSw); go_simp; try with_reducible rfl)
      try simp only [Act.put, List.getElem_toArray, List.getElem_cons_zero, List.getElem_cons_succ, List.setIfInBounds_toArray, List.set_cons_zero, List.set_cons_succ]
      refine wpAnyH_ready (rs := [14]) (by kernel_rfl) (by simp) ?_
      refine AllReadyH.cons (o := _) rfl (fun K hK => ?_) AllReadyH.nil
      go_simp
      refine hK.out _ _ (hS3) (fun hHeld => ?_)
      clear hK K
      try simp only [Act.put, List.getElem_toArray, List.getElem_cons_zero, List.getElem_cons_succ, List.setIfInBounds_toArray, List.set_cons_zero, List.set_cons_succ]
      refine wpAnyH_done (by kernel_rfl) ?_ _
      clear hHeld hS2 hS3 hc2 hf2 hbx2 own2 hgr hbg
      rotate_left
      all_goals
        clear hS0 hS1 hw1 hrow1 hnews hcv hbx hE
        generalize hWW : World.setCell w2 _ _ = w6 at hE' hbx' hfr' ⊢
        clear hWW
        replace hE' := RowsAt.top hE'
        obtain ⟨hE, hbx, hfr, hrb⟩ := (⟨hE', hbx', hfr', hrb'⟩ : _ ∧ _ ∧ _ ∧ _)
        clear hE' hbx' hfr' hrb'
        replace owni := Ow.frB owni hfr HNI.out
        replace ownp := Ow.frB ownp hfr HNP.out
        replace BR := BR.fr hfr (fun h => by have := HIN.out _ h; omega)
        replace bb := bb.trans (hfr.below (B := w.heap.size) (fun k h1 h2 hc => by have := HIN.out _ hc; omega) bb.size)
        have z6' := hfr.size
        clear hfr hrb HNI HNP HIN
        have q0 := hbx.cell 0 _ rfl
        have q1 := hbx.cell 1 _ rfl
        have q2 := hbx.cell 2 _ rfl
        have e0 := BR.cell 0 _ rfl
        have e1 := BR.cell 1 _ rfl
        have e2 := BR.cell 2 _ rfl
        have f0 := BR.frozen 0
        have f1 := BR.frozen 1
        have f2 := BR.frozen 2
        go_wp2_with fail
        clear q0 q1 q2 e0 e1 e2 f0 f1 f2
        generalize hW : World.setCell _ _ _ = W
        have B6 : Bx W (w.heap.size + 1) 29 #[.slice (some ⟨A, 0, none⟩) n c, .slice ai N.ids.length ci, .slice ap N.inputs.length cp] := by rw [← hW]; exact ((BR.set 0 _).set 1 _).set 2 _
        have fr6 : Fr (fun k => k = w.heap.size + 1) w6 W := by rw [← hW]; exact fr3 _ _ _ _ _
        clear hW
        have z6 := fr6.size
        have d0 := B6.cell 0 _ rfl
        have d1 := B6.cell 1 _ rfl
        have d2 := B6.cell 2 _ rfl
        refine bodyPost_ret (v := .agg #[.slice (some ⟨A, 0, none⟩) n c, .slice ai N.ids.length ci, .slice ap N.inputs.length cp]) (by simp [results, Try.results48, go_sem, d0, d1, d2]) rfl ?_
        have hJ : addP r1 v (v : Int) ((rowOf N.ends v).length : Int) = joinR N.ends v v := by rw [HR1.out]; exact (by rw [joinR, if_pos rfl]; rfl)
        rw [hJ] at hE
        have hJL : (joinR N.ends v v).length = n := by rw [joinR_length, HN.out]
        refine ⟨_, rfl, ⟨some ⟨A, 0, none⟩, c, vu, ai, ci, ap, cp, ?_, RowsAt.wide (RowsAt.fr hE fr6 (fun k h1 h2 hc => by omega)) (by omega) (by omega), Ow.wide (Ow.fr owni fr6 (fun k h1 h2 hc => by omega)) (by omega) (by omega), Ow.wide (Ow.fr ownp fr6 (fun k h1 h2 hc => by omega)) (by omega) (by omega), hdis⟩, bb.trans (fr6.below (fun k h1 h2 hc => by omega) bb.size)⟩
        show _ = Value.agg #[.slice (some ⟨A, 0, none⟩) (joinR N.ends v v).length c, .slice ai N.ids.length ci, .slice ap N.inputs.length cp]
        rw [hJL]
  · have hbe : ((v : Int) == (u : Int)) = false := beq_eq_false_iff_ne.2 fun h => huv (by omega)
    have HUV := Lib.hid huv
    clear huv
    go_wp2_with fail
    clear hcv hcu q0 hbe
    have hS0 : w2.drew.cell? ⟨b, 0, none⟩ = some (.slice (some ⟨A, 0, none⟩) n c) := hbx.cell 0 _ rfl
    have hw1 : Below w2.heap.size w2 (w2.drew.alloc (.cells #[.int .i64 (u : Int), .int .i64 ((rowOf N.ends u).length : Int)] 62)) := (by repeat (first | exact Below.refl _ _ | assumption | refine Below.alloc ?_ (by first | (simp; done) | (simp; omega) | omega) _ | refine Below.setCell ?_ (by first | (simp; done) | (simp; omega) | omega) _ | refine Below.drew ?_ | refine Below.drewN ?_ _))
    have hS1 := (hbx.new hw1).cell 0 _ rfl
    have hrow1 : Ow (w2.drew.alloc (.cells #[.int .i64 (u : Int), .int .i64 ((rowOf N.ends u).length : Int)] 62)) lo w2.heap.size 62 2 (vs v).1 (rowOf N.ends v).length (vs v).2 (cellE (rowOf N.ends v)) := Ow.new (hE.2.1 v hv1) hw1
    have hnews : ∀ jj uu, [Value.int .i64 (u : Int), Value.int .i64 ((rowOf N.ends u).length : Int)][jj]? = some uu → (w2.drew.alloc (.cells #[.int .i64 (u : Int), .int .i64 ((rowOf N.ends u).length : Int)] 62)).cell? (Addr.add ⟨w2.heap.size, 0, none⟩ jj) = some uu := news2 _ _ _ _
    obtain ⟨gq, offq, haeq, _, hcv⟩ := Rd.at (Ow.rd hE.1) hv1
    obtain ⟨rfl, rfl⟩ : A = gq ∧ 0 = offq := by injection haeq with h; injection h with h1 h2; exact ⟨h1, h2⟩
    clear haeq
    rw [Nat.zero_add] at hcv
    refine wp_region_held_drew (S := fun X => X.cell? ⟨b, 0, none⟩ = some (.slice (some ⟨A, 0, none⟩) n c)) (by kernel_rfl) hS0 (fun hHeld => ?_)
    refine wpAnyH_take (i := 0) (v := ?_) rfl (by kernel_rfl) (by kernel_rfl) (by kernel_rfl) (fun _ _ _ h => h) (Or.inl ⟨by rfl, ?_⟩) (by assumption) ?_
    rotate_left
    · (intro w hSw; (try dsimp only at hSw); go_simp; try with_reducible rfl)
    try simp only [Act.put, List.getElem_toArray, List.getElem_cons_zero, List.getElem_cons_succ, List.setIfInBounds_toArray, List.set_cons_zero, List.set_cons_succ]
    refine wpAnyH_take (i := 1) (v := ?_) rfl (by kernel_rfl) (by kernel_rfl) (by kernel_rfl) (fun _ _ _ h => h) (Or.inl ⟨by rfl, ?_⟩) (by assumption) ?_
    rotate_left
    · (intro w hSw; (try dsimp only at hSw); go_simp; try with_reducible rfl)
    try simp only [Act.put, List.getElem_toArray, List.getElem_cons_zero, List.getElem_cons_succ, List.setIfInBounds_toArray, List.set_cons_zero, List.set_cons_succ]
    refine wpAnyH_take (i := 2) (v := ?_) rfl (by kernel_rfl) (by kernel_rfl) (by kernel_rfl) (fun _ _ _ h => h) (Or.inl ⟨by rfl, ?_⟩) (by assumption) ?_
    rotate_left
    · (intro w hSw; (try dsimp only at hSw); go_simp; try with_reducible rfl)
    try simp only [Act.put, List.getElem_toArray, List.getElem_cons_zero, List.getElem_cons_succ, List.setIfInBounds_toArray, List.set_cons_zero, List.set_cons_succ]
    refine wpAnyH_take (i := 3) (v := ?_) rfl (by kernel_rfl) (by kernel_rfl) (by kernel_rfl) (fun _ _ _ h => h) (Or.inl ⟨by rfl, ?_⟩) (by assumption) ?_
    rotate_left
    · (intro w hSw; (try dsimp only at hSw); go_simp; try with_reducible rfl)
    try simp only [Act.put, List.getElem_toArray, List.getElem_cons_zero, List.getElem_cons_succ, List.setIfInBounds_toArray, List.set_cons_zero, List.set_cons_succ]
    refine wpAnyH_take (i := 4) (v := ?_) rfl (by kernel_rfl) (by kernel_rfl) (by kernel_rfl) (fun _ _ _ h => h) (Or.inl ⟨by rfl, ?_⟩) (by assumption) ?_
    rotate_left
    · (intro w hSw; (try dsimp only at hSw); go_simp; try with_reducible rfl)
    try simp only [Act.put, List.getElem_toArray, List.getElem_cons_zero, List.getElem_cons_succ, List.setIfInBounds_toArray, List.set_cons_zero, List.set_cons_succ]
    refine wpAnyH_take (i := 5) (v := ?_) rfl (by kernel_rfl) (by kernel_rfl) (by kernel_rfl) (fun _ _ _ h => h) (Or.inl ⟨by rfl, ?_⟩) (by assumption) ?_
    rotate_left
    · (intro w hSw; (try dsimp only at hSw); go_simp; try with_reducible rfl)
    try simp only [Act.put, List.getElem_toArray, List.getElem_cons_zero, List.getElem_cons_succ, List.setIfInBounds_toArray, List.set_cons_zero, List.set_cons_succ]
    refine wpAnyH_take (i := 6) (v := ?_) rfl (by kernel_rfl) (by kernel_rfl) (by kernel_rfl) (fun _ _ _ h => h) (Or.inl ⟨by rfl, ?_⟩) (by assumption) ?_
    rotate_left
    · (intro w hSw; (try dsimp only at hSw); go_simp; try with_reducible rfl)
    try simp only [Act.put, List.getElem_toArray, List.getElem_cons_zero, List.getElem_cons_succ, List.setIfInBounds_toArray, List.set_cons_zero, List.set_cons_succ]
    refine wpAnyH_take (i := 8) (v := ?_) rfl (by kernel_rfl) (by kernel_rfl) (by kernel_rfl) (fun _ _ _ h => h) (Or.inl ⟨by rfl, ?_⟩) (by assumption) ?_
    rotate_left
    · (intro w hSw; (try dsimp only at hSw); go_simp; try with_reducible rfl)
    try simp only [Act.put, List.getElem_toArray, List.getElem_cons_zero, List.getElem_cons_succ, List.setIfInBounds_toArray, List.set_cons_zero, List.set_cons_succ]
    refine wpAnyH_take (i := 9) (v := ?_) rfl (by kernel_rfl) (by kernel_rfl) (by kernel_rfl) (fun _ _ _ h => h) (Or.inl ⟨by rfl, ?_⟩) (by assumption) ?_
    rotate_left
    · (intro w hSw; (try dsimp only at hSw); go_simp; try with_reducible rfl)
    try simp only [Act.put, List.getElem_toArray, List.getElem_cons_zero, List.getElem_cons_succ, List.setIfInBounds_toArray, List.set_cons_zero, List.set_cons_succ]
    refine wpAnyH_take (i := 10) (v := ?_) rfl (by kernel_rfl) (by kernel_rfl) (by kernel_rfl) (fun _ _ _ h => h) (Or.inl ⟨by rfl, ?_⟩) (by assumption) ?_
    rotate_left
    · (intro w hSw; (try dsimp only at hSw); go_simp; try with_reducible rfl)
    try simp only [Act.put, List.getElem_toArray, List.getElem_cons_zero, List.getElem_cons_succ, List.setIfInBounds_toArray, List.set_cons_zero, List.set_cons_succ]
    refine wpAnyH_ready (rs := [7, 11]) (by kernel_rfl) (by simp) ?_
    refine AllReadyH.cons (o := _) rfl (fun K hK => ?_) (AllReadyH.cons (o := _) rfl (fun K hK => ?_) AllReadyH.nil)
    go_simp
    refine hK.out _ _ (hS0) (fun hHeld => ?_)
    clear hK K
    try simp only [Act.put, List.getElem_toArray, List.getElem_cons_zero, List.getElem_cons_succ, List.setIfInBounds_toArray, List.set_cons_zero, List.set_cons_succ]
    refine wpAnyH_ready (rs := [11]) (by kernel_rfl) (by simp) ?_
    refine AllReadyH.cons (o := _) rfl (fun K hK => ?_) AllReadyH.nil
    go_simp
    refine hK.out _ _ (hS1) (fun hHeld => ?_)
    clear hK K
    try simp only [Act.put, List.getElem_toArray, List.getElem_cons_zero, List.getElem_cons_succ, List.setIfInBounds_toArray, List.set_cons_zero, List.set_cons_succ]
    refine wpAnyH_ready (rs := [12]) (by kernel_rfl) (by simp) ?_
    refine AllReadyH.cons (o := _) rfl (fun K hK => ?_) AllReadyH.nil
    rw [if_pos (by rfl)]
    refine step_app _ _ _ rfl 62 (.agg #[.int .i64 0, .int .i64 0]) 2 16 Try.underlying60 end_info rfl (by decide) lo w2.heap.size (vs v).1 (rowOf N.ends v).length (vs v).2 _ rfl hrow1 ⟨w2.heap.size, 0, none⟩ 1 1 [.int .i64 (u : Int), .int .i64 ((rowOf N.ends u).length : Int)] rfl rfl hnews (by simp [Value.oneCell']) (by decide) (by unfold maxLen; omega) (by omega) (by simp; omega) ?_
    intro g' cap' w2 own2 hgr hbg _
    obtain ⟨hbx2, hc2, hf2, vt, hE', hbx', hfr', hrb'⟩ := addP_mem hbx hE hv1 hw1 hlo hgr own2 hbg
    have hS2 := hbx2.cell 0 _ rfl
    have hS3 := hbx'.cell 0 _ rfl
    refine hK.out _ _ hS2 (fun hHeld => ?_)
    clear hK K
    try simp only [Act.put, List.getElem_toArray, List.getElem_cons_zero, List.getElem_cons_succ, List.setIfInBounds_toArray, List.set_cons_zero, List.set_cons_succ]
    refine wpAnyH_take (i := 13) (v := ?_) rfl (by kernel_rfl) (by kernel_rfl) (by kernel_rfl) (fun _ _ _ h => h) (Or.inl ⟨by rfl, ?_⟩) (by assumption) ?_
    rotate_left
    · (intro w hSw; (try dsimp only at hSw); go_simp; try with_reducible rfl)
    try simp only [Act.put, List.getElem_toArray, List.getElem_cons_zero, List.getElem_cons_succ, List.setIfInBounds_toArray, List.set_cons_zero, List.set_cons_succ]
    refine wpAnyH_ready (rs := [14]) (by kernel_rfl) (by simp) ?_
    refine AllReadyH.cons (o := _) rfl (fun K hK => ?_) AllReadyH.nil
    go_simp
    refine hK.out _ _ (hS3) (fun hHeld => ?_)
    clear hK K
    try simp only [Act.put, List.getElem_toArray, List.getElem_cons_zero, List.getElem_cons_succ, List.setIfInBounds_toArray, List.set_cons_zero, List.set_cons_succ]
    refine wpAnyH_done (by kernel_rfl) ?_ _
    clear hHeld hS2 hS3 hc2 hf2 hbx2 own2 hgr hbg
    rotate_left
    go_simp
    refine hK.out _ _ (hS1) (fun hHeld => ?_)
    clear hK K
    try simp only [Act.put, List.getElem_toArray, List.getElem_cons_zero, List.getElem_cons_succ, List.setIfInBounds_toArray, List.set_cons_zero, List.set_cons_succ]
    refine wpAnyH_ready (rs := [7]) (by kernel_rfl) (by simp) ?_
    refine AllReadyH.cons (o := _) rfl (fun K hK => ?_) AllReadyH.nil
    go_simp
    refine hK.out _ _ (hS1) (fun hHeld => ?_)
    clear hK K
    try simp only [Act.put, List.getElem_toArray, List.getElem_cons_zero, List.getElem_cons_succ, List.setIfInBounds_toArray, List.set_cons_zero, List.set_cons_succ]
    refine wpAnyH_ready (rs := [12]) (by kernel_rfl) (by simp) ?_
    refine AllReadyH.cons (o := _) rfl (fun K hK => ?_) AllReadyH.nil
    rw [if_pos (by rfl)]
    refine step_app _ _ _ rfl 62 (.agg #[.int .i64 0, .int .i64 0]) 2 16 Try.underlying60 end_info rfl (by decide) lo w2.heap.size (vs v).1 (rowOf N.ends v).length (vs v).2 _ rfl hrow1 ⟨w2.heap.size, 0, none⟩ 1 1 [.int .i64 (u : Int), .int .i64 ((rowOf N.ends u).length : Int)] rfl rfl hnews (by simp [Value.oneCell']) (by decide) (by unfold maxLen; omega) (by omega) (by simp; omega) ?_
    intro g' cap' w2 own2 hgr hbg _
    obtain ⟨hbx2, hc2, hf2, vt, hE', hbx', hfr', hrb'⟩ := addP_mem hbx hE hv1 hw1 hlo hgr own2 hbg
    have hS2 := hbx2.cell 0 _ rfl
    have hS3 := hbx'.cell 0 _ rfl
    refine hK.out _ _ hS2 (fun hHeld => ?_)
    clear hK K
    try simp only [Act.put, List.getElem_toArray, List.getElem_cons_zero, List.getElem_cons_succ, List.setIfInBounds_toArray, List.set_cons_zero, List.set_cons_succ]
    refine wpAnyH_take (i := 13) (v := ?_) rfl (by kernel_rfl) (by kernel_rfl) (by kernel_rfl) (fun _ _ _ h => h) (Or.inl ⟨by rfl, ?_⟩) (by assumption) ?_
    rotate_left
    · (intro w hSw; (try dsimp only at hSw); go_simp; try with_reducible rfl)
    try simp only [Act.put, List.getElem_toArray, List.getElem_cons_zero, List.getElem_cons_succ, List.setIfInBounds_toArray, List.set_cons_zero, List.set_cons_succ]
    refine wpAnyH_ready (rs := [14]) (by kernel_rfl) (by simp) ?_
    refine AllReadyH.cons (o := _) rfl (fun K hK => ?_) AllReadyH.nil
    go_simp
    refine hK.out _ _ (hS3) (fun hHeld => ?_)
    clear hK K
    try simp only [Act.put, List.getElem_toArray, List.getElem_cons_zero, List.getElem_cons_succ, List.setIfInBounds_toArray, List.set_cons_zero, List.set_cons_succ]
    refine wpAnyH_done (by kernel_rfl) ?_ _
    clear hHeld hS2 hS3 hc2 hf2 hbx2 own2 hgr hbg
    rotate_left
    all_goals
      clear hS0 hS1 hw1 hrow1 hnews hcv hbx hE
      generalize hWW : World.setCell w2 _ _ = w4 at hE' hbx' hfr' ⊢
      clear hWW
      replace hE' := RowsAt.top hE'
      obtain ⟨hE, hbx, hfr, hrb⟩ := (⟨hE', hbx', hfr', hrb'⟩ : _ ∧ _ ∧ _ ∧ _)
      clear hE' hbx' hfr' hrb'
      replace owni := Ow.frB owni hfr HNI.out
      replace ownp := Ow.frB ownp hfr HNP.out
      replace BR := BR.fr hfr (fun h => by have := HIN.out _ h; omega)
      replace bb := bb.trans (hfr.below (B := w.heap.size) (fun k h1 h2 hc => by have := HIN.out _ hc; omega) bb.size)
      have z4 := hfr.size
      clear hfr hrb HNI HNP HIN
      obtain ⟨r1, hr1⟩ : ∃ r1, r1 = addP N.ends v (u : Int) ((rowOf N.ends u).length : Int) := ⟨_, rfl⟩
      rw [← hr1] at hE
      have hrl : r1.length = N.ends.length := by rw [hr1, addP_length]
      have hru : (rowOf r1 u).length ≤ 1048577 := by rw [hr1, addP_row _ _ _ _ _ hvl]; split; (· rw [List.length_append]; simp; omega); omega
      have HR1 := Lib.hid hr1
      clear hr1
      replace hv1 : u < r1.length := by omega
      replace hlo : lo ≤ w4.heap.size := by omega
      have HNI := Lib.hid (fun (k : Nat) (hk : blk ai ci = some k) => rb_ne hE (by omega) owni hk)
      have HNP := Lib.hid (fun (k : Nat) (hk : blk ap cp = some k) => rb_ne hE (by omega) ownp hk)
      have HIN := Lib.hid (fun (k : Nat) (h : RB A r1 vt k) => rb_in hE (by omega) h)
      have HRL := Lib.hid hrl
      clear hrl
      go_wp2_with fail
      have hS0 : w4.drew.cell? ⟨b, 0, none⟩ = some (.slice (some ⟨A, 0, none⟩) n c) := hbx.cell 0 _ rfl
      have hw1 : Below w4.heap.size w4 (w4.drew.alloc (.cells #[.int .i64 (v : Int), .int .i64 ((rowOf N.ends v).length : Int)] 62)) := (by repeat (first | exact Below.refl _ _ | assumption | refine Below.alloc ?_ (by first | (simp; done) | (simp; omega) | omega) _ | refine Below.setCell ?_ (by first | (simp; done) | (simp; omega) | omega) _ | refine Below.drew ?_ | refine Below.drewN ?_ _))
      have hS1 := (hbx.new hw1).cell 0 _ rfl
      have hrow1 : Ow (w4.drew.alloc (.cells #[.int .i64 (v : Int), .int .i64 ((rowOf N.ends v).length : Int)] 62)) lo w4.heap.size 62 2 (vt u).1 (rowOf r1 u).length (vt u).2 (cellE (rowOf r1 u)) := Ow.new (hE.2.1 u hv1) hw1
      have hnews : ∀ jj uu, [Value.int .i64 (v : Int), Value.int .i64 ((rowOf N.ends v).length : Int)][jj]? = some uu → (w4.drew.alloc (.cells #[.int .i64 (v : Int), .int .i64 ((rowOf N.ends v).length : Int)] 62)).cell? (Addr.add ⟨w4.heap.size, 0, none⟩ jj) = some uu := news2 _ _ _ _
      obtain ⟨gq, offq, haeq, _, hcv⟩ := Rd.at (Ow.rd hE.1) hv1
      obtain ⟨rfl, rfl⟩ : A = gq ∧ 0 = offq := by injection haeq with h; injection h with h1 h2; exact ⟨h1, h2⟩
      clear haeq
      rw [Nat.zero_add] at hcv
      refine wp_region_held_drew (S := fun X => X.cell? ⟨b, 0, none⟩ = some (.slice (some ⟨A, 0, none⟩) n c)) (by kernel_rfl) hS0 (fun hHeld => ?_)
      refine wpAnyH_take (i := 0) (v := ?_) rfl (by kernel_rfl) (by kernel_rfl) (by kernel_rfl) (fun _ _ _ h => h) (Or.inl ⟨by rfl, ?_⟩) (by assumption) ?_
      rotate_left
      · (intro w hSw; (try dsimp only at hSw); go_simp; try with_reducible rfl)
      try simp only [Act.put, List.getElem_toArray, List.getElem_cons_zero, List.getElem_cons_succ, List.setIfInBounds_toArray, List.set_cons_zero, List.set_cons_succ]
      refine wpAnyH_take (i := 1) (v := ?_) rfl (by kernel_rfl) (by kernel_rfl) (by kernel_rfl) (fun _ _ _ h => h) (Or.inl ⟨by rfl, ?_⟩) (by assumption) ?_
      rotate_left
      · (intro w hSw; (try dsimp only at hSw); go_simp; try with_reducible rfl)
      try simp only [Act.put, List.getElem_toArray, List.getElem_cons_zero, List.getElem_cons_succ, List.setIfInBounds_toArray, List.set_cons_zero, List.set_cons_succ]
      refine wpAnyH_take (i := 2) (v := ?_) rfl (by kernel_rfl) (by kernel_rfl) (by kernel_rfl) (fun _ _ _ h => h) (Or.inl ⟨by rfl, ?_⟩) (by assumption) ?_
      rotate_left
      · (intro w hSw; (try dsimp only at hSw); go_simp; try with_reducible rfl)
      try simp only [Act.put, List.getElem_toArray, List.getElem_cons_zero, List.getElem_cons_succ, List.setIfInBounds_toArray, List.set_cons_zero, List.set_cons_succ]
      refine wpAnyH_take (i := 3) (v := ?_) rfl (by kernel_rfl) (by kernel_rfl) (by kernel_rfl) (fun _ _ _ h => h) (Or.inl ⟨by rfl, ?_⟩) (by assumption) ?_
      rotate_left
      · (intro w hSw; (try dsimp only at hSw); go_simp; try with_reducible rfl)
      try simp only [Act.put, List.getElem_toArray, List.getElem_cons_zero, List.getElem_cons_succ, List.setIfInBounds_toArray, List.set_cons_zero, List.set_cons_succ]
      refine wpAnyH_take (i := 4) (v := ?_) rfl (by kernel_rfl) (by kernel_rfl) (by kernel_rfl) (fun _ _ _ h => h) (Or.inl ⟨by rfl, ?_⟩) (by assumption) ?_
      rotate_left
      · (intro w hSw; (try dsimp only at hSw); go_simp; try with_reducible rfl)
      try simp only [Act.put, List.getElem_toArray, List.getElem_cons_zero, List.getElem_cons_succ, List.setIfInBounds_toArray, List.set_cons_zero, List.set_cons_succ]
      refine wpAnyH_take (i := 5) (v := ?_) rfl (by kernel_rfl) (by kernel_rfl) (by kernel_rfl) (fun _ _ _ h => h) (Or.inl ⟨by rfl, ?_⟩) (by assumption) ?_
      rotate_left
      · (intro w hSw; (try dsimp only at hSw); go_simp; try with_reducible rfl)
      try simp only [Act.put, List.getElem_toArray, List.getElem_cons_zero, List.getElem_cons_succ, List.setIfInBounds_toArray, List.set_cons_zero, List.set_cons_succ]
      refine wpAnyH_take (i := 6) (v := ?_) rfl (by kernel_rfl) (by kernel_rfl) (by kernel_rfl) (fun _ _ _ h => h) (Or.inl ⟨by rfl, ?_⟩) (by assumption) ?_
      rotate_left
      · (intro w hSw; (try dsimp only at hSw); go_simp; try with_reducible rfl)
      try simp only [Act.put, List.getElem_toArray, List.getElem_cons_zero, List.getElem_cons_succ, List.setIfInBounds_toArray, List.set_cons_zero, List.set_cons_succ]
      refine wpAnyH_take (i := 8) (v := ?_) rfl (by kernel_rfl) (by kernel_rfl) (by kernel_rfl) (fun _ _ _ h => h) (Or.inl ⟨by rfl, ?_⟩) (by assumption) ?_
      rotate_left
      · (intro w hSw; (try dsimp only at hSw); go_simp; try with_reducible rfl)
      try simp only [Act.put, List.getElem_toArray, List.getElem_cons_zero, List.getElem_cons_succ, List.setIfInBounds_toArray, List.set_cons_zero, List.set_cons_succ]
      refine wpAnyH_take (i := 9) (v := ?_) rfl (by kernel_rfl) (by kernel_rfl) (by kernel_rfl) (fun _ _ _ h => h) (Or.inl ⟨by rfl, ?_⟩) (by assumption) ?_
      rotate_left
      · (intro w hSw; (try dsimp only at hSw); go_simp; try with_reducible rfl)
      try simp only [Act.put, List.getElem_toArray, List.getElem_cons_zero, List.getElem_cons_succ, List.setIfInBounds_toArray, List.set_cons_zero, List.set_cons_succ]
      refine wpAnyH_take (i := 10) (v := ?_) rfl (by kernel_rfl) (by kernel_rfl) (by kernel_rfl) (fun _ _ _ h => h) (Or.inl ⟨by rfl, ?_⟩) (by assumption) ?_
      rotate_left
      · (intro w hSw; (try dsimp only at hSw); go_simp; try with_reducible rfl)
      try simp only [Act.put, List.getElem_toArray, List.getElem_cons_zero, List.getElem_cons_succ, List.setIfInBounds_toArray, List.set_cons_zero, List.set_cons_succ]
      refine wpAnyH_ready (rs := [7, 11]) (by kernel_rfl) (by simp) ?_
      refine AllReadyH.cons (o := _) rfl (fun K hK => ?_) (AllReadyH.cons (o := _) rfl (fun K hK => ?_) AllReadyH.nil)
      go_simp
      refine hK.out _ _ (hS0) (fun hHeld => ?_)
      clear hK K
      try simp only [Act.put, List.getElem_toArray, List.getElem_cons_zero, List.getElem_cons_succ, List.setIfInBounds_toArray, List.set_cons_zero, List.set_cons_succ]
      refine wpAnyH_ready (rs := [11]) (by kernel_rfl) (by simp) ?_
      refine AllReadyH.cons (o := _) rfl (fun K hK => ?_) AllReadyH.nil
      go_simp
      refine hK.out _ _ (hS1) (fun hHeld => ?_)
      clear hK K
      try simp only [Act.put, List.getElem_toArray, List.getElem_cons_zero, List.getElem_cons_succ, List.setIfInBounds_toArray, List.set_cons_zero, List.set_cons_succ]
      refine wpAnyH_ready (rs := [12]) (by kernel_rfl) (by simp) ?_
      refine AllReadyH.cons (o := _) rfl (fun K hK => ?_) AllReadyH.nil
      rw [if_pos (by rfl)]
      refine step_app _ _ _ rfl 62 (.agg #[.int .i64 0, .int .i64 0]) 2 16 Try.underlying60 end_info rfl (by decide) lo w4.heap.size (vt u).1 (rowOf r1 u).length (vt u).2 _ rfl hrow1 ⟨w4.heap.size, 0, none⟩ 1 1 [.int .i64 (v : Int), .int .i64 ((rowOf N.ends v).length : Int)] rfl rfl hnews (by simp [Value.oneCell']) (by decide) (by unfold maxLen; omega) (by omega) (by simp; omega) ?_
      intro g' cap' w2 own2 hgr hbg _
      obtain ⟨hbx2, hc2, hf2, vu, hE', hbx', hfr', hrb'⟩ := addP_mem hbx hE hv1 hw1 hlo hgr own2 hbg
      have hS2 := hbx2.cell 0 _ rfl
      have hS3 := hbx'.cell 0 _ rfl
      refine hK.out _ _ hS2 (fun hHeld => ?_)
      clear hK K
      try simp only [Act.put, List.getElem_toArray, List.getElem_cons_zero, List.getElem_cons_succ, List.setIfInBounds_toArray, List.set_cons_zero, List.set_cons_succ]
      refine wpAnyH_take (i := 13) (v := ?_) rfl (by kernel_rfl) (by kernel_rfl) (by kernel_rfl) (fun _ _ _ h => h) (Or.inl ⟨by rfl, ?_⟩) (by assumption) ?_
      rotate_left
      · (intro w hSw; (try dsimp only at hSw); go_simp; try with_reducible rfl)
      try simp only [Act.put, List.getElem_toArray, List.getElem_cons_zero, List.getElem_cons_succ, List.setIfInBounds_toArray, List.set_cons_zero, List.set_cons_succ]
      refine wpAnyH_ready (rs := [14]) (by kernel_rfl) (by simp) ?_
      refine AllReadyH.cons (o := _) rfl (fun K hK => ?_) AllReadyH.nil
      go_simp
      refine hK.out _ _ (hS3) (fun hHeld => ?_)
      clear hK K
      try simp only [Act.put, List.getElem_toArray, List.getElem_cons_zero, List.getElem_cons_succ, List.setIfInBounds_toArray, List.set_cons_zero, List.set_cons_succ]
      refine wpAnyH_done (by kernel_rfl) ?_ _
      clear hHeld hS2 hS3 hc2 hf2 hbx2 own2 hgr hbg
      rotate_left
      go_simp
      refine hK.out _ _ (hS1) (fun hHeld => ?_)
      clear hK K
      try simp only [Act.put, List.getElem_toArray, List.getElem_cons_zero, List.getElem_cons_succ, List.setIfInBounds_toArray, List.set_cons_zero, List.set_cons_succ]
      refine wpAnyH_ready (rs := [7]) (by kernel_rfl) (by simp) ?_
      refine AllReadyH.cons (o := _) rfl (fun K hK => ?_) AllReadyH.nil
      go_simp
      refine hK.out _ _ (hS1) (fun hHeld => ?_)
      clear hK K
      try simp only [Act.put, List.getElem_toArray, List.getElem_cons_zero, List.getElem_cons_succ, List.setIfInBounds_toArray, List.set_cons_zero, List.set_cons_succ]
      refine wpAnyH_ready (rs := [12]) (by kernel_rfl) (by simp) ?_
      refine AllReadyH.cons (o := _) rfl (fun K hK => ?_) AllReadyH.nil
      rw [if_pos (by rfl)]
      refine step_app _ _ _ rfl 62 (.agg #[.int .i64 0, .int .i64 0]) 2 16 Try.underlying60 end_info rfl (by decide) lo w4.heap.size (vt u).1 (rowOf r1 u).length (vt u).2 _ rfl hrow1 ⟨w4.heap.size, 0, none⟩ 1 1 [.int .i64 (v : Int), .int .i64 ((rowOf N.ends v).length : Int)] rfl rfl hnews (by simp [Value.oneCell']) (by decide) (by unfold maxLen; omega) (by omega) (by simp; omega) ?_
      intro g' cap' w2 own2 hgr hbg _
      obtain ⟨hbx2, hc2, hf2, vu, hE', hbx', hfr', hrb'⟩ := addP_mem hbx hE hv1 hw1 hlo hgr own2 hbg
      have hS2 := hbx2.cell 0 _ rfl
      have hS3 := hbx'.cell 0 _ rfl
      refine hK.out _ _ hS2 (fun hHeld => ?_)
      clear hK K
      try simp only [Act.put, List.getElem_toArray, List.getElem_cons_zero, List.getElem_cons_succ, List.setIfInBounds_toArray, List.set_cons_zero, List.set_cons_succ]
      refine wpAnyH_take (i := 13) (v := ?_) rfl (by kernel_rfl) (by kernel_rfl) (by kernel_rfl) (fun _ _ _ h => h) (Or.inl ⟨by rfl, ?_⟩) (by assumption) ?_
      rotate_left
      · (intro w hSw; (try dsimp only at hSw); go_simp; try with_reducible rfl)
      try simp only [Act.put, List.getElem_toArray, List.getElem_cons_zero, List.getElem_cons_succ, List.setIfInBounds_toArray, List.set_cons_zero, List.set_cons_succ]
      refine wpAnyH_ready (rs := [14]) (by kernel_rfl) (by simp) ?_
      refine AllReadyH.cons (o := _) rfl (fun K hK => ?_) AllReadyH.nil
      go_simp
      refine hK.out _ _ (hS3) (fun hHeld => ?_)
      clear hK K
      try simp only [Act.put, List.getElem_toArray, List.getElem_cons_zero, List.getElem_cons_succ, List.setIfInBounds_toArray, List.set_cons_zero, List.set_cons_succ]
      refine wpAnyH_done (by kernel_rfl) ?_ _
      clear hHeld hS2 hS3 hc2 hf2 hbx2 own2 hgr hbg
      rotate_left
      all_goals
        clear hS0 hS1 hw1 hrow1 hnews hcv hbx hE
        generalize hWW : World.setCell w2 _ _ = w6 at hE' hbx' hfr' ⊢
        clear hWW
        replace hE' := RowsAt.top hE'
        obtain ⟨hE, hbx, hfr, hrb⟩ := (⟨hE', hbx', hfr', hrb'⟩ : _ ∧ _ ∧ _ ∧ _)
        clear hE' hbx' hfr' hrb'
        replace owni := Ow.frB owni hfr HNI.out
        replace ownp := Ow.frB ownp hfr HNP.out
        replace BR := BR.fr hfr (fun h => by have := HIN.out _ h; omega)
        replace bb := bb.trans (hfr.below (B := w.heap.size) (fun k h1 h2 hc => by have := HIN.out _ hc; omega) bb.size)
        have z6' := hfr.size
        clear hfr hrb HNI HNP HIN
        have q0 := hbx.cell 0 _ rfl
        have q1 := hbx.cell 1 _ rfl
        have q2 := hbx.cell 2 _ rfl
        have e0 := BR.cell 0 _ rfl
        have e1 := BR.cell 1 _ rfl
        have e2 := BR.cell 2 _ rfl
        have f0 := BR.frozen 0
        have f1 := BR.frozen 1
        have f2 := BR.frozen 2
        go_wp2_with fail
        clear q0 q1 q2 e0 e1 e2 f0 f1 f2
        generalize hW : World.setCell _ _ _ = W
        have B6 : Bx W (w.heap.size + 1) 29 #[.slice (some ⟨A, 0, none⟩) n c, .slice ai N.ids.length ci, .slice ap N.inputs.length cp] := by rw [← hW]; exact ((BR.set 0 _).set 1 _).set 2 _
        have fr6 : Fr (fun k => k = w.heap.size + 1) w6 W := by rw [← hW]; exact fr3 _ _ _ _ _
        clear hW
        have z6 := fr6.size
        have d0 := B6.cell 0 _ rfl
        have d1 := B6.cell 1 _ rfl
        have d2 := B6.cell 2 _ rfl
        refine bodyPost_ret (v := .agg #[.slice (some ⟨A, 0, none⟩) n c, .slice ai N.ids.length ci, .slice ap N.inputs.length cp]) (by simp [results, Try.results48, go_sem, d0, d1, d2]) rfl ?_
        have hJ : addP r1 u (v : Int) ((rowOf N.ends v).length : Int) = joinR N.ends v u := by rw [HR1.out]; exact (by rw [joinR, if_neg HUV.out, Nat.add_zero])
        rw [hJ] at hE
        have hJL : (joinR N.ends v u).length = n := by rw [joinR_length, HN.out]
        refine ⟨_, rfl, ⟨some ⟨A, 0, none⟩, c, vu, ai, ci, ap, cp, ?_, RowsAt.wide (RowsAt.fr hE fr6 (fun k h1 h2 hc => by omega)) (by omega) (by omega), Ow.wide (Ow.fr owni fr6 (fun k h1 h2 hc => by omega)) (by omega) (by omega), Ow.wide (Ow.fr ownp fr6 (fun k h1 h2 hc => by omega)) (by omega) (by omega), hdis⟩, bb.trans (fr6.below (fun k h1 h2 hc => by omega) bb.size)⟩
        show _ = Value.agg #[.slice (some ⟨A, 0, none⟩) (joinR N.ends v u).length c, .slice ai N.ids.length ci, .slice ap N.inputs.length cp]
        rw [hJL]
end Go.Proofs.Ytlooinhdehkcdaa
