/- Copies: impl's copyNetwork. -/
import Derived.Test.YtlooinhdehkcdaaOwn
import Derived.Deep.DeepCutAuto
namespace Go.Proofs.Ytlooinhdehkcdaa
open Go.RowKit
set_option linter.unusedVariables false
set_option linter.unusedSimpArgs false

theorem Bx.ne_rowIs {w : World} {b g : Nat} {t e : TypeId} {cs : Array Value} {n : Nat} {f : Nat → Value} (hb : Bx w b t cs) (h : w.rowIs g e n f) (hne : t ≠ e) : g ≠ b := by
  rintro rfl
  obtain ⟨c, hc, _⟩ := h
  unfold Bx at hb
  rw [hb] at hc
  injection hc with hc
  injection hc with _ hc
  exact hne hc
theorem rowIs_ne_own {w : World} {g : Nat} {t e : TypeId} {m lo hi s n cap : Nat} {a : Option Addr} {f F : Nat → Value} (h : w.rowIs g t m F) (ho : Ow w lo hi e s a n cap f) (hne : t ≠ e) : blk a cap ≠ some g := fun hk => by
  obtain ⟨c, hc, _⟩ := h
  exact Bx.ne_row (cs := c) hc ho hne hk
set_option maxRecDepth 100000 in
set_option maxHeartbeats 400000 in
theorem cloneE_any (a : Option Addr) (cap : Nat) (es : List (Int × Int)) (w : World) (B : Nat) (ha : RdE w B a es) (hB : B ≤ w.heap.size) (hl : es.length ≤ 1048576) :
    Calls Try.prog 95 #[.slice a es.length cap] w fun e w' => ∃ a' cap', e = .returned (.slice a' es.length cap') ∧ Ow w' w.heap.size w'.heap.size 62 2 a' es.length cap' (cellE es) ∧ Below w.heap.size w w' := by
  have hnil := Lib.run_eql_slice_nil (P := Try.prog) (t := 60)
  cases a with
  | none =>
    have h0 : es = [] := by
      rcases Nat.eq_zero_or_pos es.length with h | h
      · exact List.eq_nil_of_length_eq_zero h
      · obtain ⟨g, off, he, _⟩ := ha (by omega); cases he
    subst h0
    go_enter Try.func95, Try.ntmps95
    go_wp2_with fail
    go_ret
    exact ⟨none, 0, rfl, Ow.nil _ _ _ _ _ _ _, Below.refl _ _⟩
  | some x =>
    have b0 : Below w.heap.size w (w.alloc (.cells #[] 62)) := (by repeat (first | exact Below.refl _ _ | assumption | refine Below.alloc ?_ (by first | (simp; done) | (simp; omega) | omega) _ | refine Below.setCell ?_ (by first | (simp; done) | (simp; omega) | omega) _ | refine Below.drew ?_ | refine Below.drewN ?_ _))
    have ha1 : Rd (w.alloc (.cells #[] 62)) B (some x) (es.length * 2) (cellE es) := Rd.below ha (b0.mono hB)
    go_enter Try.func95, Try.ntmps95
    go_wp2_with (at_builtin; refine wpList_app0 rfl _ _ _ rfl 62 (.agg #[.int .i64 0, .int .i64 0]) 2 16 Try.underlying60 end_info rfl (by decide) (some ⟨w.heap.size, 0, none⟩) (some x) B es.length cap _ rfl rfl ha1 (fun _ => rfl) (by unfold maxLen; omega) (by omega) ?_; intro a' cap' w' own' bel')
    go_ret
    exact ⟨a', cap', rfl, Ow.wide own' b0.size (Nat.le_refl _), b0.trans (bel'.mono b0.size)⟩
set_option maxRecDepth 100000 in
set_option maxHeartbeats 1600000 in
theorem copyNetwork_any (V : Value) (N : Net) (w : World) (B : Nat) (hv : NetIn w B V N) (hB : B ≤ w.heap.size) (hs : NetSmall N) :
    Calls Try.prog 77 #[V] w fun e w' => ∃ v, e = .returned v ∧ NetAt w' w.heap.size w'.heap.size v N ∧ Below w.heap.size w w' := by
  obtain ⟨a, c, vs, ai, ci, ap, cp, rfl, h1, h2, h3, _⟩ := hv
  have HROW := Lib.hid hs.row
  unfold NetSmall at hs
  have BA := (Bx.made w 29 #[.slice a N.ends.length c, .slice ai N.ids.length ci, .slice ap N.inputs.length cp]).alloc (.cells #[.slice none 0 0, .slice none 0 0, .slice none 0 0] 29)
  have BR := Bx.made (w.alloc (.cells #[.slice a N.ends.length c, .slice ai N.ids.length ci, .slice ap N.inputs.length cp] 29)) 29 #[.slice none 0 0, .slice none 0 0, .slice none 0 0]
  have bb : Below w.heap.size w ((w.alloc (.cells #[.slice a N.ends.length c, .slice ai N.ids.length ci, .slice ap N.inputs.length cp] 29)).alloc (.cells #[.slice none 0 0, .slice none 0 0, .slice none 0 0] 29)) := (by repeat (first | exact Below.refl _ _ | assumption | refine Below.alloc ?_ (by first | (simp; done) | (simp; omega) | omega) _ | refine Below.setCell ?_ (by first | (simp; done) | (simp; omega) | omega) _ | refine Below.drew ?_ | refine Below.drewN ?_ _))
  rw [World.size_alloc] at BR
  have zz : w.heap.size + 1 + 1 ≤ ((w.alloc (.cells #[.slice a N.ends.length c, .slice ai N.ids.length ci, .slice ap N.inputs.length cp] 29)).alloc (.cells #[.slice none 0 0, .slice none 0 0, .slice none 0 0] 29)).heap.size := by simp
  go_enter Try.func77, Try.ntmps77
  go_upto_region 1 with fail
  generalize (w.alloc (.cells #[.slice a N.ends.length c, .slice ai N.ids.length ci, .slice ap N.inputs.length cp] 29)).alloc (.cells #[.slice none 0 0, .slice none 0 0, .slice none 0 0] 29) = w0 at *
  go_cut [3] (fun p W => ∃ go ge ai' ci' ap' cp', p = .pointer (some ⟨go, 0, none⟩) ∧ Bx W w.heap.size 29 #[.slice a N.ends.length c, .slice ai N.ids.length ci, .slice ap N.inputs.length cp] ∧ Bx W (w.heap.size + 1) 29 #[.slice none 0 0, .slice none 0 0, .slice none 0 0] ∧ Bx W go 29 #[.slice (some ⟨ge, 0, none⟩) N.ends.length N.ends.length, .slice ai' N.ids.length ci', .slice ap' N.inputs.length cp'] ∧ W.rowIs ge 60 N.ends.length (fun _ => .slice none 0 0) ∧ OwI W (w.heap.size + 1 + 1) W.heap.size ai' ci' N.ids ∧ OwI W (w.heap.size + 1 + 1) W.heap.size ap' cp' N.inputs ∧ (blk ai' ci' = none ∨ blk ai' ci' ≠ blk ap' cp') ∧ Below w.heap.size w W ∧ w.heap.size + 1 + 1 ≤ W.heap.size ∧ w.heap.size + 1 + 1 ≤ ge ∧ w.heap.size + 1 + 1 ≤ go ∧ ge ≠ go)
  case first =>
    replace BA : Bx w0.drew w.heap.size 29 #[.slice a N.ends.length c, .slice ai N.ids.length ci, .slice ap N.inputs.length cp] := BA
    replace BR : Bx w0.drew (w.heap.size + 1) 29 #[.slice none 0 0, .slice none 0 0, .slice none 0 0] := BR
    replace bb := bb.drew
    replace zz : w.heap.size + 1 + 1 ≤ w0.drew.heap.size := zz
    refine wp_region_held_drew (S := fun X => X.cell? ⟨w.heap.size, 0, none⟩ = some (.slice a N.ends.length c) ∧ X.cell? ⟨w.heap.size, 1, none⟩ = some (.slice ai N.ids.length ci) ∧ X.cell? ⟨w.heap.size, 2, none⟩ = some (.slice ap N.inputs.length cp)) (by kernel_rfl) ⟨BA.cell 0 _ rfl, BA.cell 1 _ rfl, BA.cell 2 _ rfl⟩ (fun hHeld => ?_)
    generalize w0.drew = wd at *
    refine wpAnyH_take (i := 0) (v := ?_) rfl (by kernel_rfl) (by kernel_rfl) (by kernel_rfl) (fun _ _ _ h => h) (Or.inl ⟨by rfl, ?_⟩) (by assumption) ?_
    rotate_left
    · (intro w hSw; (try dsimp only at hSw); go_simp; try with_reducible rfl)
    try simp only [Act.put, List.getElem_toArray, List.getElem_cons_zero, List.getElem_cons_succ, List.setIfInBounds_toArray, List.set_cons_zero, List.set_cons_succ]
    refine wpAnyH_take (i := 1) (v := ?_) rfl (by kernel_rfl) (by kernel_rfl) (by kernel_rfl) (fun _ _ _ h => h) (Or.inl ⟨by rfl, ?_⟩) (by assumption) ?_
    rotate_left
    · (intro w hSw; (try dsimp only at hSw); go_simp; try with_reducible rfl)
    try simp only [Act.put, List.getElem_toArray, List.getElem_cons_zero, List.getElem_cons_succ, List.setIfInBounds_toArray, List.set_cons_zero, List.set_cons_succ]
    refine wpAnyH_take (i := 2) (v := ?_) rfl (by kernel_rfl) (by kernel_rfl) (by kernel_rfl) (fun _ _ _ h => h) (Or.inl ⟨by rfl, ?_⟩) (by assumption) ?_
    rotate_left
    · (intro w hSw; (try dsimp only at hSw); go_simp; try with_reducible rfl)
    try simp only [Act.put, List.getElem_toArray, List.getElem_cons_zero, List.getElem_cons_succ, List.setIfInBounds_toArray, List.set_cons_zero, List.set_cons_succ]
    refine wpAnyH_take (i := 4) (v := ?_) rfl (by kernel_rfl) (by kernel_rfl) (by kernel_rfl) (fun _ _ _ h => h) (Or.inl ⟨by rfl, ?_⟩) (by assumption) ?_
    rotate_left
    · (intro w hSw; (try dsimp only at hSw); go_simp; try with_reducible rfl)
    try simp only [Act.put, List.getElem_toArray, List.getElem_cons_zero, List.getElem_cons_succ, List.setIfInBounds_toArray, List.set_cons_zero, List.set_cons_succ]
    refine wpAnyH_take (i := 5) (v := ?_) rfl (by kernel_rfl) (by kernel_rfl) (by kernel_rfl) (fun _ _ _ h => h) (Or.inl ⟨by rfl, ?_⟩) (by assumption) ?_
    rotate_left
    · (intro w hSw; (try dsimp only at hSw); go_simp; try with_reducible rfl)
    try simp only [Act.put, List.getElem_toArray, List.getElem_cons_zero, List.getElem_cons_succ, List.setIfInBounds_toArray, List.set_cons_zero, List.set_cons_succ]
    refine wpAnyH_take (i := 7) (v := ?_) rfl (by kernel_rfl) (by kernel_rfl) (by kernel_rfl) (fun _ _ _ h => h) (Or.inl ⟨by rfl, ?_⟩) (by assumption) ?_
    rotate_left
    · (intro w hSw; (try dsimp only at hSw); go_simp; try with_reducible rfl)
    try simp only [Act.put, List.getElem_toArray, List.getElem_cons_zero, List.getElem_cons_succ, List.setIfInBounds_toArray, List.set_cons_zero, List.set_cons_succ]
    refine wpAnyH_take (i := 8) (v := ?_) rfl (by kernel_rfl) (by kernel_rfl) (by kernel_rfl) (fun _ _ _ h => h) (Or.inl ⟨by rfl, ?_⟩) (by assumption) ?_
    rotate_left
    · (intro w hSw; (try dsimp only at hSw); go_simp; try with_reducible rfl)
    try simp only [Act.put, List.getElem_toArray, List.getElem_cons_zero, List.getElem_cons_succ, List.setIfInBounds_toArray, List.set_cons_zero, List.set_cons_succ]
    refine wpAnyH_ready (rs := [3, 6, 11]) (by kernel_rfl) (by simp) ?_
    refine AllReadyH.cons (o := _) rfl (fun K hK => ?_) (AllReadyH.cons (o := _) rfl (fun K hK => ?_) (AllReadyH.cons (o := _) rfl (fun K hK => ?_) AllReadyH.nil))
    rw [if_pos (by rfl)]
    refine step_mk _ _ _ _ rfl 60 (.slice none 0 0) 24 Try.underlying27 ends_info rfl .i64 .i64 _ _ N.ends.length rfl rfl rfl rfl (by omega) (by omega) ?_
    intro wm hrow hzm belm
    replace BA := BA.new belm
    replace BR := BR.new belm
    have z_belm := belm.size
    replace bb := bb.trans (belm.mono bb.size)
    obtain ⟨ge, hge⟩ : ∃ ge, ge = wd.heap.size := ⟨_, rfl⟩
    rw [← hge] at hrow ⊢
    have zge : w.heap.size + 1 + 1 ≤ ge := by omega
    clear hge belm
    refine hK.out _ _ ⟨BA.cell 0 _ rfl, BA.cell 1 _ rfl, BA.cell 2 _ rfl⟩ (fun hHeld => ?_)
    clear hK K
    try simp only [Act.put, List.getElem_toArray, List.getElem_cons_zero, List.getElem_cons_succ, List.setIfInBounds_toArray, List.set_cons_zero, List.set_cons_succ]
    refine wpAnyH_ready (rs := [6, 11]) (by kernel_rfl) (by simp) ?_
    refine AllReadyH.cons (o := _) rfl (fun K hK => ?_) (AllReadyH.cons (o := _) rfl (fun K hK => ?_) AllReadyH.nil)
    go_simp
    refine (cloneI_any ai ci N.ids _ B (Rd.below h2 (bb.mono hB)) (by omega)).mono ?_
    rintro e wi ⟨ai', ci', rfl, owni, beli⟩
    replace BA := BA.new beli
    replace BR := BR.new beli
    replace hrow := hrow.of_block (beli.block _ hrow.lt)
    have z_beli := beli.size
    replace bb := bb.trans (beli.mono bb.size)
    clear beli
    refine hK.out _ _ ⟨BA.cell 0 _ rfl, BA.cell 1 _ rfl, BA.cell 2 _ rfl⟩ (fun hHeld => ?_)
    clear hK K
    try simp only [Act.put, List.getElem_toArray, List.getElem_cons_zero, List.getElem_cons_succ, List.setIfInBounds_toArray, List.set_cons_zero, List.set_cons_succ]
    refine wpAnyH_ready (rs := [9, 11]) (by kernel_rfl) (by simp) ?_
    refine AllReadyH.cons (o := _) rfl (fun K hK => ?_) (AllReadyH.cons (o := _) rfl (fun K hK => ?_) AllReadyH.nil)
    go_simp
    refine (cloneI_any ap cp N.inputs _ B (Rd.below h3 (bb.mono hB)) (by omega)).mono ?_
    rintro e wp ⟨ap', cp', rfl, ownp, belp⟩
    replace BA := BA.new belp
    replace BR := BR.new belp
    replace hrow := hrow.of_block (belp.block _ hrow.lt)
    replace owni := Ow.new owni belp
    have z_belp := belp.size
    replace bb := bb.trans (belp.mono bb.size)
    have hdis : blk ai' ci' = none ∨ blk ai' ci' ≠ blk ap' cp' := by
      cases hb : blk ai' ci' with
      | none => exact .inl rfl
      | some x => exact .inr fun he => by have h5 := Ow.blk_in owni hb; have h6 := Ow.blk_in ownp he.symm; omega
    clear belp
    refine hK.out _ _ ⟨BA.cell 0 _ rfl, BA.cell 1 _ rfl, BA.cell 2 _ rfl⟩ (fun hHeld => ?_)
    clear hK K
    try simp only [Act.put, List.getElem_toArray, List.getElem_cons_zero, List.getElem_cons_succ, List.setIfInBounds_toArray, List.set_cons_zero, List.set_cons_succ]
    refine wpAnyH_take (i := 10) (v := ?_) rfl (by kernel_rfl) (by kernel_rfl) (by kernel_rfl) (fun _ _ _ h => h) (Or.inl ⟨by rfl, ?_⟩) (by assumption) ?_
    rotate_left
    · (intro w hSw; (try dsimp only at hSw); go_simp; try with_reducible rfl)
    try simp only [Act.put, List.getElem_toArray, List.getElem_cons_zero, List.getElem_cons_succ, List.setIfInBounds_toArray, List.set_cons_zero, List.set_cons_succ]
    refine wpAnyH_ready (rs := [11]) (by kernel_rfl) (by simp) ?_
    refine AllReadyH.cons (o := _) rfl (fun K hK => ?_) AllReadyH.nil
    go_simp
    have BO := Bx.made wp 29 #[.slice none 0 0, .slice none 0 0, .slice none 0 0]
    have ba : Below wp.heap.size wp (wp.alloc (.cells #[.slice none 0 0, .slice none 0 0, .slice none 0 0] 29)) := (by repeat (first | exact Below.refl _ _ | assumption | refine Below.alloc ?_ (by first | (simp; done) | (simp; omega) | omega) _ | refine Below.setCell ?_ (by first | (simp; done) | (simp; omega) | omega) _ | refine Below.drew ?_ | refine Below.drewN ?_ _))
    replace BA := BA.new ba
    replace BR := BR.new ba
    replace hrow := hrow.of_block (ba.block _ hrow.lt)
    replace owni := Ow.new owni ba
    replace ownp := Ow.new ownp ba
    have z_ba := ba.size
    replace bb := bb.trans (ba.mono bb.size)
    obtain ⟨go, hgo⟩ : ∃ go, go = wp.heap.size := ⟨_, rfl⟩
    rw [← hgo] at BO ⊢
    have zgo : w.heap.size + 1 + 1 ≤ go := by omega
    clear ba hgo
    generalize wp.alloc (.cells #[.slice none 0 0, .slice none 0 0, .slice none 0 0] 29) = wo at *
    refine hK.out _ _ ⟨BA.cell 0 _ rfl, BA.cell 1 _ rfl, BA.cell 2 _ rfl⟩ (fun hHeld => ?_)
    clear hK K
    try simp only [Act.put, List.getElem_toArray, List.getElem_cons_zero, List.getElem_cons_succ, List.setIfInBounds_toArray, List.set_cons_zero, List.set_cons_succ]
    refine wpAnyH_ready (rs := [12]) (by kernel_rfl) (by simp) ?_
    refine AllReadyH.cons (o := _) rfl (fun K hK => ?_) AllReadyH.nil
    have c0 := BO.cell 0 _ rfl
    have c1 := BO.cell 1 _ rfl
    have c2 := BO.cell 2 _ rfl
    have f0 := BO.frozen 0
    have f1 := BO.frozen 1
    have f2 := BO.frozen 2
    go_simp
    clear c0 c1 c2 f0 f1 f2
    generalize hW : World.setCell _ _ _ = W
    have BO2 : Bx W go 29 #[.slice (some ⟨ge, 0, none⟩) N.ends.length N.ends.length, .slice ai' N.ids.length ci', .slice ap' N.inputs.length cp'] := by rw [← hW]; exact ((BO.set 0 _).set 1 _).set 2 _
    have frW : Fr (fun k => k = go) wo W := by rw [← hW]; exact fr3 _ _ _ _ _
    replace owni := Ow.wide (lo' := w.heap.size + 1 + 1) (hi' := W.heap.size) (Ow.frB owni frW (fun k hk hc => BO.ne_row owni (by decide) (hc ▸ hk))) (by omega) (by have := frW.size; omega)
    replace ownp := Ow.wide (lo' := w.heap.size + 1 + 1) (hi' := W.heap.size) (Ow.frB ownp frW (fun k hk hc => BO.ne_row ownp (by decide) (hc ▸ hk))) (by omega) (by have := frW.size; omega)
    have hgg : ge ≠ go := BO.ne_rowIs hrow (by decide)
    replace hrow := hrow.of_block (frW.block _ hrow.lt hgg)
    clear hW BO
    replace BA := BA.fr frW (by omega)
    replace BR := BR.fr frW (by omega)
    replace bb := bb.trans (frW.below (B := w.heap.size) (fun k h1 h2 hc => by omega) bb.size)
    have zW : w.heap.size + 1 + 1 ≤ W.heap.size := by have := frW.size; omega
    refine hK.out _ _ ⟨BA.cell 0 _ rfl, BA.cell 1 _ rfl, BA.cell 2 _ rfl⟩ (fun hHeld => ?_)
    clear hK K
    try simp only [Act.put, List.getElem_toArray, List.getElem_cons_zero, List.getElem_cons_succ, List.setIfInBounds_toArray, List.set_cons_zero, List.set_cons_succ]
    refine wpAnyH_done (by kernel_rfl) ?_ _
    rotate_left
    go_simp
    have BO := Bx.made wi 29 #[.slice none 0 0, .slice none 0 0, .slice none 0 0]
    have ba : Below wi.heap.size wi (wi.alloc (.cells #[.slice none 0 0, .slice none 0 0, .slice none 0 0] 29)) := (by repeat (first | exact Below.refl _ _ | assumption | refine Below.alloc ?_ (by first | (simp; done) | (simp; omega) | omega) _ | refine Below.setCell ?_ (by first | (simp; done) | (simp; omega) | omega) _ | refine Below.drew ?_ | refine Below.drewN ?_ _))
    replace BA := BA.new ba
    replace BR := BR.new ba
    replace hrow := hrow.of_block (ba.block _ hrow.lt)
    replace owni := Ow.new owni ba
    have z_ba := ba.size
    replace bb := bb.trans (ba.mono bb.size)
    obtain ⟨go, hgo⟩ : ∃ go, go = wi.heap.size := ⟨_, rfl⟩
    rw [← hgo] at BO ⊢
    have zgo : w.heap.size + 1 + 1 ≤ go := by omega
    clear ba hgo
    generalize wi.alloc (.cells #[.slice none 0 0, .slice none 0 0, .slice none 0 0] 29) = wo at *
    refine hK.out _ _ ⟨BA.cell 0 _ rfl, BA.cell 1 _ rfl, BA.cell 2 _ rfl⟩ (fun hHeld => ?_)
    clear hK K
    try simp only [Act.put, List.getElem_toArray, List.getElem_cons_zero, List.getElem_cons_succ, List.setIfInBounds_toArray, List.set_cons_zero, List.set_cons_succ]
    refine wpAnyH_ready (rs := [9]) (by kernel_rfl) (by simp) ?_
    refine AllReadyH.cons (o := _) rfl (fun K hK => ?_) AllReadyH.nil
    go_simp
    refine (cloneI_any ap cp N.inputs _ B (Rd.below h3 (bb.mono hB)) (by omega)).mono ?_
    rintro e wp ⟨ap', cp', rfl, ownp, belp⟩
    replace BA := BA.new belp
    replace BR := BR.new belp
    replace BO := BO.new belp
    replace hrow := hrow.of_block (belp.block _ hrow.lt)
    replace owni := Ow.new owni belp
    have z_belp := belp.size
    replace bb := bb.trans (belp.mono bb.size)
    have hdis : blk ai' ci' = none ∨ blk ai' ci' ≠ blk ap' cp' := by
      cases hb : blk ai' ci' with
      | none => exact .inl rfl
      | some x => exact .inr fun he => by have h5 := Ow.blk_in owni hb; have h6 := Ow.blk_in ownp he.symm; omega
    clear belp
    refine hK.out _ _ ⟨BA.cell 0 _ rfl, BA.cell 1 _ rfl, BA.cell 2 _ rfl⟩ (fun hHeld => ?_)
    clear hK K
    try simp only [Act.put, List.getElem_toArray, List.getElem_cons_zero, List.getElem_cons_succ, List.setIfInBounds_toArray, List.set_cons_zero, List.set_cons_succ]
    refine wpAnyH_take (i := 10) (v := ?_) rfl (by kernel_rfl) (by kernel_rfl) (by kernel_rfl) (fun _ _ _ h => h) (Or.inl ⟨by rfl, ?_⟩) (by assumption) ?_
    rotate_left
    · (intro w hSw; (try dsimp only at hSw); go_simp; try with_reducible rfl)
    try simp only [Act.put, List.getElem_toArray, List.getElem_cons_zero, List.getElem_cons_succ, List.setIfInBounds_toArray, List.set_cons_zero, List.set_cons_succ]
    refine wpAnyH_ready (rs := [12]) (by kernel_rfl) (by simp) ?_
    refine AllReadyH.cons (o := _) rfl (fun K hK => ?_) AllReadyH.nil
    have c0 := BO.cell 0 _ rfl
    have c1 := BO.cell 1 _ rfl
    have c2 := BO.cell 2 _ rfl
    have f0 := BO.frozen 0
    have f1 := BO.frozen 1
    have f2 := BO.frozen 2
    go_simp
    clear c0 c1 c2 f0 f1 f2
    generalize hW : World.setCell _ _ _ = W
    have BO2 : Bx W go 29 #[.slice (some ⟨ge, 0, none⟩) N.ends.length N.ends.length, .slice ai' N.ids.length ci', .slice ap' N.inputs.length cp'] := by rw [← hW]; exact ((BO.set 0 _).set 1 _).set 2 _
    have frW : Fr (fun k => k = go) wp W := by rw [← hW]; exact fr3 _ _ _ _ _
    replace owni := Ow.wide (lo' := w.heap.size + 1 + 1) (hi' := W.heap.size) (Ow.frB owni frW (fun k hk hc => BO.ne_row owni (by decide) (hc ▸ hk))) (by omega) (by have := frW.size; omega)
    replace ownp := Ow.wide (lo' := w.heap.size + 1 + 1) (hi' := W.heap.size) (Ow.frB ownp frW (fun k hk hc => BO.ne_row ownp (by decide) (hc ▸ hk))) (by omega) (by have := frW.size; omega)
    have hgg : ge ≠ go := BO.ne_rowIs hrow (by decide)
    replace hrow := hrow.of_block (frW.block _ hrow.lt hgg)
    clear hW BO
    replace BA := BA.fr frW (by omega)
    replace BR := BR.fr frW (by omega)
    replace bb := bb.trans (frW.below (B := w.heap.size) (fun k h1 h2 hc => by omega) bb.size)
    have zW : w.heap.size + 1 + 1 ≤ W.heap.size := by have := frW.size; omega
    refine hK.out _ _ ⟨BA.cell 0 _ rfl, BA.cell 1 _ rfl, BA.cell 2 _ rfl⟩ (fun hHeld => ?_)
    clear hK K
    try simp only [Act.put, List.getElem_toArray, List.getElem_cons_zero, List.getElem_cons_succ, List.setIfInBounds_toArray, List.set_cons_zero, List.set_cons_succ]
    refine wpAnyH_done (by kernel_rfl) ?_ _
    rotate_left
    go_simp
    have BO := Bx.made wm 29 #[.slice none 0 0, .slice none 0 0, .slice none 0 0]
    have ba : Below wm.heap.size wm (wm.alloc (.cells #[.slice none 0 0, .slice none 0 0, .slice none 0 0] 29)) := (by repeat (first | exact Below.refl _ _ | assumption | refine Below.alloc ?_ (by first | (simp; done) | (simp; omega) | omega) _ | refine Below.setCell ?_ (by first | (simp; done) | (simp; omega) | omega) _ | refine Below.drew ?_ | refine Below.drewN ?_ _))
    replace BA := BA.new ba
    replace BR := BR.new ba
    replace hrow := hrow.of_block (ba.block _ hrow.lt)
    have z_ba := ba.size
    replace bb := bb.trans (ba.mono bb.size)
    obtain ⟨go, hgo⟩ : ∃ go, go = wm.heap.size := ⟨_, rfl⟩
    rw [← hgo] at BO ⊢
    have zgo : w.heap.size + 1 + 1 ≤ go := by omega
    clear ba hgo
    generalize wm.alloc (.cells #[.slice none 0 0, .slice none 0 0, .slice none 0 0] 29) = wo at *
    refine hK.out _ _ ⟨BA.cell 0 _ rfl, BA.cell 1 _ rfl, BA.cell 2 _ rfl⟩ (fun hHeld => ?_)
    clear hK K
    try simp only [Act.put, List.getElem_toArray, List.getElem_cons_zero, List.getElem_cons_succ, List.setIfInBounds_toArray, List.set_cons_zero, List.set_cons_succ]
    refine wpAnyH_ready (rs := [6]) (by kernel_rfl) (by simp) ?_
    refine AllReadyH.cons (o := _) rfl (fun K hK => ?_) AllReadyH.nil
    go_simp
    refine (cloneI_any ai ci N.ids _ B (Rd.below h2 (bb.mono hB)) (by omega)).mono ?_
    rintro e wi ⟨ai', ci', rfl, owni, beli⟩
    replace BA := BA.new beli
    replace BR := BR.new beli
    replace BO := BO.new beli
    replace hrow := hrow.of_block (beli.block _ hrow.lt)
    have z_beli := beli.size
    replace bb := bb.trans (beli.mono bb.size)
    clear beli
    refine hK.out _ _ ⟨BA.cell 0 _ rfl, BA.cell 1 _ rfl, BA.cell 2 _ rfl⟩ (fun hHeld => ?_)
    clear hK K
    try simp only [Act.put, List.getElem_toArray, List.getElem_cons_zero, List.getElem_cons_succ, List.setIfInBounds_toArray, List.set_cons_zero, List.set_cons_succ]
    refine wpAnyH_ready (rs := [9]) (by kernel_rfl) (by simp) ?_
    refine AllReadyH.cons (o := _) rfl (fun K hK => ?_) AllReadyH.nil
    go_simp
    refine (cloneI_any ap cp N.inputs _ B (Rd.below h3 (bb.mono hB)) (by omega)).mono ?_
    rintro e wp ⟨ap', cp', rfl, ownp, belp⟩
    replace BA := BA.new belp
    replace BR := BR.new belp
    replace BO := BO.new belp
    replace hrow := hrow.of_block (belp.block _ hrow.lt)
    replace owni := Ow.new owni belp
    have z_belp := belp.size
    replace bb := bb.trans (belp.mono bb.size)
    have hdis : blk ai' ci' = none ∨ blk ai' ci' ≠ blk ap' cp' := by
      cases hb : blk ai' ci' with
      | none => exact .inl rfl
      | some x => exact .inr fun he => by have h5 := Ow.blk_in owni hb; have h6 := Ow.blk_in ownp he.symm; omega
    clear belp
    refine hK.out _ _ ⟨BA.cell 0 _ rfl, BA.cell 1 _ rfl, BA.cell 2 _ rfl⟩ (fun hHeld => ?_)
    clear hK K
    try simp only [Act.put, List.getElem_toArray, List.getElem_cons_zero, List.getElem_cons_succ, List.setIfInBounds_toArray, List.set_cons_zero, List.set_cons_succ]
    refine wpAnyH_take (i := 10) (v := ?_) rfl (by kernel_rfl) (by kernel_rfl) (by kernel_rfl) (fun _ _ _ h => h) (Or.inl ⟨by rfl, ?_⟩) (by assumption) ?_
    rotate_left
    · (intro w hSw; (try dsimp only at hSw); go_simp; try with_reducible rfl)
    try simp only [Act.put, List.getElem_toArray, List.getElem_cons_zero, List.getElem_cons_succ, List.setIfInBounds_toArray, List.set_cons_zero, List.set_cons_succ]
    refine wpAnyH_ready (rs := [12]) (by kernel_rfl) (by simp) ?_
    refine AllReadyH.cons (o := _) rfl (fun K hK => ?_) AllReadyH.nil
    have c0 := BO.cell 0 _ rfl
    have c1 := BO.cell 1 _ rfl
    have c2 := BO.cell 2 _ rfl
    have f0 := BO.frozen 0
    have f1 := BO.frozen 1
    have f2 := BO.frozen 2
    go_simp
    clear c0 c1 c2 f0 f1 f2
    generalize hW : World.setCell _ _ _ = W
    have BO2 : Bx W go 29 #[.slice (some ⟨ge, 0, none⟩) N.ends.length N.ends.length, .slice ai' N.ids.length ci', .slice ap' N.inputs.length cp'] := by rw [← hW]; exact ((BO.set 0 _).set 1 _).set 2 _
    have frW : Fr (fun k => k = go) wp W := by rw [← hW]; exact fr3 _ _ _ _ _
    replace owni := Ow.wide (lo' := w.heap.size + 1 + 1) (hi' := W.heap.size) (Ow.frB owni frW (fun k hk hc => BO.ne_row owni (by decide) (hc ▸ hk))) (by omega) (by have := frW.size; omega)
    replace ownp := Ow.wide (lo' := w.heap.size + 1 + 1) (hi' := W.heap.size) (Ow.frB ownp frW (fun k hk hc => BO.ne_row ownp (by decide) (hc ▸ hk))) (by omega) (by have := frW.size; omega)
    have hgg : ge ≠ go := BO.ne_rowIs hrow (by decide)
    replace hrow := hrow.of_block (frW.block _ hrow.lt hgg)
    clear hW BO
    replace BA := BA.fr frW (by omega)
    replace BR := BR.fr frW (by omega)
    replace bb := bb.trans (frW.below (B := w.heap.size) (fun k h1 h2 hc => by omega) bb.size)
    have zW : w.heap.size + 1 + 1 ≤ W.heap.size := by have := frW.size; omega
    refine hK.out _ _ ⟨BA.cell 0 _ rfl, BA.cell 1 _ rfl, BA.cell 2 _ rfl⟩ (fun hHeld => ?_)
    clear hK K
    try simp only [Act.put, List.getElem_toArray, List.getElem_cons_zero, List.getElem_cons_succ, List.setIfInBounds_toArray, List.set_cons_zero, List.set_cons_succ]
    refine wpAnyH_done (by kernel_rfl) ?_ _
    rotate_left
    go_simp
    refine (cloneI_any ai ci N.ids _ B (Rd.below h2 (bb.mono hB)) (by omega)).mono ?_
    rintro e wi ⟨ai', ci', rfl, owni, beli⟩
    replace BA := BA.new beli
    replace BR := BR.new beli
    have z_beli := beli.size
    replace bb := bb.trans (beli.mono bb.size)
    clear beli
    refine hK.out _ _ ⟨BA.cell 0 _ rfl, BA.cell 1 _ rfl, BA.cell 2 _ rfl⟩ (fun hHeld => ?_)
    clear hK K
    try simp only [Act.put, List.getElem_toArray, List.getElem_cons_zero, List.getElem_cons_succ, List.setIfInBounds_toArray, List.set_cons_zero, List.set_cons_succ]
    refine wpAnyH_ready (rs := [3, 9, 11]) (by kernel_rfl) (by simp) ?_
    refine AllReadyH.cons (o := _) rfl (fun K hK => ?_) (AllReadyH.cons (o := _) rfl (fun K hK => ?_) (AllReadyH.cons (o := _) rfl (fun K hK => ?_) AllReadyH.nil))
    rw [if_pos (by rfl)]
    refine step_mk _ _ _ _ rfl 60 (.slice none 0 0) 24 Try.underlying27 ends_info rfl .i64 .i64 _ _ N.ends.length rfl rfl rfl rfl (by omega) (by omega) ?_
    intro wm hrow hzm belm
    replace BA := BA.new belm
    replace BR := BR.new belm
    replace owni := Ow.new owni belm
    have z_belm := belm.size
    replace bb := bb.trans (belm.mono bb.size)
    obtain ⟨ge, hge⟩ : ∃ ge, ge = wi.heap.size := ⟨_, rfl⟩
    rw [← hge] at hrow ⊢
    have zge : w.heap.size + 1 + 1 ≤ ge := by omega
    clear hge belm
    refine hK.out _ _ ⟨BA.cell 0 _ rfl, BA.cell 1 _ rfl, BA.cell 2 _ rfl⟩ (fun hHeld => ?_)
    clear hK K
    try simp only [Act.put, List.getElem_toArray, List.getElem_cons_zero, List.getElem_cons_succ, List.setIfInBounds_toArray, List.set_cons_zero, List.set_cons_succ]
    refine wpAnyH_ready (rs := [9, 11]) (by kernel_rfl) (by simp) ?_
    refine AllReadyH.cons (o := _) rfl (fun K hK => ?_) (AllReadyH.cons (o := _) rfl (fun K hK => ?_) AllReadyH.nil)
    go_simp
    refine (cloneI_any ap cp N.inputs _ B (Rd.below h3 (bb.mono hB)) (by omega)).mono ?_
    rintro e wp ⟨ap', cp', rfl, ownp, belp⟩
    replace BA := BA.new belp
    replace BR := BR.new belp
    replace hrow := hrow.of_block (belp.block _ hrow.lt)
    replace owni := Ow.new owni belp
    have z_belp := belp.size
    replace bb := bb.trans (belp.mono bb.size)
    have hdis : blk ai' ci' = none ∨ blk ai' ci' ≠ blk ap' cp' := by
      cases hb : blk ai' ci' with
      | none => exact .inl rfl
      | some x => exact .inr fun he => by have h5 := Ow.blk_in owni hb; have h6 := Ow.blk_in ownp he.symm; omega
    clear belp
    refine hK.out _ _ ⟨BA.cell 0 _ rfl, BA.cell 1 _ rfl, BA.cell 2 _ rfl⟩ (fun hHeld => ?_)
    clear hK K
    try simp only [Act.put, List.getElem_toArray, List.getElem_cons_zero, List.getElem_cons_succ, List.setIfInBounds_toArray, List.set_cons_zero, List.set_cons_succ]
    refine wpAnyH_take (i := 10) (v := ?_) rfl (by kernel_rfl) (by kernel_rfl) (by kernel_rfl) (fun _ _ _ h => h) (Or.inl ⟨by rfl, ?_⟩) (by assumption) ?_
    rotate_left
    · (intro w hSw; (try dsimp only at hSw); go_simp; try with_reducible rfl)
    try simp only [Act.put, List.getElem_toArray, List.getElem_cons_zero, List.getElem_cons_succ, List.setIfInBounds_toArray, List.set_cons_zero, List.set_cons_succ]
    refine wpAnyH_ready (rs := [11]) (by kernel_rfl) (by simp) ?_
    refine AllReadyH.cons (o := _) rfl (fun K hK => ?_) AllReadyH.nil
    go_simp
    have BO := Bx.made wp 29 #[.slice none 0 0, .slice none 0 0, .slice none 0 0]
    have ba : Below wp.heap.size wp (wp.alloc (.cells #[.slice none 0 0, .slice none 0 0, .slice none 0 0] 29)) := (by repeat (first | exact Below.refl _ _ | assumption | refine Below.alloc ?_ (by first | (simp; done) | (simp; omega) | omega) _ | refine Below.setCell ?_ (by first | (simp; done) | (simp; omega) | omega) _ | refine Below.drew ?_ | refine Below.drewN ?_ _))
    replace BA := BA.new ba
    replace BR := BR.new ba
    replace hrow := hrow.of_block (ba.block _ hrow.lt)
    replace owni := Ow.new owni ba
    replace ownp := Ow.new ownp ba
    have z_ba := ba.size
    replace bb := bb.trans (ba.mono bb.size)
    obtain ⟨go, hgo⟩ : ∃ go, go = wp.heap.size := ⟨_, rfl⟩
    rw [← hgo] at BO ⊢
    have zgo : w.heap.size + 1 + 1 ≤ go := by omega
    clear ba hgo
    generalize wp.alloc (.cells #[.slice none 0 0, .slice none 0 0, .slice none 0 0] 29) = wo at *
    refine hK.out _ _ ⟨BA.cell 0 _ rfl, BA.cell 1 _ rfl, BA.cell 2 _ rfl⟩ (fun hHeld => ?_)
    clear hK K
    try simp only [Act.put, List.getElem_toArray, List.getElem_cons_zero, List.getElem_cons_succ, List.setIfInBounds_toArray, List.set_cons_zero, List.set_cons_succ]
    refine wpAnyH_ready (rs := [12]) (by kernel_rfl) (by simp) ?_
    refine AllReadyH.cons (o := _) rfl (fun K hK => ?_) AllReadyH.nil
    have c0 := BO.cell 0 _ rfl
    have c1 := BO.cell 1 _ rfl
    have c2 := BO.cell 2 _ rfl
    have f0 := BO.frozen 0
    have f1 := BO.frozen 1
    have f2 := BO.frozen 2
    go_simp
    clear c0 c1 c2 f0 f1 f2
    generalize hW : World.setCell _ _ _ = W
    have BO2 : Bx W go 29 #[.slice (some ⟨ge, 0, none⟩) N.ends.length N.ends.length, .slice ai' N.ids.length ci', .slice ap' N.inputs.length cp'] := by rw [← hW]; exact ((BO.set 0 _).set 1 _).set 2 _
    have frW : Fr (fun k => k = go) wo W := by rw [← hW]; exact fr3 _ _ _ _ _
    replace owni := Ow.wide (lo' := w.heap.size + 1 + 1) (hi' := W.heap.size) (Ow.frB owni frW (fun k hk hc => BO.ne_row owni (by decide) (hc ▸ hk))) (by omega) (by have := frW.size; omega)
    replace ownp := Ow.wide (lo' := w.heap.size + 1 + 1) (hi' := W.heap.size) (Ow.frB ownp frW (fun k hk hc => BO.ne_row ownp (by decide) (hc ▸ hk))) (by omega) (by have := frW.size; omega)
    have hgg : ge ≠ go := BO.ne_rowIs hrow (by decide)
    replace hrow := hrow.of_block (frW.block _ hrow.lt hgg)
    clear hW BO
    replace BA := BA.fr frW (by omega)
    replace BR := BR.fr frW (by omega)
    replace bb := bb.trans (frW.below (B := w.heap.size) (fun k h1 h2 hc => by omega) bb.size)
    have zW : w.heap.size + 1 + 1 ≤ W.heap.size := by have := frW.size; omega
    refine hK.out _ _ ⟨BA.cell 0 _ rfl, BA.cell 1 _ rfl, BA.cell 2 _ rfl⟩ (fun hHeld => ?_)
    clear hK K
    try simp only [Act.put, List.getElem_toArray, List.getElem_cons_zero, List.getElem_cons_succ, List.setIfInBounds_toArray, List.set_cons_zero, List.set_cons_succ]
    refine wpAnyH_done (by kernel_rfl) ?_ _
    rotate_left
    go_simp
    have BO := Bx.made wm 29 #[.slice none 0 0, .slice none 0 0, .slice none 0 0]
    have ba : Below wm.heap.size wm (wm.alloc (.cells #[.slice none 0 0, .slice none 0 0, .slice none 0 0] 29)) := (by repeat (first | exact Below.refl _ _ | assumption | refine Below.alloc ?_ (by first | (simp; done) | (simp; omega) | omega) _ | refine Below.setCell ?_ (by first | (simp; done) | (simp; omega) | omega) _ | refine Below.drew ?_ | refine Below.drewN ?_ _))
    replace BA := BA.new ba
    replace BR := BR.new ba
    replace hrow := hrow.of_block (ba.block _ hrow.lt)
    replace owni := Ow.new owni ba
    have z_ba := ba.size
    replace bb := bb.trans (ba.mono bb.size)
    obtain ⟨go, hgo⟩ : ∃ go, go = wm.heap.size := ⟨_, rfl⟩
    rw [← hgo] at BO ⊢
    have zgo : w.heap.size + 1 + 1 ≤ go := by omega
    clear ba hgo
    generalize wm.alloc (.cells #[.slice none 0 0, .slice none 0 0, .slice none 0 0] 29) = wo at *
    refine hK.out _ _ ⟨BA.cell 0 _ rfl, BA.cell 1 _ rfl, BA.cell 2 _ rfl⟩ (fun hHeld => ?_)
    clear hK K
    try simp only [Act.put, List.getElem_toArray, List.getElem_cons_zero, List.getElem_cons_succ, List.setIfInBounds_toArray, List.set_cons_zero, List.set_cons_succ]
    refine wpAnyH_ready (rs := [9]) (by kernel_rfl) (by simp) ?_
    refine AllReadyH.cons (o := _) rfl (fun K hK => ?_) AllReadyH.nil
    go_simp
    refine (cloneI_any ap cp N.inputs _ B (Rd.below h3 (bb.mono hB)) (by omega)).mono ?_
    rintro e wp ⟨ap', cp', rfl, ownp, belp⟩
    replace BA := BA.new belp
    replace BR := BR.new belp
    replace BO := BO.new belp
    replace hrow := hrow.of_block (belp.block _ hrow.lt)
    replace owni := Ow.new owni belp
    have z_belp := belp.size
    replace bb := bb.trans (belp.mono bb.size)
    have hdis : blk ai' ci' = none ∨ blk ai' ci' ≠ blk ap' cp' := by
      cases hb : blk ai' ci' with
      | none => exact .inl rfl
      | some x => exact .inr fun he => by have h5 := Ow.blk_in owni hb; have h6 := Ow.blk_in ownp he.symm; omega
    clear belp
    refine hK.out _ _ ⟨BA.cell 0 _ rfl, BA.cell 1 _ rfl, BA.cell 2 _ rfl⟩ (fun hHeld => ?_)
    clear hK K
    try simp only [Act.put, List.getElem_toArray, List.getElem_cons_zero, List.getElem_cons_succ, List.setIfInBounds_toArray, List.set_cons_zero, List.set_cons_succ]
    refine wpAnyH_take (i := 10) (v := ?_) rfl (by kernel_rfl) (by kernel_rfl) (by kernel_rfl) (fun _ _ _ h => h) (Or.inl ⟨by rfl, ?_⟩) (by assumption) ?_
    rotate_left
    · (intro w hSw; (try dsimp only at hSw); go_simp; try with_reducible rfl)
    try simp only [Act.put, List.getElem_toArray, List.getElem_cons_zero, List.getElem_cons_succ, List.setIfInBounds_toArray, List.set_cons_zero, List.set_cons_succ]
    refine wpAnyH_ready (rs := [12]) (by kernel_rfl) (by simp) ?_
    refine AllReadyH.cons (o := _) rfl (fun K hK => ?_) AllReadyH.nil
    have c0 := BO.cell 0 _ rfl
    have c1 := BO.cell 1 _ rfl
    have c2 := BO.cell 2 _ rfl
    have f0 := BO.frozen 0
    have f1 := BO.frozen 1
    have f2 := BO.frozen 2
    go_simp
    clear c0 c1 c2 f0 f1 f2
    generalize hW : World.setCell _ _ _ = W
    have BO2 : Bx W go 29 #[.slice (some ⟨ge, 0, none⟩) N.ends.length N.ends.length, .slice ai' N.ids.length ci', .slice ap' N.inputs.length cp'] := by rw [← hW]; exact ((BO.set 0 _).set 1 _).set 2 _
    have frW : Fr (fun k => k = go) wp W := by rw [← hW]; exact fr3 _ _ _ _ _
    replace owni := Ow.wide (lo' := w.heap.size + 1 + 1) (hi' := W.heap.size) (Ow.frB owni frW (fun k hk hc => BO.ne_row owni (by decide) (hc ▸ hk))) (by omega) (by have := frW.size; omega)
    replace ownp := Ow.wide (lo' := w.heap.size + 1 + 1) (hi' := W.heap.size) (Ow.frB ownp frW (fun k hk hc => BO.ne_row ownp (by decide) (hc ▸ hk))) (by omega) (by have := frW.size; omega)
    have hgg : ge ≠ go := BO.ne_rowIs hrow (by decide)
    replace hrow := hrow.of_block (frW.block _ hrow.lt hgg)
    clear hW BO
    replace BA := BA.fr frW (by omega)
    replace BR := BR.fr frW (by omega)
    replace bb := bb.trans (frW.below (B := w.heap.size) (fun k h1 h2 hc => by omega) bb.size)
    have zW : w.heap.size + 1 + 1 ≤ W.heap.size := by have := frW.size; omega
    refine hK.out _ _ ⟨BA.cell 0 _ rfl, BA.cell 1 _ rfl, BA.cell 2 _ rfl⟩ (fun hHeld => ?_)
    clear hK K
    try simp only [Act.put, List.getElem_toArray, List.getElem_cons_zero, List.getElem_cons_succ, List.setIfInBounds_toArray, List.set_cons_zero, List.set_cons_succ]
    refine wpAnyH_done (by kernel_rfl) ?_ _
    rotate_left
    go_simp
    refine (cloneI_any ap cp N.inputs _ B (Rd.below h3 (bb.mono hB)) (by omega)).mono ?_
    rintro e wp ⟨ap', cp', rfl, ownp, belp⟩
    replace BA := BA.new belp
    replace BR := BR.new belp
    replace owni := Ow.new owni belp
    have z_belp := belp.size
    replace bb := bb.trans (belp.mono bb.size)
    have hdis : blk ai' ci' = none ∨ blk ai' ci' ≠ blk ap' cp' := by
      cases hb : blk ai' ci' with
      | none => exact .inl rfl
      | some x => exact .inr fun he => by have h5 := Ow.blk_in owni hb; have h6 := Ow.blk_in ownp he.symm; omega
    clear belp
    refine hK.out _ _ ⟨BA.cell 0 _ rfl, BA.cell 1 _ rfl, BA.cell 2 _ rfl⟩ (fun hHeld => ?_)
    clear hK K
    try simp only [Act.put, List.getElem_toArray, List.getElem_cons_zero, List.getElem_cons_succ, List.setIfInBounds_toArray, List.set_cons_zero, List.set_cons_succ]
    refine wpAnyH_ready (rs := [3, 11]) (by kernel_rfl) (by simp) ?_
    refine AllReadyH.cons (o := _) rfl (fun K hK => ?_) (AllReadyH.cons (o := _) rfl (fun K hK => ?_) AllReadyH.nil)
    rw [if_pos (by rfl)]
    refine step_mk _ _ _ _ rfl 60 (.slice none 0 0) 24 Try.underlying27 ends_info rfl .i64 .i64 _ _ N.ends.length rfl rfl rfl rfl (by omega) (by omega) ?_
    intro wm hrow hzm belm
    replace BA := BA.new belm
    replace BR := BR.new belm
    replace owni := Ow.new owni belm
    replace ownp := Ow.new ownp belm
    have z_belm := belm.size
    replace bb := bb.trans (belm.mono bb.size)
    obtain ⟨ge, hge⟩ : ∃ ge, ge = wp.heap.size := ⟨_, rfl⟩
    rw [← hge] at hrow ⊢
    have zge : w.heap.size + 1 + 1 ≤ ge := by omega
    clear hge belm
    refine hK.out _ _ ⟨BA.cell 0 _ rfl, BA.cell 1 _ rfl, BA.cell 2 _ rfl⟩ (fun hHeld => ?_)
    clear hK K
    try simp only [Act.put, List.getElem_toArray, List.getElem_cons_zero, List.getElem_cons_succ, List.setIfInBounds_toArray, List.set_cons_zero, List.set_cons_succ]
    refine wpAnyH_take (i := 10) (v := ?_) rfl (by kernel_rfl) (by kernel_rfl) (by kernel_rfl) (fun _ _ _ h => h) (Or.inl ⟨by rfl, ?_⟩) (by assumption) ?_
    rotate_left
    · (intro w hSw; (try dsimp only at hSw); go_simp; try with_reducible rfl)
    try simp only [Act.put, List.getElem_toArray, List.getElem_cons_zero, List.getElem_cons_succ, List.setIfInBounds_toArray, List.set_cons_zero, List.set_cons_succ]
    refine wpAnyH_ready (rs := [11]) (by kernel_rfl) (by simp) ?_
    refine AllReadyH.cons (o := _) rfl (fun K hK => ?_) AllReadyH.nil
    go_simp
    have BO := Bx.made wm 29 #[.slice none 0 0, .slice none 0 0, .slice none 0 0]
    have ba : Below wm.heap.size wm (wm.alloc (.cells #[.slice none 0 0, .slice none 0 0, .slice none 0 0] 29)) := (by repeat (first | exact Below.refl _ _ | assumption | refine Below.alloc ?_ (by first | (simp; done) | (simp; omega) | omega) _ | refine Below.setCell ?_ (by first | (simp; done) | (simp; omega) | omega) _ | refine Below.drew ?_ | refine Below.drewN ?_ _))
    replace BA := BA.new ba
    replace BR := BR.new ba
    replace hrow := hrow.of_block (ba.block _ hrow.lt)
    replace owni := Ow.new owni ba
    replace ownp := Ow.new ownp ba
    have z_ba := ba.size
    replace bb := bb.trans (ba.mono bb.size)
    obtain ⟨go, hgo⟩ : ∃ go, go = wm.heap.size := ⟨_, rfl⟩
    rw [← hgo] at BO ⊢
    have zgo : w.heap.size + 1 + 1 ≤ go := by omega
    clear ba hgo
    generalize wm.alloc (.cells #[.slice none 0 0, .slice none 0 0, .slice none 0 0] 29) = wo at *
    refine hK.out _ _ ⟨BA.cell 0 _ rfl, BA.cell 1 _ rfl, BA.cell 2 _ rfl⟩ (fun hHeld => ?_)
    clear hK K
    try simp only [Act.put, List.getElem_toArray, List.getElem_cons_zero, List.getElem_cons_succ, List.setIfInBounds_toArray, List.set_cons_zero, List.set_cons_succ]
    refine wpAnyH_ready (rs := [12]) (by kernel_rfl) (by simp) ?_
    refine AllReadyH.cons (o := _) rfl (fun K hK => ?_) AllReadyH.nil
    have c0 := BO.cell 0 _ rfl
    have c1 := BO.cell 1 _ rfl
    have c2 := BO.cell 2 _ rfl
    have f0 := BO.frozen 0
    have f1 := BO.frozen 1
    have f2 := BO.frozen 2
    go_simp
    clear c0 c1 c2 f0 f1 f2
    generalize hW : World.setCell _ _ _ = W
    have BO2 : Bx W go 29 #[.slice (some ⟨ge, 0, none⟩) N.ends.length N.ends.length, .slice ai' N.ids.length ci', .slice ap' N.inputs.length cp'] := by rw [← hW]; exact ((BO.set 0 _).set 1 _).set 2 _
    have frW : Fr (fun k => k = go) wo W := by rw [← hW]; exact fr3 _ _ _ _ _
    replace owni := Ow.wide (lo' := w.heap.size + 1 + 1) (hi' := W.heap.size) (Ow.frB owni frW (fun k hk hc => BO.ne_row owni (by decide) (hc ▸ hk))) (by omega) (by have := frW.size; omega)
    replace ownp := Ow.wide (lo' := w.heap.size + 1 + 1) (hi' := W.heap.size) (Ow.frB ownp frW (fun k hk hc => BO.ne_row ownp (by decide) (hc ▸ hk))) (by omega) (by have := frW.size; omega)
    have hgg : ge ≠ go := BO.ne_rowIs hrow (by decide)
    replace hrow := hrow.of_block (frW.block _ hrow.lt hgg)
    clear hW BO
    replace BA := BA.fr frW (by omega)
    replace BR := BR.fr frW (by omega)
    replace bb := bb.trans (frW.below (B := w.heap.size) (fun k h1 h2 hc => by omega) bb.size)
    have zW : w.heap.size + 1 + 1 ≤ W.heap.size := by have := frW.size; omega
    refine hK.out _ _ ⟨BA.cell 0 _ rfl, BA.cell 1 _ rfl, BA.cell 2 _ rfl⟩ (fun hHeld => ?_)
    clear hK K
    try simp only [Act.put, List.getElem_toArray, List.getElem_cons_zero, List.getElem_cons_succ, List.setIfInBounds_toArray, List.set_cons_zero, List.set_cons_succ]
    refine wpAnyH_done (by kernel_rfl) ?_ _
    rotate_left
    go_simp
    have BO := Bx.made wp 29 #[.slice none 0 0, .slice none 0 0, .slice none 0 0]
    have ba : Below wp.heap.size wp (wp.alloc (.cells #[.slice none 0 0, .slice none 0 0, .slice none 0 0] 29)) := (by repeat (first | exact Below.refl _ _ | assumption | refine Below.alloc ?_ (by first | (simp; done) | (simp; omega) | omega) _ | refine Below.setCell ?_ (by first | (simp; done) | (simp; omega) | omega) _ | refine Below.drew ?_ | refine Below.drewN ?_ _))
    replace BA := BA.new ba
    replace BR := BR.new ba
    replace owni := Ow.new owni ba
    replace ownp := Ow.new ownp ba
    have z_ba := ba.size
    replace bb := bb.trans (ba.mono bb.size)
    obtain ⟨go, hgo⟩ : ∃ go, go = wp.heap.size := ⟨_, rfl⟩
    rw [← hgo] at BO ⊢
    have zgo : w.heap.size + 1 + 1 ≤ go := by omega
    clear ba hgo
    generalize wp.alloc (.cells #[.slice none 0 0, .slice none 0 0, .slice none 0 0] 29) = wo at *
    refine hK.out _ _ ⟨BA.cell 0 _ rfl, BA.cell 1 _ rfl, BA.cell 2 _ rfl⟩ (fun hHeld => ?_)
    clear hK K
    try simp only [Act.put, List.getElem_toArray, List.getElem_cons_zero, List.getElem_cons_succ, List.setIfInBounds_toArray, List.set_cons_zero, List.set_cons_succ]
    refine wpAnyH_ready (rs := [3]) (by kernel_rfl) (by simp) ?_
    refine AllReadyH.cons (o := _) rfl (fun K hK => ?_) AllReadyH.nil
    rw [if_pos (by rfl)]
    refine step_mk _ _ _ _ rfl 60 (.slice none 0 0) 24 Try.underlying27 ends_info rfl .i64 .i64 _ _ N.ends.length rfl rfl rfl rfl (by omega) (by omega) ?_
    intro wm hrow hzm belm
    replace BA := BA.new belm
    replace BR := BR.new belm
    replace BO := BO.new belm
    replace owni := Ow.new owni belm
    replace ownp := Ow.new ownp belm
    have z_belm := belm.size
    replace bb := bb.trans (belm.mono bb.size)
    obtain ⟨ge, hge⟩ : ∃ ge, ge = wo.heap.size := ⟨_, rfl⟩
    rw [← hge] at hrow ⊢
    have zge : w.heap.size + 1 + 1 ≤ ge := by omega
    clear hge belm
    refine hK.out _ _ ⟨BA.cell 0 _ rfl, BA.cell 1 _ rfl, BA.cell 2 _ rfl⟩ (fun hHeld => ?_)
    clear hK K
    try simp only [Act.put, List.getElem_toArray, List.getElem_cons_zero, List.getElem_cons_succ, List.setIfInBounds_toArray, List.set_cons_zero, List.set_cons_succ]
    refine wpAnyH_take (i := 10) (v := ?_) rfl (by kernel_rfl) (by kernel_rfl) (by kernel_rfl) (fun _ _ _ h => h) (Or.inl ⟨by rfl, ?_⟩) (by assumption) ?_
    rotate_left
    · (intro w hSw; (try dsimp only at hSw); go_simp; try with_reducible rfl)
    try simp only [Act.put, List.getElem_toArray, List.getElem_cons_zero, List.getElem_cons_succ, List.setIfInBounds_toArray, List.set_cons_zero, List.set_cons_succ]
    refine wpAnyH_ready (rs := [12]) (by kernel_rfl) (by simp) ?_
    refine AllReadyH.cons (o := _) rfl (fun K hK => ?_) AllReadyH.nil
    have c0 := BO.cell 0 _ rfl
    have c1 := BO.cell 1 _ rfl
    have c2 := BO.cell 2 _ rfl
    have f0 := BO.frozen 0
    have f1 := BO.frozen 1
    have f2 := BO.frozen 2
    go_simp
    clear c0 c1 c2 f0 f1 f2
    generalize hW : World.setCell _ _ _ = W
    have BO2 : Bx W go 29 #[.slice (some ⟨ge, 0, none⟩) N.ends.length N.ends.length, .slice ai' N.ids.length ci', .slice ap' N.inputs.length cp'] := by rw [← hW]; exact ((BO.set 0 _).set 1 _).set 2 _
    have frW : Fr (fun k => k = go) wm W := by rw [← hW]; exact fr3 _ _ _ _ _
    replace owni := Ow.wide (lo' := w.heap.size + 1 + 1) (hi' := W.heap.size) (Ow.frB owni frW (fun k hk hc => BO.ne_row owni (by decide) (hc ▸ hk))) (by omega) (by have := frW.size; omega)
    replace ownp := Ow.wide (lo' := w.heap.size + 1 + 1) (hi' := W.heap.size) (Ow.frB ownp frW (fun k hk hc => BO.ne_row ownp (by decide) (hc ▸ hk))) (by omega) (by have := frW.size; omega)
    have hgg : ge ≠ go := BO.ne_rowIs hrow (by decide)
    replace hrow := hrow.of_block (frW.block _ hrow.lt hgg)
    clear hW BO
    replace BA := BA.fr frW (by omega)
    replace BR := BR.fr frW (by omega)
    replace bb := bb.trans (frW.below (B := w.heap.size) (fun k h1 h2 hc => by omega) bb.size)
    have zW : w.heap.size + 1 + 1 ≤ W.heap.size := by have := frW.size; omega
    refine hK.out _ _ ⟨BA.cell 0 _ rfl, BA.cell 1 _ rfl, BA.cell 2 _ rfl⟩ (fun hHeld => ?_)
    clear hK K
    try simp only [Act.put, List.getElem_toArray, List.getElem_cons_zero, List.getElem_cons_succ, List.setIfInBounds_toArray, List.set_cons_zero, List.set_cons_succ]
    refine wpAnyH_done (by kernel_rfl) ?_ _
    rotate_left
    go_simp
    have BO := Bx.made wi 29 #[.slice none 0 0, .slice none 0 0, .slice none 0 0]
    have ba : Below wi.heap.size wi (wi.alloc (.cells #[.slice none 0 0, .slice none 0 0, .slice none 0 0] 29)) := (by repeat (first | exact Below.refl _ _ | assumption | refine Below.alloc ?_ (by first | (simp; done) | (simp; omega) | omega) _ | refine Below.setCell ?_ (by first | (simp; done) | (simp; omega) | omega) _ | refine Below.drew ?_ | refine Below.drewN ?_ _))
    replace BA := BA.new ba
    replace BR := BR.new ba
    replace owni := Ow.new owni ba
    have z_ba := ba.size
    replace bb := bb.trans (ba.mono bb.size)
    obtain ⟨go, hgo⟩ : ∃ go, go = wi.heap.size := ⟨_, rfl⟩
    rw [← hgo] at BO ⊢
    have zgo : w.heap.size + 1 + 1 ≤ go := by omega
    clear ba hgo
    generalize wi.alloc (.cells #[.slice none 0 0, .slice none 0 0, .slice none 0 0] 29) = wo at *
    refine hK.out _ _ ⟨BA.cell 0 _ rfl, BA.cell 1 _ rfl, BA.cell 2 _ rfl⟩ (fun hHeld => ?_)
    clear hK K
    try simp only [Act.put, List.getElem_toArray, List.getElem_cons_zero, List.getElem_cons_succ, List.setIfInBounds_toArray, List.set_cons_zero, List.set_cons_succ]
    refine wpAnyH_ready (rs := [3, 9]) (by kernel_rfl) (by simp) ?_
    refine AllReadyH.cons (o := _) rfl (fun K hK => ?_) (AllReadyH.cons (o := _) rfl (fun K hK => ?_) AllReadyH.nil)
    rw [if_pos (by rfl)]
    refine step_mk _ _ _ _ rfl 60 (.slice none 0 0) 24 Try.underlying27 ends_info rfl .i64 .i64 _ _ N.ends.length rfl rfl rfl rfl (by omega) (by omega) ?_
    intro wm hrow hzm belm
    replace BA := BA.new belm
    replace BR := BR.new belm
    replace BO := BO.new belm
    replace owni := Ow.new owni belm
    have z_belm := belm.size
    replace bb := bb.trans (belm.mono bb.size)
    obtain ⟨ge, hge⟩ : ∃ ge, ge = wo.heap.size := ⟨_, rfl⟩
    rw [← hge] at hrow ⊢
    have zge : w.heap.size + 1 + 1 ≤ ge := by omega
    clear hge belm
    refine hK.out _ _ ⟨BA.cell 0 _ rfl, BA.cell 1 _ rfl, BA.cell 2 _ rfl⟩ (fun hHeld => ?_)
    clear hK K
    try simp only [Act.put, List.getElem_toArray, List.getElem_cons_zero, List.getElem_cons_succ, List.setIfInBounds_toArray, List.set_cons_zero, List.set_cons_succ]
    refine wpAnyH_ready (rs := [9]) (by kernel_rfl) (by simp) ?_
    refine AllReadyH.cons (o := _) rfl (fun K hK => ?_) AllReadyH.nil
    go_simp
    refine (cloneI_any ap cp N.inputs _ B (Rd.below h3 (bb.mono hB)) (by omega)).mono ?_
    rintro e wp ⟨ap', cp', rfl, ownp, belp⟩
    replace BA := BA.new belp
    replace BR := BR.new belp
    replace BO := BO.new belp
    replace hrow := hrow.of_block (belp.block _ hrow.lt)
    replace owni := Ow.new owni belp
    have z_belp := belp.size
    replace bb := bb.trans (belp.mono bb.size)
    have hdis : blk ai' ci' = none ∨ blk ai' ci' ≠ blk ap' cp' := by
      cases hb : blk ai' ci' with
      | none => exact .inl rfl
      | some x => exact .inr fun he => by have h5 := Ow.blk_in owni hb; have h6 := Ow.blk_in ownp he.symm; omega
    clear belp
    refine hK.out _ _ ⟨BA.cell 0 _ rfl, BA.cell 1 _ rfl, BA.cell 2 _ rfl⟩ (fun hHeld => ?_)
    clear hK K
    try simp only [Act.put, List.getElem_toArray, List.getElem_cons_zero, List.getElem_cons_succ, List.setIfInBounds_toArray, List.set_cons_zero, List.set_cons_succ]
    refine wpAnyH_take (i := 10) (v := ?_) rfl (by kernel_rfl) (by kernel_rfl) (by kernel_rfl) (fun _ _ _ h => h) (Or.inl ⟨by rfl, ?_⟩) (by assumption) ?_
    rotate_left
    · (intro w hSw; (try dsimp only at hSw); go_simp; try with_reducible rfl)
    try simp only [Act.put, List.getElem_toArray, List.getElem_cons_zero, List.getElem_cons_succ, List.setIfInBounds_toArray, List.set_cons_zero, List.set_cons_succ]
    refine wpAnyH_ready (rs := [12]) (by kernel_rfl) (by simp) ?_
    refine AllReadyH.cons (o := _) rfl (fun K hK => ?_) AllReadyH.nil
    have c0 := BO.cell 0 _ rfl
    have c1 := BO.cell 1 _ rfl
    have c2 := BO.cell 2 _ rfl
    have f0 := BO.frozen 0
    have f1 := BO.frozen 1
    have f2 := BO.frozen 2
    go_simp
    clear c0 c1 c2 f0 f1 f2
    generalize hW : World.setCell _ _ _ = W
    have BO2 : Bx W go 29 #[.slice (some ⟨ge, 0, none⟩) N.ends.length N.ends.length, .slice ai' N.ids.length ci', .slice ap' N.inputs.length cp'] := by rw [← hW]; exact ((BO.set 0 _).set 1 _).set 2 _
    have frW : Fr (fun k => k = go) wp W := by rw [← hW]; exact fr3 _ _ _ _ _
    replace owni := Ow.wide (lo' := w.heap.size + 1 + 1) (hi' := W.heap.size) (Ow.frB owni frW (fun k hk hc => BO.ne_row owni (by decide) (hc ▸ hk))) (by omega) (by have := frW.size; omega)
    replace ownp := Ow.wide (lo' := w.heap.size + 1 + 1) (hi' := W.heap.size) (Ow.frB ownp frW (fun k hk hc => BO.ne_row ownp (by decide) (hc ▸ hk))) (by omega) (by have := frW.size; omega)
    have hgg : ge ≠ go := BO.ne_rowIs hrow (by decide)
    replace hrow := hrow.of_block (frW.block _ hrow.lt hgg)
    clear hW BO
    replace BA := BA.fr frW (by omega)
    replace BR := BR.fr frW (by omega)
    replace bb := bb.trans (frW.below (B := w.heap.size) (fun k h1 h2 hc => by omega) bb.size)
    have zW : w.heap.size + 1 + 1 ≤ W.heap.size := by have := frW.size; omega
    refine hK.out _ _ ⟨BA.cell 0 _ rfl, BA.cell 1 _ rfl, BA.cell 2 _ rfl⟩ (fun hHeld => ?_)
    clear hK K
    try simp only [Act.put, List.getElem_toArray, List.getElem_cons_zero, List.getElem_cons_succ, List.setIfInBounds_toArray, List.set_cons_zero, List.set_cons_succ]
    refine wpAnyH_done (by kernel_rfl) ?_ _
    rotate_left
    go_simp
    refine (cloneI_any ap cp N.inputs _ B (Rd.below h3 (bb.mono hB)) (by omega)).mono ?_
    rintro e wp ⟨ap', cp', rfl, ownp, belp⟩
    replace BA := BA.new belp
    replace BR := BR.new belp
    replace BO := BO.new belp
    replace owni := Ow.new owni belp
    have z_belp := belp.size
    replace bb := bb.trans (belp.mono bb.size)
    have hdis : blk ai' ci' = none ∨ blk ai' ci' ≠ blk ap' cp' := by
      cases hb : blk ai' ci' with
      | none => exact .inl rfl
      | some x => exact .inr fun he => by have h5 := Ow.blk_in owni hb; have h6 := Ow.blk_in ownp he.symm; omega
    clear belp
    refine hK.out _ _ ⟨BA.cell 0 _ rfl, BA.cell 1 _ rfl, BA.cell 2 _ rfl⟩ (fun hHeld => ?_)
    clear hK K
    try simp only [Act.put, List.getElem_toArray, List.getElem_cons_zero, List.getElem_cons_succ, List.setIfInBounds_toArray, List.set_cons_zero, List.set_cons_succ]
    refine wpAnyH_ready (rs := [3]) (by kernel_rfl) (by simp) ?_
    refine AllReadyH.cons (o := _) rfl (fun K hK => ?_) AllReadyH.nil
    rw [if_pos (by rfl)]
    refine step_mk _ _ _ _ rfl 60 (.slice none 0 0) 24 Try.underlying27 ends_info rfl .i64 .i64 _ _ N.ends.length rfl rfl rfl rfl (by omega) (by omega) ?_
    intro wm hrow hzm belm
    replace BA := BA.new belm
    replace BR := BR.new belm
    replace BO := BO.new belm
    replace owni := Ow.new owni belm
    replace ownp := Ow.new ownp belm
    have z_belm := belm.size
    replace bb := bb.trans (belm.mono bb.size)
    obtain ⟨ge, hge⟩ : ∃ ge, ge = wp.heap.size := ⟨_, rfl⟩
    rw [← hge] at hrow ⊢
    have zge : w.heap.size + 1 + 1 ≤ ge := by omega
    clear hge belm
    refine hK.out _ _ ⟨BA.cell 0 _ rfl, BA.cell 1 _ rfl, BA.cell 2 _ rfl⟩ (fun hHeld => ?_)
    clear hK K
    try simp only [Act.put, List.getElem_toArray, List.getElem_cons_zero, List.getElem_cons_succ, List.setIfInBounds_toArray, List.set_cons_zero, List.set_cons_succ]
    refine wpAnyH_take (i := 10) (v := ?_) rfl (by kernel_rfl) (by kernel_rfl) (by kernel_rfl) (fun _ _ _ h => h) (Or.inl ⟨by rfl, ?_⟩) (by assumption) ?_
    rotate_left
    · (intro w hSw; (try dsimp only at hSw); go_simp; try with_reducible rfl)
    try simp only [Act.put, List.getElem_toArray, List.getElem_cons_zero, List.getElem_cons_succ, List.setIfInBounds_toArray, List.set_cons_zero, List.set_cons_succ]
    refine wpAnyH_ready (rs := [12]) (by kernel_rfl) (by simp) ?_
    refine AllReadyH.cons (o := _) rfl (fun K hK => ?_) AllReadyH.nil
    have c0 := BO.cell 0 _ rfl
    have c1 := BO.cell 1 _ rfl
    have c2 := BO.cell 2 _ rfl
    have f0 := BO.frozen 0
    have f1 := BO.frozen 1
    have f2 := BO.frozen 2
    go_simp
    clear c0 c1 c2 f0 f1 f2
    generalize hW : World.setCell _ _ _ = W
    have BO2 : Bx W go 29 #[.slice (some ⟨ge, 0, none⟩) N.ends.length N.ends.length, .slice ai' N.ids.length ci', .slice ap' N.inputs.length cp'] := by rw [← hW]; exact ((BO.set 0 _).set 1 _).set 2 _
    have frW : Fr (fun k => k = go) wm W := by rw [← hW]; exact fr3 _ _ _ _ _
    replace owni := Ow.wide (lo' := w.heap.size + 1 + 1) (hi' := W.heap.size) (Ow.frB owni frW (fun k hk hc => BO.ne_row owni (by decide) (hc ▸ hk))) (by omega) (by have := frW.size; omega)
    replace ownp := Ow.wide (lo' := w.heap.size + 1 + 1) (hi' := W.heap.size) (Ow.frB ownp frW (fun k hk hc => BO.ne_row ownp (by decide) (hc ▸ hk))) (by omega) (by have := frW.size; omega)
    have hgg : ge ≠ go := BO.ne_rowIs hrow (by decide)
    replace hrow := hrow.of_block (frW.block _ hrow.lt hgg)
    clear hW BO
    replace BA := BA.fr frW (by omega)
    replace BR := BR.fr frW (by omega)
    replace bb := bb.trans (frW.below (B := w.heap.size) (fun k h1 h2 hc => by omega) bb.size)
    have zW : w.heap.size + 1 + 1 ≤ W.heap.size := by have := frW.size; omega
    refine hK.out _ _ ⟨BA.cell 0 _ rfl, BA.cell 1 _ rfl, BA.cell 2 _ rfl⟩ (fun hHeld => ?_)
    clear hK K
    try simp only [Act.put, List.getElem_toArray, List.getElem_cons_zero, List.getElem_cons_succ, List.setIfInBounds_toArray, List.set_cons_zero, List.set_cons_succ]
    refine wpAnyH_done (by kernel_rfl) ?_ _
    rotate_left
    go_simp
    have BO := Bx.made wd 29 #[.slice none 0 0, .slice none 0 0, .slice none 0 0]
    have ba : Below wd.heap.size wd (wd.alloc (.cells #[.slice none 0 0, .slice none 0 0, .slice none 0 0] 29)) := (by repeat (first | exact Below.refl _ _ | assumption | refine Below.alloc ?_ (by first | (simp; done) | (simp; omega) | omega) _ | refine Below.setCell ?_ (by first | (simp; done) | (simp; omega) | omega) _ | refine Below.drew ?_ | refine Below.drewN ?_ _))
    replace BA := BA.new ba
    replace BR := BR.new ba
    have z_ba := ba.size
    replace bb := bb.trans (ba.mono bb.size)
    obtain ⟨go, hgo⟩ : ∃ go, go = wd.heap.size := ⟨_, rfl⟩
    rw [← hgo] at BO ⊢
    have zgo : w.heap.size + 1 + 1 ≤ go := by omega
    clear ba hgo
    generalize wd.alloc (.cells #[.slice none 0 0, .slice none 0 0, .slice none 0 0] 29) = wo at *
    refine hK.out _ _ ⟨BA.cell 0 _ rfl, BA.cell 1 _ rfl, BA.cell 2 _ rfl⟩ (fun hHeld => ?_)
    clear hK K
    try simp only [Act.put, List.getElem_toArray, List.getElem_cons_zero, List.getElem_cons_succ, List.setIfInBounds_toArray, List.set_cons_zero, List.set_cons_succ]
    refine wpAnyH_ready (rs := [3, 6]) (by kernel_rfl) (by simp) ?_
    refine AllReadyH.cons (o := _) rfl (fun K hK => ?_) (AllReadyH.cons (o := _) rfl (fun K hK => ?_) AllReadyH.nil)
    rw [if_pos (by rfl)]
    refine step_mk _ _ _ _ rfl 60 (.slice none 0 0) 24 Try.underlying27 ends_info rfl .i64 .i64 _ _ N.ends.length rfl rfl rfl rfl (by omega) (by omega) ?_
    intro wm hrow hzm belm
    replace BA := BA.new belm
    replace BR := BR.new belm
    replace BO := BO.new belm
    have z_belm := belm.size
    replace bb := bb.trans (belm.mono bb.size)
    obtain ⟨ge, hge⟩ : ∃ ge, ge = wo.heap.size := ⟨_, rfl⟩
    rw [← hge] at hrow ⊢
    have zge : w.heap.size + 1 + 1 ≤ ge := by omega
    clear hge belm
    refine hK.out _ _ ⟨BA.cell 0 _ rfl, BA.cell 1 _ rfl, BA.cell 2 _ rfl⟩ (fun hHeld => ?_)
    clear hK K
    try simp only [Act.put, List.getElem_toArray, List.getElem_cons_zero, List.getElem_cons_succ, List.setIfInBounds_toArray, List.set_cons_zero, List.set_cons_succ]
    refine wpAnyH_ready (rs := [6]) (by kernel_rfl) (by simp) ?_
    refine AllReadyH.cons (o := _) rfl (fun K hK => ?_) AllReadyH.nil
    go_simp
    refine (cloneI_any ai ci N.ids _ B (Rd.below h2 (bb.mono hB)) (by omega)).mono ?_
    rintro e wi ⟨ai', ci', rfl, owni, beli⟩
    replace BA := BA.new beli
    replace BR := BR.new beli
    replace BO := BO.new beli
    replace hrow := hrow.of_block (beli.block _ hrow.lt)
    have z_beli := beli.size
    replace bb := bb.trans (beli.mono bb.size)
    clear beli
    refine hK.out _ _ ⟨BA.cell 0 _ rfl, BA.cell 1 _ rfl, BA.cell 2 _ rfl⟩ (fun hHeld => ?_)
    clear hK K
    try simp only [Act.put, List.getElem_toArray, List.getElem_cons_zero, List.getElem_cons_succ, List.setIfInBounds_toArray, List.set_cons_zero, List.set_cons_succ]
    refine wpAnyH_ready (rs := [9]) (by kernel_rfl) (by simp) ?_
    refine AllReadyH.cons (o := _) rfl (fun K hK => ?_) AllReadyH.nil
    go_simp
    refine (cloneI_any ap cp N.inputs _ B (Rd.below h3 (bb.mono hB)) (by omega)).mono ?_
    rintro e wp ⟨ap', cp', rfl, ownp, belp⟩
    replace BA := BA.new belp
    replace BR := BR.new belp
    replace BO := BO.new belp
    replace hrow := hrow.of_block (belp.block _ hrow.lt)
    replace owni := Ow.new owni belp
    have z_belp := belp.size
    replace bb := bb.trans (belp.mono bb.size)
    have hdis : blk ai' ci' = none ∨ blk ai' ci' ≠ blk ap' cp' := by
      cases hb : blk ai' ci' with
      | none => exact .inl rfl
      | some x => exact .inr fun he => by have h5 := Ow.blk_in owni hb; have h6 := Ow.blk_in ownp he.symm; omega
    clear belp
    refine hK.out _ _ ⟨BA.cell 0 _ rfl, BA.cell 1 _ rfl, BA.cell 2 _ rfl⟩ (fun hHeld => ?_)
    clear hK K
    try simp only [Act.put, List.getElem_toArray, List.getElem_cons_zero, List.getElem_cons_succ, List.setIfInBounds_toArray, List.set_cons_zero, List.set_cons_succ]
    refine wpAnyH_take (i := 10) (v := ?_) rfl (by kernel_rfl) (by kernel_rfl) (by kernel_rfl) (fun _ _ _ h => h) (Or.inl ⟨by rfl, ?_⟩) (by assumption) ?_
    rotate_left
    · (intro w hSw; (try dsimp only at hSw); go_simp; try with_reducible rfl)
    try simp only [Act.put, List.getElem_toArray, List.getElem_cons_zero, List.getElem_cons_succ, List.setIfInBounds_toArray, List.set_cons_zero, List.set_cons_succ]
    refine wpAnyH_ready (rs := [12]) (by kernel_rfl) (by simp) ?_
    refine AllReadyH.cons (o := _) rfl (fun K hK => ?_) AllReadyH.nil
    have c0 := BO.cell 0 _ rfl
    have c1 := BO.cell 1 _ rfl
    have c2 := BO.cell 2 _ rfl
    have f0 := BO.frozen 0
    have f1 := BO.frozen 1
    have f2 := BO.frozen 2
    go_simp
    clear c0 c1 c2 f0 f1 f2
    generalize hW : World.setCell _ _ _ = W
    have BO2 : Bx W go 29 #[.slice (some ⟨ge, 0, none⟩) N.ends.length N.ends.length, .slice ai' N.ids.length ci', .slice ap' N.inputs.length cp'] := by rw [← hW]; exact ((BO.set 0 _).set 1 _).set 2 _
    have frW : Fr (fun k => k = go) wp W := by rw [← hW]; exact fr3 _ _ _ _ _
    replace owni := Ow.wide (lo' := w.heap.size + 1 + 1) (hi' := W.heap.size) (Ow.frB owni frW (fun k hk hc => BO.ne_row owni (by decide) (hc ▸ hk))) (by omega) (by have := frW.size; omega)
    replace ownp := Ow.wide (lo' := w.heap.size + 1 + 1) (hi' := W.heap.size) (Ow.frB ownp frW (fun k hk hc => BO.ne_row ownp (by decide) (hc ▸ hk))) (by omega) (by have := frW.size; omega)
    have hgg : ge ≠ go := BO.ne_rowIs hrow (by decide)
    replace hrow := hrow.of_block (frW.block _ hrow.lt hgg)
    clear hW BO
    replace BA := BA.fr frW (by omega)
    replace BR := BR.fr frW (by omega)
    replace bb := bb.trans (frW.below (B := w.heap.size) (fun k h1 h2 hc => by omega) bb.size)
    have zW : w.heap.size + 1 + 1 ≤ W.heap.size := by have := frW.size; omega
    refine hK.out _ _ ⟨BA.cell 0 _ rfl, BA.cell 1 _ rfl, BA.cell 2 _ rfl⟩ (fun hHeld => ?_)
    clear hK K
    try simp only [Act.put, List.getElem_toArray, List.getElem_cons_zero, List.getElem_cons_succ, List.setIfInBounds_toArray, List.set_cons_zero, List.set_cons_succ]
    refine wpAnyH_done (by kernel_rfl) ?_ _
    rotate_left
    go_simp
    refine (cloneI_any ai ci N.ids _ B (Rd.below h2 (bb.mono hB)) (by omega)).mono ?_
    rintro e wi ⟨ai', ci', rfl, owni, beli⟩
    replace BA := BA.new beli
    replace BR := BR.new beli
    replace BO := BO.new beli
    have z_beli := beli.size
    replace bb := bb.trans (beli.mono bb.size)
    clear beli
    refine hK.out _ _ ⟨BA.cell 0 _ rfl, BA.cell 1 _ rfl, BA.cell 2 _ rfl⟩ (fun hHeld => ?_)
    clear hK K
    try simp only [Act.put, List.getElem_toArray, List.getElem_cons_zero, List.getElem_cons_succ, List.setIfInBounds_toArray, List.set_cons_zero, List.set_cons_succ]
    refine wpAnyH_ready (rs := [3, 9]) (by kernel_rfl) (by simp) ?_
    refine AllReadyH.cons (o := _) rfl (fun K hK => ?_) (AllReadyH.cons (o := _) rfl (fun K hK => ?_) AllReadyH.nil)
    rw [if_pos (by rfl)]
    refine step_mk _ _ _ _ rfl 60 (.slice none 0 0) 24 Try.underlying27 ends_info rfl .i64 .i64 _ _ N.ends.length rfl rfl rfl rfl (by omega) (by omega) ?_
    intro wm hrow hzm belm
    replace BA := BA.new belm
    replace BR := BR.new belm
    replace BO := BO.new belm
    replace owni := Ow.new owni belm
    have z_belm := belm.size
    replace bb := bb.trans (belm.mono bb.size)
    obtain ⟨ge, hge⟩ : ∃ ge, ge = wi.heap.size := ⟨_, rfl⟩
    rw [← hge] at hrow ⊢
    have zge : w.heap.size + 1 + 1 ≤ ge := by omega
    clear hge belm
    refine hK.out _ _ ⟨BA.cell 0 _ rfl, BA.cell 1 _ rfl, BA.cell 2 _ rfl⟩ (fun hHeld => ?_)
    clear hK K
    try simp only [Act.put, List.getElem_toArray, List.getElem_cons_zero, List.getElem_cons_succ, List.setIfInBounds_toArray, List.set_cons_zero, List.set_cons_succ]
    refine wpAnyH_ready (rs := [9]) (by kernel_rfl) (by simp) ?_
    refine AllReadyH.cons (o := _) rfl (fun K hK => ?_) AllReadyH.nil
    go_simp
    refine (cloneI_any ap cp N.inputs _ B (Rd.below h3 (bb.mono hB)) (by omega)).mono ?_
    rintro e wp ⟨ap', cp', rfl, ownp, belp⟩
    replace BA := BA.new belp
    replace BR := BR.new belp
    replace BO := BO.new belp
    replace hrow := hrow.of_block (belp.block _ hrow.lt)
    replace owni := Ow.new owni belp
    have z_belp := belp.size
    replace bb := bb.trans (belp.mono bb.size)
    have hdis : blk ai' ci' = none ∨ blk ai' ci' ≠ blk ap' cp' := by
      cases hb : blk ai' ci' with
      | none => exact .inl rfl
      | some x => exact .inr fun he => by have h5 := Ow.blk_in owni hb; have h6 := Ow.blk_in ownp he.symm; omega
    clear belp
    refine hK.out _ _ ⟨BA.cell 0 _ rfl, BA.cell 1 _ rfl, BA.cell 2 _ rfl⟩ (fun hHeld => ?_)
    clear hK K
    try simp only [Act.put, List.getElem_toArray, List.getElem_cons_zero, List.getElem_cons_succ, List.setIfInBounds_toArray, List.set_cons_zero, List.set_cons_succ]
    refine wpAnyH_take (i := 10) (v := ?_) rfl (by kernel_rfl) (by kernel_rfl) (by kernel_rfl) (fun _ _ _ h => h) (Or.inl ⟨by rfl, ?_⟩) (by assumption) ?_
    rotate_left
    · (intro w hSw; (try dsimp only at hSw); go_simp; try with_reducible rfl)
    try simp only [Act.put, List.getElem_toArray, List.getElem_cons_zero, List.getElem_cons_succ, List.setIfInBounds_toArray, List.set_cons_zero, List.set_cons_succ]
    refine wpAnyH_ready (rs := [12]) (by kernel_rfl) (by simp) ?_
    refine AllReadyH.cons (o := _) rfl (fun K hK => ?_) AllReadyH.nil
    have c0 := BO.cell 0 _ rfl
    have c1 := BO.cell 1 _ rfl
    have c2 := BO.cell 2 _ rfl
    have f0 := BO.frozen 0
    have f1 := BO.frozen 1
    have f2 := BO.frozen 2
    go_simp
    clear c0 c1 c2 f0 f1 f2
    generalize hW : World.setCell _ _ _ = W
    have BO2 : Bx W go 29 #[.slice (some ⟨ge, 0, none⟩) N.ends.length N.ends.length, .slice ai' N.ids.length ci', .slice ap' N.inputs.length cp'] := by rw [← hW]; exact ((BO.set 0 _).set 1 _).set 2 _
    have frW : Fr (fun k => k = go) wp W := by rw [← hW]; exact fr3 _ _ _ _ _
    replace owni := Ow.wide (lo' := w.heap.size + 1 + 1) (hi' := W.heap.size) (Ow.frB owni frW (fun k hk hc => BO.ne_row owni (by decide) (hc ▸ hk))) (by omega) (by have := frW.size; omega)
    replace ownp := Ow.wide (lo' := w.heap.size + 1 + 1) (hi' := W.heap.size) (Ow.frB ownp frW (fun k hk hc => BO.ne_row ownp (by decide) (hc ▸ hk))) (by omega) (by have := frW.size; omega)
    have hgg : ge ≠ go := BO.ne_rowIs hrow (by decide)
    replace hrow := hrow.of_block (frW.block _ hrow.lt hgg)
    clear hW BO
    replace BA := BA.fr frW (by omega)
    replace BR := BR.fr frW (by omega)
    replace bb := bb.trans (frW.below (B := w.heap.size) (fun k h1 h2 hc => by omega) bb.size)
    have zW : w.heap.size + 1 + 1 ≤ W.heap.size := by have := frW.size; omega
    refine hK.out _ _ ⟨BA.cell 0 _ rfl, BA.cell 1 _ rfl, BA.cell 2 _ rfl⟩ (fun hHeld => ?_)
    clear hK K
    try simp only [Act.put, List.getElem_toArray, List.getElem_cons_zero, List.getElem_cons_succ, List.setIfInBounds_toArray, List.set_cons_zero, List.set_cons_succ]
    refine wpAnyH_done (by kernel_rfl) ?_ _
    rotate_left
    go_simp
    refine (cloneI_any ap cp N.inputs _ B (Rd.below h3 (bb.mono hB)) (by omega)).mono ?_
    rintro e wp ⟨ap', cp', rfl, ownp, belp⟩
    replace BA := BA.new belp
    replace BR := BR.new belp
    replace BO := BO.new belp
    replace owni := Ow.new owni belp
    have z_belp := belp.size
    replace bb := bb.trans (belp.mono bb.size)
    have hdis : blk ai' ci' = none ∨ blk ai' ci' ≠ blk ap' cp' := by
      cases hb : blk ai' ci' with
      | none => exact .inl rfl
      | some x => exact .inr fun he => by have h5 := Ow.blk_in owni hb; have h6 := Ow.blk_in ownp he.symm; omega
    clear belp
    refine hK.out _ _ ⟨BA.cell 0 _ rfl, BA.cell 1 _ rfl, BA.cell 2 _ rfl⟩ (fun hHeld => ?_)
    clear hK K
    try simp only [Act.put, List.getElem_toArray, List.getElem_cons_zero, List.getElem_cons_succ, List.setIfInBounds_toArray, List.set_cons_zero, List.set_cons_succ]
    refine wpAnyH_ready (rs := [3]) (by kernel_rfl) (by simp) ?_
    refine AllReadyH.cons (o := _) rfl (fun K hK => ?_) AllReadyH.nil
    rw [if_pos (by rfl)]
    refine step_mk _ _ _ _ rfl 60 (.slice none 0 0) 24 Try.underlying27 ends_info rfl .i64 .i64 _ _ N.ends.length rfl rfl rfl rfl (by omega) (by omega) ?_
    intro wm hrow hzm belm
    replace BA := BA.new belm
    replace BR := BR.new belm
    replace BO := BO.new belm
    replace owni := Ow.new owni belm
    replace ownp := Ow.new ownp belm
    have z_belm := belm.size
    replace bb := bb.trans (belm.mono bb.size)
    obtain ⟨ge, hge⟩ : ∃ ge, ge = wp.heap.size := ⟨_, rfl⟩
    rw [← hge] at hrow ⊢
    have zge : w.heap.size + 1 + 1 ≤ ge := by omega
    clear hge belm
    refine hK.out _ _ ⟨BA.cell 0 _ rfl, BA.cell 1 _ rfl, BA.cell 2 _ rfl⟩ (fun hHeld => ?_)
    clear hK K
    try simp only [Act.put, List.getElem_toArray, List.getElem_cons_zero, List.getElem_cons_succ, List.setIfInBounds_toArray, List.set_cons_zero, List.set_cons_succ]
    refine wpAnyH_take (i := 10) (v := ?_) rfl (by kernel_rfl) (by kernel_rfl) (by kernel_rfl) (fun _ _ _ h => h) (Or.inl ⟨by rfl, ?_⟩) (by assumption) ?_
    rotate_left
    · (intro w hSw; (try dsimp only at hSw); go_simp; try with_reducible rfl)
    try simp only [Act.put, List.getElem_toArray, List.getElem_cons_zero, List.getElem_cons_succ, List.setIfInBounds_toArray, List.set_cons_zero, List.set_cons_succ]
    refine wpAnyH_ready (rs := [12]) (by kernel_rfl) (by simp) ?_
    refine AllReadyH.cons (o := _) rfl (fun K hK => ?_) AllReadyH.nil
    have c0 := BO.cell 0 _ rfl
    have c1 := BO.cell 1 _ rfl
    have c2 := BO.cell 2 _ rfl
    have f0 := BO.frozen 0
    have f1 := BO.frozen 1
    have f2 := BO.frozen 2
    go_simp
    clear c0 c1 c2 f0 f1 f2
    generalize hW : World.setCell _ _ _ = W
    have BO2 : Bx W go 29 #[.slice (some ⟨ge, 0, none⟩) N.ends.length N.ends.length, .slice ai' N.ids.length ci', .slice ap' N.inputs.length cp'] := by rw [← hW]; exact ((BO.set 0 _).set 1 _).set 2 _
    have frW : Fr (fun k => k = go) wm W := by rw [← hW]; exact fr3 _ _ _ _ _
    replace owni := Ow.wide (lo' := w.heap.size + 1 + 1) (hi' := W.heap.size) (Ow.frB owni frW (fun k hk hc => BO.ne_row owni (by decide) (hc ▸ hk))) (by omega) (by have := frW.size; omega)
    replace ownp := Ow.wide (lo' := w.heap.size + 1 + 1) (hi' := W.heap.size) (Ow.frB ownp frW (fun k hk hc => BO.ne_row ownp (by decide) (hc ▸ hk))) (by omega) (by have := frW.size; omega)
    have hgg : ge ≠ go := BO.ne_rowIs hrow (by decide)
    replace hrow := hrow.of_block (frW.block _ hrow.lt hgg)
    clear hW BO
    replace BA := BA.fr frW (by omega)
    replace BR := BR.fr frW (by omega)
    replace bb := bb.trans (frW.below (B := w.heap.size) (fun k h1 h2 hc => by omega) bb.size)
    have zW : w.heap.size + 1 + 1 ≤ W.heap.size := by have := frW.size; omega
    refine hK.out _ _ ⟨BA.cell 0 _ rfl, BA.cell 1 _ rfl, BA.cell 2 _ rfl⟩ (fun hHeld => ?_)
    clear hK K
    try simp only [Act.put, List.getElem_toArray, List.getElem_cons_zero, List.getElem_cons_succ, List.setIfInBounds_toArray, List.set_cons_zero, List.set_cons_succ]
    refine wpAnyH_done (by kernel_rfl) ?_ _
    rotate_left
    all_goals
      go_wp2_with fail
      go_meet
      exact ⟨go, ge, ai', ci', ap', cp', rfl, BA, BR, BO2, hrow, owni, ownp, hdis, bb, zW, zge, zgo, hgg⟩
  case rest =>
    clear BA BR bb zz
    obtain ⟨go, ge, ai', ci', ap', cp', rfl, BA, BR, BO, hrow, owni, ownp, hdis, bb, zW, zge, zgo, hgg⟩ := hcut
    have hgi := rowIs_ne_own hrow owni (by decide)
    have hgp := rowIs_ne_own hrow ownp (by decide)
    have hc0 := BA.cell 0 _ rfl
    clear BA
    obtain ⟨L, hL⟩ : ∃ L, L = wc.heap.size := ⟨_, rfl⟩
    have zL1 : L ≤ wc.heap.size := by omega
    have zL2 : go < L := by have := BO.lt; omega
    have zL3 : w.heap.size + 1 + 1 ≤ L := by omega
    have zL4 : ge < L := by have := hrow.lt; omega
    rw [← hL] at owni ownp
    clear hL
    go_wp2_with fail
    clear hc0
    go_loopw [20] (fun i wr => ∃ k : Nat, k ≤ N.ends.length ∧ i = .int .i64 k ∧ ∃ vo, Bx wr go 29 #[.slice (some ⟨ge, 0, none⟩) N.ends.length N.ends.length, .slice ai' N.ids.length ci', .slice ap' N.inputs.length cp'] ∧ RowsTo wr ge N.ends vo k ∧ OwI wr (w.heap.size + 1 + 1) L ai' ci' N.ids ∧ OwI wr (w.heap.size + 1 + 1) L ap' cp' N.inputs ∧ Bx wr (w.heap.size + 1) 29 #[.slice none 0 0, .slice none 0 0, .slice none 0 0] ∧ Below w.heap.size w wr ∧ L ≤ wr.heap.size) (fun i _ => N.ends.length - (intOf i).toNat)
    case atStart => exact ⟨0, Nat.zero_le _, rfl, fun _ => (none, 0), BO, ⟨⟨_, hrow, fun x hx => absurd hx (by omega)⟩, fun x hx => absurd hx (by omega), fun x y hx => absurd hx (by omega)⟩, owni, ownp, BR, bb, zL1⟩
    case round =>
      clear BO owni ownp BR bb hrow
      obtain ⟨k, hk, rfl, vo, BO, hE, owni, ownp, BR, bb, zr⟩ := hrel
      by_cases hlt : k < N.ends.length
      · have hL1 := HROW.out k hlt
        obtain ⟨g, off, hae, _, hc1⟩ := Rd.at (h1.below (bb.mono hB)).1 hlt
        have hrd := (h1.below (bb.mono hB)).2 k hlt
        rw [hae]
        go_wp2_with fail
        clear hc1 hae
        replace BO : Bx wr.drew go 29 #[.slice (some ⟨ge, 0, none⟩) N.ends.length N.ends.length, .slice ai' N.ids.length ci', .slice ap' N.inputs.length cp'] := BO
        replace hE : RowsTo wr.drew ge N.ends vo k := hE
        replace owni : OwI wr.drew (w.heap.size + 1 + 1) L ai' ci' N.ids := owni
        replace ownp : OwI wr.drew (w.heap.size + 1 + 1) L ap' cp' N.inputs := ownp
        replace BR : Bx wr.drew (w.heap.size + 1) 29 #[.slice none 0 0, .slice none 0 0, .slice none 0 0] := BR
        replace bb := bb.drew
        replace hrd : RdE wr.drew B (vs k).1 (rowOf N.ends k) := hrd
        replace zr : L ≤ wr.drew.heap.size := zr
        refine wp_region_held_drew (S := fun X => X.cell? ⟨go, 0, none⟩ = some (.slice (some ⟨ge, 0, none⟩) N.ends.length N.ends.length)) (by kernel_rfl) (BO.cell 0 _ rfl) (fun hHeld => ?_)
        generalize wr.drew = wq at *
        refine wpAnyH_take (i := 0) (v := ?_) rfl (by kernel_rfl) (by kernel_rfl) (by kernel_rfl) (fun _ _ _ h => h) (Or.inl ⟨by rfl, ?_⟩) (by assumption) ?_
        rotate_left
        · (intro w hSw; (try dsimp only at hSw); go_simp; try with_reducible rfl)
        try simp only [Act.put, List.getElem_toArray, List.getElem_cons_zero, List.getElem_cons_succ, List.setIfInBounds_toArray, List.set_cons_zero, List.set_cons_succ]
        refine wpAnyH_take (i := 1) (v := ?_) rfl (by kernel_rfl) (by kernel_rfl) (by kernel_rfl) (fun _ _ _ h => h) (Or.inl ⟨by rfl, ?_⟩) (by assumption) ?_
        rotate_left
        · (intro w hSw; (try dsimp only at hSw); go_simp; try with_reducible rfl)
        try simp only [Act.put, List.getElem_toArray, List.getElem_cons_zero, List.getElem_cons_succ, List.setIfInBounds_toArray, List.set_cons_zero, List.set_cons_succ]
        refine wpAnyH_take (i := 2) (v := ?_) rfl (by kernel_rfl) (by kernel_rfl) (by kernel_rfl) (fun _ _ _ h => h) (Or.inl ⟨by rfl, ?_⟩) (by assumption) ?_
        rotate_left
        · (intro w hSw; (try dsimp only at hSw); go_simp; try with_reducible rfl)
        try simp only [Act.put, List.getElem_toArray, List.getElem_cons_zero, List.getElem_cons_succ, List.setIfInBounds_toArray, List.set_cons_zero, List.set_cons_succ]
        refine wpAnyH_take (i := 3) (v := ?_) rfl (by kernel_rfl) (by kernel_rfl) (by kernel_rfl) (fun _ _ _ h => h) (Or.inl ⟨by rfl, ?_⟩) (by assumption) ?_
        rotate_left
        · (intro w hSw; (try dsimp only at hSw); go_simp; try with_reducible rfl)
        try simp only [Act.put, List.getElem_toArray, List.getElem_cons_zero, List.getElem_cons_succ, List.setIfInBounds_toArray, List.set_cons_zero, List.set_cons_succ]
        refine wpAnyH_ready (rs := [4]) (by kernel_rfl) (by simp) ?_
        refine AllReadyH.cons (o := _) rfl (fun K hK => ?_) AllReadyH.nil
        go_simp
        refine (cloneE_any _ _ (rowOf N.ends k) _ B hrd (by omega) hL1).mono ?_
        rintro e w2 ⟨a2, c2, rfl, own2, bel2⟩
        have hst := hE.step bel2 own2
        obtain ⟨⟨F, hr, _⟩, _⟩ := hE.new bel2
        have hcA := hr.cell (i := k) hlt
        have hfA := hr.frozen k
        obtain ⟨u, hu⟩ : ∃ u, F k = u := ⟨_, rfl⟩
        rw [hu] at hcA
        clear hu hr hE own2
        replace BO := BO.new bel2
        replace BR := BR.new bel2
        replace owni := Ow.new owni bel2
        replace ownp := Ow.new ownp bel2
        have z2 := bel2.size
        replace bb := bb.trans (bel2.mono bb.size)
        clear bel2 hrd
        refine hK.out _ _ (BO.cell 0 _ rfl) (fun hHeld => ?_)
        clear hK K
        try simp only [Act.put, List.getElem_toArray, List.getElem_cons_zero, List.getElem_cons_succ, List.setIfInBounds_toArray, List.set_cons_zero, List.set_cons_succ]
        refine wpAnyH_take (i := 5) (v := ?_) rfl (by kernel_rfl) (by kernel_rfl) (by kernel_rfl) (fun _ _ _ h => h) (Or.inl ⟨by rfl, ?_⟩) (by assumption) ?_
        rotate_left
        · (intro w hSw; (try dsimp only at hSw); go_simp; try with_reducible rfl)
        try simp only [Act.put, List.getElem_toArray, List.getElem_cons_zero, List.getElem_cons_succ, List.setIfInBounds_toArray, List.set_cons_zero, List.set_cons_succ]
        refine wpAnyH_ready (rs := [6]) (by kernel_rfl) (by simp) ?_
        refine AllReadyH.cons (o := _) rfl (fun K hK => ?_) AllReadyH.nil
        go_simp
        clear hcA hfA
        have fr8 := fr_set w2 ge k (.slice a2 (rowOf N.ends k).length c2)
        replace BO := BO.far (p := ⟨ge, k, none⟩) (Ne.symm hgg) (.slice a2 (rowOf N.ends k).length c2)
        replace BR := BR.far (p := ⟨ge, k, none⟩) (by simp; omega) (.slice a2 (rowOf N.ends k).length c2)
        replace owni := Ow.frB owni fr8 (fun x hx hc => hgi (hc ▸ hx))
        replace ownp := Ow.frB ownp fr8 (fun x hx hc => hgp (hc ▸ hx))
        replace bb := bb.trans (fr8.below (B := w.heap.size) (fun k h1 h2 hc => by omega) bb.size)
        have z8 := fr8.size
        generalize w2.setCell ⟨ge, k, none⟩ (.slice a2 (rowOf N.ends k).length c2) = w8 at *
        clear fr8
        refine hK.out _ _ (BO.cell 0 _ rfl) (fun hHeld => ?_)
        clear hK K
        try simp only [Act.put, List.getElem_toArray, List.getElem_cons_zero, List.getElem_cons_succ, List.setIfInBounds_toArray, List.set_cons_zero, List.set_cons_succ]
        refine wpAnyH_done (by kernel_rfl) ?_ _
        go_wp2_with fail
        go_roundw
        case rel => exact ⟨k + 1, by omega, by go_num, _, BO, hst, owni, ownp, BR, bb, by omega⟩
        case measure => simp [intOf]; omega
      · obtain rfl : k = N.ends.length := by omega
        have hE2 := hE.all (by unfold maxLen; omega)
        have c0 := BO.cell 0 _ rfl
        have c1 := BO.cell 1 _ rfl
        have c2 := BO.cell 2 _ rfl
        have e0 := BR.cell 0 _ rfl
        have e1 := BR.cell 1 _ rfl
        have e2 := BR.cell 2 _ rfl
        have f0 := BR.frozen 0
        have f1 := BR.frozen 1
        have f2 := BR.frozen 2
        clear hE
        go_wp2_with fail
        clear c0 c1 c2 e0 e1 e2 f0 f1 f2
        generalize hW : World.setCell _ _ _ = W
        have B6 : Bx W (w.heap.size + 1) 29 #[.slice (some ⟨ge, 0, none⟩) N.ends.length N.ends.length, .slice ai' N.ids.length ci', .slice ap' N.inputs.length cp'] := by rw [← hW]; exact ((BR.set 0 _).set 1 _).set 2 _
        have fr6 : Fr (fun k => k = w.heap.size + 1) wr W := by rw [← hW]; exact fr3 _ _ _ _ _
        clear hW
        have z6 := fr6.size
        have d0 := B6.cell 0 _ rfl
        have d1 := B6.cell 1 _ rfl
        have d2 := B6.cell 2 _ rfl
        refine bodyPost_ret (v := .agg #[.slice (some ⟨ge, 0, none⟩) N.ends.length N.ends.length, .slice ai' N.ids.length ci', .slice ap' N.inputs.length cp']) (by simp [results, Try.results77, go_sem, d0, d1, d2]) rfl ?_
        exact ⟨_, rfl, ⟨_, _, vo, ai', ci', ap', cp', rfl, RowsAt.wide (RowsAt.fr hE2 fr6 (fun k h1 h2 hc => by omega)) (by omega) (by omega), Ow.wide (Ow.fr owni fr6 (fun k h1 h2 hc => by omega)) (by omega) (by omega), Ow.wide (Ow.fr ownp fr6 (fun k h1 h2 hc => by omega)) (by omega) (by omega), hdis⟩, bb.trans (fr6.below (fun k h1 h2 hc => by omega) bb.size)⟩
end Go.Proofs.Ytlooinhdehkcdaa
