/- Networks made of edges: buMade; PathNetwork. -/
import Derived.Test.YtpfjglheinomiaaMade
import Derived.Test.YtpfjglheinomiaaEdge
namespace Go.Proofs.Ytpfjglheinomiaa
open Go.RowKit
set_option linter.unusedVariables false
set_option linter.unusedSimpArgs false


theorem ifN_small {ok : Bool} {N : Net} (h : ok = true → NetSmall N) : NetSmall (ifN ok N) := by
  cases ok with
  | true => exact h rfl
  | false => show NetSmall nilN; unfold NetSmall nilN; decide
theorem NetAt.shape {w : World} {lo hi : Nat} {v : Value} {N : Net} (h : NetAt w lo hi v N) : ∃ a c ai ci ap cp, v = .agg #[.slice a N.ends.length c, .slice ai N.ids.length ci, .slice ap N.inputs.length cp] ∧ NetAt w lo hi (.agg #[.slice a N.ends.length c, .slice ai N.ids.length ci, .slice ap N.inputs.length cp]) N := by
  obtain ⟨a, c, vs, ai, ci, ap, cp, hv, _⟩ := id h
  exact ⟨a, c, ai, ci, ap, cp, hv, hv ▸ h⟩
theorem total_set {α : Type} (rows : List (List α)) (v : Nat) (r : List α) (hv : v < rows.length) : Total (rows.set v r) + (rowOf rows v).length = Total rows + r.length := by
  induction rows generalizing v with
  | nil => exact absurd hv (Nat.not_lt_zero _)
  | cons x xs ih =>
    cases v with
    | zero => simp [Total, rowOf]; omega
    | succ v =>
      have h := ih v (by simpa using hv)
      simp only [List.set_cons_succ, Total, List.map_cons, List.sum_cons] at h ⊢
      have e : rowOf (x :: xs) (v + 1) = rowOf xs v := rfl
      rw [e]
      omega
theorem total_addP (rows : Rows2) (v : Nat) (x y : Int) (hv : v < rows.length) : Total (addP rows v x y) = Total rows + 1 := by
  have h := total_set rows v (rowOf rows v ++ [(x, y)]) hv
  rw [List.length_append] at h
  simp only [List.length_cons, List.length_nil] at h
  unfold addP
  omega
theorem total_joinR (rows : Rows2) (v u : Nat) (hv : v < rows.length) (hu : u < rows.length) : Total (joinR rows v u) = Total rows + 2 := by
  rw [joinR, total_addP _ _ _ _ (by rw [addP_length]; exact hu), total_addP _ _ _ _ hv]
theorem total_replicate (n : Nat) : Total (List.replicate n ([] : List (Int × Int))) = 0 := by
  induction n with
  | zero => rfl
  | succ n ih => rw [List.replicate_succ]; unfold Total at *; simp
/-- edges joined one after the other -/
def joinsN (N : Net) : List (Nat × Nat) → Net
  | [] => N
  | e :: es => joinsN (joinN N e.1 e.2) es
theorem joinsN_snoc (N : Net) (es : List (Nat × Nat)) (e : Nat × Nat) : joinsN N (es ++ [e]) = joinN (joinsN N es) e.1 e.2 := by
  induction es generalizing N with
  | nil => rfl
  | cons x xs ih => exact ih _
theorem joinN_length (N : Net) (v u : Nat) : (joinN N v u).ends.length = N.ends.length := joinR_length ..
/-- edges between nodes that are there -/
def EdgesIn (n : Nat) (es : List (Nat × Nat)) : Prop := ∀ e ∈ es, e.1 < n ∧ e.2 < n
theorem joinsN_facts (N : Net) (es : List (Nat × Nat)) (h : EdgesIn N.ends.length es) : (joinsN N es).ends.length = N.ends.length ∧ Total (joinsN N es).ends = Total N.ends + 2 * es.length ∧ (joinsN N es).ids = N.ids ∧ (joinsN N es).inputs = N.inputs := by
  induction es generalizing N with
  | nil => exact ⟨rfl, rfl, rfl, rfl⟩
  | cons x xs ih =>
    have hx := h x (List.mem_cons_self ..)
    have hl := joinN_length N x.1 x.2
    obtain ⟨h1, h2, h3, h4⟩ := ih (joinN N x.1 x.2) (fun e he => by rw [hl]; exact h e (List.mem_cons_of_mem _ he))
    refine ⟨h1.trans hl, ?_, h3, h4⟩
    have ht : Total (joinN N x.1 x.2).ends = Total N.ends + 2 := total_joinR _ _ _ hx.1 hx.2
    show Total (joinsN (joinN N x.1 x.2) xs).ends = _
    rw [h2, ht, List.length_cons]
    omega
theorem joinsN_small {n : Nat} {es : List (Nat × Nat)} (h : EdgesIn n es) (hn : n ≤ 1000) (he : es.length ≤ 10000) : NetSmall (joinsN (emptyN n) es) := by
  have hl : (emptyN n).ends.length = n := List.length_replicate ..
  obtain ⟨h1, h2, h3, h4⟩ := joinsN_facts (emptyN n) es (by rw [hl]; exact h)
  unfold NetSmall
  rw [h1, h2, h3, h4, hl]
  have h5 : Total (emptyN n).ends = 0 := total_replicate n
  have h6 : (emptyN n).inputs.length = n := List.length_replicate ..
  have h7 : (emptyN n).ids.length = 0 := rfl
  omega
theorem EdgesIn.take {n : Nat} {es : List (Nat × Nat)} (h : EdgesIn n es) (k : Nat) : EdgesIn n (es.take k) := fun e he => h e (List.mem_of_mem_take he)
def nthP (es : List (Nat × Nat)) (j : Nat) : Nat × Nat := es.getD j (0, 0)
theorem takeP_snoc (es : List (Nat × Nat)) (k : Nat) (h : k < es.length) : es.take (k + 1) = es.take k ++ [nthP es k] := by
  rw [List.take_succ_eq_append_getElem h]
  unfold nthP; rw [List.getD_eq_getElem?_getD, List.getElem?_eq_getElem h]; rfl
theorem nthP_mem (es : List (Nat × Nat)) (k : Nat) (h : k < es.length) : nthP es k ∈ es := by
  unfold nthP; rw [List.getD_eq_getElem?_getD, List.getElem?_eq_getElem h]; exact List.getElem_mem h
/-- edges as lists of two ints -/
def pairL (es : List (Nat × Nat)) : List (List Int) := es.map fun e => [(e.1 : Int), (e.2 : Int)]
theorem pairL_length (es : List (Nat × Nat)) : (pairL es).length = es.length := List.length_map ..
theorem pairL_row (es : List (Nat × Nat)) (j : Nat) (h : j < es.length) : rowOf (pairL es) j = [((nthP es j).1 : Int), ((nthP es j).2 : Int)] := by
  rw [rowOf_eq_getElem _ _ (by rw [pairL_length]; exact h)]
  simp [pairL, nthP, List.getD, h]
theorem NetAt.frBx {w w' : World} {lo hi b : Nat} {v : Value} {N : Net} {cs : Array Value} (h : NetAt w lo hi v N) (hb : Bx w b 31 cs) (hf : Fr (fun k => k = b) w w') : NetAt w' lo hi v N := by
  obtain ⟨a, c, vs, ai, ci, ap, cp, hv, h1, h2, h3, h4⟩ := h
  exact ⟨a, c, vs, ai, ci, ap, cp, hv, RowsAt.frB h1 hf (fun k hk hc => hb.ne_row h1.1 (by decide) (hc ▸ hk)) (fun j hj k hk hc => hb.ne_row (h1.2.1 j hj) (by decide) (hc ▸ hk)), Ow.frB h2 hf (fun k hk hc => hb.ne_row h2 (by decide) (hc ▸ hk)), Ow.frB h3 hf (fun k hk hc => hb.ne_row h3 (by decide) (hc ▸ hk)), h4⟩
/-- the network lies in the variable at block b -/
def NBx (w : World) (lo b : Nat) (N : Net) : Prop :=
  ∃ a c vs ai ci ap cp, Bx w b 31 #[.slice a N.ends.length c, .slice ai N.ids.length ci, .slice ap N.inputs.length cp] ∧ RowsE w lo w.heap.size a c N.ends vs ∧ OwI w lo w.heap.size ai ci N.ids ∧ OwI w lo w.heap.size ap cp N.inputs ∧ (blk ai ci = none ∨ blk ai ci ≠ blk ap cp)
set_option maxRecDepth 100000 in
set_option maxHeartbeats 800000 in
theorem buMade_any (n : Nat) (es : List (Nat × Nat)) (a : Option Addr) (cap : Nat) (vs : Nat → Option Addr × Nat) (w : World) (lo hi : Nat) (ha : RowsI w lo hi a cap (pairL es) vs) (hh : hi ≤ w.heap.size) (hes : EdgesIn n es) (hn : n ≤ 1000) (hel : es.length ≤ 10000) :
    Calls Try.prog 76 #[.int .i64 n, .slice a es.length cap] w fun e w' => ∃ v, e = .returned v ∧ NetAt w' w.heap.size w'.heap.size v (joinsN (emptyN n) es) ∧ Below w.heap.size w w' := by
  have BR := Bx.made w 31 #[.slice none 0 0, .slice none 0 0, .slice none 0 0]
  have b0 : Below w.heap.size w (w.alloc (.cells #[.slice none 0 0, .slice none 0 0, .slice none 0 0] 31)) := (by repeat (first | exact Below.refl _ _ | assumption | refine Below.alloc ?_ (by first | (simp; done) | (simp; omega) | omega) _ | refine Below.setCell ?_ (by first | (simp; done) | (simp; omega) | omega) _ | refine Below.drew ?_ | refine Below.drewN ?_ _))
  have HES := Lib.hid hes
  clear hes
  go_enter Try.func76, Try.ntmps76
  go_wp2_with fail
  refine (neEmpty_any n _ (by omega)).mono ?_
  rintro e w1 ⟨v1, rfl, own1, bel1⟩
  replace BR := BR.new bel1
  have z1 : w.heap.size + 1 ≤ w1.heap.size := by have := bel1.size; simpa using this
  simp only [World.size_alloc] at own1
  have b1 := b0.trans (bel1.mono b0.size)
  clear b0 bel1
  obtain ⟨ae, ce, aie, cie, ape, cpe, rfl, own1⟩ := own1.shape
  go_upto_region 2 with fail
  have BO := Bx.made w1 31 #[.slice ae (emptyN n).ends.length ce, .slice aie (emptyN n).ids.length cie, .slice ape (emptyN n).inputs.length cpe]
  have b2 : Below w1.heap.size w1 (w1.alloc (.cells #[.slice ae (emptyN n).ends.length ce, .slice aie (emptyN n).ids.length cie, .slice ape (emptyN n).inputs.length cpe] 31)) := (by repeat (first | exact Below.refl _ _ | assumption | refine Below.alloc ?_ (by first | (simp; done) | (simp; omega) | omega) _ | refine Below.setCell ?_ (by first | (simp; done) | (simp; omega) | omega) _ | refine Below.drew ?_ | refine Below.drewN ?_ _))
  generalize w1.alloc (.cells #[.slice ae (emptyN n).ends.length ce, .slice aie (emptyN n).ids.length cie, .slice ape (emptyN n).inputs.length cpe] 31) = w2 at *
  obtain ⟨b, hb⟩ : ∃ b, b = w1.heap.size := ⟨_, rfl⟩
  rw [← hb] at BO ⊢
  replace BR := BR.new b2
  replace own1 := (own1.new b2).wide (Nat.le_refl _) b2.size
  have bb := b1.trans (b2.mono b1.size)
  have zb : w.heap.size + 1 ≤ b := by omega
  have zlo : w.heap.size + 1 ≤ w2.heap.size := by have := b2.size; omega
  clear hb b1 b2
  go_wp2_with fail
  go_loopw [12] (fun i wr => ∃ k : Nat, k ≤ es.length ∧ i = .int .i64 k ∧ ∃ a c ai ci ap cp, Bx wr b 31 #[.slice a (joinsN (emptyN n) (es.take k)).ends.length c, .slice ai (joinsN (emptyN n) (es.take k)).ids.length ci, .slice ap (joinsN (emptyN n) (es.take k)).inputs.length cp] ∧ NetAt wr (w.heap.size + 1) wr.heap.size (.agg #[.slice a (joinsN (emptyN n) (es.take k)).ends.length c, .slice ai (joinsN (emptyN n) (es.take k)).ids.length ci, .slice ap (joinsN (emptyN n) (es.take k)).inputs.length cp]) (joinsN (emptyN n) (es.take k)) ∧ Bx wr w.heap.size 31 #[.slice none 0 0, .slice none 0 0, .slice none 0 0] ∧ Below w.heap.size w wr ∧ w.heap.size + 1 ≤ wr.heap.size) (fun i _ => es.length - (intOf i).toNat)
  case atStart => exact ⟨0, Nat.zero_le _, rfl, ae, ce, aie, cie, ape, cpe, BO, own1, BR, bb, zlo⟩
  case round =>
    clear BO own1 BR bb zlo
    obtain ⟨k, hk, rfl, ax, cx, aix, cix, apx, cpx, BO, own1, BR, bb, zlo⟩ := hrel
    have HSM := Lib.hid (joinsN_small (HES.out.take k) hn (by rw [List.length_take]; omega))
    have HEL := Lib.hid (show (joinsN (emptyN n) (es.take k)).ends.length = n by rw [(joinsN_facts (emptyN n) (es.take k) (by rw [show (emptyN n).ends.length = n from List.length_replicate ..]; exact HES.out.take k)).1]; exact List.length_replicate ..)
    by_cases hlt : k < es.length
    · have HTK := Lib.hid (show joinsN (emptyN n) (es.take (k + 1)) = joinN (joinsN (emptyN n) (es.take k)) (nthP es k).1 (nthP es k).2 by rw [takeP_snoc _ _ hlt, joinsN_snoc])
      have hin := HES.out _ (nthP_mem es k hlt)
      have hkl : k < (pairL es).length := by rw [pairL_length]; exact hlt
      obtain ⟨g, off, hae, _, hc1⟩ := Rd.at (Rd.below (Ow.rd ha.1) (bb.mono hh)) hkl
      have hrd : RdI wr hi (vs k).1 [((nthP es k).1 : Int), ((nthP es k).2 : Int)] := by have h := Rd.below (Ow.rd (ha.2.1 k hkl)) (bb.mono hh); rw [pairL_row _ _ hlt] at h; exact h
      have hrl : (rowOf (pairL es) k).length = 2 := by rw [pairL_row _ _ hlt]; rfl
      rw [hrl] at hc1
      generalize hvu : nthP es k = vu at *
      obtain ⟨v, u⟩ := vu
      generalize hNk : joinsN (emptyN n) (es.take k) = Nk at *
      clear hNk hvu hrl
      obtain ⟨g2, off2, ha2, hg2, hcc⟩ := hrd (by simp)
      have hca : wr.cell? ⟨g2, off2, none⟩ = some (.int .i64 (v : Int)) := hcc 0 (by simp)
      have hcb : wr.cell? ⟨g2, off2 + 1, none⟩ = some (.int .i64 (u : Int)) := hcc 1 (by simp)
      clear hcc
      rw [ha2] at hc1
      rw [hae]
      go_wp2_with fail
      clear hc1 hae ha2
      have hkeep : ∀ X, Below w.heap.size wr X → X.cell? ⟨g2, off2, none⟩ = some (.int .i64 (v : Int)) ∧ X.cell? ⟨g2, off2 + 1, none⟩ = some (.int .i64 (u : Int)) := fun X hX => ⟨(hX.cell (p := ⟨g2, off2, none⟩) (by show g2 < _; omega)).trans hca, (hX.cell (p := ⟨g2, off2 + 1, none⟩) (by show g2 < _; omega)).trans hcb⟩
      have HK := Lib.hid hkeep
      clear hkeep
      refine wp_region_held_drew (S := fun X => X.cell? ⟨g2, off2, none⟩ = some (.int .i64 (v : Int)) ∧ X.cell? ⟨g2, off2 + 1, none⟩ = some (.int .i64 (u : Int))) (by kernel_rfl) (HK.out _ (Below.refl _ _).drew) (fun hHeld => ?_)
      refine wpAnyH_take (i := 1) (v := ?_) rfl (by kernel_rfl) (by kernel_rfl) (by kernel_rfl) (fun _ _ _ h => h) (Or.inl ⟨by rfl, ?_⟩) (by assumption) ?_
      rotate_left
      · (intro w hSw; (try dsimp only at hSw); go_simp; try with_reducible rfl)
      try simp only [Act.put, List.getElem_toArray, List.getElem_cons_zero, List.getElem_cons_succ, List.setIfInBounds_toArray, List.set_cons_zero, List.set_cons_succ]
      refine wpAnyH_take (i := 2) (v := ?_) rfl (by kernel_rfl) (by kernel_rfl) (by kernel_rfl) (fun _ _ _ h => h) (Or.inl ⟨by rfl, ?_⟩) (by assumption) ?_
      rotate_left
      · (intro w hSw; (try dsimp only at hSw); go_simp; try with_reducible rfl)
      try simp only [Act.put, List.getElem_toArray, List.getElem_cons_zero, List.getElem_cons_succ, List.setIfInBounds_toArray, List.set_cons_zero, List.set_cons_succ]
      refine wpAnyH_take (i := 3) (v := ?_) rfl (by kernel_rfl) (by kernel_rfl) (by kernel_rfl) (fun _ _ _ h => h) (Or.inl ⟨by rfl, ?_⟩) (by assumption) ?_
      rotate_left
      · (intro w hSw; (try dsimp only at hSw); go_simp; try with_reducible rfl)
      try simp only [Act.put, List.getElem_toArray, List.getElem_cons_zero, List.getElem_cons_succ, List.setIfInBounds_toArray, List.set_cons_zero, List.set_cons_succ]
      refine wpAnyH_take (i := 4) (v := ?_) rfl (by kernel_rfl) (by kernel_rfl) (by kernel_rfl) (fun _ _ _ h => h) (Or.inl ⟨by rfl, ?_⟩) (by assumption) ?_
      rotate_left
      · (intro w hSw; (try dsimp only at hSw); go_simp; try with_reducible rfl)
      try simp only [Act.put, List.getElem_toArray, List.getElem_cons_zero, List.getElem_cons_succ, List.setIfInBounds_toArray, List.set_cons_zero, List.set_cons_succ]
      refine wpAnyH_take (i := 5) (v := ?_) rfl (by kernel_rfl) (by kernel_rfl) (by kernel_rfl) (fun _ _ _ h => h) (Or.inl ⟨by rfl, ?_⟩) (by assumption) ?_
      rotate_left
      · (intro w hSw; (try dsimp only at hSw); go_simp; try with_reducible rfl)
      try simp only [Act.put, List.getElem_toArray, List.getElem_cons_zero, List.getElem_cons_succ, List.setIfInBounds_toArray, List.set_cons_zero, List.set_cons_succ]
      refine wpAnyH_take (i := 6) (v := ?_) rfl (by kernel_rfl) (by kernel_rfl) (by kernel_rfl) (fun _ _ _ h => h) (Or.inl ⟨by rfl, ?_⟩) (by assumption) ?_
      rotate_left
      · (intro w hSw; (try dsimp only at hSw); go_simp; try with_reducible rfl)
      try simp only [Act.put, List.getElem_toArray, List.getElem_cons_zero, List.getElem_cons_succ, List.setIfInBounds_toArray, List.set_cons_zero, List.set_cons_succ]
      refine wpAnyH_ready (rs := [0]) (by kernel_rfl) (by simp) ?_
      refine AllReadyH.cons (o := _) rfl (fun K hK => ?_) AllReadyH.nil
      have q0 : wr.drew.cell? _ = _ := BO.cell 0 _ rfl
      have q1 : wr.drew.cell? _ = _ := BO.cell 1 _ rfl
      have q2 : wr.drew.cell? _ = _ := BO.cell 2 _ rfl
      go_simp
      clear q0 q1 q2
      refine hK.out _ _ (HK.out _ (Below.refl _ _).drew) (fun hHeld => ?_)
      clear hK K
      try simp only [Act.put, List.getElem_toArray, List.getElem_cons_zero, List.getElem_cons_succ, List.setIfInBounds_toArray, List.set_cons_zero, List.set_cons_succ]
      refine wpAnyH_ready (rs := [7]) (by kernel_rfl) (by simp) ?_
      refine AllReadyH.cons (o := _) rfl (fun K hK => ?_) AllReadyH.nil
      go_simp
      have own1' : NetAt wr.drew (w.heap.size + 1) wr.drew.heap.size _ Nk := own1
      refine (neJoin_any _ Nk v u wr.drew wr.drew.heap.size own1'.in_ (Nat.le_refl _) HSM.out (by rw [HEL.out]; exact hin.1) (by rw [HEL.out]; exact hin.2)).mono ?_
      rintro e w5 ⟨v5, rfl, own5, bel5⟩
      have bel5' : Below wr.heap.size wr w5 := ((Below.refl _ _).drew).trans bel5
      have z5 : wr.heap.size ≤ w5.heap.size := bel5.size
      obtain ⟨a5, c5, ai5, ci5, ap5, cp5, rfl, own5⟩ := own5.shape
      replace own5 : NetAt w5 (w.heap.size + 1) w5.heap.size _ _ := own5.wide zlo (Nat.le_refl _)
      replace BO := BO.new bel5'
      replace BR := BR.new bel5'
      replace bb := bb.trans (bel5'.mono bb.size)
      have hkp := HK.out _ (bel5'.mono (show w.heap.size ≤ wr.heap.size by omega))
      clear own1 own1' bel5
      refine hK.out _ _ hkp (fun hHeld => ?_)
      clear hK K
      try simp only [Act.put, List.getElem_toArray, List.getElem_cons_zero, List.getElem_cons_succ, List.setIfInBounds_toArray, List.set_cons_zero, List.set_cons_succ]
      have q0 := BO.cell 0 _ rfl
      have q1 := BO.cell 1 _ rfl
      have q2 := BO.cell 2 _ rfl
      have f0 := BO.frozen 0
      have f1 := BO.frozen 1
      have f2 := BO.frozen 2
      refine wpAnyH_ready (rs := [8]) (by kernel_rfl) (by simp) ?_
      refine AllReadyH.cons (o := _) rfl (fun K hK => ?_) AllReadyH.nil
      go_simp
      clear q0 q1 q2 f0 f1 f2
      generalize hW : World.setCell _ _ _ = W
      have BO2 : Bx W b 31 #[.slice a5 (joinN Nk v u).ends.length c5, .slice ai5 (joinN Nk v u).ids.length ci5, .slice ap5 (joinN Nk v u).inputs.length cp5] := by rw [← hW]; exact ((BO.set 0 _).set 1 _).set 2 _
      have frW : Fr (fun k => k = b) w5 W := by rw [← hW]; exact fr3 _ _ _ _ _
      clear hW
      have own6 := own5.frBx BO frW
      replace BR := BR.fr frW (by omega)
      have hkp2 := HK.out W ((bel5'.mono (show w.heap.size ≤ wr.heap.size by omega)).trans (frW.below (B := w.heap.size) (fun k h1 h2 hc => by omega) (by omega)))
      replace bb := bb.trans (frW.below (B := w.heap.size) (fun k h1 h2 hc => by omega) bb.size)
      have zW := frW.size
      refine hK.out _ _ hkp2 (fun hHeld => ?_)
      clear hK K
      try simp only [Act.put, List.getElem_toArray, List.getElem_cons_zero, List.getElem_cons_succ, List.setIfInBounds_toArray, List.set_cons_zero, List.set_cons_succ]
      refine wpAnyH_done (by kernel_rfl) ?_ _
      go_wp2_with fail
      go_roundw
      case rel => exact ⟨k + 1, by omega, by go_num, a5, c5, ai5, ci5, ap5, cp5, by rw [HTK.out]; exact BO2, by rw [HTK.out]; exact own6.wide (Nat.le_refl _) zW, BR, bb, by omega⟩
      case measure => simp [intOf]; omega
    · obtain rfl : k = es.length := by omega
      rw [List.take_length] at BO own1
      have q0 := BO.cell 0 _ rfl
      have q1 := BO.cell 1 _ rfl
      have q2 := BO.cell 2 _ rfl
      have e0 := BR.cell 0 _ rfl
      have e1 := BR.cell 1 _ rfl
      have e2 := BR.cell 2 _ rfl
      have f0 := BR.frozen 0
      have f1 := BR.frozen 1
      have f2 := BR.frozen 2
      generalize hNk : joinsN (emptyN n) es = Nk at BO own1 q0 q1 q2
      have HNk := Lib.hid hNk
      clear hNk
      go_wp2_with fail
      clear q0 q1 q2 e0 e1 e2 f0 f1 f2
      generalize hW : World.setCell _ _ _ = W
      have B6 : Bx W (w.heap.size) 31 #[.slice ax Nk.ends.length cx, .slice aix Nk.ids.length cix, .slice apx Nk.inputs.length cpx] := by rw [← hW]; exact ((BR.set 0 _).set 1 _).set 2 _
      have fr6 : Fr (fun k => k = w.heap.size) wr W := by rw [← hW]; exact fr3 _ _ _ _ _
      clear hW
      have z6 := fr6.size
      have d0 := B6.cell 0 _ rfl
      have d1 := B6.cell 1 _ rfl
      have d2 := B6.cell 2 _ rfl
      refine bodyPost_ret (v := .agg #[.slice ax Nk.ends.length cx, .slice aix Nk.ids.length cix, .slice apx Nk.inputs.length cpx]) (by simp [results, Try.results76, go_sem, d0, d1, d2]) rfl ?_
      rw [HNk.out]
      exact ⟨_, rfl, (own1.fr fr6 (fun k h1 h2 hc => by omega)).wide (lo' := w.heap.size) (hi' := W.heap.size) (by omega) (by omega), bb.trans (fr6.below (fun k h1 h2 hc => by omega) bb.size)⟩
/-- connect on a network in a variable -/
theorem connectN_any {lo b v u : Nat} {N : Net} (w : World) (h : NBx w lo b N) (hv : v < N.ends.length) (hu : u < N.ends.length) (hlo : lo ≤ w.heap.size) (hs : NetSmall N) :
    Calls Try.prog 78 #[.pointer (some ⟨b, 0, none⟩), .int .i64 v, .int .i64 u] w fun e w' => e = .returned (.tuple #[]) ∧ NBx w' lo b (joinN N v u) ∧ Fr (fun k => lo ≤ k ∧ k < w.heap.size) w w' := by
  obtain ⟨a, c, vs, ai, ci, ap, cp, hbx, hE, owni, ownp, hdis⟩ := h
  obtain ⟨A, hA, _, _⟩ := Ow.addr hE.1 (by omega)
  subst hA
  refine (connect_any w rfl hbx hE hv hu hlo (by unfold NetSmall at hs; omega) hs.row).mono ?_
  rintro e w' ⟨rfl, vs', hE', hbx', hfr, hrb⟩
  have hp : 0 < N.ends.length := by omega
  refine ⟨rfl, ⟨some ⟨A, 0, none⟩, c, vs', ai, ci, ap, cp, ?_, hE', Ow.top (Ow.frB owni hfr fun k hk => rb_ne hE hp owni hk), Ow.top (Ow.frB ownp hfr fun k hk => rb_ne hE hp ownp hk), hdis⟩, hfr.mono fun k hk hc => rb_in hE hp hc⟩
  have hl : (joinN N v u).ends.length = N.ends.length := joinN_length ..
  rw [hl]
  exact hbx'
theorem NBx.fr {C : Nat → Prop} {w w' : World} {lo b : Nat} {N : Net} (h : NBx w lo b N) (hf : Fr C w w') (hb : ¬ C b) (hc : ∀ k, lo ≤ k → ¬ C k) : NBx w' lo b N := by
  obtain ⟨a, c, vs, ai, ci, ap, cp, hbx, hE, owni, ownp, hdis⟩ := h
  exact ⟨a, c, vs, ai, ci, ap, cp, hbx.fr hf hb, RowsAt.top (RowsAt.fr hE hf fun k h1 _ => hc k h1), Ow.top (Ow.fr owni hf fun k h1 _ => hc k h1), Ow.top (Ow.fr ownp hf fun k h1 _ => hc k h1), hdis⟩
theorem Ow.two {w : World} {lo hi b : Nat} {t : TypeId} {x y : Int} (h : Bx w b t #[.int .i64 x, .int .i64 y]) (hl : lo ≤ b) (hh : b < hi) : Ow w lo hi t 1 (some ⟨b, 0, none⟩) 2 2 (cellI [x, y]) := by
  refine Ow.of_row (F := cellI [x, y]) ⟨_, h, rfl, fun i hi => ?_⟩ hl hh (Nat.le_refl _) (by decide) fun j _ => rfl
  match i, hi with
  | 0, _ => rfl
  | 1, _ => rfl
theorem pairL_snoc (es : List (Nat × Nat)) (v u : Nat) : pairL (es ++ [(v, u)]) = pairL es ++ [[(v : Int), (u : Int)]] := List.map_append ..
/-- the edges of a path -/
def pathE (j : Nat) : List (Nat × Nat) := (List.range j).map fun i => (i, i + 1)
theorem pathE_succ (j : Nat) : pathE (j + 1) = pathE j ++ [(j, j + 1)] := by unfold pathE; rw [List.range_succ, List.map_append]; rfl
theorem pathE_length (j : Nat) : (pathE j).length = j := by simp [pathE]
theorem pathE_in {j k : Nat} (h : j + 1 ≤ k) : EdgesIn k (pathE j) := fun e he => by
  obtain ⟨i, hi, rfl⟩ := List.mem_map.1 he
  rw [List.mem_range] at hi
  exact ⟨by omega, by omega⟩
def pathN (k : Int) : Net := joinsN (emptyN k.toNat) (pathE (k.toNat - 1))
theorem pathN_small {k : Int} (h : inR k 1 40 = true) : NetSmall (pathN k) := by
  have := inR_iff.1 h
  exact joinsN_small (pathE_in (by omega)) (by omega) (by rw [pathE_length]; omega)
set_option maxRecDepth 100000 in
set_option maxHeartbeats 800000 in
theorem specPath_any (k : Int) (w : World) : Calls Try.prog 39 #[.int .i64 k] w (PostN (ifN (inR k 1 40) (pathN k)) (inR k 1 40) w) := by
  have BR := Bx.made w 31 #[.slice none 0 0, .slice none 0 0, .slice none 0 0]
  have b0 : Below w.heap.size w (w.alloc (.cells #[.slice none 0 0, .slice none 0 0, .slice none 0 0] 31)) := (by repeat (first | exact Below.refl _ _ | assumption | refine Below.alloc ?_ (by first | (simp; done) | (simp; omega) | omega) _ | refine Below.setCell ?_ (by first | (simp; done) | (simp; omega) | omega) _ | refine Below.drew ?_ | refine Below.drewN ?_ _))
  have z0 : w.heap.size + 1 ≤ (w.alloc (.cells #[.slice none 0 0, .slice none 0 0, .slice none 0 0] 31)).heap.size := by simp
  cases hk : inR k 1 40 with
  | false =>
    have HK := Lib.hid hk
    clear hk
    go_enter Try.func39, Try.ntmps39
    go_wp2_with fail
    refine (l1In_any _ _ _ _).mono ?_
    rintro e w' ⟨rfl, rfl⟩
    rw [HK.out]
    generalize w.alloc (.cells #[.slice none 0 0, .slice none 0 0, .slice none 0 0] 31) = w0 at *
    have e0 := BR.cell 0 _ rfl
    have e1 := BR.cell 1 _ rfl
    have e2 := BR.cell 2 _ rfl
    have f0 := BR.frozen 0
    have f1 := BR.frozen 1
    have f2 := BR.frozen 2
    go_wp2_with fail
    clear e0 e1 e2 f0 f1 f2
    generalize hW : World.setCell _ _ _ = W
    have B6 : Bx W (w.heap.size) 31 #[.slice none 0 0, .slice none 0 0, .slice none 0 0] := by rw [← hW]; exact ((BR.set 0 _).set 1 _).set 2 _
    have fr6 : Fr (fun k => k = w.heap.size) w0 W := by rw [← hW]; exact fr3 _ _ _ _ _
    clear hW
    have z6 := fr6.size
    have d0 := B6.cell 0 _ rfl
    have d1 := B6.cell 1 _ rfl
    have d2 := B6.cell 2 _ rfl
    refine bodyPost_ret (v := .tuple #[.agg #[.slice none 0 0, .slice none 0 0, .slice none 0 0], .bool false]) (by simp [results, Try.results39, go_sem, d0, d1, d2]) rfl ?_
    exact ⟨_, rfl, NetAt.nilN _ _ _, b0.trans (fr6.below (fun k h1 h2 hc => by omega) b0.size)⟩
  | true =>
    have HK := Lib.hid hk
    obtain ⟨n, rfl⟩ := Int.eq_ofNat_of_zero_le (show 0 ≤ k by have := inR_iff.1 hk; omega)
    have hk2 := inR_iff.1 hk
    clear hk
    go_enter Try.func39, Try.ntmps39
    go_wp2_with fail
    refine (l1In_any _ _ _ _).mono ?_
    rintro e w' ⟨rfl, rfl⟩
    rw [HK.out]
    go_wp2_with fail
    generalize w.alloc (.cells #[.slice none 0 0, .slice none 0 0, .slice none 0 0] 31) = w0 at *
    go_loopw [4, 5] (fun v i wr => ∃ j : Nat, j + 1 ≤ n ∧ i = .int .i64 j ∧ (∃ a cap vo, v = .slice a j cap ∧ RowsI wr w0.heap.size wr.heap.size a cap (pairL (pathE j)) vo) ∧ Below w0.heap.size w0 wr) (fun _ i _ => n - (intOf i).toNat)
    case atStart => exact ⟨0, by omega, rfl, ⟨none, 0, fun _ => (none, 0), rfl, RowsAt.nil _ _ _ _ _⟩, Below.refl _ _⟩
    case round =>
      obtain ⟨j, hj, rfl, ⟨a1, cap1, vo, rfl, own1⟩, bel⟩ := hrel
      have hDw := bel.size
      by_cases hlt : j + 1 < n
      · have HLK := Lib.hid (show (pairL (pathE j)).length = j by rw [pairL_length, pathE_length])
        have hol : Ow wr w0.heap.size wr.heap.size 23 1 a1 j cap1 (fun x => .slice (vo x).1 (rowOf (pairL (pathE j)) x).length (vo x).2) := by have h := own1.1; rwa [HLK.out] at h
        go_wp2_with (at_builtin; refine wpList_app rfl _ _ _ rfl 23 (.slice none 0 0) 1 24 Try.underlying42 ints_info4 rfl (by decide) w0.heap.size wr.heap.size a1 j cap1 _ rfl (Ow.alloc (Ow.alloc hol _) _) ⟨wr.heap.size + 1, 0, none⟩ 1 1 [.slice (some ⟨wr.heap.size, 0, none⟩) 2 2] rfl rfl (by have h := cell_one_new (wr.alloc (.cells #[.int .i64 (j : Int), .int .i64 ((j : Int) + 1)] 3)) (.slice (some ⟨wr.heap.size, 0, none⟩) 2 2) 23; rw [World.size_alloc] at h; exact h) (by simp [Value.oneCell']) (by decide) (by unfold maxLen; omega) (by omega) (by simp; omega) ?_; intro g' cap' w3 own3 hgr _ _)
        go_roundw
        case rel =>
          have bx2 := (Bx.made wr 3 #[.int .i64 (j : Int), .int .i64 ((j : Int) + 1)]).alloc (.cells #[.slice (some ⟨wr.heap.size, 0, none⟩) 2 2] 23)
          refine ⟨j + 1, by omega, by go_num, ⟨some ⟨g', 0, none⟩, cap', setv vo (pairL (pathE j)).length (some ⟨wr.heap.size, 0, none⟩, 2), rfl, ?_⟩, ?_⟩
          · rw [pathE_succ, pairL_snoc]
            refine RowsAt.snoc (w := (wr.alloc (.cells #[.int .i64 (j : Int), .int .i64 ((j : Int) + 1)] 3)).alloc (.cells #[.slice (some ⟨wr.heap.size, 0, none⟩) 2 2] 23)) (hi := wr.heap.size) (RowsAt.new (RowsAt.new own1 ((Below.refl _ _).alloc (Nat.le_refl _) _)) ((Below.refl _ _).alloc (Nat.le_refl _) _)) (by decide) (Ow.two bx2 (Nat.le_refl _) (by simp; omega)) (by omega) (by simp; omega) hgr ?_
            rw [HLK.out]
            exact own3
          · exact below_app ((bel.alloc hDw _).alloc (by simp; omega) _) (Ow.alloc (Ow.alloc hol _) _) hgr (Nat.le_refl _) (by simp; omega)
        case measure => simp [intOf]; omega
      · have HJN := Lib.hid (show j = n - 1 by omega)
        go_wp2_with fail
        have hpl := pathE_length j
        have own1' := own1
        have HC := Lib.hid (buMade_any n (pathE j) a1 cap1 vo wr w0.heap.size wr.heap.size own1 (Nat.le_refl _) (pathE_in (by omega)) (by omega) (by omega))
        rw [hpl] at HC
        refine HC.out.mono ?_
        rintro e w4 ⟨v4, rfl, own4, bel4⟩
        obtain ⟨a4, c4, ai4, ci4, ap4, cp4, rfl, own4⟩ := own4.shape
        replace BR := (BR.new bel).new bel4
        have bb := (b0.trans (bel.mono b0.size)).trans (bel4.mono (by omega))
        have z4 := bel4.size
        have HP := Lib.hid (show ifN true (pathN (n : Int)) = joinsN (emptyN n) (pathE j) by rw [HJN.out]; rfl)
        clear HC hpl own1 own1' b0 bel4
        generalize joinsN (emptyN n) (pathE j) = Nk at *
        have e0 := BR.cell 0 _ rfl
        have e1 := BR.cell 1 _ rfl
        have e2 := BR.cell 2 _ rfl
        have f0 := BR.frozen 0
        have f1 := BR.frozen 1
        have f2 := BR.frozen 2
        go_wp2_with fail
        clear e0 e1 e2 f0 f1 f2
        generalize hW : World.setCell _ _ _ = W
        have B6 : Bx W (w.heap.size) 31 #[.slice a4 Nk.ends.length c4, .slice ai4 Nk.ids.length ci4, .slice ap4 Nk.inputs.length cp4] := by rw [← hW]; exact ((BR.set 0 _).set 1 _).set 2 _
        have fr6 : Fr (fun k => k = w.heap.size) w4 W := by rw [← hW]; exact fr3 _ _ _ _ _
        clear hW
        have z6 := fr6.size
        have d0 := B6.cell 0 _ rfl
        have d1 := B6.cell 1 _ rfl
        have d2 := B6.cell 2 _ rfl
        refine bodyPost_ret (v := .tuple #[.agg #[.slice a4 Nk.ends.length c4, .slice ai4 Nk.ids.length ci4, .slice ap4 Nk.inputs.length cp4], .bool true]) (by simp [results, Try.results39, go_sem, d0, d1, d2]) rfl ?_
        rw [HP.out]
        exact ⟨_, rfl, (own4.fr fr6 (fun k h1 h2 hc => by omega)).wide (lo' := w.heap.size) (hi' := W.heap.size) (by omega) (by omega), bb.trans (fr6.below (fun k h1 h2 hc => by omega) bb.size)⟩
set_option maxRecDepth 100000 in
set_option maxHeartbeats 800000 in
theorem implPath_any (k : Int) (w : World) : Calls Try.prog 40 #[.int .i64 k] w (PostN (ifN (inR k 1 40) (pathN k)) (inR k 1 40) w) := by
  have BR := Bx.made w 31 #[.slice none 0 0, .slice none 0 0, .slice none 0 0]
  have b0 : Below w.heap.size w (w.alloc (.cells #[.slice none 0 0, .slice none 0 0, .slice none 0 0] 31)) := (by repeat (first | exact Below.refl _ _ | assumption | refine Below.alloc ?_ (by first | (simp; done) | (simp; omega) | omega) _ | refine Below.setCell ?_ (by first | (simp; done) | (simp; omega) | omega) _ | refine Below.drew ?_ | refine Below.drewN ?_ _))
  have z0 : w.heap.size + 1 ≤ (w.alloc (.cells #[.slice none 0 0, .slice none 0 0, .slice none 0 0] 31)).heap.size := by simp
  have HKB := Lib.hid (fun h => inR_iff.1 (h : inR k 1 40 = true))
  go_enter Try.func40, Try.ntmps40
  go_wp2_with fail
  refine (emptyNetwork_any k _).mono ?_
  rintro e w1 ⟨v1, rfl, own1, bel1⟩
  obtain ⟨a1, c1, ai1, ci1, ap1, cp1, rfl, own1⟩ := own1.shape
  replace BR := BR.new bel1
  have z1 : w.heap.size + 1 ≤ w1.heap.size := by have := bel1.size; omega
  simp only [World.size_alloc] at own1
  have b1 := b0.trans (bel1.mono b0.size)
  clear b0 bel1 z0
  generalize hR0 : ifN (inR k 1 40) (emptyN k.toNat) = R0 at *
  have HR0 := Lib.hid hR0
  clear hR0
  have BO := Bx.made w1 31 #[.slice a1 R0.ends.length c1, .slice ai1 R0.ids.length ci1, .slice ap1 R0.inputs.length cp1]
  have b2 : Below w1.heap.size w1 (w1.alloc (.cells #[.slice a1 R0.ends.length c1, .slice ai1 R0.ids.length ci1, .slice ap1 R0.inputs.length cp1] 31)) := (by repeat (first | exact Below.refl _ _ | assumption | refine Below.alloc ?_ (by first | (simp; done) | (simp; omega) | omega) _ | refine Below.setCell ?_ (by first | (simp; done) | (simp; omega) | omega) _ | refine Below.drew ?_ | refine Below.drewN ?_ _))
  go_upto_region 2 with fail
  have z2 : w1.heap.size + 1 ≤ (w1.alloc (.cells #[.slice a1 R0.ends.length c1, .slice ai1 R0.ids.length ci1, .slice ap1 R0.inputs.length cp1] 31)).heap.size := by simp
  generalize w1.alloc (.cells #[.slice a1 R0.ends.length c1, .slice ai1 R0.ids.length ci1, .slice ap1 R0.inputs.length cp1] 31) = w2 at *
  obtain ⟨b, hb⟩ : ∃ b, b = w1.heap.size := ⟨_, rfl⟩
  rw [← hb] at BO ⊢
  replace BR := BR.new b2
  replace own1 := (own1.new b2).wide (Nat.le_refl _) b2.size
  have bb := b1.trans (b2.mono b1.size)
  have zb : w.heap.size + 1 ≤ b := by omega
  have zlo : w.heap.size + 1 ≤ w2.heap.size := by omega
  clear hb b1 b2 z2
  cases hk : inR k 1 40 with
  | false =>
    have HK := Lib.hid hk
    clear hk
    have e0 := BR.cell 0 _ rfl
    have e1 := BR.cell 1 _ rfl
    have e2 := BR.cell 2 _ rfl
    have f0 := BR.frozen 0
    have f1 := BR.frozen 1
    have f2 := BR.frozen 2
    go_wp2_with fail
    clear e0 e1 e2 f0 f1 f2
    generalize hW : World.setCell _ _ _ = W
    have B6 : Bx W (w.heap.size) 31 #[.slice none 0 0, .slice none 0 0, .slice none 0 0] := by rw [← hW]; exact ((BR.set 0 _).set 1 _).set 2 _
    have fr6 : Fr (fun k => k = w.heap.size) w2 W := by rw [← hW]; exact fr3 _ _ _ _ _
    clear hW
    have z6 := fr6.size
    have d0 := B6.cell 0 _ rfl
    have d1 := B6.cell 1 _ rfl
    have d2 := B6.cell 2 _ rfl
    refine bodyPost_ret (v := .tuple #[.agg #[.slice none 0 0, .slice none 0 0, .slice none 0 0], .bool false]) (by simp [results, Try.results40, go_sem, d0, d1, d2]) rfl ?_
    rw [HK.out]
    exact ⟨_, rfl, NetAt.nilN _ _ _, bb.trans (fr6.below (fun k h1 h2 hc => by omega) bb.size)⟩
  | true =>
    have HK := Lib.hid hk
    have hk2 := HKB.out hk
    clear hk HKB
    obtain ⟨n, rfl⟩ := Int.eq_ofNat_of_zero_le (show 0 ≤ k by omega)
    obtain rfl : R0 = emptyN n := by rw [← HR0.out, HK.out, Int.toNat_natCast]; rfl
    have hNB : NBx w2 (w.heap.size + 1) b (joinsN (emptyN n) (pathE 0)) := by
      obtain ⟨a, c, vs, ai, ci, ap, cp, hv, h1, h2, h3, h4⟩ := own1
      simp only [Value.agg.injEq, Array.mk.injEq, List.cons.injEq, Value.slice.injEq, true_and, and_true] at hv
      obtain ⟨⟨rfl, rfl⟩, ⟨rfl, rfl⟩, rfl, rfl⟩ := hv
      exact ⟨_, _, vs, _, _, _, _, BO, h1, h2, h3, h4⟩
    clear own1 BO HR0
    go_wp2_with fail
    go_loopw [6] (fun i wr => ∃ j : Nat, j + 1 ≤ n ∧ i = .int .i64 (j + 1 : Nat) ∧ NBx wr (w.heap.size + 1) b (joinsN (emptyN n) (pathE j)) ∧ Bx wr w.heap.size 31 #[.slice none 0 0, .slice none 0 0, .slice none 0 0] ∧ Below w.heap.size w wr ∧ w.heap.size + 1 ≤ wr.heap.size) (fun i _ => n - (intOf i).toNat)
    case atStart => exact ⟨0, by omega, rfl, hNB, BR, bb, zlo⟩
    case round =>
      clear hNB BR bb zlo
      obtain ⟨j, hj, rfl, hNB, BR, bb, zlo⟩ := hrel
      have HF := Lib.hid (joinsN_facts (emptyN n) (pathE j) (by rw [show (emptyN n).ends.length = n from List.length_replicate ..]; exact pathE_in hj))
      have HSM := Lib.hid (joinsN_small (pathE_in hj) (by omega) (by rw [pathE_length]; omega))
      by_cases hlt : j + 1 < n
      · have HC := Lib.hid (connectN_any (v := j) (u := j + 1) wr hNB (by rw [HF.out.1, show (emptyN n).ends.length = n from List.length_replicate ..]; omega) (by rw [HF.out.1, show (emptyN n).ends.length = n from List.length_replicate ..]; exact hlt) zlo HSM.out)
        rw [show ((j + 1 : Nat) : Int) = (j : Int) + 1 from by omega] at HC
        go_wp2_with fail
        refine HC.out.mono ?_
        rintro e w5 ⟨rfl, hNB5, fr5⟩
        replace BR := BR.fr fr5 (by omega)
        have z5 := fr5.size
        replace bb := bb.trans (fr5.below (B := w.heap.size) (fun k h1 h2 hc => by omega) bb.size)
        clear HC hNB fr5
        go_wp2_with fail
        go_roundw
        case rel => exact ⟨j + 1, by omega, by go_num, by rw [pathE_succ, joinsN_snoc]; exact hNB5, BR, bb, by omega⟩
        case measure => simp [intOf]; omega
      · have HP := Lib.hid (show ifN true (pathN (n : Int)) = joinsN (emptyN n) (pathE j) by rw [show j = n - 1 by omega]; rfl)
        clear HF HSM
        generalize joinsN (emptyN n) (pathE j) = Nk at *
        obtain ⟨ax, cx, vx, aix, cix, apx, cpx, BO, hE, owni, ownp, hdis⟩ := hNB
        have q0 := BO.cell 0 _ rfl
        have q1 := BO.cell 1 _ rfl
        have q2 := BO.cell 2 _ rfl
        have e0 := BR.cell 0 _ rfl
        have e1 := BR.cell 1 _ rfl
        have e2 := BR.cell 2 _ rfl
        have f0 := BR.frozen 0
        have f1 := BR.frozen 1
        have f2 := BR.frozen 2
        go_wp2_with fail
        clear q0 q1 q2 e0 e1 e2 f0 f1 f2
        generalize hW : World.setCell _ _ _ = W
        have B6 : Bx W (w.heap.size) 31 #[.slice ax Nk.ends.length cx, .slice aix Nk.ids.length cix, .slice apx Nk.inputs.length cpx] := by rw [← hW]; exact ((BR.set 0 _).set 1 _).set 2 _
        have fr6 : Fr (fun k => k = w.heap.size) wr W := by rw [← hW]; exact fr3 _ _ _ _ _
        clear hW
        have z6 := fr6.size
        have d0 := B6.cell 0 _ rfl
        have d1 := B6.cell 1 _ rfl
        have d2 := B6.cell 2 _ rfl
        refine bodyPost_ret (v := .tuple #[.agg #[.slice ax Nk.ends.length cx, .slice aix Nk.ids.length cix, .slice apx Nk.inputs.length cpx], .bool true]) (by simp [results, Try.results40, go_sem, d0, d1, d2]) rfl ?_
        rw [HK.out, HP.out]
        exact ⟨_, rfl, ⟨ax, cx, vx, aix, cix, apx, cpx, rfl, RowsAt.wide (RowsAt.fr hE fr6 (fun k h1 h2 hc => by omega)) (by omega) (by omega), Ow.wide (Ow.fr owni fr6 (fun k h1 h2 hc => by omega)) (by omega) (by omega), Ow.wide (Ow.fr ownp fr6 (fun k h1 h2 hc => by omega)) (by omega) (by omega), hdis⟩, bb.trans (fr6.below (fun k h1 h2 hc => by omega) bb.size)⟩
set_option maxRecDepth 100000 in
set_option maxHeartbeats 1000000 in
theorem FnExactPathNetwork_walk (k : Int) (w : World) (hk0 : -9223372036854775808 ≤ k) (hk1 : k ≤ 9223372036854775807) :
    Calls Try.prog 9 #[.int .i64 k] w fun e w' => e = .returned (.bool true) ∧ Below w.heap.size w w' := by
  have HS : Hid (∀ w, Calls Try.prog 39 #[.int .i64 k] w (PostN (ifN (inR k 1 40) (pathN k)) (inR k 1 40) w)) := specPath_any k
  have HI : Hid (∀ w, Calls Try.prog 40 #[.int .i64 k] w (PostN (ifN (inR k 1 40) (pathN k)) (inR k 1 40) w)) := implPath_any k
  have hR : NetSmall (ifN (inR k 1 40) (pathN k)) := (ifN_small pathN_small)
  generalize ifN (inR k 1 40) (pathN k) = R at *
  generalize inR k 1 40 = ok at *
  go_enter Try.func9, Try.ntmps9
  go_wp2_with fail
  refine (HS.out _).mono ?_
  rintro e w1 ⟨vw, rfl, ownw, bel1⟩
  obtain ⟨aw, cw, aiw, ciw, apw, cpw, rfl, ownw⟩ := ownw.shape
  have z1 := bel1.size
  have BW := Bx.made w1 31 #[.slice aw R.ends.length cw, .slice aiw R.ids.length ciw, .slice apw R.inputs.length cpw]
  have bx1 : Below w1.heap.size w1 (w1.alloc (.cells #[.slice aw R.ends.length cw, .slice aiw R.ids.length ciw, .slice apw R.inputs.length cpw] 31)) := (by repeat (first | exact Below.refl _ _ | assumption | refine Below.alloc ?_ (by first | (simp; done) | (simp; omega) | omega) _ | refine Below.setCell ?_ (by first | (simp; done) | (simp; omega) | omega) _ | refine Below.drew ?_ | refine Below.drewN ?_ _))
  go_wp2_with fail
  refine (HI.out _).mono ?_
  rintro e w2 ⟨vg, rfl, owng, bel2⟩
  obtain ⟨ag, cg, aig, cig, apg, cpg, rfl, owng⟩ := owng.shape
  simp only [World.size_alloc] at owng
  have z2 : w1.heap.size + 1 ≤ w2.heap.size := by have := bel2.size; simpa using this
  replace ownw := (ownw.new bx1).new bel2
  replace BW := BW.new bel2
  have b2 := bel1.trans ((bx1.mono z1).trans (bel2.mono (by have := bx1.size; omega)))
  clear bel1 bx1 bel2
  have BG := Bx.made w2 31 #[.slice ag R.ends.length cg, .slice aig R.ids.length cig, .slice apg R.inputs.length cpg]
  have bx2 : Below w2.heap.size w2 (w2.alloc (.cells #[.slice ag R.ends.length cg, .slice aig R.ids.length cig, .slice apg R.inputs.length cpg] 31)) := (by repeat (first | exact Below.refl _ _ | assumption | refine Below.alloc ?_ (by first | (simp; done) | (simp; omega) | omega) _ | refine Below.setCell ?_ (by first | (simp; done) | (simp; omega) | omega) _ | refine Below.drew ?_ | refine Below.drewN ?_ _))
  replace BW := BW.new bx2
  have cW0 := BW.cell 0 _ rfl
  have cW1 := BW.cell 1 _ rfl
  have cW2 := BW.cell 2 _ rfl
  go_wp2_with fail
  clear cW0 cW1 cW2
  have zx2 : w2.heap.size + 1 ≤ (w2.alloc (.cells #[.slice ag R.ends.length cg, .slice aig R.ids.length cig, .slice apg R.inputs.length cpg] 31)).heap.size := by simp
  replace ownw := ownw.new bx2
  replace owng := owng.new bx2
  have b3 := b2.trans (bx2.mono b2.size)
  have HBB : Hid ((ok != ok) = false) := by show _ = _; simp
  generalize w2.alloc (.cells #[.slice ag R.ends.length cg, .slice aig R.ids.length cig, .slice apg R.inputs.length cpg] 31) = x2 at *
  clear bx2 b2
  refine (eqNetwork_any _ _ R _ _ _ _ _ owng ownw (by omega) (by omega) hR).mono ?_
  rintro e w3 ⟨rfl, bel3⟩
  replace ownw := ownw.new bel3
  replace owng := owng.new bel3
  replace BW := BW.new bel3
  replace BG := BG.new bel3
  have z3 := bel3.size
  have b4 := b3.trans (bel3.mono b3.size)
  clear b3 bel3
  have cG0 := BG.cell 0 _ rfl
  have cG1 := BG.cell 1 _ rfl
  have cG2 := BG.cell 2 _ rfl
  have hbb := HBB.out
  go_wp2_with fail
  clear cG0 cG1 cG2
  refine (markNetwork_any _ R 1 _ _ _ owng (by omega) hR (by omega)).mono ?_
  rintro e w4 ⟨rfl, owngm, fr4⟩
  replace ownw := ownw.fr fr4 (fun k h1 h2 hc => by omega)
  replace BW := BW.fr fr4 (by omega)
  replace BG := BG.fr fr4 (by omega)
  have z4 := fr4.size
  have b5 := b4.trans (fr4.below (B := w.heap.size) (fun k h1 h2 hc => by omega) (by omega))
  clear b4 fr4 owng
  have cG0 := BG.cell 0 _ rfl
  have cG1 := BG.cell 1 _ rfl
  have cG2 := BG.cell 2 _ rfl
  go_wp2_with fail
  clear cG0 cG1 cG2
  refine (heldNetwork_any _ R 1 _ _ _ owngm (by omega) hR (by omega)).mono ?_
  rintro e w5 ⟨rfl, bel5⟩
  replace ownw := ownw.new bel5
  replace owngm := owngm.new bel5
  replace BW := BW.new bel5
  replace BG := BG.new bel5
  have z5 := bel5.size
  have b6 := b5.trans (bel5.mono b5.size)
  clear b5 bel5
  have hlt : ¬ (((1 + netTot R : Nat) : Int) < 0) := by omega
  go_wp2_with fail
  refine (HI.out _).mono ?_
  rintro e w6 ⟨vh, rfl, ownh, bel6⟩
  obtain ⟨ah, chh, aih, cih, aph, cph, rfl, ownh⟩ := ownh.shape
  replace ownw := ownw.new bel6
  replace owngm := owngm.new bel6
  replace BW := BW.new bel6
  replace BG := BG.new bel6
  have z6 := bel6.size
  have b7 := b6.trans (bel6.mono b6.size)
  clear b6 bel6
  have bx6 : Below w6.heap.size w6 (w6.alloc (.cells #[.slice ah R.ends.length chh, .slice aih R.ids.length cih, .slice aph R.inputs.length cph] 31)) := (by repeat (first | exact Below.refl _ _ | assumption | refine Below.alloc ?_ (by first | (simp; done) | (simp; omega) | omega) _ | refine Below.setCell ?_ (by first | (simp; done) | (simp; omega) | omega) _ | refine Below.drew ?_ | refine Below.drewN ?_ _))
  replace BW := BW.new bx6
  replace BG := BG.new bx6
  have cW0 := BW.cell 0 _ rfl
  have cW1 := BW.cell 1 _ rfl
  have cW2 := BW.cell 2 _ rfl
  go_wp2_with fail
  clear cW0 cW1 cW2
  replace ownw := ownw.new bx6
  replace owngm := owngm.new bx6
  replace ownh := ownh.new bx6
  have b8 := b7.trans (bx6.mono b7.size)
  have zx6 := bx6.size
  generalize w6.alloc (.cells #[.slice ah R.ends.length chh, .slice aih R.ids.length cih, .slice aph R.inputs.length cph] 31) = x6 at *
  clear bx6 b7
  refine (eqNetwork_any _ _ R _ _ _ _ _ ownh ownw (by omega) (by omega) hR).mono ?_
  rintro e w7 ⟨rfl, bel7⟩
  replace owngm := owngm.new bel7
  replace BG := BG.new bel7
  have z7 := bel7.size
  have b9 := b8.trans (bel7.mono b8.size)
  clear b8 bel7
  have cG0 := BG.cell 0 _ rfl
  have cG1 := BG.cell 1 _ rfl
  have cG2 := BG.cell 2 _ rfl
  go_wp2_with fail
  clear cG0 cG1 cG2
  refine (heldNetwork_any _ R 1 _ _ _ owngm (by omega) hR (by omega)).mono ?_
  rintro e w8 ⟨rfl, bel8⟩
  go_wp2_with fail
  go_ret
  exact ⟨rfl, b9.trans (bel8.mono b9.size)⟩
end Go.Proofs.Ytpfjglheinomiaa
