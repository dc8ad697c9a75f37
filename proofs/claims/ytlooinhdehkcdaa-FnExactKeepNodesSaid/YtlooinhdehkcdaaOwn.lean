/- Copies: spec's l1Own and neOwn, impl's copyNetwork. -/
import Derived.Test.YtlooinhdehkcdaaEmpty
import Derived.Test.YtlooinhdehkcdaaNeGood
import Derived.Test.YtlooinhdehkcdaaJoin
import Derived.Deep.Upon
namespace Go.Proofs.Ytlooinhdehkcdaa
open Go.RowKit
set_option linter.unusedVariables false
set_option linter.unusedSimpArgs false

theorem takeR_snoc {α : Type} (rows : List (List α)) (k : Nat) (h : k < rows.length) : rows.take (k + 1) = rows.take k ++ [rowOf rows k] := by
  rw [List.take_succ_eq_append_getElem h, rowOf_eq_getElem _ _ h]
theorem RdE.below {w w' : World} {B : Nat} {a : Option Addr} {es : List (Int × Int)} (h : RdE w B a es) (hb : Below B w w') : RdE w' B a es := Rd.below h hb
/-- append onto nothing: a copy -/
theorem run_app0 {P : Program} (w : World) (t ty e : TypeId) (z : Value) (size bytes : Nat) (ht : P.underlying t = some (.slice e)) (hinfo : (P.info? e).map (fun i => (i.zero, i.size, i.bytes)) = some (some z, size, bytes)) (hzs : z.cells.size = size) (hsz : 0 < size)
    (ao : Option Addr) (ax : Option Addr) (B m c : Nat) (f : Nat → Value) (hf : Rd w B ax (m * size) f) (h1 : ∀ j, (f j).oneCell' = true) (h63 : m ≤ maxLen) (hbytes : m * bytes ≤ 140737488355328) :
    ∃ a' cap' w', (Builtin.append_ #[t, t] ty #[.slice ao 0 0, .slice ax m c]).run P w = .ok (.slice a' m cap') w' ∧ Ow w' w.heap.size w'.heap.size e size a' m cap' f ∧ Below w.heap.size w w' := by
  obtain ⟨i, hi', hz, hsize, hby⟩ := info_parts hinfo
  rcases Nat.eq_zero_or_pos m with h0 | h0
  · subst h0
    refine ⟨ao, 0, w, ?_, Ow.nil _ _ _ _ _ _ _, Below.refl _ _⟩
    refine run_append_nothing w t t ty e i ht hi' ao 0 0 (Nat.le_refl _) _ ?_
    cases ax with
    | none => exact Src.ofNil _ ht c
    | some a => exact Src.ofSlice _ ht a 0 c [] (by simp) (fun j u hj => by simp at hj) (fun u hu => by simp at hu)
  · obtain ⟨g, off, rfl, hg, hc⟩ := hf (Nat.mul_pos h0 hsz)
    obtain ⟨g', cap', w', hr, hown, hgr, hb, hcp⟩ := run_app (P := P) w t ty e z size bytes ht hinfo hzs hsz w.heap.size w.heap.size ao 0 0 f (Ow.nil _ _ _ _ _ _ _) ⟨g, off, none⟩ m c ((List.range (m * size)).map f) (by simp)
      (fun j u hj => by
        rcases Nat.lt_or_ge j (m * size) with h | h
        · rw [Addr.add_lit, hc j h, ← hj]; simp [h]
        · rw [List.getElem?_eq_none (by simpa using h)] at hj; cases hj)
      (fun u hu => by
        obtain ⟨j, _, rfl⟩ := List.mem_map.1 hu
        exact h1 j) h0 (by omega) (by rw [Nat.zero_add]; exact hbytes) (Nat.le_refl _)
    rw [Nat.zero_add] at hr hown
    refine ⟨_, cap', w', hr, hown.congr fun j hj => ?_, (Below.refl _ _).grown hgr (Nat.le_refl _) fun k hk => by cases hk⟩
    unfold app
    rw [Nat.zero_mul, if_neg (by omega), Nat.sub_zero]
    simp [List.getD_eq_getElem?_getD, hj]
section
variable {P : Program} {w : World} {ops : Array Oper} {rest : List Oper} {o : Oper} {a : Act} {Q : Exit → Act → World → Prop} {K : Act → World → Prop}
theorem wpList_app0 (hgd : o.guard = none) (s x : Operand) (t : TypeId) (ho : o.op = .call { callee := .builtin .append, args := #[s, x], argTypes := #[t, t] })
    (e : TypeId) (z : Value) (size bytes : Nat) (ht : P.underlying t = some (.slice e)) (hinfo : (P.info? e).map (fun i => (i.zero, i.size, i.bytes)) = some (some z, size, bytes)) (hzs : z.cells.size = size) (hsz : 0 < size)
    (ao ax : Option Addr) (B m c : Nat) (f : Nat → Value) (hs : a.eval s = .slice ao 0 0) (hx : a.eval x = .slice ax m c) (hf : Rd w B ax (m * size) f) (h1 : ∀ j, (f j).oneCell' = true) (h63 : m ≤ maxLen) (hbytes : m * bytes ≤ 140737488355328)
    (h : ∀ a' cap' w', Ow w' w.heap.size w'.heap.size e size a' m cap' f → Below w.heap.size w w' → wpList P ops Q rest (a.put o.dst (.slice a' m cap')) w') :
    wpList P ops Q (o :: rest) a w := by
  refine wpList_plain hgd fun K hK => ?_
  obtain ⟨a', cap', w', hr, h2, h3⟩ := run_app0 (P := P) w t o.type e z size bytes ht hinfo hzs hsz ao ax B m c f hf h1 h63 hbytes
  unfold Oper.wp execOp
  simp only [ho, resolve, invoke, builtin, Sem.run_bind, Sem.run_pure, Result.andThen_ok, List.map_toArray, List.map_cons, List.map_nil, hs, hx, hr]
  exact hK _ _ (h a' cap' w' h2 h3)
theorem step_app0 (s x : Operand) (t : TypeId) (ho : o.op = .call { callee := .builtin .append, args := #[s, x], argTypes := #[t, t] })
    (e : TypeId) (z : Value) (size bytes : Nat) (ht : P.underlying t = some (.slice e)) (hinfo : (P.info? e).map (fun i => (i.zero, i.size, i.bytes)) = some (some z, size, bytes)) (hzs : z.cells.size = size) (hsz : 0 < size)
    (ao ax : Option Addr) (B m c : Nat) (f : Nat → Value) (hs : a.eval s = .slice ao 0 0) (hx : a.eval x = .slice ax m c) (hf : Rd w B ax (m * size) f) (h1 : ∀ j, (f j).oneCell' = true) (h63 : m ≤ maxLen) (hbytes : m * bytes ≤ 140737488355328)
    (h : ∀ a' cap' w', Ow w' w.heap.size w'.heap.size e size a' m cap' f → Below w.heap.size w w' → K (a.put o.dst (.slice a' m cap')) w') :
    Oper.wp P o a w K Q := by
  obtain ⟨a', cap', w', hr, h2, h3⟩ := run_app0 (P := P) w t o.type e z size bytes ht hinfo hzs hsz ao ax B m c f hf h1 h63 hbytes
  unfold Oper.wp execOp
  simp only [ho, resolve, invoke, builtin, Sem.run_bind, Sem.run_pure, Result.andThen_ok, List.map_toArray, List.map_cons, List.map_nil, hs, hx, hr]
  exact h a' cap' w' h2 h3
end
set_option maxHeartbeats 400000 in
theorem l1Own_any (a : Option Addr) (cap : Nat) (zs : List Int) (w : World) (B : Nat) (ha : RdI w B a zs) (hB : B ≤ w.heap.size) (hl : zs.length ≤ 1048576) :
    Calls Try.prog 82 #[.slice a zs.length cap] w fun e w' => ∃ a' cap', e = .returned (.slice a' zs.length cap') ∧ OwI w' w.heap.size w'.heap.size a' cap' zs ∧ Below w.heap.size w w' := by
  have b0 : Below w.heap.size w (w.alloc (.cells #[] 3)) := (by repeat (first | exact Below.refl _ _ | assumption | refine Below.alloc ?_ (by first | (simp; done) | (simp; omega) | omega) _ | refine Below.setCell ?_ (by first | (simp; done) | (simp; omega) | omega) _ | refine Below.drew ?_ | refine Below.drewN ?_ _))
  have ha1 : Rd (w.alloc (.cells #[] 3)) B a (zs.length * 1) (fun j => .int .i64 (nth zs j)) := by rw [Nat.mul_one]; exact Rd.below ha (b0.mono hB)
  go_enter Try.func82, Try.ntmps82
  go_wp2_with (at_builtin; refine wpList_app0 rfl _ _ _ rfl 3 (.int .i64 0) 1 8 Try.underlying23 int_info rfl (by decide) (some ⟨w.heap.size, 0, none⟩) a B zs.length cap _ rfl rfl ha1 (fun _ => rfl) (by unfold maxLen; omega) (by omega) ?_; intro a' cap' w' own' bel')
  go_ret
  exact ⟨a', cap', rfl, Ow.wide own' b0.size (Nat.le_refl _), b0.trans (bel'.mono b0.size)⟩
set_option maxRecDepth 100000 in
set_option maxHeartbeats 800000 in
theorem neOwn_any (V : Value) (N : Net) (w : World) (B : Nat) (hv : NetIn w B V N) (hB : B ≤ w.heap.size) (hs : NetSmall N) :
    Calls Try.prog 72 #[V] w fun e w' => ∃ v, e = .returned v ∧ NetAt w' w.heap.size w'.heap.size v N ∧ Below w.heap.size w w' := by
  obtain ⟨a, c, vs, ai, ci, ap, cp, rfl, h1, h2, h3, _⟩ := hv
  have HROW := Lib.hid hs.row
  unfold NetSmall at hs
  have BA := (Bx.made w 29 #[.slice a N.ends.length c, .slice ai N.ids.length ci, .slice ap N.inputs.length cp]).alloc (.cells #[.slice none 0 0, .slice none 0 0, .slice none 0 0] 29)
  have BR := Bx.made (w.alloc (.cells #[.slice a N.ends.length c, .slice ai N.ids.length ci, .slice ap N.inputs.length cp] 29)) 29 #[.slice none 0 0, .slice none 0 0, .slice none 0 0]
  have bb : Below w.heap.size w ((w.alloc (.cells #[.slice a N.ends.length c, .slice ai N.ids.length ci, .slice ap N.inputs.length cp] 29)).alloc (.cells #[.slice none 0 0, .slice none 0 0, .slice none 0 0] 29)) := (by repeat (first | exact Below.refl _ _ | assumption | refine Below.alloc ?_ (by first | (simp; done) | (simp; omega) | omega) _ | refine Below.setCell ?_ (by first | (simp; done) | (simp; omega) | omega) _ | refine Below.drew ?_ | refine Below.drewN ?_ _))
  rw [World.size_alloc] at BR
  have zz : w.heap.size + 1 + 1 ≤ ((w.alloc (.cells #[.slice a N.ends.length c, .slice ai N.ids.length ci, .slice ap N.inputs.length cp] 29)).alloc (.cells #[.slice none 0 0, .slice none 0 0, .slice none 0 0] 29)).heap.size := by simp
  go_enter Try.func72, Try.ntmps72
  go_wp2_with fail
  generalize (w.alloc (.cells #[.slice a N.ends.length c, .slice ai N.ids.length ci, .slice ap N.inputs.length cp] 29)).alloc (.cells #[.slice none 0 0, .slice none 0 0, .slice none 0 0] 29) = w0 at *
  replace BA : Bx w0.drew w.heap.size 29 #[.slice a N.ends.length c, .slice ai N.ids.length ci, .slice ap N.inputs.length cp] := BA
  replace BR : Bx w0.drew (w.heap.size + 1) 29 #[.slice none 0 0, .slice none 0 0, .slice none 0 0] := BR
  replace bb := bb.drew
  replace zz : w.heap.size + 1 + 1 ≤ w0.drew.heap.size := zz
  refine wp_region_held_drew (S := fun X => X.cell? ⟨w.heap.size, 1, none⟩ = some (.slice ai N.ids.length ci) ∧ X.cell? ⟨w.heap.size, 2, none⟩ = some (.slice ap N.inputs.length cp)) (by kernel_rfl) ⟨BA.cell 1 _ rfl, BA.cell 2 _ rfl⟩ (fun hHeld => ?_)
  generalize w0.drew = wd at *
  refine wpAnyH_take (i := 0) (v := ?_) rfl (by kernel_rfl) (by kernel_rfl) (by kernel_rfl) (fun _ _ _ h => h) (Or.inl ⟨by rfl, ?_⟩) (by assumption) ?_
  rotate_left
  · (intro w hSw; (try dsimp only at hSw); go_simp; try with_reducible rfl)
  try simp only [Act.put, List.getElem_toArray, List.getElem_cons_zero, List.getElem_cons_succ, List.setIfInBounds_toArray, List.set_cons_zero, List.set_cons_succ]
  refine wpAnyH_take (i := 1) (v := ?_) rfl (by kernel_rfl) (by kernel_rfl) (by kernel_rfl) (fun _ _ _ h => h) (Or.inl ⟨by rfl, ?_⟩) (by assumption) ?_
  rotate_left
  · (intro w hSw; (try dsimp only at hSw); go_simp; try with_reducible rfl)
  try simp only [Act.put, List.getElem_toArray, List.getElem_cons_zero, List.getElem_cons_succ, List.setIfInBounds_toArray, List.set_cons_zero, List.set_cons_succ]
  refine wpAnyH_take (i := 3) (v := ?_) rfl (by kernel_rfl) (by kernel_rfl) (by kernel_rfl) (fun _ _ _ h => h) (Or.inl ⟨by rfl, ?_⟩) (by assumption) ?_
  rotate_left
  · (intro w hSw; (try dsimp only at hSw); go_simp; try with_reducible rfl)
  try simp only [Act.put, List.getElem_toArray, List.getElem_cons_zero, List.getElem_cons_succ, List.setIfInBounds_toArray, List.set_cons_zero, List.set_cons_succ]
  refine wpAnyH_take (i := 4) (v := ?_) rfl (by kernel_rfl) (by kernel_rfl) (by kernel_rfl) (fun _ _ _ h => h) (Or.inl ⟨by rfl, ?_⟩) (by assumption) ?_
  rotate_left
  · (intro w hSw; (try dsimp only at hSw); go_simp; try with_reducible rfl)
  try simp only [Act.put, List.getElem_toArray, List.getElem_cons_zero, List.getElem_cons_succ, List.setIfInBounds_toArray, List.set_cons_zero, List.set_cons_succ]
  refine wpAnyH_ready (rs := [2, 7]) (by kernel_rfl) (by simp) ?_
  refine AllReadyH.cons (o := _) rfl (fun K hK => ?_) (AllReadyH.cons (o := _) rfl (fun K hK => ?_) AllReadyH.nil)
  go_simp
  refine (l1Own_any ai ci N.ids _ B (Rd.below (h2) (bb.mono hB)) (Nat.le_trans hB bb.size) (by omega)).mono ?_
  rintro e wi ⟨ai', ci', rfl, owni, beli⟩
  replace BA := BA.new beli
  replace BR := BR.new beli
  have zi := beli.size
  replace bb := bb.trans (beli.mono bb.size)
  skip
  clear beli
  refine hK.out _ _ ⟨BA.cell 1 _ rfl, BA.cell 2 _ rfl⟩ (fun hHeld => ?_)
  clear hK K
  try simp only [Act.put, List.getElem_toArray, List.getElem_cons_zero, List.getElem_cons_succ, List.setIfInBounds_toArray, List.set_cons_zero, List.set_cons_succ]
  refine wpAnyH_ready (rs := [5, 7]) (by kernel_rfl) (by simp) ?_
  refine AllReadyH.cons (o := _) rfl (fun K hK => ?_) (AllReadyH.cons (o := _) rfl (fun K hK => ?_) AllReadyH.nil)
  go_simp
  refine (l1Own_any ap cp N.inputs _ B (Rd.below (h3) (bb.mono hB)) (Nat.le_trans hB bb.size) (by omega)).mono ?_
  rintro e wp ⟨ap', cp', rfl, ownp, belp⟩
  replace BA := BA.new belp
  replace BR := BR.new belp
  replace owni := Ow.new owni belp
  have zp := belp.size
  replace bb := bb.trans (belp.mono bb.size)
  have hdis : blk ai' ci' = none ∨ blk ai' ci' ≠ blk ap' cp' := by
    cases hb : blk ai' ci' with
    | none => exact .inl rfl
    | some x => exact .inr fun he => by have h5 := Ow.blk_in owni hb; have h6 := Ow.blk_in ownp he.symm; omega
  skip
  clear belp
  refine hK.out _ _ ⟨BA.cell 1 _ rfl, BA.cell 2 _ rfl⟩ (fun hHeld => ?_)
  clear hK K
  try simp only [Act.put, List.getElem_toArray, List.getElem_cons_zero, List.getElem_cons_succ, List.setIfInBounds_toArray, List.set_cons_zero, List.set_cons_succ]
  refine wpAnyH_take (i := 6) (v := ?_) rfl (by kernel_rfl) (by kernel_rfl) (by kernel_rfl) (fun _ _ _ h => h) (Or.inl ⟨by rfl, ?_⟩) (by assumption) ?_
  rotate_left
  · (intro w hSw; (try dsimp only at hSw); go_simp; try with_reducible rfl)
  try simp only [Act.put, List.getElem_toArray, List.getElem_cons_zero, List.getElem_cons_succ, List.setIfInBounds_toArray, List.set_cons_zero, List.set_cons_succ]
  refine wpAnyH_ready (rs := [7]) (by kernel_rfl) (by simp) ?_
  refine AllReadyH.cons (o := _) rfl (fun K hK => ?_) AllReadyH.nil
  go_simp
  have BO := Bx.made wp 29 #[.slice none 0 0, .slice none 0 0, .slice none 0 0]
  have ba : Below wp.heap.size wp (wp.alloc (.cells #[.slice none 0 0, .slice none 0 0, .slice none 0 0] 29)) := (by repeat (first | exact Below.refl _ _ | assumption | refine Below.alloc ?_ (by first | (simp; done) | (simp; omega) | omega) _ | refine Below.setCell ?_ (by first | (simp; done) | (simp; omega) | omega) _ | refine Below.drew ?_ | refine Below.drewN ?_ _))
  replace BA := BA.new ba
  replace BR := BR.new ba
  replace owni := Ow.new owni ba
  replace ownp := Ow.new ownp ba
  have zo := ba.size
  replace bb := bb.trans (ba.mono bb.size)
  obtain ⟨go, hgo⟩ : ∃ go, go = wp.heap.size := ⟨_, rfl⟩
  rw [← hgo] at BO ⊢
  have zg1 : wp.heap.size ≤ go := by omega
  have zg2 : go ≤ wp.heap.size := by omega
  clear ba hgo
  generalize wp.alloc (.cells #[.slice none 0 0, .slice none 0 0, .slice none 0 0] 29) = wo at *
  refine hK.out _ _ ⟨BA.cell 1 _ rfl, BA.cell 2 _ rfl⟩ (fun hHeld => ?_)
  clear hK K
  try simp only [Act.put, List.getElem_toArray, List.getElem_cons_zero, List.getElem_cons_succ, List.setIfInBounds_toArray, List.set_cons_zero, List.set_cons_succ]
  have c0 := BO.cell 0 _ rfl
  have c1 := BO.cell 1 _ rfl
  have c2 := BO.cell 2 _ rfl
  have f0 := BO.frozen 0
  have f1 := BO.frozen 1
  have f2 := BO.frozen 2
  refine wpAnyH_ready (rs := [8]) (by kernel_rfl) (by simp) ?_
  refine AllReadyH.cons (o := _) rfl (fun K hK => ?_) AllReadyH.nil
  go_simp
  clear c0 c1 c2 f0 f1 f2
  generalize hW : World.setCell _ _ _ = W
  have BO2 : Bx W go 29 #[.slice none 0 0, .slice ai' N.ids.length ci', .slice ap' N.inputs.length cp'] := by rw [← hW]; exact ((BO.set 0 _).set 1 _).set 2 _
  have frW : Fr (fun k => k = go) wo W := by rw [← hW]; exact fr3 _ _ _ _ _
  replace owni := Ow.wide (lo' := w.heap.size + 1 + 1) (hi' := W.heap.size) (Ow.frB owni frW (fun k hk hc => BO.ne_row owni (by decide) (hc ▸ hk))) (by omega) (by have := frW.size; omega)
  replace ownp := Ow.wide (lo' := w.heap.size + 1 + 1) (hi' := W.heap.size) (Ow.frB ownp frW (fun k hk hc => BO.ne_row ownp (by decide) (hc ▸ hk))) (by omega) (by have := frW.size; omega)
  clear hW BO
  replace BA := BA.fr frW (by omega)
  replace BR := BR.fr frW (by omega)
  replace bb := bb.trans (frW.below (B := w.heap.size) (fun k h1 h2 hc => by omega) bb.size)
  have zW := frW.size
  have zgo := BO2.lt
  refine hK.out _ _ ⟨BA.cell 1 _ rfl, BA.cell 2 _ rfl⟩ (fun hHeld => ?_)
  clear hK K
  try simp only [Act.put, List.getElem_toArray, List.getElem_cons_zero, List.getElem_cons_succ, List.setIfInBounds_toArray, List.set_cons_zero, List.set_cons_succ]
  refine wpAnyH_done (by kernel_rfl) ?_ _
  rotate_left
  go_simp
  have BO := Bx.made wi 29 #[.slice none 0 0, .slice none 0 0, .slice none 0 0]
  have ba : Below wi.heap.size wi (wi.alloc (.cells #[.slice none 0 0, .slice none 0 0, .slice none 0 0] 29)) := (by repeat (first | exact Below.refl _ _ | assumption | refine Below.alloc ?_ (by first | (simp; done) | (simp; omega) | omega) _ | refine Below.setCell ?_ (by first | (simp; done) | (simp; omega) | omega) _ | refine Below.drew ?_ | refine Below.drewN ?_ _))
  replace BA := BA.new ba
  replace BR := BR.new ba
  replace owni := Ow.new owni ba
  have zo := ba.size
  replace bb := bb.trans (ba.mono bb.size)
  obtain ⟨go, hgo⟩ : ∃ go, go = wi.heap.size := ⟨_, rfl⟩
  rw [← hgo] at BO ⊢
  have zg1 : wi.heap.size ≤ go := by omega
  have zg2 : go ≤ wi.heap.size := by omega
  clear ba hgo
  generalize wi.alloc (.cells #[.slice none 0 0, .slice none 0 0, .slice none 0 0] 29) = wo at *
  refine hK.out _ _ ⟨BA.cell 1 _ rfl, BA.cell 2 _ rfl⟩ (fun hHeld => ?_)
  clear hK K
  try simp only [Act.put, List.getElem_toArray, List.getElem_cons_zero, List.getElem_cons_succ, List.setIfInBounds_toArray, List.set_cons_zero, List.set_cons_succ]
  refine wpAnyH_ready (rs := [5]) (by kernel_rfl) (by simp) ?_
  refine AllReadyH.cons (o := _) rfl (fun K hK => ?_) AllReadyH.nil
  go_simp
  refine (l1Own_any ap cp N.inputs _ B (Rd.below (h3) (bb.mono hB)) (Nat.le_trans hB bb.size) (by omega)).mono ?_
  rintro e wp ⟨ap', cp', rfl, ownp, belp⟩
  replace BA := BA.new belp
  replace BR := BR.new belp
  replace BO := BO.new belp
  replace owni := Ow.new owni belp
  have zp := belp.size
  replace bb := bb.trans (belp.mono bb.size)
  have hdis : blk ai' ci' = none ∨ blk ai' ci' ≠ blk ap' cp' := by
    cases hb : blk ai' ci' with
    | none => exact .inl rfl
    | some x => exact .inr fun he => by have h5 := Ow.blk_in owni hb; have h6 := Ow.blk_in ownp he.symm; omega
  skip
  clear belp
  refine hK.out _ _ ⟨BA.cell 1 _ rfl, BA.cell 2 _ rfl⟩ (fun hHeld => ?_)
  clear hK K
  try simp only [Act.put, List.getElem_toArray, List.getElem_cons_zero, List.getElem_cons_succ, List.setIfInBounds_toArray, List.set_cons_zero, List.set_cons_succ]
  refine wpAnyH_take (i := 6) (v := ?_) rfl (by kernel_rfl) (by kernel_rfl) (by kernel_rfl) (fun _ _ _ h => h) (Or.inl ⟨by rfl, ?_⟩) (by assumption) ?_
  rotate_left
  · (intro w hSw; (try dsimp only at hSw); go_simp; try with_reducible rfl)
  try simp only [Act.put, List.getElem_toArray, List.getElem_cons_zero, List.getElem_cons_succ, List.setIfInBounds_toArray, List.set_cons_zero, List.set_cons_succ]
  have c0 := BO.cell 0 _ rfl
  have c1 := BO.cell 1 _ rfl
  have c2 := BO.cell 2 _ rfl
  have f0 := BO.frozen 0
  have f1 := BO.frozen 1
  have f2 := BO.frozen 2
  refine wpAnyH_ready (rs := [8]) (by kernel_rfl) (by simp) ?_
  refine AllReadyH.cons (o := _) rfl (fun K hK => ?_) AllReadyH.nil
  go_simp
  clear c0 c1 c2 f0 f1 f2
  generalize hW : World.setCell _ _ _ = W
  have BO2 : Bx W go 29 #[.slice none 0 0, .slice ai' N.ids.length ci', .slice ap' N.inputs.length cp'] := by rw [← hW]; exact ((BO.set 0 _).set 1 _).set 2 _
  have frW : Fr (fun k => k = go) wp W := by rw [← hW]; exact fr3 _ _ _ _ _
  replace owni := Ow.wide (lo' := w.heap.size + 1 + 1) (hi' := W.heap.size) (Ow.frB owni frW (fun k hk hc => BO.ne_row owni (by decide) (hc ▸ hk))) (by omega) (by have := frW.size; omega)
  replace ownp := Ow.wide (lo' := w.heap.size + 1 + 1) (hi' := W.heap.size) (Ow.frB ownp frW (fun k hk hc => BO.ne_row ownp (by decide) (hc ▸ hk))) (by omega) (by have := frW.size; omega)
  clear hW BO
  replace BA := BA.fr frW (by omega)
  replace BR := BR.fr frW (by omega)
  replace bb := bb.trans (frW.below (B := w.heap.size) (fun k h1 h2 hc => by omega) bb.size)
  have zW := frW.size
  have zgo := BO2.lt
  refine hK.out _ _ ⟨BA.cell 1 _ rfl, BA.cell 2 _ rfl⟩ (fun hHeld => ?_)
  clear hK K
  try simp only [Act.put, List.getElem_toArray, List.getElem_cons_zero, List.getElem_cons_succ, List.setIfInBounds_toArray, List.set_cons_zero, List.set_cons_succ]
  refine wpAnyH_done (by kernel_rfl) ?_ _
  rotate_left
  go_simp
  have BO := Bx.made wd 29 #[.slice none 0 0, .slice none 0 0, .slice none 0 0]
  have ba : Below wd.heap.size wd (wd.alloc (.cells #[.slice none 0 0, .slice none 0 0, .slice none 0 0] 29)) := (by repeat (first | exact Below.refl _ _ | assumption | refine Below.alloc ?_ (by first | (simp; done) | (simp; omega) | omega) _ | refine Below.setCell ?_ (by first | (simp; done) | (simp; omega) | omega) _ | refine Below.drew ?_ | refine Below.drewN ?_ _))
  replace BA := BA.new ba
  replace BR := BR.new ba
  have zo := ba.size
  replace bb := bb.trans (ba.mono bb.size)
  obtain ⟨go, hgo⟩ : ∃ go, go = wd.heap.size := ⟨_, rfl⟩
  rw [← hgo] at BO ⊢
  have zg1 : wd.heap.size ≤ go := by omega
  have zg2 : go ≤ wd.heap.size := by omega
  clear ba hgo
  generalize wd.alloc (.cells #[.slice none 0 0, .slice none 0 0, .slice none 0 0] 29) = wo at *
  refine hK.out _ _ ⟨BA.cell 1 _ rfl, BA.cell 2 _ rfl⟩ (fun hHeld => ?_)
  clear hK K
  try simp only [Act.put, List.getElem_toArray, List.getElem_cons_zero, List.getElem_cons_succ, List.setIfInBounds_toArray, List.set_cons_zero, List.set_cons_succ]
  refine wpAnyH_ready (rs := [2]) (by kernel_rfl) (by simp) ?_
  refine AllReadyH.cons (o := _) rfl (fun K hK => ?_) AllReadyH.nil
  go_simp
  refine (l1Own_any ai ci N.ids _ B (Rd.below (h2) (bb.mono hB)) (Nat.le_trans hB bb.size) (by omega)).mono ?_
  rintro e wi ⟨ai', ci', rfl, owni, beli⟩
  replace BA := BA.new beli
  replace BR := BR.new beli
  replace BO := BO.new beli
  have zi := beli.size
  replace bb := bb.trans (beli.mono bb.size)
  skip
  clear beli
  refine hK.out _ _ ⟨BA.cell 1 _ rfl, BA.cell 2 _ rfl⟩ (fun hHeld => ?_)
  clear hK K
  try simp only [Act.put, List.getElem_toArray, List.getElem_cons_zero, List.getElem_cons_succ, List.setIfInBounds_toArray, List.set_cons_zero, List.set_cons_succ]
  refine wpAnyH_ready (rs := [5]) (by kernel_rfl) (by simp) ?_
  refine AllReadyH.cons (o := _) rfl (fun K hK => ?_) AllReadyH.nil
  go_simp
  refine (l1Own_any ap cp N.inputs _ B (Rd.below (h3) (bb.mono hB)) (Nat.le_trans hB bb.size) (by omega)).mono ?_
  rintro e wp ⟨ap', cp', rfl, ownp, belp⟩
  replace BA := BA.new belp
  replace BR := BR.new belp
  replace BO := BO.new belp
  replace owni := Ow.new owni belp
  have zp := belp.size
  replace bb := bb.trans (belp.mono bb.size)
  have hdis : blk ai' ci' = none ∨ blk ai' ci' ≠ blk ap' cp' := by
    cases hb : blk ai' ci' with
    | none => exact .inl rfl
    | some x => exact .inr fun he => by have h5 := Ow.blk_in owni hb; have h6 := Ow.blk_in ownp he.symm; omega
  skip
  clear belp
  refine hK.out _ _ ⟨BA.cell 1 _ rfl, BA.cell 2 _ rfl⟩ (fun hHeld => ?_)
  clear hK K
  try simp only [Act.put, List.getElem_toArray, List.getElem_cons_zero, List.getElem_cons_succ, List.setIfInBounds_toArray, List.set_cons_zero, List.set_cons_succ]
  refine wpAnyH_take (i := 6) (v := ?_) rfl (by kernel_rfl) (by kernel_rfl) (by kernel_rfl) (fun _ _ _ h => h) (Or.inl ⟨by rfl, ?_⟩) (by assumption) ?_
  rotate_left
  · (intro w hSw; (try dsimp only at hSw); go_simp; try with_reducible rfl)
  try simp only [Act.put, List.getElem_toArray, List.getElem_cons_zero, List.getElem_cons_succ, List.setIfInBounds_toArray, List.set_cons_zero, List.set_cons_succ]
  have c0 := BO.cell 0 _ rfl
  have c1 := BO.cell 1 _ rfl
  have c2 := BO.cell 2 _ rfl
  have f0 := BO.frozen 0
  have f1 := BO.frozen 1
  have f2 := BO.frozen 2
  refine wpAnyH_ready (rs := [8]) (by kernel_rfl) (by simp) ?_
  refine AllReadyH.cons (o := _) rfl (fun K hK => ?_) AllReadyH.nil
  go_simp
  clear c0 c1 c2 f0 f1 f2
  generalize hW : World.setCell _ _ _ = W
  have BO2 : Bx W go 29 #[.slice none 0 0, .slice ai' N.ids.length ci', .slice ap' N.inputs.length cp'] := by rw [← hW]; exact ((BO.set 0 _).set 1 _).set 2 _
  have frW : Fr (fun k => k = go) wp W := by rw [← hW]; exact fr3 _ _ _ _ _
  replace owni := Ow.wide (lo' := w.heap.size + 1 + 1) (hi' := W.heap.size) (Ow.frB owni frW (fun k hk hc => BO.ne_row owni (by decide) (hc ▸ hk))) (by omega) (by have := frW.size; omega)
  replace ownp := Ow.wide (lo' := w.heap.size + 1 + 1) (hi' := W.heap.size) (Ow.frB ownp frW (fun k hk hc => BO.ne_row ownp (by decide) (hc ▸ hk))) (by omega) (by have := frW.size; omega)
  clear hW BO
  replace BA := BA.fr frW (by omega)
  replace BR := BR.fr frW (by omega)
  replace bb := bb.trans (frW.below (B := w.heap.size) (fun k h1 h2 hc => by omega) bb.size)
  have zW := frW.size
  have zgo := BO2.lt
  refine hK.out _ _ ⟨BA.cell 1 _ rfl, BA.cell 2 _ rfl⟩ (fun hHeld => ?_)
  clear hK K
  try simp only [Act.put, List.getElem_toArray, List.getElem_cons_zero, List.getElem_cons_succ, List.setIfInBounds_toArray, List.set_cons_zero, List.set_cons_succ]
  refine wpAnyH_done (by kernel_rfl) ?_ _
  rotate_left
  all_goals
    clear hHeld
    have hgi := BO2.ne_row owni (by decide)
    have hgp := BO2.ne_row ownp (by decide)
    have hc0 := BA.cell 0 _ rfl
    have zgr : w.heap.size + 1 < go := by omega
    have zL : w.heap.size + 1 + 1 ≤ W.heap.size := by omega
    clear BA
    obtain ⟨L, hL⟩ : ∃ L, L = W.heap.size := ⟨_, rfl⟩
    have zL1 : L ≤ W.heap.size := by omega
    have zL2 : go < L := by omega
    have zL3 : w.heap.size + 1 + 1 ≤ L := by omega
    rw [← hL] at owni ownp
    clear hL
    go_wp2_with fail
    clear hc0
    go_loopw [16] (fun i wr => ∃ k : Nat, k ≤ N.ends.length ∧ i = .int .i64 k ∧ ∃ A C vo, Bx wr go 29 #[.slice A k C, .slice ai' N.ids.length ci', .slice ap' N.inputs.length cp'] ∧ RowsE wr L wr.heap.size A C (N.ends.take k) vo ∧ OwI wr (w.heap.size + 1 + 1) L ai' ci' N.ids ∧ OwI wr (w.heap.size + 1 + 1) L ap' cp' N.inputs ∧ Bx wr (w.heap.size + 1) 29 #[.slice none 0 0, .slice none 0 0, .slice none 0 0] ∧ Below w.heap.size w wr ∧ L ≤ wr.heap.size) (fun i _ => N.ends.length - (intOf i).toNat)
    case atStart => exact ⟨0, Nat.zero_le _, rfl, none, 0, fun _ => (none, 0), BO2, RowsAt.nil _ _ _ _ _, owni, ownp, BR, bb, zL1⟩
    case round =>
      clear BO2 owni ownp BR bb
      obtain ⟨k, hk, rfl, A, C, vo, BO, hE, owni, ownp, BR, bb, zr⟩ := hrel
      by_cases hlt : k < N.ends.length
      · have hL1 := HROW.out k hlt
        have HTK := Lib.hid (takeR_snoc N.ends k hlt)
        have HLK := Lib.hid (show (N.ends.take k).length = k by rw [List.length_take]; omega)
        obtain ⟨g, off, hae, _, hc1⟩ := Rd.at (h1.below (bb.mono hB)).1 hlt
        rw [hae]
        go_wp2_with fail
        clear hc1 hae
        replace BO : Bx wr.drew go 29 #[.slice A k C, .slice ai' N.ids.length ci', .slice ap' N.inputs.length cp'] := BO
        replace hE : RowsE wr.drew L wr.drew.heap.size A C (N.ends.take k) vo := hE
        replace owni : OwI wr.drew (w.heap.size + 1 + 1) L ai' ci' N.ids := owni
        replace ownp : OwI wr.drew (w.heap.size + 1 + 1) L ap' cp' N.inputs := ownp
        replace BR : Bx wr.drew (w.heap.size + 1) 29 #[.slice none 0 0, .slice none 0 0, .slice none 0 0] := BR
        replace bb := bb.drew
        replace zr : L ≤ wr.drew.heap.size := zr
        refine wp_region_held_drew (S := fun _ => True) (by kernel_rfl) trivial (fun hHeld => ?_)
        generalize wr.drew = wq at *
        refine wpAnyH_take (i := 0) (v := ?_) rfl (by kernel_rfl) (by kernel_rfl) (by kernel_rfl) (fun _ _ _ h => h) (Or.inl ⟨by rfl, ?_⟩) (by assumption) ?_
        rotate_left
        · (intro w hSw; (try dsimp only at hSw); go_simp; try with_reducible rfl)
        try simp only [Act.put, List.getElem_toArray, List.getElem_cons_zero, List.getElem_cons_succ, List.setIfInBounds_toArray, List.set_cons_zero, List.set_cons_succ]
        refine wpAnyH_take (i := 3) (v := ?_) rfl (by kernel_rfl) (by kernel_rfl) (by kernel_rfl) (fun _ _ _ h => h) (Or.inl ⟨by rfl, ?_⟩) (by assumption) ?_
        rotate_left
        · (intro w hSw; (try dsimp only at hSw); go_simp; try with_reducible rfl)
        try simp only [Act.put, List.getElem_toArray, List.getElem_cons_zero, List.getElem_cons_succ, List.setIfInBounds_toArray, List.set_cons_zero, List.set_cons_succ]
        refine wpAnyH_ready (rs := [1, 2]) (by kernel_rfl) (by simp) ?_
        refine AllReadyH.cons (o := _) rfl (fun K hK => ?_) (AllReadyH.cons (o := _) rfl (fun K hK => ?_) AllReadyH.nil)
        have c0 := BO.cell 0 _ rfl
        go_simp
        clear c0
        refine hK.out _ _ trivial (fun hHeld => ?_)
        clear hK K hHeld
        try simp only [Act.put, List.getElem_toArray, List.getElem_cons_zero, List.getElem_cons_succ, List.setIfInBounds_toArray, List.set_cons_zero, List.set_cons_succ]
        refine wpAnyH_ready (rs := [2]) (by kernel_rfl) (by simp) ?_
        refine AllReadyH.cons (o := _) rfl (fun K hK => ?_) AllReadyH.nil
        go_simp
        have b2 : Below wq.heap.size wq (wq.alloc (.cells #[] 62)) := (by repeat (first | exact Below.refl _ _ | assumption | refine Below.alloc ?_ (by first | (simp; done) | (simp; omega) | omega) _ | refine Below.setCell ?_ (by first | (simp; done) | (simp; omega) | omega) _ | refine Below.drew ?_ | refine Below.drewN ?_ _))
        replace BO := BO.new b2
        replace BR := BR.new b2
        replace hE := RowsAt.new hE b2
        replace owni := Ow.new owni b2
        replace ownp := Ow.new ownp b2
        have zb2 := b2.size
        replace bb := bb.trans (b2.mono bb.size)
        skip
        generalize wq.alloc (.cells #[] 62) = w2 at *
        clear b2
        refine hK.out _ _ trivial (fun hHeld => ?_)
        clear hK K hHeld
        try simp only [Act.put, List.getElem_toArray, List.getElem_cons_zero, List.getElem_cons_succ, List.setIfInBounds_toArray, List.set_cons_zero, List.set_cons_succ]
        refine wpAnyH_ready (rs := [4]) (by kernel_rfl) (by simp) ?_
        refine AllReadyH.cons (o := _) rfl (fun K hK => ?_) AllReadyH.nil
        rw [if_pos (by rfl)]
        refine step_app0 _ _ _ rfl 62 (.agg #[.int .i64 0, .int .i64 0]) 2 16 Try.underlying60 end_info rfl (by decide) _ (vs k).1 B (rowOf N.ends k).length (vs k).2 (cellE (rowOf N.ends k)) rfl rfl (RdE.below (h1.2 k hlt) (bb.mono hB)) (fun _ => rfl) (by unfold maxLen; omega) (by omega) ?_
        intro a4 c4 w4 own4 bel4
        replace BO := BO.new bel4
        replace BR := BR.new bel4
        replace hE := RowsAt.new hE bel4
        replace owni := Ow.new owni bel4
        replace ownp := Ow.new ownp bel4
        have zbel4 := bel4.size
        replace bb := bb.trans (bel4.mono bb.size)
        clear bel4
        refine hK.out _ _ trivial (fun hHeld => ?_)
        clear hK K hHeld
        try simp only [Act.put, List.getElem_toArray, List.getElem_cons_zero, List.getElem_cons_succ, List.setIfInBounds_toArray, List.set_cons_zero, List.set_cons_succ]
        refine wpAnyH_ready (rs := [5]) (by kernel_rfl) (by simp) ?_
        refine AllReadyH.cons (o := _) rfl (fun K hK => ?_) AllReadyH.nil
        go_simp
        have b5 : Below w4.heap.size w4 (w4.alloc (.cells #[.slice a4 (rowOf N.ends k).length c4] 60)) := (by repeat (first | exact Below.refl _ _ | assumption | refine Below.alloc ?_ (by first | (simp; done) | (simp; omega) | omega) _ | refine Below.setCell ?_ (by first | (simp; done) | (simp; omega) | omega) _ | refine Below.drew ?_ | refine Below.drewN ?_ _))
        have hn5 := cell_one_new w4 (.slice a4 (rowOf N.ends k).length c4) 60
        replace BO := BO.new b5
        replace BR := BR.new b5
        replace hE := RowsAt.new hE b5
        replace owni := Ow.new owni b5
        replace ownp := Ow.new ownp b5
        replace own4 := Ow.new own4 b5
        have zb5 := b5.size
        replace bb := bb.trans (b5.mono bb.size)
        generalize w4.alloc (.cells #[.slice a4 (rowOf N.ends k).length c4] 60) = w5 at *
        clear b5
        refine hK.out _ _ trivial (fun hHeld => ?_)
        clear hK K hHeld
        try simp only [Act.put, List.getElem_toArray, List.getElem_cons_zero, List.getElem_cons_succ, List.setIfInBounds_toArray, List.set_cons_zero, List.set_cons_succ]
        refine wpAnyH_ready (rs := [6]) (by kernel_rfl) (by simp) ?_
        refine AllReadyH.cons (o := _) rfl (fun K hK => ?_) AllReadyH.nil
        rw [if_pos (by rfl)]
        have hol : Ow w5 L w2.heap.size 60 1 A k C (fun j => .slice (vo j).1 (rowOf (N.ends.take k) j).length (vo j).2) := by have h := (RowsAt.wide hE (Nat.le_refl _) (by omega)).1; rwa [HLK.out] at h
        refine step_app _ _ _ rfl 60 (.slice none 0 0) 1 24 Try.underlying27 ends_info rfl (by decide) L w2.heap.size A k C _ rfl hol ⟨w4.heap.size, 0, none⟩ 1 1 [.slice a4 (rowOf N.ends k).length c4] rfl rfl hn5 (by simp [Value.oneCell']) (by decide) (by unfold maxLen; omega) (by omega) (by omega) ?_
        intro g' cap' w6 own6 hgr _ _
        have hsn : RowsE w6 L w6.heap.size (some ⟨g', 0, none⟩) cap' (N.ends.take (k + 1)) (setv vo (N.ends.take k).length (a4, c4)) := by
          rw [HTK.out]
          refine RowsAt.snoc (w := w5) (hi := w2.heap.size) (RowsAt.wide hE (Nat.le_refl _) (by omega)) (by decide) (Ow.wide own4 (Nat.le_refl _) (by omega)) (by omega) (by omega) hgr ?_
          rw [HLK.out]; exact own6
        have fr6 : Fr (fun k => L ≤ k) w5 w6 := (Fr.of_grown hgr).mono fun k _ hk => (hol.blk_in hk.symm).1
        replace BO := BO.fr fr6 (by omega)
        replace BR := BR.fr fr6 (by omega)
        replace owni := Ow.fr owni fr6 (fun k h1 h2 hc => by omega)
        replace ownp := Ow.fr ownp fr6 (fun k h1 h2 hc => by omega)
        replace bb := bb.trans (fr6.below (B := w.heap.size) (fun k h1 h2 hc => by omega) bb.size)
        have z6 := fr6.size
        clear hE hol own6 hgr fr6 own4 hn5
        refine hK.out _ _ trivial (fun hHeld => ?_)
        clear hK K hHeld
        try simp only [Act.put, List.getElem_toArray, List.getElem_cons_zero, List.getElem_cons_succ, List.setIfInBounds_toArray, List.set_cons_zero, List.set_cons_succ]
        refine wpAnyH_take (i := 7) (v := ?_) rfl (by kernel_rfl) (by kernel_rfl) (by kernel_rfl) (fun _ _ _ h => h) (Or.inl ⟨by rfl, ?_⟩) (by assumption) ?_
        rotate_left
        · (intro w hSw; (try dsimp only at hSw); go_simp; try with_reducible rfl)
        try simp only [Act.put, List.getElem_toArray, List.getElem_cons_zero, List.getElem_cons_succ, List.setIfInBounds_toArray, List.set_cons_zero, List.set_cons_succ]
        refine wpAnyH_ready (rs := [8]) (by kernel_rfl) (by simp) ?_
        refine AllReadyH.cons (o := _) rfl (fun K hK => ?_) AllReadyH.nil
        have c0 := BO.cell 0 _ rfl
        have f0 := BO.frozen 0
        go_simp
        clear c0 f0
        have fr8 := fr_set w6 go 0 (.slice (some ⟨g', 0, none⟩) (k + 1) cap')
        replace BO := BO.set 0 (.slice (some ⟨g', 0, none⟩) (k + 1) cap')
        replace BR := BR.fr fr8 (by omega)
        replace hsn := RowsAt.fr hsn fr8 (fun k h1 h2 hc => by omega)
        replace owni := Ow.frB owni fr8 (fun k hk hc => hgi (hc ▸ hk))
        replace ownp := Ow.frB ownp fr8 (fun k hk hc => hgp (hc ▸ hk))
        replace bb := bb.trans (fr8.below (B := w.heap.size) (fun k h1 h2 hc => by omega) bb.size)
        have z8 := fr8.size
        generalize w6.setCell ⟨go, 0, none⟩ (.slice (some ⟨g', 0, none⟩) (k + 1) cap') = w8 at *
        clear fr8
        refine hK.out _ _ trivial (fun hHeld => ?_)
        clear hK K hHeld
        try simp only [Act.put, List.getElem_toArray, List.getElem_cons_zero, List.getElem_cons_succ, List.setIfInBounds_toArray, List.set_cons_zero, List.set_cons_succ]
        refine wpAnyH_done (by kernel_rfl) ?_ _
        rotate_left
        go_simp
        have b2 : Below wq.heap.size wq (wq.alloc (.cells #[] 62)) := (by repeat (first | exact Below.refl _ _ | assumption | refine Below.alloc ?_ (by first | (simp; done) | (simp; omega) | omega) _ | refine Below.setCell ?_ (by first | (simp; done) | (simp; omega) | omega) _ | refine Below.drew ?_ | refine Below.drewN ?_ _))
        replace BO := BO.new b2
        replace BR := BR.new b2
        replace hE := RowsAt.new hE b2
        replace owni := Ow.new owni b2
        replace ownp := Ow.new ownp b2
        have zb2 := b2.size
        replace bb := bb.trans (b2.mono bb.size)
        skip
        generalize wq.alloc (.cells #[] 62) = w2 at *
        clear b2
        refine hK.out _ _ trivial (fun hHeld => ?_)
        clear hK K hHeld
        try simp only [Act.put, List.getElem_toArray, List.getElem_cons_zero, List.getElem_cons_succ, List.setIfInBounds_toArray, List.set_cons_zero, List.set_cons_succ]
        refine wpAnyH_ready (rs := [1, 4]) (by kernel_rfl) (by simp) ?_
        refine AllReadyH.cons (o := _) rfl (fun K hK => ?_) (AllReadyH.cons (o := _) rfl (fun K hK => ?_) AllReadyH.nil)
        have c0 := BO.cell 0 _ rfl
        go_simp
        clear c0
        refine hK.out _ _ trivial (fun hHeld => ?_)
        clear hK K hHeld
        try simp only [Act.put, List.getElem_toArray, List.getElem_cons_zero, List.getElem_cons_succ, List.setIfInBounds_toArray, List.set_cons_zero, List.set_cons_succ]
        refine wpAnyH_ready (rs := [4]) (by kernel_rfl) (by simp) ?_
        refine AllReadyH.cons (o := _) rfl (fun K hK => ?_) AllReadyH.nil
        rw [if_pos (by rfl)]
        refine step_app0 _ _ _ rfl 62 (.agg #[.int .i64 0, .int .i64 0]) 2 16 Try.underlying60 end_info rfl (by decide) _ (vs k).1 B (rowOf N.ends k).length (vs k).2 (cellE (rowOf N.ends k)) rfl rfl (RdE.below (h1.2 k hlt) (bb.mono hB)) (fun _ => rfl) (by unfold maxLen; omega) (by omega) ?_
        intro a4 c4 w4 own4 bel4
        replace BO := BO.new bel4
        replace BR := BR.new bel4
        replace hE := RowsAt.new hE bel4
        replace owni := Ow.new owni bel4
        replace ownp := Ow.new ownp bel4
        have zbel4 := bel4.size
        replace bb := bb.trans (bel4.mono bb.size)
        clear bel4
        refine hK.out _ _ trivial (fun hHeld => ?_)
        clear hK K hHeld
        try simp only [Act.put, List.getElem_toArray, List.getElem_cons_zero, List.getElem_cons_succ, List.setIfInBounds_toArray, List.set_cons_zero, List.set_cons_succ]
        refine wpAnyH_ready (rs := [5]) (by kernel_rfl) (by simp) ?_
        refine AllReadyH.cons (o := _) rfl (fun K hK => ?_) AllReadyH.nil
        go_simp
        have b5 : Below w4.heap.size w4 (w4.alloc (.cells #[.slice a4 (rowOf N.ends k).length c4] 60)) := (by repeat (first | exact Below.refl _ _ | assumption | refine Below.alloc ?_ (by first | (simp; done) | (simp; omega) | omega) _ | refine Below.setCell ?_ (by first | (simp; done) | (simp; omega) | omega) _ | refine Below.drew ?_ | refine Below.drewN ?_ _))
        have hn5 := cell_one_new w4 (.slice a4 (rowOf N.ends k).length c4) 60
        replace BO := BO.new b5
        replace BR := BR.new b5
        replace hE := RowsAt.new hE b5
        replace owni := Ow.new owni b5
        replace ownp := Ow.new ownp b5
        replace own4 := Ow.new own4 b5
        have zb5 := b5.size
        replace bb := bb.trans (b5.mono bb.size)
        generalize w4.alloc (.cells #[.slice a4 (rowOf N.ends k).length c4] 60) = w5 at *
        clear b5
        refine hK.out _ _ trivial (fun hHeld => ?_)
        clear hK K hHeld
        try simp only [Act.put, List.getElem_toArray, List.getElem_cons_zero, List.getElem_cons_succ, List.setIfInBounds_toArray, List.set_cons_zero, List.set_cons_succ]
        refine wpAnyH_ready (rs := [6]) (by kernel_rfl) (by simp) ?_
        refine AllReadyH.cons (o := _) rfl (fun K hK => ?_) AllReadyH.nil
        rw [if_pos (by rfl)]
        have hol : Ow w5 L w2.heap.size 60 1 A k C (fun j => .slice (vo j).1 (rowOf (N.ends.take k) j).length (vo j).2) := by have h := (RowsAt.wide hE (Nat.le_refl _) (by omega)).1; rwa [HLK.out] at h
        refine step_app _ _ _ rfl 60 (.slice none 0 0) 1 24 Try.underlying27 ends_info rfl (by decide) L w2.heap.size A k C _ rfl hol ⟨w4.heap.size, 0, none⟩ 1 1 [.slice a4 (rowOf N.ends k).length c4] rfl rfl hn5 (by simp [Value.oneCell']) (by decide) (by unfold maxLen; omega) (by omega) (by omega) ?_
        intro g' cap' w6 own6 hgr _ _
        have hsn : RowsE w6 L w6.heap.size (some ⟨g', 0, none⟩) cap' (N.ends.take (k + 1)) (setv vo (N.ends.take k).length (a4, c4)) := by
          rw [HTK.out]
          refine RowsAt.snoc (w := w5) (hi := w2.heap.size) (RowsAt.wide hE (Nat.le_refl _) (by omega)) (by decide) (Ow.wide own4 (Nat.le_refl _) (by omega)) (by omega) (by omega) hgr ?_
          rw [HLK.out]; exact own6
        have fr6 : Fr (fun k => L ≤ k) w5 w6 := (Fr.of_grown hgr).mono fun k _ hk => (hol.blk_in hk.symm).1
        replace BO := BO.fr fr6 (by omega)
        replace BR := BR.fr fr6 (by omega)
        replace owni := Ow.fr owni fr6 (fun k h1 h2 hc => by omega)
        replace ownp := Ow.fr ownp fr6 (fun k h1 h2 hc => by omega)
        replace bb := bb.trans (fr6.below (B := w.heap.size) (fun k h1 h2 hc => by omega) bb.size)
        have z6 := fr6.size
        clear hE hol own6 hgr fr6 own4 hn5
        refine hK.out _ _ trivial (fun hHeld => ?_)
        clear hK K hHeld
        try simp only [Act.put, List.getElem_toArray, List.getElem_cons_zero, List.getElem_cons_succ, List.setIfInBounds_toArray, List.set_cons_zero, List.set_cons_succ]
        refine wpAnyH_take (i := 7) (v := ?_) rfl (by kernel_rfl) (by kernel_rfl) (by kernel_rfl) (fun _ _ _ h => h) (Or.inl ⟨by rfl, ?_⟩) (by assumption) ?_
        rotate_left
        · (intro w hSw; (try dsimp only at hSw); go_simp; try with_reducible rfl)
        try simp only [Act.put, List.getElem_toArray, List.getElem_cons_zero, List.getElem_cons_succ, List.setIfInBounds_toArray, List.set_cons_zero, List.set_cons_succ]
        refine wpAnyH_ready (rs := [8]) (by kernel_rfl) (by simp) ?_
        refine AllReadyH.cons (o := _) rfl (fun K hK => ?_) AllReadyH.nil
        have c0 := BO.cell 0 _ rfl
        have f0 := BO.frozen 0
        go_simp
        clear c0 f0
        have fr8 := fr_set w6 go 0 (.slice (some ⟨g', 0, none⟩) (k + 1) cap')
        replace BO := BO.set 0 (.slice (some ⟨g', 0, none⟩) (k + 1) cap')
        replace BR := BR.fr fr8 (by omega)
        replace hsn := RowsAt.fr hsn fr8 (fun k h1 h2 hc => by omega)
        replace owni := Ow.frB owni fr8 (fun k hk hc => hgi (hc ▸ hk))
        replace ownp := Ow.frB ownp fr8 (fun k hk hc => hgp (hc ▸ hk))
        replace bb := bb.trans (fr8.below (B := w.heap.size) (fun k h1 h2 hc => by omega) bb.size)
        have z8 := fr8.size
        generalize w6.setCell ⟨go, 0, none⟩ (.slice (some ⟨g', 0, none⟩) (k + 1) cap') = w8 at *
        clear fr8
        refine hK.out _ _ trivial (fun hHeld => ?_)
        clear hK K hHeld
        try simp only [Act.put, List.getElem_toArray, List.getElem_cons_zero, List.getElem_cons_succ, List.setIfInBounds_toArray, List.set_cons_zero, List.set_cons_succ]
        refine wpAnyH_done (by kernel_rfl) ?_ _
        rotate_left
        rw [if_pos (by rfl)]
        refine step_app0 _ _ _ rfl 62 (.agg #[.int .i64 0, .int .i64 0]) 2 16 Try.underlying60 end_info rfl (by decide) _ (vs k).1 B (rowOf N.ends k).length (vs k).2 (cellE (rowOf N.ends k)) rfl rfl (RdE.below (h1.2 k hlt) (bb.mono hB)) (fun _ => rfl) (by unfold maxLen; omega) (by omega) ?_
        intro a4 c4 w4 own4 bel4
        replace BO := BO.new bel4
        replace BR := BR.new bel4
        replace hE := RowsAt.new hE bel4
        replace owni := Ow.new owni bel4
        replace ownp := Ow.new ownp bel4
        have zbel4 := bel4.size
        replace bb := bb.trans (bel4.mono bb.size)
        clear bel4
        refine hK.out _ _ trivial (fun hHeld => ?_)
        clear hK K hHeld
        try simp only [Act.put, List.getElem_toArray, List.getElem_cons_zero, List.getElem_cons_succ, List.setIfInBounds_toArray, List.set_cons_zero, List.set_cons_succ]
        refine wpAnyH_ready (rs := [1, 5]) (by kernel_rfl) (by simp) ?_
        refine AllReadyH.cons (o := _) rfl (fun K hK => ?_) (AllReadyH.cons (o := _) rfl (fun K hK => ?_) AllReadyH.nil)
        have c0 := BO.cell 0 _ rfl
        go_simp
        clear c0
        refine hK.out _ _ trivial (fun hHeld => ?_)
        clear hK K hHeld
        try simp only [Act.put, List.getElem_toArray, List.getElem_cons_zero, List.getElem_cons_succ, List.setIfInBounds_toArray, List.set_cons_zero, List.set_cons_succ]
        refine wpAnyH_ready (rs := [5]) (by kernel_rfl) (by simp) ?_
        refine AllReadyH.cons (o := _) rfl (fun K hK => ?_) AllReadyH.nil
        go_simp
        have b5 : Below w4.heap.size w4 (w4.alloc (.cells #[.slice a4 (rowOf N.ends k).length c4] 60)) := (by repeat (first | exact Below.refl _ _ | assumption | refine Below.alloc ?_ (by first | (simp; done) | (simp; omega) | omega) _ | refine Below.setCell ?_ (by first | (simp; done) | (simp; omega) | omega) _ | refine Below.drew ?_ | refine Below.drewN ?_ _))
        have hn5 := cell_one_new w4 (.slice a4 (rowOf N.ends k).length c4) 60
        replace BO := BO.new b5
        replace BR := BR.new b5
        replace hE := RowsAt.new hE b5
        replace owni := Ow.new owni b5
        replace ownp := Ow.new ownp b5
        replace own4 := Ow.new own4 b5
        have zb5 := b5.size
        replace bb := bb.trans (b5.mono bb.size)
        generalize w4.alloc (.cells #[.slice a4 (rowOf N.ends k).length c4] 60) = w5 at *
        clear b5
        refine hK.out _ _ trivial (fun hHeld => ?_)
        clear hK K hHeld
        try simp only [Act.put, List.getElem_toArray, List.getElem_cons_zero, List.getElem_cons_succ, List.setIfInBounds_toArray, List.set_cons_zero, List.set_cons_succ]
        refine wpAnyH_ready (rs := [6]) (by kernel_rfl) (by simp) ?_
        refine AllReadyH.cons (o := _) rfl (fun K hK => ?_) AllReadyH.nil
        rw [if_pos (by rfl)]
        have hol : Ow w5 L w2.heap.size 60 1 A k C (fun j => .slice (vo j).1 (rowOf (N.ends.take k) j).length (vo j).2) := by have h := (RowsAt.wide hE (Nat.le_refl _) (by omega)).1; rwa [HLK.out] at h
        refine step_app _ _ _ rfl 60 (.slice none 0 0) 1 24 Try.underlying27 ends_info rfl (by decide) L w2.heap.size A k C _ rfl hol ⟨w4.heap.size, 0, none⟩ 1 1 [.slice a4 (rowOf N.ends k).length c4] rfl rfl hn5 (by simp [Value.oneCell']) (by decide) (by unfold maxLen; omega) (by omega) (by omega) ?_
        intro g' cap' w6 own6 hgr _ _
        have hsn : RowsE w6 L w6.heap.size (some ⟨g', 0, none⟩) cap' (N.ends.take (k + 1)) (setv vo (N.ends.take k).length (a4, c4)) := by
          rw [HTK.out]
          refine RowsAt.snoc (w := w5) (hi := w2.heap.size) (RowsAt.wide hE (Nat.le_refl _) (by omega)) (by decide) (Ow.wide own4 (Nat.le_refl _) (by omega)) (by omega) (by omega) hgr ?_
          rw [HLK.out]; exact own6
        have fr6 : Fr (fun k => L ≤ k) w5 w6 := (Fr.of_grown hgr).mono fun k _ hk => (hol.blk_in hk.symm).1
        replace BO := BO.fr fr6 (by omega)
        replace BR := BR.fr fr6 (by omega)
        replace owni := Ow.fr owni fr6 (fun k h1 h2 hc => by omega)
        replace ownp := Ow.fr ownp fr6 (fun k h1 h2 hc => by omega)
        replace bb := bb.trans (fr6.below (B := w.heap.size) (fun k h1 h2 hc => by omega) bb.size)
        have z6 := fr6.size
        clear hE hol own6 hgr fr6 own4 hn5
        refine hK.out _ _ trivial (fun hHeld => ?_)
        clear hK K hHeld
        try simp only [Act.put, List.getElem_toArray, List.getElem_cons_zero, List.getElem_cons_succ, List.setIfInBounds_toArray, List.set_cons_zero, List.set_cons_succ]
        refine wpAnyH_take (i := 7) (v := ?_) rfl (by kernel_rfl) (by kernel_rfl) (by kernel_rfl) (fun _ _ _ h => h) (Or.inl ⟨by rfl, ?_⟩) (by assumption) ?_
        rotate_left
        · (intro w hSw; (try dsimp only at hSw); go_simp; try with_reducible rfl)
        try simp only [Act.put, List.getElem_toArray, List.getElem_cons_zero, List.getElem_cons_succ, List.setIfInBounds_toArray, List.set_cons_zero, List.set_cons_succ]
        refine wpAnyH_ready (rs := [8]) (by kernel_rfl) (by simp) ?_
        refine AllReadyH.cons (o := _) rfl (fun K hK => ?_) AllReadyH.nil
        have c0 := BO.cell 0 _ rfl
        have f0 := BO.frozen 0
        go_simp
        clear c0 f0
        have fr8 := fr_set w6 go 0 (.slice (some ⟨g', 0, none⟩) (k + 1) cap')
        replace BO := BO.set 0 (.slice (some ⟨g', 0, none⟩) (k + 1) cap')
        replace BR := BR.fr fr8 (by omega)
        replace hsn := RowsAt.fr hsn fr8 (fun k h1 h2 hc => by omega)
        replace owni := Ow.frB owni fr8 (fun k hk hc => hgi (hc ▸ hk))
        replace ownp := Ow.frB ownp fr8 (fun k hk hc => hgp (hc ▸ hk))
        replace bb := bb.trans (fr8.below (B := w.heap.size) (fun k h1 h2 hc => by omega) bb.size)
        have z8 := fr8.size
        generalize w6.setCell ⟨go, 0, none⟩ (.slice (some ⟨g', 0, none⟩) (k + 1) cap') = w8 at *
        clear fr8
        refine hK.out _ _ trivial (fun hHeld => ?_)
        clear hK K hHeld
        try simp only [Act.put, List.getElem_toArray, List.getElem_cons_zero, List.getElem_cons_succ, List.setIfInBounds_toArray, List.set_cons_zero, List.set_cons_succ]
        refine wpAnyH_done (by kernel_rfl) ?_ _
        rotate_left
        go_simp
        have b5 : Below w4.heap.size w4 (w4.alloc (.cells #[.slice a4 (rowOf N.ends k).length c4] 60)) := (by repeat (first | exact Below.refl _ _ | assumption | refine Below.alloc ?_ (by first | (simp; done) | (simp; omega) | omega) _ | refine Below.setCell ?_ (by first | (simp; done) | (simp; omega) | omega) _ | refine Below.drew ?_ | refine Below.drewN ?_ _))
        have hn5 := cell_one_new w4 (.slice a4 (rowOf N.ends k).length c4) 60
        replace BO := BO.new b5
        replace BR := BR.new b5
        replace hE := RowsAt.new hE b5
        replace owni := Ow.new owni b5
        replace ownp := Ow.new ownp b5
        replace own4 := Ow.new own4 b5
        have zb5 := b5.size
        replace bb := bb.trans (b5.mono bb.size)
        generalize w4.alloc (.cells #[.slice a4 (rowOf N.ends k).length c4] 60) = w5 at *
        clear b5
        refine hK.out _ _ trivial (fun hHeld => ?_)
        clear hK K hHeld
        try simp only [Act.put, List.getElem_toArray, List.getElem_cons_zero, List.getElem_cons_succ, List.setIfInBounds_toArray, List.set_cons_zero, List.set_cons_succ]
        refine wpAnyH_ready (rs := [1]) (by kernel_rfl) (by simp) ?_
        refine AllReadyH.cons (o := _) rfl (fun K hK => ?_) AllReadyH.nil
        have c0 := BO.cell 0 _ rfl
        go_simp
        clear c0
        refine hK.out _ _ trivial (fun hHeld => ?_)
        clear hK K hHeld
        try simp only [Act.put, List.getElem_toArray, List.getElem_cons_zero, List.getElem_cons_succ, List.setIfInBounds_toArray, List.set_cons_zero, List.set_cons_succ]
        refine wpAnyH_ready (rs := [6]) (by kernel_rfl) (by simp) ?_
        refine AllReadyH.cons (o := _) rfl (fun K hK => ?_) AllReadyH.nil
        rw [if_pos (by rfl)]
        have hol : Ow w5 L w2.heap.size 60 1 A k C (fun j => .slice (vo j).1 (rowOf (N.ends.take k) j).length (vo j).2) := by have h := (RowsAt.wide hE (Nat.le_refl _) (by omega)).1; rwa [HLK.out] at h
        refine step_app _ _ _ rfl 60 (.slice none 0 0) 1 24 Try.underlying27 ends_info rfl (by decide) L w2.heap.size A k C _ rfl hol ⟨w4.heap.size, 0, none⟩ 1 1 [.slice a4 (rowOf N.ends k).length c4] rfl rfl hn5 (by simp [Value.oneCell']) (by decide) (by unfold maxLen; omega) (by omega) (by omega) ?_
        intro g' cap' w6 own6 hgr _ _
        have hsn : RowsE w6 L w6.heap.size (some ⟨g', 0, none⟩) cap' (N.ends.take (k + 1)) (setv vo (N.ends.take k).length (a4, c4)) := by
          rw [HTK.out]
          refine RowsAt.snoc (w := w5) (hi := w2.heap.size) (RowsAt.wide hE (Nat.le_refl _) (by omega)) (by decide) (Ow.wide own4 (Nat.le_refl _) (by omega)) (by omega) (by omega) hgr ?_
          rw [HLK.out]; exact own6
        have fr6 : Fr (fun k => L ≤ k) w5 w6 := (Fr.of_grown hgr).mono fun k _ hk => (hol.blk_in hk.symm).1
        replace BO := BO.fr fr6 (by omega)
        replace BR := BR.fr fr6 (by omega)
        replace owni := Ow.fr owni fr6 (fun k h1 h2 hc => by omega)
        replace ownp := Ow.fr ownp fr6 (fun k h1 h2 hc => by omega)
        replace bb := bb.trans (fr6.below (B := w.heap.size) (fun k h1 h2 hc => by omega) bb.size)
        have z6 := fr6.size
        clear hE hol own6 hgr fr6 own4 hn5
        refine hK.out _ _ trivial (fun hHeld => ?_)
        clear hK K hHeld
        try simp only [Act.put, List.getElem_toArray, List.getElem_cons_zero, List.getElem_cons_succ, List.setIfInBounds_toArray, List.set_cons_zero, List.set_cons_succ]
        refine wpAnyH_take (i := 7) (v := ?_) rfl (by kernel_rfl) (by kernel_rfl) (by kernel_rfl) (fun _ _ _ h => h) (Or.inl ⟨by rfl, ?_⟩) (by assumption) ?_
        rotate_left
        · (intro w hSw; (try dsimp only at hSw); go_simp; try with_reducible rfl)
        try simp only [Act.put, List.getElem_toArray, List.getElem_cons_zero, List.getElem_cons_succ, List.setIfInBounds_toArray, List.set_cons_zero, List.set_cons_succ]
        refine wpAnyH_ready (rs := [8]) (by kernel_rfl) (by simp) ?_
        refine AllReadyH.cons (o := _) rfl (fun K hK => ?_) AllReadyH.nil
        have c0 := BO.cell 0 _ rfl
        have f0 := BO.frozen 0
        go_simp
        clear c0 f0
        have fr8 := fr_set w6 go 0 (.slice (some ⟨g', 0, none⟩) (k + 1) cap')
        replace BO := BO.set 0 (.slice (some ⟨g', 0, none⟩) (k + 1) cap')
        replace BR := BR.fr fr8 (by omega)
        replace hsn := RowsAt.fr hsn fr8 (fun k h1 h2 hc => by omega)
        replace owni := Ow.frB owni fr8 (fun k hk hc => hgi (hc ▸ hk))
        replace ownp := Ow.frB ownp fr8 (fun k hk hc => hgp (hc ▸ hk))
        replace bb := bb.trans (fr8.below (B := w.heap.size) (fun k h1 h2 hc => by omega) bb.size)
        have z8 := fr8.size
        generalize w6.setCell ⟨go, 0, none⟩ (.slice (some ⟨g', 0, none⟩) (k + 1) cap') = w8 at *
        clear fr8
        refine hK.out _ _ trivial (fun hHeld => ?_)
        clear hK K hHeld
        try simp only [Act.put, List.getElem_toArray, List.getElem_cons_zero, List.getElem_cons_succ, List.setIfInBounds_toArray, List.set_cons_zero, List.set_cons_succ]
        refine wpAnyH_done (by kernel_rfl) ?_ _
        rotate_left
        all_goals
          go_wp2_with fail
          go_roundw
          case rel => exact ⟨k + 1, by omega, by go_num, _, cap', _, BO, RowsAt.top hsn, owni, ownp, BR, bb, by omega⟩
          case measure => simp [intOf]; omega
      · obtain rfl : k = N.ends.length := by omega
        rw [List.take_length] at hE
        have c0 := BO.cell 0 _ rfl
        have c1 := BO.cell 1 _ rfl
        have c2 := BO.cell 2 _ rfl
        have e0 := BR.cell 0 _ rfl
        have e1 := BR.cell 1 _ rfl
        have e2 := BR.cell 2 _ rfl
        have f0 := BR.frozen 0
        have f1 := BR.frozen 1
        have f2 := BR.frozen 2
        go_wp2_with fail
        clear c0 c1 c2 e0 e1 e2 f0 f1 f2
        generalize hW : World.setCell _ _ _ = W
        have B6 : Bx W (w.heap.size + 1) 29 #[.slice A N.ends.length C, .slice ai' N.ids.length ci', .slice ap' N.inputs.length cp'] := by rw [← hW]; exact ((BR.set 0 _).set 1 _).set 2 _
        have fr6 : Fr (fun k => k = w.heap.size + 1) wr W := by rw [← hW]; exact fr3 _ _ _ _ _
        clear hW
        have z6 := fr6.size
        have d0 := B6.cell 0 _ rfl
        have d1 := B6.cell 1 _ rfl
        have d2 := B6.cell 2 _ rfl
        refine bodyPost_ret (v := .agg #[.slice A N.ends.length C, .slice ai' N.ids.length ci', .slice ap' N.inputs.length cp']) (by simp [results, Try.results72, go_sem, d0, d1, d2]) rfl ?_
        exact ⟨_, rfl, ⟨A, C, vo, ai', ci', ap', cp', rfl, RowsAt.wide (RowsAt.fr hE fr6 (fun k h1 h2 hc => by omega)) (by omega) (by omega), Ow.wide (Ow.fr owni fr6 (fun k h1 h2 hc => by omega)) (by omega) (by omega), Ow.wide (Ow.fr ownp fr6 (fun k h1 h2 hc => by omega)) (by omega) (by omega), hdis⟩, bb.trans (fr6.below (fun k h1 h2 hc => by omega) bb.size)⟩
end Go.Proofs.Ytlooinhdehkcdaa
