/- Empty networks: emptyNetwork, neEmpty. -/
import Derived.Test.YtlooinhdehkcdaaPut
import Derived.Test.YtlooinhdehkcdaaRise
import Derived.Deep.RegionHeld3
namespace Go.Proofs.Ytlooinhdehkcdaa
open Go.RowKit
set_option linter.unusedVariables false
set_option linter.unusedSimpArgs false
/-- for a region that draws: 'make([]T, n)', T of one cell -/
theorem step_mk {P : Program} (w : World) {o : Oper} {a : Act} {K : Act → World → Prop} {Q : Exit → Act → World → Prop}
    (l c : Operand) (t : TypeId) (hop : o.op = Op.makeSlice t l c)
    (e : TypeId) (z : Value) (bytes : Nat) (ht : P.underlying t = some (.slice e)) (hinfo : (P.info? e).map (fun i => (i.zero, i.size, i.bytes)) = some (some z, 1, bytes)) (hz1 : z.cells = #[z])
    (kl kc : IntKind) (L C : Int) (n : Nat) (hl : a.eval l = .int kl L) (hc : a.eval c = .int kc C) (hL : L = (n : Int)) (hC : C = (n : Int)) (hbytes : bytes * n ≤ 281474976710656) (h63 : n ≤ 9223372036854775807)
    (hK : ∀ w' : World, w'.rowIs w.heap.size e n (fun _ => z) → w.heap.size + 1 ≤ w'.heap.size → Below w.heap.size w w' → K (a.put o.dst (.slice (some ⟨w.heap.size, 0, none⟩) n n)) w') :
    Oper.wp P o a w K Q := by
  subst hL hC
  have hrun := run_make_row' (P := P) t e z bytes ht hinfo hz1 kl kc n hbytes h63 w
  unfold Oper.wp
  simp [execOp, hop, hl, hc, hrun, Result.andThen]
  exact hK _ (World.rowIs_made w z n e) (by simp) ((Below.refl _ _).alloc (Nat.le_refl _) _)
def emptyN (n : Nat) : Net := { ends := List.replicate n [], ids := [], inputs := List.replicate n 0 }
theorem rowOf_replicate (n j : Nat) : rowOf (List.replicate n ([] : List (Int × Int))) j = [] := by
  unfold rowOf
  by_cases h : j < n <;> simp [List.getD, h]
theorem nth_replicate (n j : Nat) : nth (List.replicate n 0) j = 0 := by
  unfold nth
  by_cases h : j < n <;> simp [List.getD, h]
theorem RowsE.empty {w : World} {lo hi g n : Nat} (h : w.rowIs g 60 n (fun _ => .slice none 0 0)) (hl : lo ≤ g) (hh : g < hi) (hn : n ≤ maxLen) : RowsE w lo hi (some ⟨g, 0, none⟩) n (List.replicate n []) (fun _ => (none, 0)) := by
  have hlen : (List.replicate n ([] : List (Int × Int))).length = n := List.length_replicate ..
  refine ⟨?_, fun j hj => ?_, fun i j _ _ _ => .inl rfl⟩
  · rw [hlen]
    refine Ow.of_row (by rw [Nat.mul_one]; exact h) hl hh (Nat.le_refl _) hn fun j hj => ?_
    show Value.slice none 0 0 = Value.slice none (rowOf (List.replicate n []) j).length 0
    rw [rowOf_replicate]; rfl
  · rw [rowOf_replicate]
    exact Ow.nil _ _ _ _ _ _ _
theorem OwI.zeros {w : World} {lo hi g n : Nat} (h : w.rowIs g 3 n (fun _ => .int .i64 0)) (hl : lo ≤ g) (hh : g < hi) (hn : n ≤ maxLen) : OwI w lo hi (some ⟨g, 0, none⟩) n (List.replicate n 0) := by
  have hlen : (List.replicate n (0 : Int)).length = n := List.length_replicate ..
  unfold OwI
  rw [hlen]
  refine Ow.of_row (by rw [Nat.mul_one]; exact h) hl hh (Nat.le_refl _) hn fun j hj => ?_
  rw [nth_replicate]
def nilN : Net := { ends := [], ids := [], inputs := [] }
theorem NetAt.nilN (w : World) (lo hi : Nat) : NetAt w lo hi (.agg #[.slice none 0 0, .slice none 0 0, .slice none 0 0]) nilN :=
  ⟨none, 0, fun _ => (none, 0), none, 0, none, 0, rfl, RowsAt.nil _ _ _ _ _, Ow.nil _ _ _ _ _ _ _, Ow.nil _ _ _ _ _ _ _, .inl rfl⟩
/-- a network and whether it is there -/
def PostN (N : Net) (ok : Bool) (w : World) (e : Ending) (w' : World) : Prop :=
  ∃ v, e = .returned (.tuple #[v, .bool ok]) ∧ NetAt w' w.heap.size w'.heap.size v N ∧ Below w.heap.size w w'
def ifN (ok : Bool) (N : Net) : Net := if ok then N else nilN
theorem emptyN_at {w : World} {lo hi g h n : Nat} (h1 : w.rowIs g 60 n (fun _ => .slice none 0 0)) (h2 : w.rowIs h 3 n (fun _ => .int .i64 0)) (hg : lo ≤ g) (hg' : g < hi) (hh : lo ≤ h) (hh' : h < hi) (hn : n ≤ maxLen) :
    NetAt w lo hi (.agg #[.slice (some ⟨g, 0, none⟩) n n, .slice none 0 0, .slice (some ⟨h, 0, none⟩) n n]) (emptyN n) := by
  refine ⟨some ⟨g, 0, none⟩, n, fun _ => (none, 0), none, 0, some ⟨h, 0, none⟩, n, ?_, RowsE.empty h1 hg hg' hn, Ow.nil _ _ _ _ _ _ _, OwI.zeros h2 hh hh' hn, .inl rfl⟩
  simp [emptyN]
theorem fr3 (w : World) (b : Nat) (u0 u1 u2 : Value) : Fr (fun k => k = b) w (((w.setCell ⟨b, 0, none⟩ u0).setCell ⟨b, 1, none⟩ u1).setCell ⟨b, 2, none⟩ u2) :=
  ((fr_set w b 0 u0).trans (fr_set _ b 1 u1)).trans (fr_set _ b 2 u2)

set_option maxHeartbeats 400000 in
set_option maxRecDepth 100000 in
theorem emptyNetwork_any (k : Int) (w : World) : Calls Try.prog 49 #[.int .i64 k] w (PostN (ifN (inR k 1 40) (emptyN k.toNat)) (inR k 1 40) w) := by
  have BE := Bx.made w 29 #[.slice none 0 0, .slice none 0 0, .slice none 0 0]
  have b0 : Below w.heap.size w (w.alloc (.cells #[.slice none 0 0, .slice none 0 0, .slice none 0 0] 29)) := (by repeat (first | exact Below.refl _ _ | assumption | refine Below.alloc ?_ (by first | (simp; done) | (simp; omega) | omega) _ | refine Below.setCell ?_ (by first | (simp; done) | (simp; omega) | omega) _ | refine Below.drew ?_ | refine Below.drewN ?_ _))
  cases hk : inR k 1 40 with
  | false =>
    have HK := Lib.hid hk
    clear hk
    go_enter Try.func49, Try.ntmps49
    go_wp2_with fail
    refine (within_any _ _ _ _).mono ?_
    rintro e w' ⟨rfl, rfl⟩
    rw [HK.out]
    have z0 := b0.size
    generalize hw0 : w.alloc (.cells #[.slice none 0 0, .slice none 0 0, .slice none 0 0] 29) = w0 at *
    clear hw0
    have c0 := BE.cell 0 _ rfl
    have c1 := BE.cell 1 _ rfl
    have c2 := BE.cell 2 _ rfl
    have f0 := BE.frozen 0
    have f1 := BE.frozen 1
    have f2 := BE.frozen 2
    go_wp2_with fail
    generalize hW : World.setCell _ _ _ = W
    have B6 : Bx W (w.heap.size) 29 #[.slice none 0 0, .slice none 0 0, .slice none 0 0] := by rw [← hW]; exact ((BE.set 0 _).set 1 _).set 2 _
    have fr6 : Fr (fun k => k = w.heap.size) w0 W := by rw [← hW]; exact fr3 _ _ _ _ _
    clear hW
    have z6 := fr6.size
    have d0 := B6.cell 0 _ rfl
    have d1 := B6.cell 1 _ rfl
    have d2 := B6.cell 2 _ rfl
    refine bodyPost_ret (v := .tuple #[.agg #[.slice none 0 0, .slice none 0 0, .slice none 0 0], .bool false]) (by simp [results, Try.results49, go_sem, d0, d1, d2]) rfl ?_
    exact ⟨_, rfl, NetAt.nilN _ _ _, b0.trans (fr6.below (fun k h1 h2 hc => by omega) z0)⟩
  | true =>
    have hk2 := inR_iff.1 hk
    obtain ⟨n, rfl⟩ := Int.eq_ofNat_of_zero_le (show 0 ≤ k by omega)
    have HK := Lib.hid hk
    clear hk
    go_enter Try.func49, Try.ntmps49
    go_wp2_with fail
    refine (within_any _ _ _ _).mono ?_
    rintro e w' ⟨rfl, rfl⟩
    rw [HK.out]
    go_wp2_with fail
    replace BE : Bx (w.alloc (.cells #[.slice none 0 0, .slice none 0 0, .slice none 0 0] 29)).drew w.heap.size 29 #[.slice none 0 0, .slice none 0 0, .slice none 0 0] := BE
    replace b0 := b0.drew
    refine wp_region_held_drew (S := fun _ => True) (by kernel_rfl) trivial (fun hHeld => ?_)
    refine wpAnyH_take (i := 0) (v := ?_) rfl (by kernel_rfl) (by kernel_rfl) (by kernel_rfl) (fun _ _ _ h => h) (Or.inl ⟨by rfl, ?_⟩) (by assumption) ?_
    rotate_left
    · (intro w hSw; (try dsimp only at hSw); go_simp; try with_reducible rfl)
    try simp only [Act.put, List.getElem_toArray, List.getElem_cons_zero, List.getElem_cons_succ, List.setIfInBounds_toArray, List.set_cons_zero, List.set_cons_succ]
    refine wpAnyH_take (i := 2) (v := ?_) rfl (by kernel_rfl) (by kernel_rfl) (by kernel_rfl) (fun _ _ _ h => h) (Or.inl ⟨by rfl, ?_⟩) (by assumption) ?_
    rotate_left
    · (intro w hSw; (try dsimp only at hSw); go_simp; try with_reducible rfl)
    try simp only [Act.put, List.getElem_toArray, List.getElem_cons_zero, List.getElem_cons_succ, List.setIfInBounds_toArray, List.set_cons_zero, List.set_cons_succ]
    refine wpAnyH_ready (rs := [1, 3]) (by kernel_rfl) (by simp) ?_
    refine AllReadyH.cons (o := _) rfl (fun K hK => ?_) (AllReadyH.cons (o := _) rfl (fun K hK => ?_) AllReadyH.nil)
    rw [if_pos (by rfl)]
    refine step_mk _ _ _ _ rfl 60 (.slice none 0 0) 24 Try.underlying27 ends_info rfl .i64 .i64 _ _ n rfl rfl rfl rfl (by omega) (by omega) ?_
    intro w1 hr1 hz1 bel1
    refine hK.out _ _ trivial (fun hHeld => ?_)
    clear hK K
    try simp only [Act.put, List.getElem_toArray, List.getElem_cons_zero, List.getElem_cons_succ, List.setIfInBounds_toArray, List.set_cons_zero, List.set_cons_succ]
    refine wpAnyH_ready (rs := [3]) (by kernel_rfl) (by simp) ?_
    refine AllReadyH.cons (o := _) rfl (fun K hK => ?_) AllReadyH.nil
    rw [if_pos (by rfl)]
    refine step_mk _ _ _ _ rfl 3 (.int .i64 0) 8 Try.underlying23 int_info rfl .i64 .i64 _ _ n rfl rfl rfl rfl (by omega) (by omega) ?_
    intro w2 hr2 hz2 bel2
    refine hK.out _ _ trivial (fun hHeld => ?_)
    clear hK K
    try simp only [Act.put, List.getElem_toArray, List.getElem_cons_zero, List.getElem_cons_succ, List.setIfInBounds_toArray, List.set_cons_zero, List.set_cons_succ]
    refine wpAnyH_take (i := 4) (v := ?_) rfl (by kernel_rfl) (by kernel_rfl) (by kernel_rfl) (fun _ _ _ h => h) (Or.inl ⟨by rfl, ?_⟩) (by assumption) ?_
    rotate_left
    · (intro w hSw; (try dsimp only at hSw); go_simp; try with_reducible rfl)
    try simp only [Act.put, List.getElem_toArray, List.getElem_cons_zero, List.getElem_cons_succ, List.setIfInBounds_toArray, List.set_cons_zero, List.set_cons_succ]
    have BE1 := (BE.new (w' := w1) bel1).new bel2
    have bb := (b0.trans (bel1.mono b0.size)).trans (bel2.mono (Nat.le_trans b0.size bel1.size))
    have hra := hr1.of_block (bel2.block _ hr1.lt)
    have hrb := hr2
    have c0 := BE1.cell 0 _ rfl
    have c1 := BE1.cell 1 _ rfl
    have c2 := BE1.cell 2 _ rfl
    have f0 := BE1.frozen 0
    have f1 := BE1.frozen 1
    have f2 := BE1.frozen 2
    refine wpAnyH_ready (rs := [5]) (by kernel_rfl) (by simp) ?_
    refine AllReadyH.cons (o := _) rfl (fun K hK => ?_) AllReadyH.nil
    go_simp
    refine hK.out _ _ trivial (fun hHeld => ?_)
    clear hK K
    try simp only [Act.put, List.getElem_toArray, List.getElem_cons_zero, List.getElem_cons_succ, List.setIfInBounds_toArray, List.set_cons_zero, List.set_cons_succ]
    refine wpAnyH_take (i := 6) (v := ?_) rfl (by kernel_rfl) (by kernel_rfl) (by kernel_rfl) (fun _ _ _ h => h) (Or.inl ⟨by rfl, ?_⟩) (by assumption) ?_
    rotate_left
    · (intro w hSw; (try dsimp only at hSw); go_simp; try with_reducible rfl)
    try simp only [Act.put, List.getElem_toArray, List.getElem_cons_zero, List.getElem_cons_succ, List.setIfInBounds_toArray, List.set_cons_zero, List.set_cons_succ]
    refine wpAnyH_done (by kernel_rfl) ?_ _
    rotate_left
    rw [if_pos (by rfl)]
    refine step_mk _ _ _ _ rfl 3 (.int .i64 0) 8 Try.underlying23 int_info rfl .i64 .i64 _ _ n rfl rfl rfl rfl (by omega) (by omega) ?_
    intro w2 hr2 hz2 bel2
    refine hK.out _ _ trivial (fun hHeld => ?_)
    clear hK K
    try simp only [Act.put, List.getElem_toArray, List.getElem_cons_zero, List.getElem_cons_succ, List.setIfInBounds_toArray, List.set_cons_zero, List.set_cons_succ]
    refine wpAnyH_ready (rs := [1]) (by kernel_rfl) (by simp) ?_
    refine AllReadyH.cons (o := _) rfl (fun K hK => ?_) AllReadyH.nil
    rw [if_pos (by rfl)]
    refine step_mk _ _ _ _ rfl 60 (.slice none 0 0) 24 Try.underlying27 ends_info rfl .i64 .i64 _ _ n rfl rfl rfl rfl (by omega) (by omega) ?_
    intro w1 hr1 hz1 bel1
    refine hK.out _ _ trivial (fun hHeld => ?_)
    clear hK K
    try simp only [Act.put, List.getElem_toArray, List.getElem_cons_zero, List.getElem_cons_succ, List.setIfInBounds_toArray, List.set_cons_zero, List.set_cons_succ]
    refine wpAnyH_take (i := 4) (v := ?_) rfl (by kernel_rfl) (by kernel_rfl) (by kernel_rfl) (fun _ _ _ h => h) (Or.inl ⟨by rfl, ?_⟩) (by assumption) ?_
    rotate_left
    · (intro w hSw; (try dsimp only at hSw); go_simp; try with_reducible rfl)
    try simp only [Act.put, List.getElem_toArray, List.getElem_cons_zero, List.getElem_cons_succ, List.setIfInBounds_toArray, List.set_cons_zero, List.set_cons_succ]
    have BE1 := (BE.new (w' := w2) bel2).new bel1
    have bb := (b0.trans (bel2.mono b0.size)).trans (bel1.mono (Nat.le_trans b0.size bel2.size))
    have hra := hr2.of_block (bel1.block _ hr2.lt)
    have hrb := hr1
    have c0 := BE1.cell 0 _ rfl
    have c1 := BE1.cell 1 _ rfl
    have c2 := BE1.cell 2 _ rfl
    have f0 := BE1.frozen 0
    have f1 := BE1.frozen 1
    have f2 := BE1.frozen 2
    refine wpAnyH_ready (rs := [5]) (by kernel_rfl) (by simp) ?_
    refine AllReadyH.cons (o := _) rfl (fun K hK => ?_) AllReadyH.nil
    go_simp
    refine hK.out _ _ trivial (fun hHeld => ?_)
    clear hK K
    try simp only [Act.put, List.getElem_toArray, List.getElem_cons_zero, List.getElem_cons_succ, List.setIfInBounds_toArray, List.set_cons_zero, List.set_cons_succ]
    refine wpAnyH_take (i := 6) (v := ?_) rfl (by kernel_rfl) (by kernel_rfl) (by kernel_rfl) (fun _ _ _ h => h) (Or.inl ⟨by rfl, ?_⟩) (by assumption) ?_
    rotate_left
    · (intro w hSw; (try dsimp only at hSw); go_simp; try with_reducible rfl)
    try simp only [Act.put, List.getElem_toArray, List.getElem_cons_zero, List.getElem_cons_succ, List.setIfInBounds_toArray, List.set_cons_zero, List.set_cons_succ]
    refine wpAnyH_done (by kernel_rfl) ?_ _
    rotate_left
    · go_wp2_with fail
      have e1 : (w.alloc (.cells #[.slice none 0 0, .slice none 0 0, .slice none 0 0] 29)).drew.heap.size = w.heap.size + 1 := World.size_alloc ..
      rw [e1] at hra hz1
      clear hr1 hr2 bel1 bel2 BE b0
      generalize hW : World.setCell _ _ _ = W
      have B6 : Bx W (w.heap.size) 29 #[.slice (some ⟨w.heap.size + 1, 0, none⟩) n n, .slice none 0 0, .slice (some ⟨w1.heap.size, 0, none⟩) n n] := by rw [← hW]; exact ((BE1.set 0 _).set 1 _).set 2 _
      have fr6 : Fr (fun k => k = w.heap.size) w2 W := by rw [← hW]; exact fr3 _ _ _ _ _
      clear hW
      have z6 := fr6.size
      have d0 := B6.cell 0 _ rfl
      have d1 := B6.cell 1 _ rfl
      have d2 := B6.cell 2 _ rfl
      have zz := bb.size
      refine bodyPost_ret (v := .tuple #[.agg #[.slice (some ⟨w.heap.size + 1, 0, none⟩) n n, .slice none 0 0, .slice (some ⟨w1.heap.size, 0, none⟩) n n], .bool true]) (by simp [results, Try.results49, go_sem, d0, d1, d2]) rfl ?_
      rw [Int.toNat_natCast]
      refine ⟨_, rfl, emptyN_at (hra.of_block (fr6.block _ hra.lt (by omega))) (hrb.of_block (fr6.block _ hrb.lt (by omega))) (by omega) (by omega) (by omega) (by omega) (by unfold maxLen; omega), bb.trans (fr6.below (fun k h1 h2 hc => by omega) zz)⟩
    · go_wp2_with fail
      have e1 : (w.alloc (.cells #[.slice none 0 0, .slice none 0 0, .slice none 0 0] 29)).drew.heap.size = w.heap.size + 1 := World.size_alloc ..
      rw [e1] at hra hz2
      clear hr1 hr2 bel1 bel2 BE b0
      generalize hW : World.setCell _ _ _ = W
      have B6 : Bx W (w.heap.size) 29 #[.slice (some ⟨w2.heap.size, 0, none⟩) n n, .slice none 0 0, .slice (some ⟨w.heap.size + 1, 0, none⟩) n n] := by rw [← hW]; exact ((BE1.set 0 _).set 1 _).set 2 _
      have fr6 : Fr (fun k => k = w.heap.size) w1 W := by rw [← hW]; exact fr3 _ _ _ _ _
      clear hW
      have z6 := fr6.size
      have d0 := B6.cell 0 _ rfl
      have d1 := B6.cell 1 _ rfl
      have d2 := B6.cell 2 _ rfl
      have zz := bb.size
      refine bodyPost_ret (v := .tuple #[.agg #[.slice (some ⟨w2.heap.size, 0, none⟩) n n, .slice none 0 0, .slice (some ⟨w.heap.size + 1, 0, none⟩) n n], .bool true]) (by simp [results, Try.results49, go_sem, d0, d1, d2]) rfl ?_
      rw [Int.toNat_natCast]
      refine ⟨_, rfl, emptyN_at (hrb.of_block (fr6.block _ hrb.lt (by omega))) (hra.of_block (fr6.block _ hra.lt (by omega))) (by omega) (by omega) (by omega) (by omega) (by unfold maxLen; omega), bb.trans (fr6.below (fun k h1 h2 hc => by omega) zz)⟩
set_option maxHeartbeats 400000 in
set_option maxRecDepth 100000 in
theorem neEmpty_any (n : Nat) (w : World) (hn : n ≤ 1048576) : Calls Try.prog 47 #[.int .i64 n] w fun e w' => ∃ v, e = .returned v ∧ NetAt w' w.heap.size w'.heap.size v (emptyN n) ∧ Below w.heap.size w w' := by
  have BE := Bx.made w 29 #[.slice none 0 0, .slice none 0 0, .slice none 0 0]
  have b0 : Below w.heap.size w (w.alloc (.cells #[.slice none 0 0, .slice none 0 0, .slice none 0 0] 29)) := (by repeat (first | exact Below.refl _ _ | assumption | refine Below.alloc ?_ (by first | (simp; done) | (simp; omega) | omega) _ | refine Below.setCell ?_ (by first | (simp; done) | (simp; omega) | omega) _ | refine Below.drew ?_ | refine Below.drewN ?_ _))
  go_enter Try.func47, Try.ntmps47
  go_wp2_with fail
  replace BE : Bx (w.alloc (.cells #[.slice none 0 0, .slice none 0 0, .slice none 0 0] 29)).drew w.heap.size 29 #[.slice none 0 0, .slice none 0 0, .slice none 0 0] := BE
  replace b0 := b0.drew
  refine wp_region_held_drew (S := fun _ => True) (by kernel_rfl) trivial (fun hHeld => ?_)
  refine wpAnyH_take (i := 0) (v := ?_) rfl (by kernel_rfl) (by kernel_rfl) (by kernel_rfl) (fun _ _ _ h => h) (Or.inl ⟨by rfl, ?_⟩) (by assumption) ?_
  rotate_left
  · (intro w hSw; (try dsimp only at hSw); go_simp; try with_reducible rfl)
  try simp only [Act.put, List.getElem_toArray, List.getElem_cons_zero, List.getElem_cons_succ, List.setIfInBounds_toArray, List.set_cons_zero, List.set_cons_succ]
  refine wpAnyH_take (i := 2) (v := ?_) rfl (by kernel_rfl) (by kernel_rfl) (by kernel_rfl) (fun _ _ _ h => h) (Or.inl ⟨by rfl, ?_⟩) (by assumption) ?_
  rotate_left
  · (intro w hSw; (try dsimp only at hSw); go_simp; try with_reducible rfl)
  try simp only [Act.put, List.getElem_toArray, List.getElem_cons_zero, List.getElem_cons_succ, List.setIfInBounds_toArray, List.set_cons_zero, List.set_cons_succ]
  refine wpAnyH_ready (rs := [1, 3]) (by kernel_rfl) (by simp) ?_
  refine AllReadyH.cons (o := _) rfl (fun K hK => ?_) (AllReadyH.cons (o := _) rfl (fun K hK => ?_) AllReadyH.nil)
  rw [if_pos (by rfl)]
  refine step_mk _ _ _ _ rfl 60 (.slice none 0 0) 24 Try.underlying27 ends_info rfl .i64 .i64 _ _ n rfl rfl rfl rfl (by omega) (by omega) ?_
  intro w1 hr1 hz1 bel1
  refine hK.out _ _ trivial (fun hHeld => ?_)
  clear hK K
  try simp only [Act.put, List.getElem_toArray, List.getElem_cons_zero, List.getElem_cons_succ, List.setIfInBounds_toArray, List.set_cons_zero, List.set_cons_succ]
  refine wpAnyH_ready (rs := [3]) (by kernel_rfl) (by simp) ?_
  refine AllReadyH.cons (o := _) rfl (fun K hK => ?_) AllReadyH.nil
  rw [if_pos (by rfl)]
  refine step_mk _ _ _ _ rfl 3 (.int .i64 0) 8 Try.underlying23 int_info rfl .i64 .i64 _ _ n rfl rfl rfl rfl (by omega) (by omega) ?_
  intro w2 hr2 hz2 bel2
  refine hK.out _ _ trivial (fun hHeld => ?_)
  clear hK K
  try simp only [Act.put, List.getElem_toArray, List.getElem_cons_zero, List.getElem_cons_succ, List.setIfInBounds_toArray, List.set_cons_zero, List.set_cons_succ]
  refine wpAnyH_take (i := 4) (v := ?_) rfl (by kernel_rfl) (by kernel_rfl) (by kernel_rfl) (fun _ _ _ h => h) (Or.inl ⟨by rfl, ?_⟩) (by assumption) ?_
  rotate_left
  · (intro w hSw; (try dsimp only at hSw); go_simp; try with_reducible rfl)
  try simp only [Act.put, List.getElem_toArray, List.getElem_cons_zero, List.getElem_cons_succ, List.setIfInBounds_toArray, List.set_cons_zero, List.set_cons_succ]
  have BE1 := (BE.new (w' := w1) bel1).new bel2
  have bb := (b0.trans (bel1.mono b0.size)).trans (bel2.mono (Nat.le_trans b0.size bel1.size))
  have hra := hr1.of_block (bel2.block _ hr1.lt)
  have hrb := hr2
  have c0 := BE1.cell 0 _ rfl
  have c1 := BE1.cell 1 _ rfl
  have c2 := BE1.cell 2 _ rfl
  have f0 := BE1.frozen 0
  have f1 := BE1.frozen 1
  have f2 := BE1.frozen 2
  refine wpAnyH_ready (rs := [5]) (by kernel_rfl) (by simp) ?_
  refine AllReadyH.cons (o := _) rfl (fun K hK => ?_) AllReadyH.nil
  go_simp
  refine hK.out _ _ trivial (fun hHeld => ?_)
  clear hK K
  try simp only [Act.put, List.getElem_toArray, List.getElem_cons_zero, List.getElem_cons_succ, List.setIfInBounds_toArray, List.set_cons_zero, List.set_cons_succ]
  refine wpAnyH_done (by kernel_rfl) ?_ _
  rotate_left
  rw [if_pos (by rfl)]
  refine step_mk _ _ _ _ rfl 3 (.int .i64 0) 8 Try.underlying23 int_info rfl .i64 .i64 _ _ n rfl rfl rfl rfl (by omega) (by omega) ?_
  intro w2 hr2 hz2 bel2
  refine hK.out _ _ trivial (fun hHeld => ?_)
  clear hK K
  try simp only [Act.put, List.getElem_toArray, List.getElem_cons_zero, List.getElem_cons_succ, List.setIfInBounds_toArray, List.set_cons_zero, List.set_cons_succ]
  refine wpAnyH_ready (rs := [1]) (by kernel_rfl) (by simp) ?_
  refine AllReadyH.cons (o := _) rfl (fun K hK => ?_) AllReadyH.nil
  rw [if_pos (by rfl)]
  refine step_mk _ _ _ _ rfl 60 (.slice none 0 0) 24 Try.underlying27 ends_info rfl .i64 .i64 _ _ n rfl rfl rfl rfl (by omega) (by omega) ?_
  intro w1 hr1 hz1 bel1
  refine hK.out _ _ trivial (fun hHeld => ?_)
  clear hK K
  try simp only [Act.put, List.getElem_toArray, List.getElem_cons_zero, List.getElem_cons_succ, List.setIfInBounds_toArray, List.set_cons_zero, List.set_cons_succ]
  refine wpAnyH_take (i := 4) (v := ?_) rfl (by kernel_rfl) (by kernel_rfl) (by kernel_rfl) (fun _ _ _ h => h) (Or.inl ⟨by rfl, ?_⟩) (by assumption) ?_
  rotate_left
  · (intro w hSw; (try dsimp only at hSw); go_simp; try with_reducible rfl)
  try simp only [Act.put, List.getElem_toArray, List.getElem_cons_zero, List.getElem_cons_succ, List.setIfInBounds_toArray, List.set_cons_zero, List.set_cons_succ]
  have BE1 := (BE.new (w' := w2) bel2).new bel1
  have bb := (b0.trans (bel2.mono b0.size)).trans (bel1.mono (Nat.le_trans b0.size bel2.size))
  have hra := hr2.of_block (bel1.block _ hr2.lt)
  have hrb := hr1
  have c0 := BE1.cell 0 _ rfl
  have c1 := BE1.cell 1 _ rfl
  have c2 := BE1.cell 2 _ rfl
  have f0 := BE1.frozen 0
  have f1 := BE1.frozen 1
  have f2 := BE1.frozen 2
  refine wpAnyH_ready (rs := [5]) (by kernel_rfl) (by simp) ?_
  refine AllReadyH.cons (o := _) rfl (fun K hK => ?_) AllReadyH.nil
  go_simp
  refine hK.out _ _ trivial (fun hHeld => ?_)
  clear hK K
  try simp only [Act.put, List.getElem_toArray, List.getElem_cons_zero, List.getElem_cons_succ, List.setIfInBounds_toArray, List.set_cons_zero, List.set_cons_succ]
  refine wpAnyH_done (by kernel_rfl) ?_ _
  rotate_left
  · go_wp2_with fail
    have e1 : (w.alloc (.cells #[.slice none 0 0, .slice none 0 0, .slice none 0 0] 29)).drew.heap.size = w.heap.size + 1 := World.size_alloc ..
    rw [e1] at hra hz1
    clear hr1 hr2 bel1 bel2 BE b0
    generalize hW : World.setCell _ _ _ = W
    have B6 : Bx W (w.heap.size) 29 #[.slice (some ⟨w.heap.size + 1, 0, none⟩) n n, .slice none 0 0, .slice (some ⟨w1.heap.size, 0, none⟩) n n] := by rw [← hW]; exact ((BE1.set 0 _).set 1 _).set 2 _
    have fr6 : Fr (fun k => k = w.heap.size) w2 W := by rw [← hW]; exact fr3 _ _ _ _ _
    clear hW
    have z6 := fr6.size
    have d0 := B6.cell 0 _ rfl
    have d1 := B6.cell 1 _ rfl
    have d2 := B6.cell 2 _ rfl
    have zz := bb.size
    refine bodyPost_ret (v := .agg #[.slice (some ⟨w.heap.size + 1, 0, none⟩) n n, .slice none 0 0, .slice (some ⟨w1.heap.size, 0, none⟩) n n]) (by simp [results, Try.results47, go_sem, d0, d1, d2]) rfl ?_
    refine ⟨_, rfl, emptyN_at (hra.of_block (fr6.block _ hra.lt (by omega))) (hrb.of_block (fr6.block _ hrb.lt (by omega))) (by omega) (by omega) (by omega) (by omega) (by unfold maxLen; omega), bb.trans (fr6.below (fun k h1 h2 hc => by omega) zz)⟩
  · go_wp2_with fail
    have e1 : (w.alloc (.cells #[.slice none 0 0, .slice none 0 0, .slice none 0 0] 29)).drew.heap.size = w.heap.size + 1 := World.size_alloc ..
    rw [e1] at hra hz2
    clear hr1 hr2 bel1 bel2 BE b0
    generalize hW : World.setCell _ _ _ = W
    have B6 : Bx W (w.heap.size) 29 #[.slice (some ⟨w2.heap.size, 0, none⟩) n n, .slice none 0 0, .slice (some ⟨w.heap.size + 1, 0, none⟩) n n] := by rw [← hW]; exact ((BE1.set 0 _).set 1 _).set 2 _
    have fr6 : Fr (fun k => k = w.heap.size) w1 W := by rw [← hW]; exact fr3 _ _ _ _ _
    clear hW
    have z6 := fr6.size
    have d0 := B6.cell 0 _ rfl
    have d1 := B6.cell 1 _ rfl
    have d2 := B6.cell 2 _ rfl
    have zz := bb.size
    refine bodyPost_ret (v := .agg #[.slice (some ⟨w2.heap.size, 0, none⟩) n n, .slice none 0 0, .slice (some ⟨w.heap.size + 1, 0, none⟩) n n]) (by simp [results, Try.results47, go_sem, d0, d1, d2]) rfl ?_
    refine ⟨_, rfl, emptyN_at (hrb.of_block (fr6.block _ hrb.lt (by omega))) (hra.of_block (fr6.block _ hra.lt (by omega))) (by omega) (by omega) (by omega) (by omega) (by unfold maxLen; omega), bb.trans (fr6.below (fun k h1 h2 hc => by omega) zz)⟩
end Go.Proofs.Ytlooinhdehkcdaa
