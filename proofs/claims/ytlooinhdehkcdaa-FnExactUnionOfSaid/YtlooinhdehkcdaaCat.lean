/- A whole list appended onto an own row; slices.Grow of nothing, slices.Concat of one list twice. -/
import Derived.Test.YtlooinhdehkcdaaOwn
import Derived.Test.YtlooinhdehkcdaaRep
import Derived.Lib.AppendZerosOnto
namespace Go.Proofs.Ytlooinhdehkcdaa
open Go.RowKit
set_option linter.unusedVariables false
set_option linter.unusedSimpArgs false
def catF (f : Nat → Value) (k : Nat) (g : Nat → Value) (j : Nat) : Value := if j < k then f j else g (j - k)
theorem grown_refl (w : World) (row : Option Nat) : w.grownBy w row := ⟨rfl, rfl, rfl, Nat.le_refl _, fun _ _ _ => rfl⟩
/-- append(s, x...), x read, s an own row -/
theorem run_appA {P : Program} (w : World) (t ty e : TypeId) (z : Value) (size bytes : Nat) (ht : P.underlying t = some (.slice e)) (hinfo : (P.info? e).map (fun i => (i.zero, i.size, i.bytes)) = some (some z, size, bytes)) (hzs : z.cells.size = size) (hsz : 0 < size)
    (lo hi : Nat) (ao : Option Addr) (n cap : Nat) (f : Nat → Value) (hown : Ow w lo hi e size ao n cap f) (hhi : hi ≤ w.heap.size)
    (ax : Option Addr) (B m c : Nat) (g : Nat → Value) (hf : Rd w B ax (m * size) g) (h1 : ∀ j, (g j).oneCell' = true) (h63 : n + m ≤ maxLen) (hbytes : (n + m) * bytes ≤ 140737488355328) (hlo : lo ≤ w.heap.size) :
    ∃ a' cap' w', (Builtin.append_ #[t, t] ty #[.slice ao n cap, .slice ax m c]).run P w = .ok (.slice a' (n + m) cap') w' ∧ Ow w' lo w'.heap.size e size a' (n + m) cap' (catF f (n * size) g) ∧ w.grownBy w' (blk ao cap) ∧
      (blk a' cap' = blk ao cap ∨ blk a' cap' = some w.heap.size) := by
  obtain ⟨i, hi', hz, hsize, hby⟩ := info_parts hinfo
  rcases Nat.eq_zero_or_pos m with h0 | h0
  · subst h0
    refine ⟨ao, cap, w, ?_, ?_, grown_refl _ _, .inl rfl⟩
    · refine run_append_nothing w t t ty e i ht hi' ao n cap hown.1 _ ?_
      cases ax with
      | none => exact Src.ofNil _ ht c
      | some a => exact Src.ofSlice _ ht a 0 c [] (by simp) (fun j u hj => by simp at hj) (fun u hu => by simp at hu)
    · exact (hown.wide (Nat.le_refl _) hhi).congr fun j hj => by
        try rw [Nat.add_zero] at hj
        unfold catF; rw [if_pos hj]
  · obtain ⟨gx, off, rfl, hg, hc⟩ := hf (Nat.mul_pos h0 hsz)
    obtain ⟨g', cap', w', hr, hown', hgr, hb, hcp⟩ := run_app (P := P) w t ty e z size bytes ht hinfo hzs hsz lo hi ao n cap f hown ⟨gx, off, none⟩ m c ((List.range (m * size)).map g) (by simp)
      (fun j u hj => by
        rcases Nat.lt_or_ge j (m * size) with h | h
        · rw [Addr.add_lit, hc j h, ← hj]; simp [h]
        · rw [List.getElem?_eq_none (by simpa using h)] at hj; cases hj)
      (fun u hu => by
        obtain ⟨j, _, rfl⟩ := List.mem_map.1 hu
        exact h1 j) h0 h63 hbytes hlo
    refine ⟨_, cap', w', hr, hown'.congr fun j hj => ?_, hgr, ?_⟩
    · unfold app catF
      by_cases hj2 : j < n * size
      · rw [if_pos hj2, if_pos hj2]
      · rw [if_neg hj2, if_neg hj2]
        rw [Nat.add_mul] at hj
        rw [List.getD_eq_getElem?_getD, List.getElem?_map, List.getElem?_range (by omega)]; rfl
    · have hbl : blk (some (⟨g', 0, none⟩ : Addr)) cap' = some g' := by rw [blk, if_neg (by omega)]; rfl
      rcases hb with hb | hb
      · exact .inl (by rw [hbl, hb])
      · exact .inr (by rw [hbl, hb])
section
variable {P : Program} {w : World} {ops : Array Oper} {rest : List Oper} {o : Oper} {a : Act} {Q : Exit → Act → World → Prop} {K : Act → World → Prop}
theorem wpList_appA (hgd : o.guard = none) (s x : Operand) (t : TypeId) (ho : o.op = .call { callee := .builtin .append, args := #[s, x], argTypes := #[t, t] })
    (e : TypeId) (z : Value) (size bytes : Nat) (ht : P.underlying t = some (.slice e)) (hinfo : (P.info? e).map (fun i => (i.zero, i.size, i.bytes)) = some (some z, size, bytes)) (hzs : z.cells.size = size) (hsz : 0 < size)
    (lo hi : Nat) (ao : Option Addr) (n cap : Nat) (f : Nat → Value) (hs : a.eval s = .slice ao n cap) (hown : Ow w lo hi e size ao n cap f) (hhi : hi ≤ w.heap.size)
    (ax : Option Addr) (B m c : Nat) (g : Nat → Value) (hx : a.eval x = .slice ax m c) (hf : Rd w B ax (m * size) g) (h1 : ∀ j, (g j).oneCell' = true) (h63 : n + m ≤ maxLen) (hbytes : (n + m) * bytes ≤ 140737488355328) (hlo : lo ≤ w.heap.size)
    (h : ∀ a' cap' w', Ow w' lo w'.heap.size e size a' (n + m) cap' (catF f (n * size) g) → w.grownBy w' (blk ao cap) → (blk a' cap' = blk ao cap ∨ blk a' cap' = some w.heap.size) → wpList P ops Q rest (a.put o.dst (.slice a' (n + m) cap')) w') :
    wpList P ops Q (o :: rest) a w := by
  refine wpList_plain hgd fun K hK => ?_
  obtain ⟨a', cap', w', hr, h2, h3, h4⟩ := run_appA (P := P) w t o.type e z size bytes ht hinfo hzs hsz lo hi ao n cap f hown hhi ax B m c g hf h1 h63 hbytes hlo
  unfold Oper.wp execOp
  simp only [ho, resolve, invoke, builtin, Sem.run_bind, Sem.run_pure, Result.andThen_ok, List.map_toArray, List.map_cons, List.map_nil, hs, hx, hr]
  exact hK _ _ (h a' cap' w' h2 h3 h4)
theorem step_appA (s x : Operand) (t : TypeId) (ho : o.op = .call { callee := .builtin .append, args := #[s, x], argTypes := #[t, t] })
    (e : TypeId) (z : Value) (size bytes : Nat) (ht : P.underlying t = some (.slice e)) (hinfo : (P.info? e).map (fun i => (i.zero, i.size, i.bytes)) = some (some z, size, bytes)) (hzs : z.cells.size = size) (hsz : 0 < size)
    (lo hi : Nat) (ao : Option Addr) (n cap : Nat) (f : Nat → Value) (hs : a.eval s = .slice ao n cap) (hown : Ow w lo hi e size ao n cap f) (hhi : hi ≤ w.heap.size)
    (ax : Option Addr) (B m c : Nat) (g : Nat → Value) (hx : a.eval x = .slice ax m c) (hf : Rd w B ax (m * size) g) (h1 : ∀ j, (g j).oneCell' = true) (h63 : n + m ≤ maxLen) (hbytes : (n + m) * bytes ≤ 140737488355328) (hlo : lo ≤ w.heap.size)
    (h : ∀ a' cap' w', Ow w' lo w'.heap.size e size a' (n + m) cap' (catF f (n * size) g) → w.grownBy w' (blk ao cap) → (blk a' cap' = blk ao cap ∨ blk a' cap' = some w.heap.size) → K (a.put o.dst (.slice a' (n + m) cap')) w') :
    Oper.wp P o a w K Q := by
  obtain ⟨a', cap', w', hr, h2, h3, h4⟩ := run_appA (P := P) w t o.type e z size bytes ht hinfo hzs hsz lo hi ao n cap f hown hhi ax B m c g hf h1 h63 hbytes hlo
  unfold Oper.wp execOp
  simp only [ho, resolve, invoke, builtin, Sem.run_bind, Sem.run_pure, Result.andThen_ok, List.map_toArray, List.map_cons, List.map_nil, hs, hx, hr]
  exact h a' cap' w' h2 h3 h4
end
/-- ints onto ints -/
theorem OwI.cat {w : World} {lo hi cap : Nat} {a : Option Addr} {xs ys : List Int} (h : Ow w lo hi 3 1 a (xs.length + ys.length) cap (catF (fun j => .int .i64 (nth xs j)) (xs.length * 1) fun j => .int .i64 (nth ys j))) : OwI w lo hi a cap (xs ++ ys) := by
  have hl : (xs ++ ys).length = xs.length + ys.length := List.length_append ..
  unfold OwI
  rw [hl]
  refine h.congr fun j hj => ?_
  unfold catF
  rw [Nat.mul_one]
  by_cases hlt : j < xs.length
  · rw [if_pos hlt, nth_append_left _ _ _ hlt]
  · rw [if_neg hlt, nth_append_right _ _ _ (by omega)]
set_option maxHeartbeats 800000 in
theorem growI_any (n : Nat) (w : World) (h0 : 0 < n) (hn : n ≤ 100000) :
    Calls Try.prog 81 #[.slice none 0 0, .int .i64 n] w fun e w' => ∃ c, e = .returned (.slice (some ⟨w.heap.size, 0, none⟩) 0 c) ∧ n ≤ c ∧ OwI w' w.heap.size w'.heap.size (some ⟨w.heap.size, 0, none⟩) c [] ∧ Below w.heap.size w w' := by
  obtain ⟨i, hi, hz, hs, hb⟩ := info_parts int_info
  have hG1 := grownCap_ge w n 0 3
  have hG2 := grownCap_le_maxLen w n 0 3 (by unfold maxLen; omega)
  have hold : (Builtin.firstCells i.size 0 (.slice none 0 0)).run Try.prog w.drew = .ok ([] : List Value).toArray w.drew := run_firstCells_none w.drew i.size 0 0 0
  have hap := fun ty => Lib.run_append_grow_zeros (P := Try.prog) w 23 3 ty 3 i (.int .i64 0) .i64 .i64 Try.underlying23 Try.underlying3 hi hz none 0 0 [] hold n h0 (by omega) (by omega) (by omega) (by rw [hb]; omega) (by rw [hb]; exact growslice_fits (by omega) (by omega))
  simp only [Nat.zero_add] at hap
  generalize grownCap w n 0 3 = G at *
  unfold maxLen at hG2
  have HAP := Lib.hid hap
  clear hap hold hi hz hs hb
  have hl0 : ((n : Nat) : Int) > 0 := by omega
  go_enter Try.func81, Try.ntmps81
  go_wp2_with (at_builtin; refine Lib.wpList_append_run _ rfl _ _ _ _ rfl _ _ rfl rfl _ _ (HAP.out _) ?_)
  all_goals go_ret
  all_goals refine ⟨G, rfl, hG1, ⟨Nat.zero_le _, by unfold maxLen; omega, fun hc => ?_⟩, ((Below.refl _ _).alloc (Nat.le_refl _) _).drew⟩
  all_goals
    obtain ⟨C, hC⟩ : ∃ C, C = Builtin.zeroCells #[Value.int .i64 0] n ++ Builtin.zeroCells #[Value.int .i64 0] (G - n) := ⟨_, rfl⟩
    rw [← hC]
    have hsz : C.size = G := by
      rw [hC, Array.size_append, size_zeroCells, size_zeroCells]; simp; omega
    refine ⟨w.heap.size, fun j => C.getD j undef, rfl, Nat.le_refl _, by simp, ⟨C, heap_alloc_new w _, by omega, fun j hj => ?_⟩, fun j hj => by simp at hj⟩
    simp [show j < C.size by omega]
/-- a list, k times -/
def repL (xs : List Int) : Nat → List Int
  | 0 => []
  | k + 1 => repL xs k ++ xs
theorem repL_length (xs : List Int) (k : Nat) : (repL xs k).length = k * xs.length := by
  induction k with
  | zero => simp [repL]
  | succ k ih => rw [repL, List.length_append, ih, Nat.succ_mul]
set_option maxRecDepth 100000 in
set_option maxHeartbeats 1600000 in
theorem concat2_any (g : Nat) (a : Option Addr) (cap : Nat) (xs : List Int) (w : World) (B : Nat) (ha : RdI w B a xs) (hB : B ≤ w.heap.size) (h0 : w.cell? ⟨g, 0, none⟩ = some (.slice a xs.length cap)) (h1 : w.cell? ⟨g, 1, none⟩ = some (.slice a xs.length cap)) (hx : 0 < xs.length) (hl : xs.length ≤ 1000) :
    Calls Try.prog 46 #[.slice (some ⟨g, 0, none⟩) 2 2] w fun e w' => ∃ a' c, e = .returned (.slice a' (xs ++ xs).length c) ∧ OwI w' w.heap.size w'.heap.size a' c (xs ++ xs) ∧ Below w.heap.size w w' := by
  have hg : g < w.heap.size := World.block_lt_of_cell? w _ h0
  have HC : Hid (∀ j, j < 2 → w.cell? ⟨g, j, none⟩ = some (.slice a xs.length cap)) := Lib.hid fun j hj => by
    match j, hj with
    | 0, _ => exact h0
    | 1, _ => exact h1
  clear h0 h1
  obtain ⟨m, hm⟩ : ∃ m, m = xs.length := ⟨_, rfl⟩
  have HM := Lib.hid hm
  have hm1 : 0 < m := by omega
  have hm2 : m ≤ 1000 := by omega
  rw [← hm] at HC
  clear hm hx hl
  go_enter Try.func46, Try.ntmps46
  go_wp2_with fail
  go_loop [3, 11] (fun s iv => ∃ k : Nat, k ≤ 2 ∧ iv = .int .i64 k ∧ s = .int .i64 (k * m : Nat)) (fun _ iv => 2 - (intOf iv).toNat)
  case atStart => exact ⟨0, by omega, rfl, by rw [Nat.zero_mul]; rfl⟩
  case round =>
    obtain ⟨k, hk, rfl, rfl⟩ := hrel
    by_cases hlt : k < 2
    · have hc := HC.out k hlt
      have hkm : k * m ≤ 1000 := by
        match k, hlt with
        | 0, _ => omega
        | 1, _ => omega
      have hks := Lib.hid (Nat.succ_mul k m)
      generalize k * m = q at *
      have hneg : ¬ ((q : Int) + (m : Int) < 0) := by omega
      go_wp2_with fail
      go_round
      case rel => exact ⟨k + 1, by omega, by go_num, by rw [hks.out]; rfl⟩
      case measure => simp [intOf]; omega
    · obtain rfl : k = 2 := by omega
      have HR := ha
      have h2m : 2 * m ≤ 2000 := by omega
      generalize hq2 : 2 * m = q2 at *
      have HQ := Lib.hid hq2
      have hqp : 0 < q2 := by omega
      clear hq2
      go_wp2_with fail
      refine (growI_any q2 w hqp (by omega)).mono ?_
      rintro e w1 ⟨c1, rfl, hc1, own1, bel1⟩
      have hz1 : w.heap.size ≤ w1.heap.size := bel1.size
      have hg1 := bel1.size
      go_wp2_with fail
      go_loopw [6, 27] (fun s iv wr => ∃ (k : Nat) (a' : Option Addr) (c : Nat), k ≤ 2 ∧ iv = .int .i64 k ∧ s = .slice a' (k * m) c ∧ OwI wr w.heap.size wr.heap.size a' c (repL xs k) ∧ Below w.heap.size w wr) (fun _ iv _ => 2 - (intOf iv).toNat)
      case atStart => exact ⟨0, _, _, by omega, rfl, by rw [Nat.zero_mul], own1, bel1⟩
      case round =>
        clear own1 bel1 hz1 hg1
        obtain ⟨k, a', c, hk, rfl, rfl, own, bel⟩ := hrel
        by_cases hlt : k < 2
        · have hc := (bel.cell (p := ⟨g, k, none⟩) hg).trans (HC.out k hlt)
          have hkm : k * m ≤ 1000 := by
            match k, hlt with
            | 0, _ => omega
            | 1, _ => omega
          have hks := Lib.hid (Nat.succ_mul k m)
          have hrd : Rd wr B a (m * 1) (fun j => .int .i64 (nth xs j)) := by rw [Nat.mul_one, HM.out]; exact Rd.below ha (bel.mono hB)
          have HKL := Lib.hid (show (repL xs k).length = k * m by rw [repL_length, HM.out])
          have hown : Ow wr w.heap.size wr.heap.size 3 1 a' (repL xs k).length c (fun j => .int .i64 (nth (repL xs k) j)) := own
          rw [HKL.out] at hown
          have hzz := bel.size
          generalize k * m = q at *
          clear own
          go_wp2_with (at_builtin; refine wpList_appA rfl _ _ _ rfl 3 (.int .i64 0) 1 8 Try.underlying23 int_info rfl (by decide) w.heap.size wr.heap.size a' q c _ rfl hown (Nat.le_refl _) a B m cap _ rfl hrd (fun _ => rfl) (by unfold maxLen; omega) (by omega) hzz ?_; intro a2 c2 w2 own2 hgr2 hbl2)
          go_roundw
          case rel =>
            refine ⟨k + 1, a2, c2, by omega, by go_num, by rw [hks.out], ?_, below_app bel hown hgr2 (Nat.le_refl _) hzz⟩
            rw [repL]
            refine OwI.cat ?_
            rw [HKL.out, ← HM.out]
            exact own2
          case measure => simp [intOf]; omega
        · obtain rfl : k = 2 := by omega
          go_wp2_with fail
          go_ret
          have e2 : repL xs 2 = xs ++ xs := by simp [repL]
          rw [e2] at own
          have hl2 : 2 * m = (xs ++ xs).length := by rw [List.length_append, ← HM.out]; omega
          refine ⟨a', c, ?_, own, bel⟩
          rw [← hl2]; rfl
end Go.Proofs.Ytlooinhdehkcdaa
