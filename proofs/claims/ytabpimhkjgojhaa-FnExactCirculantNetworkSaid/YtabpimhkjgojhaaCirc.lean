/- CirculantNetwork: the plain law; the closure's contract. -/
import Derived.Test.YtabpimhkjgojhaaWire
import Derived.Test.YtabpimhkjgojhaaBits
namespace Go.Proofs.Ytabpimhkjgojhaa
open Go.RowKit
set_option linter.unusedVariables false
set_option linter.unusedSimpArgs false



theorem nthE_rowW (E : Nat → Nat → Int × Int) (v d i : Nat) (h : i < d) : nthE (rowW E v d) i = E v i := by
  rw [nthE_eq_getElem _ _ (by rw [rowW_length]; exact h)]
  simp [rowW]
theorem wireR_row (k d : Nat) (E : Nat → Nat → Int × Int) (v : Nat) (h : v < k) : rowOf (wireR k d E) v = rowW E v d := rowOf_map k _ v h
theorem wireR_length (k d : Nat) (E : Nat → Nat → Int × Int) : (wireR k d E).length = k := by simp [wireR]
/-- a network whose ends lead back -/
theorem wire_ok {k d : Nat} {E : Nat → Nat → Int × Int} (hk1 : 1 ≤ k) (hk : k ≤ 40) (hd : d ≤ 6)
    (h : ∀ v, v < k → ∀ i, i < d → ∃ v' i' : Nat, E v i = ((v' : Int), (i' : Int)) ∧ v' < k ∧ i' < d ∧ E v' i' = ((v : Int), (i : Int))) : netB (wireN k d E) = true := by
  refine (netB_t ?_ ?_ ?_ ?_).symm
  · exact inR_iff.2 ⟨by show (1 : Int) ≤ ((wireR k d E).length : Int); rw [wireR_length]; omega, by show ((wireR k d E).length : Int) ≤ 40; rw [wireR_length]; omega⟩
  · exact idsB_empty _
  · show inpB (List.replicate k 0) (wireR k d E).length = true
    rw [wireR_length, inpB_all (List.length_replicate ..)]
    refine allB_t fun j hj => ?_
    rw [nth_replicate]
    decide
  · show rowsB (wireR k d E) = true
    refine rowsB_t fun v hv => ?_
    rw [wireR_length] at hv
    refine rowB_t (by rw [wireR_row _ _ _ _ hv, rowW_length]; exact hd) fun i hi => ?_
    rw [wireR_row _ _ _ _ hv, rowW_length] at hi
    obtain ⟨v', i', e1, h1, h2, e2⟩ := h v hv i hi
    unfold portB
    rw [wireR_row _ _ _ _ hv, nthE_rowW _ _ _ _ hi, e1]
    simp only [Int.toNat_natCast]
    have h4 : nthE (rowOf (wireR k d E) v') i' = ((v : Int), (i : Int)) := by rw [wireR_row _ _ _ _ h1, nthE_rowW _ _ _ _ h2, e2]
    have h3 : hasP (wireR k d E) (v' : Int) (i' : Int) = true := by
      unfold hasP hasN
      rw [Int.toNat_natCast, wireR_row _ _ _ _ h1, rowW_length, wireR_length, Bool.and_eq_true]
      exact ⟨inR_iff.2 ⟨by omega, by omega⟩, inR_iff.2 ⟨by omega, by omega⟩⟩
    rw [Bool.and_eq_true]
    exact ⟨h3, decide_eq_true h4⟩
/-- the ends of a circulant network -/
def stp (st : List Int) (j : Nat) : Nat := (nth st j).toNat
def cirE (k : Nat) (st : List Int) (v i : Nat) : Int × Int :=
  if i % 2 = 1 then (((v + (k - stp st (i / 2))) % k : Nat), ((i - 1 : Nat) : Int)) else (((v + stp st (i / 2)) % k : Nat), ((i + 1 : Nat) : Int))
theorem back {k v s : Nat} (hv : v < k) (hs : s < k) : ((v + s) % k + (k - s)) % k = v ∧ ((v + (k - s)) % k + s) % k = v := by
  constructor
  · rcases Nat.lt_or_ge (v + s) k with h | h
    · rw [Nat.mod_eq_of_lt h, show v + s + (k - s) = v + k by omega, Nat.add_mod_right, Nat.mod_eq_of_lt hv]
    · have e : (v + s) % k = v + s - k := by rw [Nat.mod_eq_sub_mod h, Nat.mod_eq_of_lt (by omega)]
      rw [e, show v + s - k + (k - s) = v by omega, Nat.mod_eq_of_lt hv]
  · rcases Nat.lt_or_ge (v + (k - s)) k with h | h
    · rw [Nat.mod_eq_of_lt h, show v + (k - s) + s = v + k by omega, Nat.add_mod_right, Nat.mod_eq_of_lt hv]
    · have e : (v + (k - s)) % k = v + (k - s) - k := by
        rcases Nat.lt_or_ge (v + (k - s) - k) k with h2 | h2
        · rw [Nat.mod_eq_sub_mod h, Nat.mod_eq_of_lt h2]
        · omega
      rw [e, show v + (k - s) - k + s = v by omega, Nat.mod_eq_of_lt hv]
theorem cir_ok {k : Nat} {st : List Int} (hk1 : 1 ≤ k) (hk : k ≤ 40) (hd : 2 * st.length ≤ 6) (hs : ∀ j, j < st.length → stp st j < k) : netB (wireN k (2 * st.length) (cirE k st)) = true := by
  refine wire_ok hk1 hk hd fun v hv i hi => ?_
  have hj : stp st (i / 2) < k := hs _ (by omega)
  by_cases ho : i % 2 = 1
  · refine ⟨(v + (k - stp st (i / 2))) % k, i - 1, by rw [cirE, if_pos ho], Nat.mod_lt _ hk1, by omega, ?_⟩
    rw [cirE, if_neg (by omega), show (i - 1) / 2 = i / 2 by omega, (back hv hj).2, show i - 1 + 1 = i by omega]
  · refine ⟨(v + stp st (i / 2)) % k, i + 1, by rw [cirE, if_neg ho], Nat.mod_lt _ hk1, by omega, ?_⟩
    rw [cirE, if_pos (by omega), show (i + 1) / 2 = i / 2 by omega, (back hv hj).1, show i + 1 - 1 = i by omega]
set_option maxRecDepth 100000 in
set_option maxHeartbeats 1600000 in
theorem wiredCir_any (k : Int) (d : Nat) (E : Nat → Nat → Int × Int) (p q : Nat) (w : World) (hd : d ≤ 1000000)
    (HFN : ∀ X (v i : Nat), Below w.heap.size w X → (v : Int) < k → k ≤ 40 → i < d → d ≤ 6 → Calls Try.prog 54 #[.int .i64 v, .int .i64 i, .pointer (some ⟨q, 0, none⟩), .pointer (some ⟨p, 0, none⟩)] X fun e w' => e = .returned (.agg #[.int .i64 (E v i).1, .int .i64 (E v i).2]) ∧ Below X.heap.size X w') :
    Calls Try.prog 53 #[.int .i64 k, .int .i64 d, .func (.func 54) #[] #[.pointer (some ⟨q, 0, none⟩), .pointer (some ⟨p, 0, none⟩)]] w (PostN (wdR k d E) (wdB k d E) w) := by
  have BR := Bx.made w 25 #[.slice none 0 0, .slice none 0 0, .slice none 0 0]
  have b0 : Below w.heap.size w (w.alloc (.cells #[.slice none 0 0, .slice none 0 0, .slice none 0 0] 25)) := (by repeat (first | exact Below.refl _ _ | assumption | refine Below.alloc ?_ (by first | (simp; done) | (simp; omega) | omega) _ | refine Below.setCell ?_ (by first | (simp; done) | (simp; omega) | omega) _ | refine Below.drew ?_ | refine Below.drewN ?_ _))
  have z0 : w.heap.size + 1 ≤ (w.alloc (.cells #[.slice none 0 0, .slice none 0 0, .slice none 0 0] 25)).heap.size := by simp
  have HF := Lib.hid HFN
  clear HFN
  have HKB := Lib.hid (fun h => inR_iff.1 (h : inR k 1 40 = true))
  go_enter Try.func53, Try.ntmps53
  go_wp2_with fail
  refine (emptyNetwork_any k _).mono ?_
  rintro e w1 ⟨v1, rfl, own1, bel1⟩
  obtain ⟨a1, c1, ai1, ci1, ap1, cp1, rfl, own1⟩ := own1.shape
  replace BR := BR.new bel1
  have z1 : w.heap.size + 1 ≤ w1.heap.size := by have := bel1.size; omega
  simp only [World.size_alloc] at own1
  have b1 := b0.trans (bel1.mono b0.size)
  clear b0 bel1 z0
  generalize hR0 : ifN (inR k 1 40) (emptyN k.toNat) = R0 at *
  have HR0 := Lib.hid hR0
  clear hR0
  have BO := Bx.made w1 25 #[.slice a1 R0.ends.length c1, .slice ai1 R0.ids.length ci1, .slice ap1 R0.inputs.length cp1]
  have b2 : Below w1.heap.size w1 (w1.alloc (.cells #[.slice a1 R0.ends.length c1, .slice ai1 R0.ids.length ci1, .slice ap1 R0.inputs.length cp1] 25)) := (by repeat (first | exact Below.refl _ _ | assumption | refine Below.alloc ?_ (by first | (simp; done) | (simp; omega) | omega) _ | refine Below.setCell ?_ (by first | (simp; done) | (simp; omega) | omega) _ | refine Below.drew ?_ | refine Below.drewN ?_ _))
  go_upto_region 2 with fail
  have z2 : w1.heap.size + 1 ≤ (w1.alloc (.cells #[.slice a1 R0.ends.length c1, .slice ai1 R0.ids.length ci1, .slice ap1 R0.inputs.length cp1] 25)).heap.size := by simp
  generalize w1.alloc (.cells #[.slice a1 R0.ends.length c1, .slice ai1 R0.ids.length ci1, .slice ap1 R0.inputs.length cp1] 25) = w2 at *
  obtain ⟨b, hb⟩ : ∃ b, b = w1.heap.size := ⟨_, rfl⟩
  rw [← hb] at BO ⊢
  replace BR := BR.new b2
  replace own1 := (own1.new b2).wide (Nat.le_refl _) b2.size
  have bb := b1.trans (b2.mono b1.size)
  have zb : w.heap.size + 1 ≤ b := by omega
  have zlo : w.heap.size + 1 ≤ w2.heap.size := by omega
  clear hb b1 b2 z2
  cases hk : inR k 1 40 with
  | false =>
    have HFF := Lib.hid (show (inR k 1 40 && decide (d ≤ 6)) = false by rw [hk]; rfl)
    clear hk
    have e0 := BR.cell 0 _ rfl
    have e1 := BR.cell 1 _ rfl
    have e2 := BR.cell 2 _ rfl
    have f0 := BR.frozen 0
    have f1 := BR.frozen 1
    have f2 := BR.frozen 2
    go_wp2_with fail
    clear e0 e1 e2 f0 f1 f2
    generalize hW : World.setCell _ _ _ = W
    have B6 : Bx W (w.heap.size) 25 #[.slice none 0 0, .slice none 0 0, .slice none 0 0] := by rw [← hW]; exact ((BR.set 0 _).set 1 _).set 2 _
    have fr6 : Fr (fun k => k = w.heap.size) w2 W := by rw [← hW]; exact fr3 _ _ _ _ _
    clear hW
    have z6 := fr6.size
    have d0 := B6.cell 0 _ rfl
    have d1 := B6.cell 1 _ rfl
    have d2 := B6.cell 2 _ rfl
    refine bodyPost_ret (v := .tuple #[.agg #[.slice none 0 0, .slice none 0 0, .slice none 0 0], .bool false]) (by simp [results, Try.results53, go_sem, d0, d1, d2]) rfl ?_
    rw [wdR_f HFF.out, wdB_f HFF.out]
    exact ⟨_, rfl, NetAt.nilN _ _ _, bb.trans (fr6.below (fun k h1 h2 hc => by omega) bb.size)⟩
  | true =>
    have HK := Lib.hid hk
    have hk2 := HKB.out hk
    clear hk HKB
    by_cases hd6 : d ≤ 6
    case neg =>
      have HFF := Lib.hid (show (inR k 1 40 && decide (d ≤ 6)) = false by rw [decide_eq_false hd6, Bool.and_false])
      have e0 := BR.cell 0 _ rfl
      have e1 := BR.cell 1 _ rfl
      have e2 := BR.cell 2 _ rfl
      have f0 := BR.frozen 0
      have f1 := BR.frozen 1
      have f2 := BR.frozen 2
      go_wp2_with fail
      clear e0 e1 e2 f0 f1 f2
      generalize hW : World.setCell _ _ _ = W
      have B6 : Bx W (w.heap.size) 25 #[.slice none 0 0, .slice none 0 0, .slice none 0 0] := by rw [← hW]; exact ((BR.set 0 _).set 1 _).set 2 _
      have fr6 : Fr (fun k => k = w.heap.size) w2 W := by rw [← hW]; exact fr3 _ _ _ _ _
      clear hW
      have z6 := fr6.size
      have d0 := B6.cell 0 _ rfl
      have d1 := B6.cell 1 _ rfl
      have d2 := B6.cell 2 _ rfl
      refine bodyPost_ret (v := .tuple #[.agg #[.slice none 0 0, .slice none 0 0, .slice none 0 0], .bool false]) (by simp [results, Try.results53, go_sem, d0, d1, d2]) rfl ?_
      rw [wdR_f HFF.out, wdB_f HFF.out]
      exact ⟨_, rfl, NetAt.nilN _ _ _, bb.trans (fr6.below (fun k h1 h2 hc => by omega) bb.size)⟩
    obtain ⟨kn, rfl⟩ := Int.eq_ofNat_of_zero_le (show 0 ≤ k by omega)
    obtain rfl : R0 = emptyN kn := by rw [← HR0.out, HK.out, Int.toNat_natCast]; rfl
    have hNB : NBx w2 (w.heap.size + 1) b (tN kn d E 0 0) := by
      have hE0 : tN kn d E 0 0 = emptyN kn := by unfold tN emptyN; rw [wireT_zero]
      rw [hE0]
      obtain ⟨a, c, vs, ai, ci, ap, cp, hv, h1, h2, h3, h4⟩ := own1
      simp only [Value.agg.injEq, Array.mk.injEq, List.cons.injEq, Value.slice.injEq, true_and, and_true] at hv
      obtain ⟨⟨rfl, rfl⟩, ⟨rfl, rfl⟩, rfl, rfl⟩ := hv
      exact ⟨_, _, vs, _, _, _, _, BO, h1, h2, h3, h4⟩
    have HEL := Lib.hid (show (emptyN kn).ends.length = kn from List.length_replicate ..)
    rw [HEL.out] at BO ⊢
    have q0 := BO.cell 0 _ rfl
    have HOKB := Lib.hid (wdB_t (E := E) HK.out hd6)
    clear own1 HR0 BO
    go_wp2_with fail
    clear q0
    go_loopw [27] (fun iv wr => ∃ v : Nat, v ≤ kn ∧ iv = .int .i64 v ∧ NBx wr (w.heap.size + 1) b (tN kn d E v 0) ∧ Bx wr w.heap.size 25 #[.slice none 0 0, .slice none 0 0, .slice none 0 0] ∧ Below w.heap.size w wr ∧ w.heap.size + 1 ≤ wr.heap.size) (fun iv _ => kn - (intOf iv).toNat)
    case atStart => exact ⟨0, Nat.zero_le _, rfl, hNB, BR, bb, zlo⟩
    case round =>
      clear hNB BR bb zlo
      obtain ⟨v, hv, rfl, hNB, BR, bb, zlo⟩ := hrel
      by_cases hlt : v < kn
      · go_wp2_with fail
        go_loopw [31] (fun iv wr => ∃ i : Nat, i ≤ d ∧ iv = .int .i64 i ∧ NBx wr (w.heap.size + 1) b (tN kn d E v i) ∧ Bx wr w.heap.size 25 #[.slice none 0 0, .slice none 0 0, .slice none 0 0] ∧ Below w.heap.size w wr ∧ w.heap.size + 1 ≤ wr.heap.size) (fun iv _ => d - (intOf iv).toNat)
        case atStart => exact ⟨0, Nat.zero_le _, rfl, hNB, BR, bb, zlo⟩
        case round =>
          clear hNB BR bb zlo
          obtain ⟨i, hi, rfl, hNB, BR, bb, zlo⟩ := hrel
          by_cases hil : i < d
          · obtain ⟨aq, c, vs, ai, ci, ap, cp, hbx, hE, owni, ownp, hdis⟩ := hNB
            have hWL : (tN kn d E v i).ends.length = kn := wireT_length ..
            have hrl : (rowOf (wireT kn d E v i) v).length ≤ 6 := by rw [wireT_row _ _ _ _ _ _ hlt, if_neg (by omega), if_pos rfl, rowW_length]; omega
            replace hE : RowsE wr (w.heap.size + 1) wr.heap.size aq c (wireT kn d E v i) vs := hE
            have hv1 : v < (wireT kn d E v i).length := by rw [wireT_length]; exact hlt
            obtain ⟨A, hA, _, _⟩ := Ow.addr hE.1 (by omega)
            subst hA
            obtain ⟨lo, hlo0⟩ : ∃ lo, lo = w.heap.size + 1 := ⟨_, rfl⟩
            rw [← hlo0] at hE owni ownp
            have zl1 : w.heap.size + 1 ≤ lo := by omega
            have hlo : lo ≤ wr.heap.size := by omega
            have HLO := Lib.hid hlo0
            clear hlo0
            rw [hWL] at hbx
            obtain ⟨n, hn⟩ : ∃ n, n = kn := ⟨_, rfl⟩
            rw [← hn] at hbx
            have HNK := Lib.hid hn
            have hvn : v < n := by omega
            clear hn
            have HNI := Lib.hid (fun (x : Nat) (hx : blk ai ci = some x) => rb_ne hE (by omega) owni hx)
            have HNP := Lib.hid (fun (x : Nat) (hx : blk ap cp = some x) => rb_ne hE (by omega) ownp hx)
            have HIN := Lib.hid (fun (x : Nat) (h : RB A (wireT kn d E v i) vs x) => rb_in hE (by omega) h)
            have HWL := Lib.hid hWL
            clear hWL
            go_wp2_with fail
            have hS0 : wr.drew.cell? ⟨b, 0, none⟩ = some (.slice (some ⟨A, 0, none⟩) n c) := hbx.cell 0 _ rfl
            obtain ⟨gq, offq, haeq, _, hcv0⟩ := Rd.at (Ow.rd hE.1) hv1
            obtain ⟨rfl, rfl⟩ : A = gq ∧ 0 = offq := by injection haeq with h; injection h with h1 h2; exact ⟨h1, h2⟩
            clear haeq
            rw [Nat.zero_add] at hcv0
            have hcv : wr.drew.cell? ⟨A, v, none⟩ = _ := hcv0
            refine wp_region_held_drew (S := fun X => X.cell? ⟨b, 0, none⟩ = some (.slice (some ⟨A, 0, none⟩) n c)) (by kernel_rfl) hS0 (fun hHeld => ?_)
            refine wpAnyH_take (i := 0) (v := ?_) rfl (by kernel_rfl) (by kernel_rfl) (by kernel_rfl) (fun _ _ _ h => h) (Or.inl ⟨by rfl, ?_⟩) (by assumption) ?_
            rotate_left
            · (intro w hSw; (try dsimp only at hSw); go_simp; try with_reducible rfl)
            try simp only [Act.put, List.getElem_toArray, List.getElem_cons_zero, List.getElem_cons_succ, List.setIfInBounds_toArray, List.set_cons_zero, List.set_cons_succ]
            refine wpAnyH_take (i := 1) (v := ?_) rfl (by kernel_rfl) (by kernel_rfl) (by kernel_rfl) (fun _ _ _ h => h) (Or.inl ⟨by rfl, ?_⟩) (by assumption) ?_
            rotate_left
            · (intro w hSw; (try dsimp only at hSw); go_simp; try with_reducible rfl)
            try simp only [Act.put, List.getElem_toArray, List.getElem_cons_zero, List.getElem_cons_succ, List.setIfInBounds_toArray, List.set_cons_zero, List.set_cons_succ]
            refine wpAnyH_take (i := 2) (v := ?_) rfl (by kernel_rfl) (by kernel_rfl) (by kernel_rfl) (fun _ _ _ h => h) (Or.inl ⟨by rfl, ?_⟩) (by assumption) ?_
            rotate_left
            · (intro w hSw; (try dsimp only at hSw); go_simp; try with_reducible rfl)
            try simp only [Act.put, List.getElem_toArray, List.getElem_cons_zero, List.getElem_cons_succ, List.setIfInBounds_toArray, List.set_cons_zero, List.set_cons_succ]
            refine wpAnyH_take (i := 3) (v := ?_) rfl (by kernel_rfl) (by kernel_rfl) (by kernel_rfl) (fun _ _ _ h => h) (Or.inl ⟨by rfl, ?_⟩) (by assumption) ?_
            rotate_left
            · (intro w hSw; (try dsimp only at hSw); go_simp; try with_reducible rfl)
            try simp only [Act.put, List.getElem_toArray, List.getElem_cons_zero, List.getElem_cons_succ, List.setIfInBounds_toArray, List.set_cons_zero, List.set_cons_succ]
            refine wpAnyH_take (i := 4) (v := ?_) rfl (by kernel_rfl) (by kernel_rfl) (by kernel_rfl) (fun _ _ _ h => h) (Or.inl ⟨by rfl, ?_⟩) (by assumption) ?_
            rotate_left
            · (intro w hSw; (try dsimp only at hSw); go_simp; try with_reducible rfl)
            try simp only [Act.put, List.getElem_toArray, List.getElem_cons_zero, List.getElem_cons_succ, List.setIfInBounds_toArray, List.set_cons_zero, List.set_cons_succ]
            refine wpAnyH_take (i := 5) (v := ?_) rfl (by kernel_rfl) (by kernel_rfl) (by kernel_rfl) (fun _ _ _ h => h) (Or.inl ⟨by rfl, ?_⟩) (by assumption) ?_
            rotate_left
            · (intro w hSw; (try dsimp only at hSw); go_simp; try with_reducible rfl)
            try simp only [Act.put, List.getElem_toArray, List.getElem_cons_zero, List.getElem_cons_succ, List.setIfInBounds_toArray, List.set_cons_zero, List.set_cons_succ]
            refine wpAnyH_take (i := 6) (v := ?_) rfl (by kernel_rfl) (by kernel_rfl) (by kernel_rfl) (fun _ _ _ h => h) (Or.inl ⟨by rfl, ?_⟩) (by assumption) ?_
            rotate_left
            · (intro w hSw; (try dsimp only at hSw); go_simp; try with_reducible rfl)
            try simp only [Act.put, List.getElem_toArray, List.getElem_cons_zero, List.getElem_cons_succ, List.setIfInBounds_toArray, List.set_cons_zero, List.set_cons_succ]
            refine wpAnyH_take (i := 8) (v := ?_) rfl (by kernel_rfl) (by kernel_rfl) (by kernel_rfl) (fun _ _ _ h => h) (Or.inl ⟨by rfl, ?_⟩) (by assumption) ?_
            rotate_left
            · (intro w hSw; (try dsimp only at hSw); go_simp; try with_reducible rfl)
            try simp only [Act.put, List.getElem_toArray, List.getElem_cons_zero, List.getElem_cons_succ, List.setIfInBounds_toArray, List.set_cons_zero, List.set_cons_succ]
            refine wpAnyH_take (i := 9) (v := ?_) rfl (by kernel_rfl) (by kernel_rfl) (by kernel_rfl) (fun _ _ _ h => h) (Or.inl ⟨by rfl, ?_⟩) (by assumption) ?_
            rotate_left
            · (intro w hSw; (try dsimp only at hSw); go_simp; try with_reducible rfl)
            try simp only [Act.put, List.getElem_toArray, List.getElem_cons_zero, List.getElem_cons_succ, List.setIfInBounds_toArray, List.set_cons_zero, List.set_cons_succ]
            refine wpAnyH_take (i := 10) (v := ?_) rfl (by kernel_rfl) (by kernel_rfl) (by kernel_rfl) (fun _ _ _ h => h) (Or.inl ⟨by rfl, ?_⟩) (by assumption) ?_
            rotate_left
            · (intro w hSw; (try dsimp only at hSw); go_simp; try with_reducible rfl)
            try simp only [Act.put, List.getElem_toArray, List.getElem_cons_zero, List.getElem_cons_succ, List.setIfInBounds_toArray, List.set_cons_zero, List.set_cons_succ]
            refine wpAnyH_ready (rs := [7, 11]) (by kernel_rfl) (by simp) ?_
            refine AllReadyH.cons (o := _) rfl (fun K hK => ?_) (AllReadyH.cons (o := _) rfl (fun K hK => ?_) AllReadyH.nil)
            go_simp
            refine hK.out _ _ (hS0) (fun hHeld => ?_)
            clear hK K
            try simp only [Act.put, List.getElem_toArray, List.getElem_cons_zero, List.getElem_cons_succ, List.setIfInBounds_toArray, List.set_cons_zero, List.set_cons_succ]
            refine wpAnyH_ready (rs := [11]) (by kernel_rfl) (by simp) ?_
            refine AllReadyH.cons (o := _) rfl (fun K hK => ?_) AllReadyH.nil
            go_simp
            refine (HF.out wr.drew v i bb.drew (by omega) (by omega) hil hd6).mono ?_
            rintro e wc ⟨rfl, belc⟩
            have belc' : Below wr.heap.size wr wc := ((Below.refl _ _).drew).trans belc
            clear belc
            have hbc := hbx.new belc'
            have hS4 := hbc.cell 0 _ rfl
            have hcv4 := (belc'.cell (p := ⟨A, v, none⟩) (World.block_lt_of_cell? wr _ hcv0)).trans hcv0
            have hba : Below wc.heap.size wc (wc.alloc (.cells #[.int .i64 (E v i).1, .int .i64 (E v i).2] 62)) := (by repeat (first | exact Below.refl _ _ | assumption | refine Below.alloc ?_ (by first | (simp; done) | (simp; omega) | omega) _ | refine Below.setCell ?_ (by first | (simp; done) | (simp; omega) | omega) _ | refine Below.drew ?_ | refine Below.drewN ?_ _))
            have hw1 := belc'.trans (hba.mono belc'.size)
            have hS1 := (hbx.new hw1).cell 0 _ rfl
            have hcv5 := (hw1.cell (p := ⟨A, v, none⟩) (World.block_lt_of_cell? wr _ hcv0)).trans hcv0
            have hrow1 : Ow (wc.alloc (.cells #[.int .i64 (E v i).1, .int .i64 (E v i).2] 62)) lo wr.heap.size 62 2 (vs v).1 (rowOf (wireT kn d E v i) v).length (vs v).2 (cellE (rowOf (wireT kn d E v i) v)) := Ow.new (hE.2.1 v hv1) hw1
            have hnews : ∀ jj uu, [Value.int .i64 (E v i).1, Value.int .i64 (E v i).2][jj]? = some uu → (wc.alloc (.cells #[.int .i64 (E v i).1, .int .i64 (E v i).2] 62)).cell? (Addr.add ⟨wc.heap.size, 0, none⟩ jj) = some uu := news2 _ _ _ _
            have zc := belc'.size
            refine hK.out _ _ (hS4) (fun hHeld => ?_)
            clear hK K
            try simp only [Act.put, List.getElem_toArray, List.getElem_cons_zero, List.getElem_cons_succ, List.setIfInBounds_toArray, List.set_cons_zero, List.set_cons_succ]
            refine wpAnyH_ready (rs := [12]) (by kernel_rfl) (by simp) ?_
            refine AllReadyH.cons (o := _) rfl (fun K hK => ?_) AllReadyH.nil
            go_simp
            refine hK.out _ _ (hS1) (fun hHeld => ?_)
            clear hK K
            try simp only [Act.put, List.getElem_toArray, List.getElem_cons_zero, List.getElem_cons_succ, List.setIfInBounds_toArray, List.set_cons_zero, List.set_cons_succ]
            refine wpAnyH_ready (rs := [13]) (by kernel_rfl) (by simp) ?_
            refine AllReadyH.cons (o := _) rfl (fun K hK => ?_) AllReadyH.nil
            rw [if_pos (by rfl)]
            refine step_app _ _ _ rfl 62 (.agg #[.int .i64 0, .int .i64 0]) 2 16 Try.underlying60 end_info rfl (by decide) lo wr.heap.size (vs v).1 (rowOf (wireT kn d E v i) v).length (vs v).2 _ rfl hrow1 ⟨wc.heap.size, 0, none⟩ 1 1 [.int .i64 (E v i).1, .int .i64 (E v i).2] rfl rfl hnews (by simp [Value.oneCell']) (by decide) (by unfold maxLen; omega) (by omega) (by simp; omega) ?_
            intro g' cap' w2 own2 hgr hbg _
            obtain ⟨hbx2, hc2, hf2, vt, hE', hbx', hfr', hrb'⟩ := addP_mem hbx hE hv1 hw1 hlo hgr own2 hbg
            have hS2 := hbx2.cell 0 _ rfl
            have hS3 := hbx'.cell 0 _ rfl
            refine hK.out _ _ hS2 (fun hHeld => ?_)
            clear hK K
            try simp only [Act.put, List.getElem_toArray, List.getElem_cons_zero, List.getElem_cons_succ, List.setIfInBounds_toArray, List.set_cons_zero, List.set_cons_succ]
            refine wpAnyH_take (i := 14) (v := ?_) rfl (by kernel_rfl) (by kernel_rfl) (by kernel_rfl) (fun _ _ _ h => h) (Or.inl ⟨by rfl, ?_⟩) (by assumption) ?_
            rotate_left
            · (intro w hSw; (try dsimp only at hSw); go_simp; try with_reducible rfl)
            try simp only [Act.put, List.getElem_toArray, List.getElem_cons_zero, List.getElem_cons_succ, List.setIfInBounds_toArray, List.set_cons_zero, List.set_cons_succ]
            refine wpAnyH_ready (rs := [15]) (by kernel_rfl) (by simp) ?_
            refine AllReadyH.cons (o := _) rfl (fun K hK => ?_) AllReadyH.nil
            go_simp
            refine hK.out _ _ (hS3) (fun hHeld => ?_)
            clear hK K
            try simp only [Act.put, List.getElem_toArray, List.getElem_cons_zero, List.getElem_cons_succ, List.setIfInBounds_toArray, List.set_cons_zero, List.set_cons_succ]
            refine wpAnyH_done (by kernel_rfl) ?_ _
            clear hHeld hS2 hS3 hc2 hf2 hbx2 own2 hgr hbg hS4 hS1 hcv4 hcv5 hba hw1 hrow1 hnews hbc belc'
            rotate_left
            go_simp
            refine (HF.out wr.drew v i bb.drew (by omega) (by omega) hil hd6).mono ?_
            rintro e wc ⟨rfl, belc⟩
            have belc' : Below wr.heap.size wr wc := ((Below.refl _ _).drew).trans belc
            clear belc
            have hbc := hbx.new belc'
            have hS4 := hbc.cell 0 _ rfl
            have hcv4 := (belc'.cell (p := ⟨A, v, none⟩) (World.block_lt_of_cell? wr _ hcv0)).trans hcv0
            have hba : Below wc.heap.size wc (wc.alloc (.cells #[.int .i64 (E v i).1, .int .i64 (E v i).2] 62)) := (by repeat (first | exact Below.refl _ _ | assumption | refine Below.alloc ?_ (by first | (simp; done) | (simp; omega) | omega) _ | refine Below.setCell ?_ (by first | (simp; done) | (simp; omega) | omega) _ | refine Below.drew ?_ | refine Below.drewN ?_ _))
            have hw1 := belc'.trans (hba.mono belc'.size)
            have hS1 := (hbx.new hw1).cell 0 _ rfl
            have hcv5 := (hw1.cell (p := ⟨A, v, none⟩) (World.block_lt_of_cell? wr _ hcv0)).trans hcv0
            have hrow1 : Ow (wc.alloc (.cells #[.int .i64 (E v i).1, .int .i64 (E v i).2] 62)) lo wr.heap.size 62 2 (vs v).1 (rowOf (wireT kn d E v i) v).length (vs v).2 (cellE (rowOf (wireT kn d E v i) v)) := Ow.new (hE.2.1 v hv1) hw1
            have hnews : ∀ jj uu, [Value.int .i64 (E v i).1, Value.int .i64 (E v i).2][jj]? = some uu → (wc.alloc (.cells #[.int .i64 (E v i).1, .int .i64 (E v i).2] 62)).cell? (Addr.add ⟨wc.heap.size, 0, none⟩ jj) = some uu := news2 _ _ _ _
            have zc := belc'.size
            refine hK.out _ _ (hS4) (fun hHeld => ?_)
            clear hK K
            try simp only [Act.put, List.getElem_toArray, List.getElem_cons_zero, List.getElem_cons_succ, List.setIfInBounds_toArray, List.set_cons_zero, List.set_cons_succ]
            refine wpAnyH_ready (rs := [7, 12]) (by kernel_rfl) (by simp) ?_
            refine AllReadyH.cons (o := _) rfl (fun K hK => ?_) (AllReadyH.cons (o := _) rfl (fun K hK => ?_) AllReadyH.nil)
            go_simp
            refine hK.out _ _ (hS4) (fun hHeld => ?_)
            clear hK K
            try simp only [Act.put, List.getElem_toArray, List.getElem_cons_zero, List.getElem_cons_succ, List.setIfInBounds_toArray, List.set_cons_zero, List.set_cons_succ]
            refine wpAnyH_ready (rs := [12]) (by kernel_rfl) (by simp) ?_
            refine AllReadyH.cons (o := _) rfl (fun K hK => ?_) AllReadyH.nil
            go_simp
            refine hK.out _ _ (hS1) (fun hHeld => ?_)
            clear hK K
            try simp only [Act.put, List.getElem_toArray, List.getElem_cons_zero, List.getElem_cons_succ, List.setIfInBounds_toArray, List.set_cons_zero, List.set_cons_succ]
            refine wpAnyH_ready (rs := [13]) (by kernel_rfl) (by simp) ?_
            refine AllReadyH.cons (o := _) rfl (fun K hK => ?_) AllReadyH.nil
            rw [if_pos (by rfl)]
            refine step_app _ _ _ rfl 62 (.agg #[.int .i64 0, .int .i64 0]) 2 16 Try.underlying60 end_info rfl (by decide) lo wr.heap.size (vs v).1 (rowOf (wireT kn d E v i) v).length (vs v).2 _ rfl hrow1 ⟨wc.heap.size, 0, none⟩ 1 1 [.int .i64 (E v i).1, .int .i64 (E v i).2] rfl rfl hnews (by simp [Value.oneCell']) (by decide) (by unfold maxLen; omega) (by omega) (by simp; omega) ?_
            intro g' cap' w2 own2 hgr hbg _
            obtain ⟨hbx2, hc2, hf2, vt, hE', hbx', hfr', hrb'⟩ := addP_mem hbx hE hv1 hw1 hlo hgr own2 hbg
            have hS2 := hbx2.cell 0 _ rfl
            have hS3 := hbx'.cell 0 _ rfl
            refine hK.out _ _ hS2 (fun hHeld => ?_)
            clear hK K
            try simp only [Act.put, List.getElem_toArray, List.getElem_cons_zero, List.getElem_cons_succ, List.setIfInBounds_toArray, List.set_cons_zero, List.set_cons_succ]
            refine wpAnyH_take (i := 14) (v := ?_) rfl (by kernel_rfl) (by kernel_rfl) (by kernel_rfl) (fun _ _ _ h => h) (Or.inl ⟨by rfl, ?_⟩) (by assumption) ?_
            rotate_left
            · (intro w hSw; (try dsimp only at hSw); go_simp; try with_reducible rfl)
            try simp only [Act.put, List.getElem_toArray, List.getElem_cons_zero, List.getElem_cons_succ, List.setIfInBounds_toArray, List.set_cons_zero, List.set_cons_succ]
            refine wpAnyH_ready (rs := [15]) (by kernel_rfl) (by simp) ?_
            refine AllReadyH.cons (o := _) rfl (fun K hK => ?_) AllReadyH.nil
            go_simp
            refine hK.out _ _ (hS3) (fun hHeld => ?_)
            clear hK K
            try simp only [Act.put, List.getElem_toArray, List.getElem_cons_zero, List.getElem_cons_succ, List.setIfInBounds_toArray, List.set_cons_zero, List.set_cons_succ]
            refine wpAnyH_done (by kernel_rfl) ?_ _
            clear hHeld hS2 hS3 hc2 hf2 hbx2 own2 hgr hbg hS4 hS1 hcv4 hcv5 hba hw1 hrow1 hnews hbc belc'
            rotate_left
            go_simp
            refine hK.out _ _ (hS1) (fun hHeld => ?_)
            clear hK K
            try simp only [Act.put, List.getElem_toArray, List.getElem_cons_zero, List.getElem_cons_succ, List.setIfInBounds_toArray, List.set_cons_zero, List.set_cons_succ]
            refine wpAnyH_ready (rs := [7]) (by kernel_rfl) (by simp) ?_
            refine AllReadyH.cons (o := _) rfl (fun K hK => ?_) AllReadyH.nil
            go_simp
            refine hK.out _ _ (hS1) (fun hHeld => ?_)
            clear hK K
            try simp only [Act.put, List.getElem_toArray, List.getElem_cons_zero, List.getElem_cons_succ, List.setIfInBounds_toArray, List.set_cons_zero, List.set_cons_succ]
            refine wpAnyH_ready (rs := [13]) (by kernel_rfl) (by simp) ?_
            refine AllReadyH.cons (o := _) rfl (fun K hK => ?_) AllReadyH.nil
            rw [if_pos (by rfl)]
            refine step_app _ _ _ rfl 62 (.agg #[.int .i64 0, .int .i64 0]) 2 16 Try.underlying60 end_info rfl (by decide) lo wr.heap.size (vs v).1 (rowOf (wireT kn d E v i) v).length (vs v).2 _ rfl hrow1 ⟨wc.heap.size, 0, none⟩ 1 1 [.int .i64 (E v i).1, .int .i64 (E v i).2] rfl rfl hnews (by simp [Value.oneCell']) (by decide) (by unfold maxLen; omega) (by omega) (by simp; omega) ?_
            intro g' cap' w2 own2 hgr hbg _
            obtain ⟨hbx2, hc2, hf2, vt, hE', hbx', hfr', hrb'⟩ := addP_mem hbx hE hv1 hw1 hlo hgr own2 hbg
            have hS2 := hbx2.cell 0 _ rfl
            have hS3 := hbx'.cell 0 _ rfl
            refine hK.out _ _ hS2 (fun hHeld => ?_)
            clear hK K
            try simp only [Act.put, List.getElem_toArray, List.getElem_cons_zero, List.getElem_cons_succ, List.setIfInBounds_toArray, List.set_cons_zero, List.set_cons_succ]
            refine wpAnyH_take (i := 14) (v := ?_) rfl (by kernel_rfl) (by kernel_rfl) (by kernel_rfl) (fun _ _ _ h => h) (Or.inl ⟨by rfl, ?_⟩) (by assumption) ?_
            rotate_left
            · (intro w hSw; (try dsimp only at hSw); go_simp; try with_reducible rfl)
            try simp only [Act.put, List.getElem_toArray, List.getElem_cons_zero, List.getElem_cons_succ, List.setIfInBounds_toArray, List.set_cons_zero, List.set_cons_succ]
            refine wpAnyH_ready (rs := [15]) (by kernel_rfl) (by simp) ?_
            refine AllReadyH.cons (o := _) rfl (fun K hK => ?_) AllReadyH.nil
            go_simp
            refine hK.out _ _ (hS3) (fun hHeld => ?_)
            clear hK K
            try simp only [Act.put, List.getElem_toArray, List.getElem_cons_zero, List.getElem_cons_succ, List.setIfInBounds_toArray, List.set_cons_zero, List.set_cons_succ]
            refine wpAnyH_done (by kernel_rfl) ?_ _
            clear hHeld hS2 hS3 hc2 hf2 hbx2 own2 hgr hbg hS4 hS1 hcv4 hcv5 hba hw1 hrow1 hnews hbc belc'
            rotate_left
            all_goals
              clear hS0 hcv hcv0 hbx hE
              generalize hWW : World.setCell w2 _ _ = w4 at hE' hbx' hfr' ⊢
              clear hWW
              replace hE' := RowsAt.top hE'
              obtain ⟨hE, hbx, hfr, hrb⟩ := (⟨hE', hbx', hfr', hrb'⟩ : _ ∧ _ ∧ _ ∧ _)
              clear hE' hbx' hfr' hrb'
              replace owni := Ow.top (Ow.frB owni hfr HNI.out)
              replace ownp := Ow.top (Ow.frB ownp hfr HNP.out)
              replace BR := BR.fr hfr (fun h => by have := HIN.out _ h; omega)
              replace bb := bb.trans (hfr.below (B := w.heap.size) (fun x h1 h2 hc => by have := HIN.out _ hc; omega) bb.size)
              have z6' := hfr.size
              clear hfr hrb HNI HNP HIN
              rw [wireT_add _ _ _ _ _ hlt] at hE
              rw [HLO.out] at hE owni ownp
              rw [HNK.out] at hbx
              have hNB5 : NBx w4 (w.heap.size + 1) b (tN kn d E v (i + 1)) := ⟨_, c, vt, ai, ci, ap, cp, by rw [show (tN kn d E v (i + 1)).ends.length = kn from wireT_length ..]; exact hbx, hE, owni, ownp, hdis⟩
              go_wp2_with fail
              go_roundw
              case rel => exact ⟨i + 1, by omega, by go_num, hNB5, BR, bb, by omega⟩
              case measure => simp [intOf]; omega
          · obtain rfl : i = d := by omega
            go_wp2_with fail
            go_roundw
            case rel => exact ⟨v + 1, by omega, by go_num, by unfold tN; rw [← wireT_next]; exact hNB, BR, bb, zlo⟩
            case measure => simp [intOf]; omega
      · have HVK := Lib.hid (show v = kn by omega)
        rw [HVK.out] at hNB
        have HTN := Lib.hid (show tN kn d E kn 0 = wireN kn d E by unfold tN wireN; rw [wireT_all])
        rw [HTN.out] at hNB
        have HSM := Lib.hid (show NetSmall (wireN kn d E) by rw [← HTN.out]; exact tN_small (by omega) hd6 (Nat.zero_le _))
        obtain ⟨ax, cx, vx, aix, cix, apx, cpx, BO, hE, owni, ownp, hdis⟩ := hNB
        have own6 : NetAt wr (w.heap.size + 1) wr.heap.size _ (wireN kn d E) := ⟨ax, cx, vx, aix, cix, apx, cpx, rfl, hE, owni, ownp, hdis⟩
        have q0 := BO.cell 0 _ rfl
        have q1 := BO.cell 1 _ rfl
        have q2 := BO.cell 2 _ rfl
        clear hE owni ownp hdis BO
        go_wp2_with fail
        clear q0 q1 q2
        refine (network_any _ (wireN kn d E) _ _ _ own6 (Nat.le_refl _) zlo HSM.out).mono ?_
        rintro e w7 ⟨x7, rfl, own7, bel7⟩
        replace BR := BR.new bel7
        replace bb := bb.trans (bel7.mono bb.size)
        have z7 := bel7.size
        clear bel7 own6
        obtain ⟨ay, cy, aiy, ciy, apy, cpy, rfl, own7⟩ := own7.shape
        generalize hRR : ifN (netB (wireN kn d E)) (wireN kn d E) = RR at *
        generalize hOO : netB (wireN kn d E) = oo at *
        have HRR := Lib.hid (show wdR (kn : Int) d E = RR ∧ wdB (kn : Int) d E = oo by
          have h1 : wdB (kn : Int) d E = oo := by rw [HOKB.out, Int.toNat_natCast]; exact hOO
          exact ⟨by rw [wdR, h1, Int.toNat_natCast]; exact hRR, h1⟩)
        clear hRR hOO
        have e0 := BR.cell 0 _ rfl
        have e1 := BR.cell 1 _ rfl
        have e2 := BR.cell 2 _ rfl
        have f0 := BR.frozen 0
        have f1 := BR.frozen 1
        have f2 := BR.frozen 2
        go_wp2_with fail
        clear e0 e1 e2 f0 f1 f2
        generalize hW : World.setCell _ _ _ = W
        have B6 : Bx W (w.heap.size) 25 #[.slice ay RR.ends.length cy, .slice aiy RR.ids.length ciy, .slice apy RR.inputs.length cpy] := by rw [← hW]; exact ((BR.set 0 _).set 1 _).set 2 _
        have fr6 : Fr (fun k => k = w.heap.size) w7 W := by rw [← hW]; exact fr3 _ _ _ _ _
        clear hW
        have z6 := fr6.size
        have d0 := B6.cell 0 _ rfl
        have d1 := B6.cell 1 _ rfl
        have d2 := B6.cell 2 _ rfl
        refine bodyPost_ret (v := .tuple #[.agg #[.slice ay RR.ends.length cy, .slice aiy RR.ids.length ciy, .slice apy RR.inputs.length cpy], .bool oo]) (by simp [results, Try.results53, go_sem, d0, d1, d2]) rfl ?_
        rw [HRR.out.1, HRR.out.2]
        exact ⟨_, rfl, (own7.fr fr6 (fun k h1 h2 hc => by omega)).wide (lo' := w.heap.size) (hi' := W.heap.size) (by omega) (by omega), bb.trans (fr6.below (fun k h1 h2 hc => by omega) bb.size)⟩
set_option maxRecDepth 100000 in
set_option maxHeartbeats 800000 in
theorem cir1_any (k p q v j : Nat) (st : List Int) (odd : Bool) (a : Option Addr) (cap B : Nat) (X : World) (hp : X.cell? ⟨p, 0, none⟩ = some (.int .i64 (k : Int))) (hq : X.cell? ⟨q, 0, none⟩ = some (.slice a st.length cap)) (ha : RdI X B a st) (hB : B ≤ X.heap.size)
    (hk1 : 1 ≤ k) (hk : k ≤ 40) (hv : v < k) (hj : j < st.length) (hl : st.length ≤ 10) (hs0 : 0 ≤ nth st j) (hs : nth st j < (k : Int)) (i : Nat) (hi : i = 2 * j + if odd then 1 else 0) :
    Calls Try.prog 54 #[.int .i64 v, .int .i64 i, .pointer (some ⟨q, 0, none⟩), .pointer (some ⟨p, 0, none⟩)] X fun e w' => e = .returned (.agg #[.int .i64 (cirE k st v i).1, .int .i64 (cirE k st v i).2]) ∧ Below X.heap.size X w' := by
  have b0 : ∀ cs, Below X.heap.size X (X.alloc (.cells cs 62)) := fun cs => (by repeat (first | exact Below.refl _ _ | assumption | refine Below.alloc ?_ (by first | (simp; done) | (simp; omega) | omega) _ | refine Below.setCell ?_ (by first | (simp; done) | (simp; omega) | omega) _ | refine Below.drew ?_ | refine Below.drewN ?_ _))
  have hpX : p < X.heap.size := World.block_lt_of_cell? X _ hp
  have hqX : q < X.heap.size := World.block_lt_of_cell? X _ hq
  have hp0 := ((b0 #[.int .i64 0, .int .i64 0]).cell (p := ⟨p, 0, none⟩) hpX).trans hp
  have hq0 := ((b0 #[.int .i64 0, .int .i64 0]).cell (p := ⟨q, 0, none⟩) hqX).trans hq
  obtain ⟨g, off, rfl, hg, hc⟩ := Rd.at (Rd.below ha ((b0 #[.int .i64 0, .int .i64 0]).mono hB)) hj
  obtain ⟨s, hss⟩ := Int.eq_ofNat_of_zero_le hs0
  rw [hss] at hc hs
  have HST := Lib.hid (show stp st j = s by rw [stp, hss, Int.toNat_natCast])
  have hsk : s < k := by omega
  clear hss hs0
  have hk0 : ¬ k = 0 := by omega
  cases odd with
  | false =>
    have HI := Lib.hid (show i = 2 * j by simpa using hi)
    have hi20 : i ≤ 20 := by have := HI.out; omega
    have htd : (i : Int) / 2 = (j : Int) := by have := HI.out; omega
    have htm : (i : Int) % 2 = 0 := by have := HI.out; omega
    have e1 : ((v : Int) + (s : Int)) % (k : Int) = (((v + s) % k : Nat) : Int) := by rw [Int.natCast_emod, Int.natCast_add]
    have hx := bits_xor_i64_nat i 1 (by omega) (by omega)
    have hx1 : i ^^^ 1 = i + 1 := by have h9 := HI.out; rw [h9]; have : ∀ j, j < 11 → (2 * j) ^^^ 1 = 2 * j + 1 := by decide
                                     exact this j (by omega)
    rw [hx1, show ((1 : Nat) : Int) = 1 from rfl] at hx
    have hm := Nat.mod_lt (v + s) hk1
    have HC := Lib.hid (show cirE k st v i = ((((v + s) % k : Nat) : Int), ((i + 1 : Nat) : Int)) by have h9 := HI.out; rw [cirE, if_neg (by omega), show i / 2 = j by omega, HST.out])
    clear hi hx1
    generalize (v + s) % k = y at *
    go_enter Try.func54, Try.ntmps54
    go_wp2_with fail
    refine bodyPost_ret (v := .agg #[.int .i64 (y : Int), .int .i64 ((i + 1 : Nat) : Int)]) (by simp [results, Try.results54, go_sem]) rfl ?_
    rw [HC.out]
    exact ⟨rfl, b0 _⟩
  | true =>
    have HI := Lib.hid (show i = 2 * j + 1 by simpa using hi)
    have hi20 : i ≤ 21 := by have := HI.out; omega
    have htd : (i : Int) / 2 = (j : Int) := by have := HI.out; omega
    have htm : (i : Int) % 2 = 1 := by have := HI.out; omega
    have e1 : ((v : Int) + ((k : Int) - (s : Int))) % (k : Int) = (((v + (k - s)) % k : Nat) : Int) := by rw [Int.natCast_emod, Int.natCast_add, show ((k - s : Nat) : Int) = (k : Int) - (s : Int) by omega]
    have hx := bits_xor_i64_nat i 1 (by omega) (by omega)
    have hx1 : i ^^^ 1 = i - 1 := by have h9 := HI.out; rw [h9]; have : ∀ j, j < 11 → (2 * j + 1) ^^^ 1 = 2 * j + 1 - 1 := by decide
                                     exact this j (by omega)
    rw [hx1, show ((1 : Nat) : Int) = 1 from rfl] at hx
    have hm := Nat.mod_lt (v + (k - s)) hk1
    have HC := Lib.hid (show cirE k st v i = ((((v + (k - s)) % k : Nat) : Int), ((i - 1 : Nat) : Int)) by have h9 := HI.out; rw [cirE, if_pos (by omega), show i / 2 = j by omega, HST.out])
    clear hi hx1
    generalize (v + (k - s)) % k = y at *
    go_enter Try.func54, Try.ntmps54
    go_wp2_with fail
    refine bodyPost_ret (v := .agg #[.int .i64 (y : Int), .int .i64 ((i - 1 : Nat) : Int)]) (by simp [results, Try.results54, go_sem]) rfl ?_
    rw [HC.out]
    exact ⟨rfl, b0 _⟩
end Go.Proofs.Ytabpimhkjgojhaa
