/- HypercubeNetwork. -/
import Derived.Test.YtdchomjdimbenaaWire
import Derived.Test.YtdchomjdimbenaaBits
namespace Go.Proofs.Ytdchomjdimbenaa
open Go.RowKit
set_option linter.unusedVariables false
set_option linter.unusedSimpArgs false




/-- the ends of a hypercube -/
def hypE (v i : Nat) : Int × Int := ((v ^^^ 2 ^ i : Nat), (i : Int))
theorem hyp_ok : ∀ d, d < 6 → netB (wireN (2 ^ d) d hypE) = true := by decide +kernel
def hyR (d : Int) : Net := ifN (inR d 0 5) (wireN (2 ^ d.toNat) d.toNat hypE)
theorem wrapS (n : Int) (h : -9223372036854775808 ≤ n ∧ n ≤ 9223372036854775807) : wrap64 n = n := by unfold wrap64; omega
theorem wrapN (t : Nat) (h : t ≤ 1000) : wrap64 (t : Int) = t ∧ IntKind.i64.wrap (t : Int) = t := ⟨wrapS _ (by omega), wrap_i64_small _ (by omega)⟩
theorem hyp_x (v i : Nat) (hv : v < 40) (hi : i < 6) : bits BinOp.xor IntKind.i64 (v : Int) (IntKind.i64.wrap (2 ^ i)) = ((v ^^^ 2 ^ i : Nat) : Int) ∧ bits BinOp.xor IntKind.i64 (v : Int) (wrap64 (2 ^ i)) = ((v ^^^ 2 ^ i : Nat) : Int) := by
  have h1 := Nat.pow_le_pow_right (show 0 < 2 by omega) (show i ≤ 5 by omega)
  have hc : ((2 : Int) ^ i) = ((2 ^ i : Nat) : Int) := by push_cast; rfl
  have hb := bits_xor_i64_nat v (2 ^ i) (by omega) (by omega)
  rw [hc, (wrapN (2 ^ i) (by omega)).1, (wrapN (2 ^ i) (by omega)).2]
  exact ⟨hb, hb⟩
set_option maxRecDepth 100000 in
set_option maxHeartbeats 1600000 in
theorem wiredHyp_any (k : Int) (d : Nat) (E : Nat → Nat → Int × Int)  (w : World) (hd : d ≤ 1000000)
    (HFN : ∀ X (v i : Nat), Below w.heap.size w X → (v : Int) < k → k ≤ 40 → i < d → d ≤ 6 → Calls Try.prog 59 #[.int .i64 v, .int .i64 i] X fun e w' => e = .returned (.agg #[.int .i64 (E v i).1, .int .i64 (E v i).2]) ∧ Below X.heap.size X w') :
    Calls Try.prog 50 #[.int .i64 k, .int .i64 d, .func (.func 59) #[] #[]] w (PostN (wdR k d E) (wdB k d E) w) := by
  have BR := Bx.made w 25 #[.slice none 0 0, .slice none 0 0, .slice none 0 0]
  have b0 : Below w.heap.size w (w.alloc (.cells #[.slice none 0 0, .slice none 0 0, .slice none 0 0] 25)) := (by repeat (first | exact Below.refl _ _ | assumption | refine Below.alloc ?_ (by first | (simp; done) | (simp; omega) | omega) _ | refine Below.setCell ?_ (by first | (simp; done) | (simp; omega) | omega) _ | refine Below.drew ?_ | refine Below.drewN ?_ _))
  have z0 : w.heap.size + 1 ≤ (w.alloc (.cells #[.slice none 0 0, .slice none 0 0, .slice none 0 0] 25)).heap.size := by simp
  have HF := Lib.hid HFN
  clear HFN
  have HKB := Lib.hid (fun h => inR_iff.1 (h : inR k 1 40 = true))
  go_enter Try.func50, Try.ntmps50
  go_wp2_with fail
  refine (emptyNetwork_any k _).mono ?_
  rintro e w1 ⟨v1, rfl, own1, bel1⟩
  obtain ⟨a1, c1, ai1, ci1, ap1, cp1, rfl, own1⟩ := own1.shape
  replace BR := BR.new bel1
  have z1 : w.heap.size + 1 ≤ w1.heap.size := by have := bel1.size; omega
  simp only [World.size_alloc] at own1
  have b1 := b0.trans (bel1.mono b0.size)
  clear b0 bel1 z0
  generalize hR0 : ifN (inR k 1 40) (emptyN k.toNat) = R0 at *
  have HR0 := Lib.hid hR0
  clear hR0
  have BO := Bx.made w1 25 #[.slice a1 R0.ends.length c1, .slice ai1 R0.ids.length ci1, .slice ap1 R0.inputs.length cp1]
  have b2 : Below w1.heap.size w1 (w1.alloc (.cells #[.slice a1 R0.ends.length c1, .slice ai1 R0.ids.length ci1, .slice ap1 R0.inputs.length cp1] 25)) := (by repeat (first | exact Below.refl _ _ | assumption | refine Below.alloc ?_ (by first | (simp; done) | (simp; omega) | omega) _ | refine Below.setCell ?_ (by first | (simp; done) | (simp; omega) | omega) _ | refine Below.drew ?_ | refine Below.drewN ?_ _))
  go_upto_region 2 with fail
  have z2 : w1.heap.size + 1 ≤ (w1.alloc (.cells #[.slice a1 R0.ends.length c1, .slice ai1 R0.ids.length ci1, .slice ap1 R0.inputs.length cp1] 25)).heap.size := by simp
  generalize w1.alloc (.cells #[.slice a1 R0.ends.length c1, .slice ai1 R0.ids.length ci1, .slice ap1 R0.inputs.length cp1] 25) = w2 at *
  obtain ⟨b, hb⟩ : ∃ b, b = w1.heap.size := ⟨_, rfl⟩
  rw [← hb] at BO ⊢
  replace BR := BR.new b2
  replace own1 := (own1.new b2).wide (Nat.le_refl _) b2.size
  have bb := b1.trans (b2.mono b1.size)
  have zb : w.heap.size + 1 ≤ b := by omega
  have zlo : w.heap.size + 1 ≤ w2.heap.size := by omega
  clear hb b1 b2 z2
  cases hk : inR k 1 40 with
  | false =>
    have HFF := Lib.hid (show (inR k 1 40 && decide (d ≤ 6)) = false by rw [hk]; rfl)
    clear hk
    have e0 := BR.cell 0 _ rfl
    have e1 := BR.cell 1 _ rfl
    have e2 := BR.cell 2 _ rfl
    have f0 := BR.frozen 0
    have f1 := BR.frozen 1
    have f2 := BR.frozen 2
    go_wp2_with fail
    clear e0 e1 e2 f0 f1 f2
    generalize hW : World.setCell _ _ _ = W
    have B6 : Bx W (w.heap.size) 25 #[.slice none 0 0, .slice none 0 0, .slice none 0 0] := by rw [← hW]; exact ((BR.set 0 _).set 1 _).set 2 _
    have fr6 : Fr (fun k => k = w.heap.size) w2 W := by rw [← hW]; exact fr3 _ _ _ _ _
    clear hW
    have z6 := fr6.size
    have d0 := B6.cell 0 _ rfl
    have d1 := B6.cell 1 _ rfl
    have d2 := B6.cell 2 _ rfl
    refine bodyPost_ret (v := .tuple #[.agg #[.slice none 0 0, .slice none 0 0, .slice none 0 0], .bool false]) (by simp [results, Try.results50, go_sem, d0, d1, d2]) rfl ?_
    rw [wdR_f HFF.out, wdB_f HFF.out]
    exact ⟨_, rfl, NetAt.nilN _ _ _, bb.trans (fr6.below (fun k h1 h2 hc => by omega) bb.size)⟩
  | true =>
    have HK := Lib.hid hk
    have hk2 := HKB.out hk
    clear hk HKB
    by_cases hd6 : d ≤ 6
    case neg =>
      have HFF := Lib.hid (show (inR k 1 40 && decide (d ≤ 6)) = false by rw [decide_eq_false hd6, Bool.and_false])
      have e0 := BR.cell 0 _ rfl
      have e1 := BR.cell 1 _ rfl
      have e2 := BR.cell 2 _ rfl
      have f0 := BR.frozen 0
      have f1 := BR.frozen 1
      have f2 := BR.frozen 2
      go_wp2_with fail
      clear e0 e1 e2 f0 f1 f2
      generalize hW : World.setCell _ _ _ = W
      have B6 : Bx W (w.heap.size) 25 #[.slice none 0 0, .slice none 0 0, .slice none 0 0] := by rw [← hW]; exact ((BR.set 0 _).set 1 _).set 2 _
      have fr6 : Fr (fun k => k = w.heap.size) w2 W := by rw [← hW]; exact fr3 _ _ _ _ _
      clear hW
      have z6 := fr6.size
      have d0 := B6.cell 0 _ rfl
      have d1 := B6.cell 1 _ rfl
      have d2 := B6.cell 2 _ rfl
      refine bodyPost_ret (v := .tuple #[.agg #[.slice none 0 0, .slice none 0 0, .slice none 0 0], .bool false]) (by simp [results, Try.results50, go_sem, d0, d1, d2]) rfl ?_
      rw [wdR_f HFF.out, wdB_f HFF.out]
      exact ⟨_, rfl, NetAt.nilN _ _ _, bb.trans (fr6.below (fun k h1 h2 hc => by omega) bb.size)⟩
    obtain ⟨kn, rfl⟩ := Int.eq_ofNat_of_zero_le (show 0 ≤ k by omega)
    obtain rfl : R0 = emptyN kn := by rw [← HR0.out, HK.out, Int.toNat_natCast]; rfl
    have hNB : NBx w2 (w.heap.size + 1) b (tN kn d E 0 0) := by
      have hE0 : tN kn d E 0 0 = emptyN kn := by unfold tN emptyN; rw [wireT_zero]
      rw [hE0]
      obtain ⟨a, c, vs, ai, ci, ap, cp, hv, h1, h2, h3, h4⟩ := own1
      simp only [Value.agg.injEq, Array.mk.injEq, List.cons.injEq, Value.slice.injEq, true_and, and_true] at hv
      obtain ⟨⟨rfl, rfl⟩, ⟨rfl, rfl⟩, rfl, rfl⟩ := hv
      exact ⟨_, _, vs, _, _, _, _, BO, h1, h2, h3, h4⟩
    have HEL := Lib.hid (show (emptyN kn).ends.length = kn from List.length_replicate ..)
    rw [HEL.out] at BO ⊢
    have q0 := BO.cell 0 _ rfl
    have HOKB := Lib.hid (wdB_t (E := E) HK.out hd6)
    clear own1 HR0 BO
    go_wp2_with fail
    clear q0
    go_loopw [27] (fun iv wr => ∃ v : Nat, v ≤ kn ∧ iv = .int .i64 v ∧ NBx wr (w.heap.size + 1) b (tN kn d E v 0) ∧ Bx wr w.heap.size 25 #[.slice none 0 0, .slice none 0 0, .slice none 0 0] ∧ Below w.heap.size w wr ∧ w.heap.size + 1 ≤ wr.heap.size) (fun iv _ => kn - (intOf iv).toNat)
    case atStart => exact ⟨0, Nat.zero_le _, rfl, hNB, BR, bb, zlo⟩
    case round =>
      clear hNB BR bb zlo
      obtain ⟨v, hv, rfl, hNB, BR, bb, zlo⟩ := hrel
      by_cases hlt : v < kn
      · go_wp2_with fail
        go_loopw [31] (fun iv wr => ∃ i : Nat, i ≤ d ∧ iv = .int .i64 i ∧ NBx wr (w.heap.size + 1) b (tN kn d E v i) ∧ Bx wr w.heap.size 25 #[.slice none 0 0, .slice none 0 0, .slice none 0 0] ∧ Below w.heap.size w wr ∧ w.heap.size + 1 ≤ wr.heap.size) (fun iv _ => d - (intOf iv).toNat)
        case atStart => exact ⟨0, Nat.zero_le _, rfl, hNB, BR, bb, zlo⟩
        case round =>
          clear hNB BR bb zlo
          obtain ⟨i, hi, rfl, hNB, BR, bb, zlo⟩ := hrel
          by_cases hil : i < d
          · obtain ⟨aq, c, vs, ai, ci, ap, cp, hbx, hE, owni, ownp, hdis⟩ := hNB
            have hWL : (tN kn d E v i).ends.length = kn := wireT_length ..
            have hrl : (rowOf (wireT kn d E v i) v).length ≤ 6 := by rw [wireT_row _ _ _ _ _ _ hlt, if_neg (by omega), if_pos rfl, rowW_length]; omega
            replace hE : RowsE wr (w.heap.size + 1) wr.heap.size aq c (wireT kn d E v i) vs := hE
            have hv1 : v < (wireT kn d E v i).length := by rw [wireT_length]; exact hlt
            obtain ⟨A, hA, _, _⟩ := Ow.addr hE.1 (by omega)
            subst hA
            obtain ⟨lo, hlo0⟩ : ∃ lo, lo = w.heap.size + 1 := ⟨_, rfl⟩
            rw [← hlo0] at hE owni ownp
            have zl1 : w.heap.size + 1 ≤ lo := by omega
            have hlo : lo ≤ wr.heap.size := by omega
            have HLO := Lib.hid hlo0
            clear hlo0
            rw [hWL] at hbx
            obtain ⟨n, hn⟩ : ∃ n, n = kn := ⟨_, rfl⟩
            rw [← hn] at hbx
            have HNK := Lib.hid hn
            have hvn : v < n := by omega
            clear hn
            have HNI := Lib.hid (fun (x : Nat) (hx : blk ai ci = some x) => rb_ne hE (by omega) owni hx)
            have HNP := Lib.hid (fun (x : Nat) (hx : blk ap cp = some x) => rb_ne hE (by omega) ownp hx)
            have HIN := Lib.hid (fun (x : Nat) (h : RB A (wireT kn d E v i) vs x) => rb_in hE (by omega) h)
            have HWL := Lib.hid hWL
            clear hWL
            go_wp2_with fail
            have hS0 : wr.drew.cell? ⟨b, 0, none⟩ = some (.slice (some ⟨A, 0, none⟩) n c) := hbx.cell 0 _ rfl
            obtain ⟨gq, offq, haeq, _, hcv0⟩ := Rd.at (Ow.rd hE.1) hv1
            obtain ⟨rfl, rfl⟩ : A = gq ∧ 0 = offq := by injection haeq with h; injection h with h1 h2; exact ⟨h1, h2⟩
            clear haeq
            rw [Nat.zero_add] at hcv0
            have hcv : wr.drew.cell? ⟨A, v, none⟩ = _ := hcv0
            refine wp_region_held_drew (S := fun X => X.cell? ⟨b, 0, none⟩ = some (.slice (some ⟨A, 0, none⟩) n c)) (by kernel_rfl) hS0 (fun hHeld => ?_)
            refine wpAnyH_take (i := 0) (v := ?_) rfl (by kernel_rfl) (by kernel_rfl) (by kernel_rfl) (fun _ _ _ h => h) (Or.inl ⟨by rfl, ?_⟩) (by assumption) ?_
            rotate_left
            · (intro w hSw; (try dsimp only at hSw); go_simp; try with_reducible rfl)
            try simp only [Act.put, List.getElem_toArray, List.getElem_cons_zero, List.getElem_cons_succ, List.setIfInBounds_toArray, List.set_cons_zero, List.set_cons_succ]
            refine wpAnyH_take (i := 1) (v := ?_) rfl (by kernel_rfl) (by kernel_rfl) (by kernel_rfl) (fun _ _ _ h => h) (Or.inl ⟨by rfl, ?_⟩) (by assumption) ?_
            rotate_left
            · (intro w hSw; (try dsimp only at hSw); go_simp; try with_reducible rfl)
            try simp only [Act.put, List.getElem_toArray, List.getElem_cons_zero, List.getElem_cons_succ, List.setIfInBounds_toArray, List.set_cons_zero, List.set_cons_succ]
            refine wpAnyH_take (i := 2) (v := ?_) rfl (by kernel_rfl) (by kernel_rfl) (by kernel_rfl) (fun _ _ _ h => h) (Or.inl ⟨by rfl, ?_⟩) (by assumption) ?_
            rotate_left
            · (intro w hSw; (try dsimp only at hSw); go_simp; try with_reducible rfl)
            try simp only [Act.put, List.getElem_toArray, List.getElem_cons_zero, List.getElem_cons_succ, List.setIfInBounds_toArray, List.set_cons_zero, List.set_cons_succ]
            refine wpAnyH_take (i := 3) (v := ?_) rfl (by kernel_rfl) (by kernel_rfl) (by kernel_rfl) (fun _ _ _ h => h) (Or.inl ⟨by rfl, ?_⟩) (by assumption) ?_
            rotate_left
            · (intro w hSw; (try dsimp only at hSw); go_simp; try with_reducible rfl)
            try simp only [Act.put, List.getElem_toArray, List.getElem_cons_zero, List.getElem_cons_succ, List.setIfInBounds_toArray, List.set_cons_zero, List.set_cons_succ]
            refine wpAnyH_take (i := 4) (v := ?_) rfl (by kernel_rfl) (by kernel_rfl) (by kernel_rfl) (fun _ _ _ h => h) (Or.inl ⟨by rfl, ?_⟩) (by assumption) ?_
            rotate_left
            · (intro w hSw; (try dsimp only at hSw); go_simp; try with_reducible rfl)
            try simp only [Act.put, List.getElem_toArray, List.getElem_cons_zero, List.getElem_cons_succ, List.setIfInBounds_toArray, List.set_cons_zero, List.set_cons_succ]
            refine wpAnyH_take (i := 5) (v := ?_) rfl (by kernel_rfl) (by kernel_rfl) (by kernel_rfl) (fun _ _ _ h => h) (Or.inl ⟨by rfl, ?_⟩) (by assumption) ?_
            rotate_left
            · (intro w hSw; (try dsimp only at hSw); go_simp; try with_reducible rfl)
            try simp only [Act.put, List.getElem_toArray, List.getElem_cons_zero, List.getElem_cons_succ, List.setIfInBounds_toArray, List.set_cons_zero, List.set_cons_succ]
            refine wpAnyH_take (i := 6) (v := ?_) rfl (by kernel_rfl) (by kernel_rfl) (by kernel_rfl) (fun _ _ _ h => h) (Or.inl ⟨by rfl, ?_⟩) (by assumption) ?_
            rotate_left
            · (intro w hSw; (try dsimp only at hSw); go_simp; try with_reducible rfl)
            try simp only [Act.put, List.getElem_toArray, List.getElem_cons_zero, List.getElem_cons_succ, List.setIfInBounds_toArray, List.set_cons_zero, List.set_cons_succ]
            refine wpAnyH_take (i := 8) (v := ?_) rfl (by kernel_rfl) (by kernel_rfl) (by kernel_rfl) (fun _ _ _ h => h) (Or.inl ⟨by rfl, ?_⟩) (by assumption) ?_
            rotate_left
            · (intro w hSw; (try dsimp only at hSw); go_simp; try with_reducible rfl)
            try simp only [Act.put, List.getElem_toArray, List.getElem_cons_zero, List.getElem_cons_succ, List.setIfInBounds_toArray, List.set_cons_zero, List.set_cons_succ]
            refine wpAnyH_take (i := 9) (v := ?_) rfl (by kernel_rfl) (by kernel_rfl) (by kernel_rfl) (fun _ _ _ h => h) (Or.inl ⟨by rfl, ?_⟩) (by assumption) ?_
            rotate_left
            · (intro w hSw; (try dsimp only at hSw); go_simp; try with_reducible rfl)
            try simp only [Act.put, List.getElem_toArray, List.getElem_cons_zero, List.getElem_cons_succ, List.setIfInBounds_toArray, List.set_cons_zero, List.set_cons_succ]
            refine wpAnyH_take (i := 10) (v := ?_) rfl (by kernel_rfl) (by kernel_rfl) (by kernel_rfl) (fun _ _ _ h => h) (Or.inl ⟨by rfl, ?_⟩) (by assumption) ?_
            rotate_left
            · (intro w hSw; (try dsimp only at hSw); go_simp; try with_reducible rfl)
            try simp only [Act.put, List.getElem_toArray, List.getElem_cons_zero, List.getElem_cons_succ, List.setIfInBounds_toArray, List.set_cons_zero, List.set_cons_succ]
            refine wpAnyH_ready (rs := [7, 11]) (by kernel_rfl) (by simp) ?_
            refine AllReadyH.cons (o := _) rfl (fun K hK => ?_) (AllReadyH.cons (o := _) rfl (fun K hK => ?_) AllReadyH.nil)
            go_simp
            refine hK.out _ _ (hS0) (fun hHeld => ?_)
            clear hK K
            try simp only [Act.put, List.getElem_toArray, List.getElem_cons_zero, List.getElem_cons_succ, List.setIfInBounds_toArray, List.set_cons_zero, List.set_cons_succ]
            refine wpAnyH_ready (rs := [11]) (by kernel_rfl) (by simp) ?_
            refine AllReadyH.cons (o := _) rfl (fun K hK => ?_) AllReadyH.nil
            go_simp
            refine (HF.out wr.drew v i bb.drew (by omega) (by omega) hil hd6).mono ?_
            rintro e wc ⟨rfl, belc⟩
            have belc' : Below wr.heap.size wr wc := ((Below.refl _ _).drew).trans belc
            clear belc
            have hbc := hbx.new belc'
            have hS4 := hbc.cell 0 _ rfl
            have hcv4 := (belc'.cell (p := ⟨A, v, none⟩) (World.block_lt_of_cell? wr _ hcv0)).trans hcv0
            have hba : Below wc.heap.size wc (wc.alloc (.cells #[.int .i64 (E v i).1, .int .i64 (E v i).2] 57)) := (by repeat (first | exact Below.refl _ _ | assumption | refine Below.alloc ?_ (by first | (simp; done) | (simp; omega) | omega) _ | refine Below.setCell ?_ (by first | (simp; done) | (simp; omega) | omega) _ | refine Below.drew ?_ | refine Below.drewN ?_ _))
            have hw1 := belc'.trans (hba.mono belc'.size)
            have hS1 := (hbx.new hw1).cell 0 _ rfl
            have hcv5 := (hw1.cell (p := ⟨A, v, none⟩) (World.block_lt_of_cell? wr _ hcv0)).trans hcv0
            have hrow1 : Ow (wc.alloc (.cells #[.int .i64 (E v i).1, .int .i64 (E v i).2] 57)) lo wr.heap.size 57 2 (vs v).1 (rowOf (wireT kn d E v i) v).length (vs v).2 (cellE (rowOf (wireT kn d E v i) v)) := Ow.new (hE.2.1 v hv1) hw1
            have hnews : ∀ jj uu, [Value.int .i64 (E v i).1, Value.int .i64 (E v i).2][jj]? = some uu → (wc.alloc (.cells #[.int .i64 (E v i).1, .int .i64 (E v i).2] 57)).cell? (Addr.add ⟨wc.heap.size, 0, none⟩ jj) = some uu := news2 _ _ _ _
            have zc := belc'.size
            refine hK.out _ _ (hS4) (fun hHeld => ?_)
            clear hK K
            try simp only [Act.put, List.getElem_toArray, List.getElem_cons_zero, List.getElem_cons_succ, List.setIfInBounds_toArray, List.set_cons_zero, List.set_cons_succ]
            refine wpAnyH_ready (rs := [12]) (by kernel_rfl) (by simp) ?_
            refine AllReadyH.cons (o := _) rfl (fun K hK => ?_) AllReadyH.nil
            go_simp
            refine hK.out _ _ (hS1) (fun hHeld => ?_)
            clear hK K
            try simp only [Act.put, List.getElem_toArray, List.getElem_cons_zero, List.getElem_cons_succ, List.setIfInBounds_toArray, List.set_cons_zero, List.set_cons_succ]
            refine wpAnyH_ready (rs := [13]) (by kernel_rfl) (by simp) ?_
            refine AllReadyH.cons (o := _) rfl (fun K hK => ?_) AllReadyH.nil
            rw [if_pos (by rfl)]
            refine step_app _ _ _ rfl 57 (.agg #[.int .i64 0, .int .i64 0]) 2 16 Try.underlying55 end_info rfl (by decide) lo wr.heap.size (vs v).1 (rowOf (wireT kn d E v i) v).length (vs v).2 _ rfl hrow1 ⟨wc.heap.size, 0, none⟩ 1 1 [.int .i64 (E v i).1, .int .i64 (E v i).2] rfl rfl hnews (by simp [Value.oneCell']) (by decide) (by unfold maxLen; omega) (by omega) (by simp; omega) ?_
            intro g' cap' w2 own2 hgr hbg _
            obtain ⟨hbx2, hc2, hf2, vt, hE', hbx', hfr', hrb'⟩ := addP_mem hbx hE hv1 hw1 hlo hgr own2 hbg
            have hS2 := hbx2.cell 0 _ rfl
            have hS3 := hbx'.cell 0 _ rfl
            refine hK.out _ _ hS2 (fun hHeld => ?_)
            clear hK K
            try simp only [Act.put, List.getElem_toArray, List.getElem_cons_zero, List.getElem_cons_succ, List.setIfInBounds_toArray, List.set_cons_zero, List.set_cons_succ]
            refine wpAnyH_take (i := 14) (v := ?_) rfl (by kernel_rfl) (by kernel_rfl) (by kernel_rfl) (fun _ _ _ h => h) (Or.inl ⟨by rfl, ?_⟩) (by assumption) ?_
            rotate_left
            · (intro w hSw; (try dsimp only at hSw); go_simp; try with_reducible rfl)
            try simp only [Act.put, List.getElem_toArray, List.getElem_cons_zero, List.getElem_cons_succ, List.setIfInBounds_toArray, List.set_cons_zero, List.set_cons_succ]
            refine wpAnyH_ready (rs := [15]) (by kernel_rfl) (by simp) ?_
            refine AllReadyH.cons (o := _) rfl (fun K hK => ?_) AllReadyH.nil
            go_simp
            refine hK.out _ _ (hS3) (fun hHeld => ?_)
            clear hK K
            try simp only [Act.put, List.getElem_toArray, List.getElem_cons_zero, List.getElem_cons_succ, List.setIfInBounds_toArray, List.set_cons_zero, List.set_cons_succ]
            refine wpAnyH_done (by kernel_rfl) ?_ _
            clear hHeld hS2 hS3 hc2 hf2 hbx2 own2 hgr hbg hS4 hS1 hcv4 hcv5 hba hw1 hrow1 hnews hbc belc'
            rotate_left
            go_simp
            refine (HF.out wr.drew v i bb.drew (by omega) (by omega) hil hd6).mono ?_
            rintro e wc ⟨rfl, belc⟩
            have belc' : Below wr.heap.size wr wc := ((Below.refl _ _).drew).trans belc
            clear belc
            have hbc := hbx.new belc'
            have hS4 := hbc.cell 0 _ rfl
            have hcv4 := (belc'.cell (p := ⟨A, v, none⟩) (World.block_lt_of_cell? wr _ hcv0)).trans hcv0
            have hba : Below wc.heap.size wc (wc.alloc (.cells #[.int .i64 (E v i).1, .int .i64 (E v i).2] 57)) := (by repeat (first | exact Below.refl _ _ | assumption | refine Below.alloc ?_ (by first | (simp; done) | (simp; omega) | omega) _ | refine Below.setCell ?_ (by first | (simp; done) | (simp; omega) | omega) _ | refine Below.drew ?_ | refine Below.drewN ?_ _))
            have hw1 := belc'.trans (hba.mono belc'.size)
            have hS1 := (hbx.new hw1).cell 0 _ rfl
            have hcv5 := (hw1.cell (p := ⟨A, v, none⟩) (World.block_lt_of_cell? wr _ hcv0)).trans hcv0
            have hrow1 : Ow (wc.alloc (.cells #[.int .i64 (E v i).1, .int .i64 (E v i).2] 57)) lo wr.heap.size 57 2 (vs v).1 (rowOf (wireT kn d E v i) v).length (vs v).2 (cellE (rowOf (wireT kn d E v i) v)) := Ow.new (hE.2.1 v hv1) hw1
            have hnews : ∀ jj uu, [Value.int .i64 (E v i).1, Value.int .i64 (E v i).2][jj]? = some uu → (wc.alloc (.cells #[.int .i64 (E v i).1, .int .i64 (E v i).2] 57)).cell? (Addr.add ⟨wc.heap.size, 0, none⟩ jj) = some uu := news2 _ _ _ _
            have zc := belc'.size
            refine hK.out _ _ (hS4) (fun hHeld => ?_)
            clear hK K
            try simp only [Act.put, List.getElem_toArray, List.getElem_cons_zero, List.getElem_cons_succ, List.setIfInBounds_toArray, List.set_cons_zero, List.set_cons_succ]
            refine wpAnyH_ready (rs := [7, 12]) (by kernel_rfl) (by simp) ?_
            refine AllReadyH.cons (o := _) rfl (fun K hK => ?_) (AllReadyH.cons (o := _) rfl (fun K hK => ?_) AllReadyH.nil)
            go_simp
            refine hK.out _ _ (hS4) (fun hHeld => ?_)
            clear hK K
            try simp only [Act.put, List.getElem_toArray, List.getElem_cons_zero, List.getElem_cons_succ, List.setIfInBounds_toArray, List.set_cons_zero, List.set_cons_succ]
            refine wpAnyH_ready (rs := [12]) (by kernel_rfl) (by simp) ?_
            refine AllReadyH.cons (o := _) rfl (fun K hK => ?_) AllReadyH.nil
            go_simp
            refine hK.out _ _ (hS1) (fun hHeld => ?_)
            clear hK K
            try simp only [Act.put, List.getElem_toArray, List.getElem_cons_zero, List.getElem_cons_succ, List.setIfInBounds_toArray, List.set_cons_zero, List.set_cons_succ]
            refine wpAnyH_ready (rs := [13]) (by kernel_rfl) (by simp) ?_
            refine AllReadyH.cons (o := _) rfl (fun K hK => ?_) AllReadyH.nil
            rw [if_pos (by rfl)]
            refine step_app _ _ _ rfl 57 (.agg #[.int .i64 0, .int .i64 0]) 2 16 Try.underlying55 end_info rfl (by decide) lo wr.heap.size (vs v).1 (rowOf (wireT kn d E v i) v).length (vs v).2 _ rfl hrow1 ⟨wc.heap.size, 0, none⟩ 1 1 [.int .i64 (E v i).1, .int .i64 (E v i).2] rfl rfl hnews (by simp [Value.oneCell']) (by decide) (by unfold maxLen; omega) (by omega) (by simp; omega) ?_
            intro g' cap' w2 own2 hgr hbg _
            obtain ⟨hbx2, hc2, hf2, vt, hE', hbx', hfr', hrb'⟩ := addP_mem hbx hE hv1 hw1 hlo hgr own2 hbg
            have hS2 := hbx2.cell 0 _ rfl
            have hS3 := hbx'.cell 0 _ rfl
            refine hK.out _ _ hS2 (fun hHeld => ?_)
            clear hK K
            try simp only [Act.put, List.getElem_toArray, List.getElem_cons_zero, List.getElem_cons_succ, List.setIfInBounds_toArray, List.set_cons_zero, List.set_cons_succ]
            refine wpAnyH_take (i := 14) (v := ?_) rfl (by kernel_rfl) (by kernel_rfl) (by kernel_rfl) (fun _ _ _ h => h) (Or.inl ⟨by rfl, ?_⟩) (by assumption) ?_
            rotate_left
            · (intro w hSw; (try dsimp only at hSw); go_simp; try with_reducible rfl)
            try simp only [Act.put, List.getElem_toArray, List.getElem_cons_zero, List.getElem_cons_succ, List.setIfInBounds_toArray, List.set_cons_zero, List.set_cons_succ]
            refine wpAnyH_ready (rs := [15]) (by kernel_rfl) (by simp) ?_
            refine AllReadyH.cons (o := _) rfl (fun K hK => ?_) AllReadyH.nil
            go_simp
            refine hK.out _ _ (hS3) (fun hHeld => ?_)
            clear hK K
            try simp only [Act.put, List.getElem_toArray, List.getElem_cons_zero, List.getElem_cons_succ, List.setIfInBounds_toArray, List.set_cons_zero, List.set_cons_succ]
            refine wpAnyH_done (by kernel_rfl) ?_ _
            clear hHeld hS2 hS3 hc2 hf2 hbx2 own2 hgr hbg hS4 hS1 hcv4 hcv5 hba hw1 hrow1 hnews hbc belc'
            rotate_left
            go_simp
            refine hK.out _ _ (hS1) (fun hHeld => ?_)
            clear hK K
            try simp only [Act.put, List.getElem_toArray, List.getElem_cons_zero, List.getElem_cons_succ, List.setIfInBounds_toArray, List.set_cons_zero, List.set_cons_succ]
            refine wpAnyH_ready (rs := [7]) (by kernel_rfl) (by simp) ?_
            refine AllReadyH.cons (o := _) rfl (fun K hK => ?_) AllReadyH.nil
            go_simp
            refine hK.out _ _ (hS1) (fun hHeld => ?_)
            clear hK K
            try simp only [Act.put, List.getElem_toArray, List.getElem_cons_zero, List.getElem_cons_succ, List.setIfInBounds_toArray, List.set_cons_zero, List.set_cons_succ]
            refine wpAnyH_ready (rs := [13]) (by kernel_rfl) (by simp) ?_
            refine AllReadyH.cons (o := _) rfl (fun K hK => ?_) AllReadyH.nil
            rw [if_pos (by rfl)]
            refine step_app _ _ _ rfl 57 (.agg #[.int .i64 0, .int .i64 0]) 2 16 Try.underlying55 end_info rfl (by decide) lo wr.heap.size (vs v).1 (rowOf (wireT kn d E v i) v).length (vs v).2 _ rfl hrow1 ⟨wc.heap.size, 0, none⟩ 1 1 [.int .i64 (E v i).1, .int .i64 (E v i).2] rfl rfl hnews (by simp [Value.oneCell']) (by decide) (by unfold maxLen; omega) (by omega) (by simp; omega) ?_
            intro g' cap' w2 own2 hgr hbg _
            obtain ⟨hbx2, hc2, hf2, vt, hE', hbx', hfr', hrb'⟩ := addP_mem hbx hE hv1 hw1 hlo hgr own2 hbg
            have hS2 := hbx2.cell 0 _ rfl
            have hS3 := hbx'.cell 0 _ rfl
            refine hK.out _ _ hS2 (fun hHeld => ?_)
            clear hK K
            try simp only [Act.put, List.getElem_toArray, List.getElem_cons_zero, List.getElem_cons_succ, List.setIfInBounds_toArray, List.set_cons_zero, List.set_cons_succ]
            refine wpAnyH_take (i := 14) (v := ?_) rfl (by kernel_rfl) (by kernel_rfl) (by kernel_rfl) (fun _ _ _ h => h) (Or.inl ⟨by rfl, ?_⟩) (by assumption) ?_
            rotate_left
            · (intro w hSw; (try dsimp only at hSw); go_simp; try with_reducible rfl)
            try simp only [Act.put, List.getElem_toArray, List.getElem_cons_zero, List.getElem_cons_succ, List.setIfInBounds_toArray, List.set_cons_zero, List.set_cons_succ]
            refine wpAnyH_ready (rs := [15]) (by kernel_rfl) (by simp) ?_
            refine AllReadyH.cons (o := _) rfl (fun K hK => ?_) AllReadyH.nil
            go_simp
            refine hK.out _ _ (hS3) (fun hHeld => ?_)
            clear hK K
            try simp only [Act.put, List.getElem_toArray, List.getElem_cons_zero, List.getElem_cons_succ, List.setIfInBounds_toArray, List.set_cons_zero, List.set_cons_succ]
            refine wpAnyH_done (by kernel_rfl) ?_ _
            clear hHeld hS2 hS3 hc2 hf2 hbx2 own2 hgr hbg hS4 hS1 hcv4 hcv5 hba hw1 hrow1 hnews hbc belc'
            rotate_left
            all_goals
              clear hS0 hcv hcv0 hbx hE
              generalize hWW : World.setCell w2 _ _ = w4 at hE' hbx' hfr' ⊢
              clear hWW
              replace hE' := RowsAt.top hE'
              obtain ⟨hE, hbx, hfr, hrb⟩ := (⟨hE', hbx', hfr', hrb'⟩ : _ ∧ _ ∧ _ ∧ _)
              clear hE' hbx' hfr' hrb'
              replace owni := Ow.top (Ow.frB owni hfr HNI.out)
              replace ownp := Ow.top (Ow.frB ownp hfr HNP.out)
              replace BR := BR.fr hfr (fun h => by have := HIN.out _ h; omega)
              replace bb := bb.trans (hfr.below (B := w.heap.size) (fun x h1 h2 hc => by have := HIN.out _ hc; omega) bb.size)
              have z6' := hfr.size
              clear hfr hrb HNI HNP HIN
              rw [wireT_add _ _ _ _ _ hlt] at hE
              rw [HLO.out] at hE owni ownp
              rw [HNK.out] at hbx
              have hNB5 : NBx w4 (w.heap.size + 1) b (tN kn d E v (i + 1)) := ⟨_, c, vt, ai, ci, ap, cp, by rw [show (tN kn d E v (i + 1)).ends.length = kn from wireT_length ..]; exact hbx, hE, owni, ownp, hdis⟩
              go_wp2_with fail
              go_roundw
              case rel => exact ⟨i + 1, by omega, by go_num, hNB5, BR, bb, by omega⟩
              case measure => simp [intOf]; omega
          · obtain rfl : i = d := by omega
            go_wp2_with fail
            go_roundw
            case rel => exact ⟨v + 1, by omega, by go_num, by unfold tN; rw [← wireT_next]; exact hNB, BR, bb, zlo⟩
            case measure => simp [intOf]; omega
      · have HVK := Lib.hid (show v = kn by omega)
        rw [HVK.out] at hNB
        have HTN := Lib.hid (show tN kn d E kn 0 = wireN kn d E by unfold tN wireN; rw [wireT_all])
        rw [HTN.out] at hNB
        have HSM := Lib.hid (show NetSmall (wireN kn d E) by rw [← HTN.out]; exact tN_small (by omega) hd6 (Nat.zero_le _))
        obtain ⟨ax, cx, vx, aix, cix, apx, cpx, BO, hE, owni, ownp, hdis⟩ := hNB
        have own6 : NetAt wr (w.heap.size + 1) wr.heap.size _ (wireN kn d E) := ⟨ax, cx, vx, aix, cix, apx, cpx, rfl, hE, owni, ownp, hdis⟩
        have q0 := BO.cell 0 _ rfl
        have q1 := BO.cell 1 _ rfl
        have q2 := BO.cell 2 _ rfl
        clear hE owni ownp hdis BO
        go_wp2_with fail
        clear q0 q1 q2
        refine (network_any _ (wireN kn d E) _ _ _ own6 (Nat.le_refl _) zlo HSM.out).mono ?_
        rintro e w7 ⟨x7, rfl, own7, bel7⟩
        replace BR := BR.new bel7
        replace bb := bb.trans (bel7.mono bb.size)
        have z7 := bel7.size
        clear bel7 own6
        obtain ⟨ay, cy, aiy, ciy, apy, cpy, rfl, own7⟩ := own7.shape
        generalize hRR : ifN (netB (wireN kn d E)) (wireN kn d E) = RR at *
        generalize hOO : netB (wireN kn d E) = oo at *
        have HRR := Lib.hid (show wdR (kn : Int) d E = RR ∧ wdB (kn : Int) d E = oo by
          have h1 : wdB (kn : Int) d E = oo := by rw [HOKB.out, Int.toNat_natCast]; exact hOO
          exact ⟨by rw [wdR, h1, Int.toNat_natCast]; exact hRR, h1⟩)
        clear hRR hOO
        have e0 := BR.cell 0 _ rfl
        have e1 := BR.cell 1 _ rfl
        have e2 := BR.cell 2 _ rfl
        have f0 := BR.frozen 0
        have f1 := BR.frozen 1
        have f2 := BR.frozen 2
        go_wp2_with fail
        clear e0 e1 e2 f0 f1 f2
        generalize hW : World.setCell _ _ _ = W
        have B6 : Bx W (w.heap.size) 25 #[.slice ay RR.ends.length cy, .slice aiy RR.ids.length ciy, .slice apy RR.inputs.length cpy] := by rw [← hW]; exact ((BR.set 0 _).set 1 _).set 2 _
        have fr6 : Fr (fun k => k = w.heap.size) w7 W := by rw [← hW]; exact fr3 _ _ _ _ _
        clear hW
        have z6 := fr6.size
        have d0 := B6.cell 0 _ rfl
        have d1 := B6.cell 1 _ rfl
        have d2 := B6.cell 2 _ rfl
        refine bodyPost_ret (v := .tuple #[.agg #[.slice ay RR.ends.length cy, .slice aiy RR.ids.length ciy, .slice apy RR.inputs.length cpy], .bool oo]) (by simp [results, Try.results50, go_sem, d0, d1, d2]) rfl ?_
        rw [HRR.out.1, HRR.out.2]
        exact ⟨_, rfl, (own7.fr fr6 (fun k h1 h2 hc => by omega)).wide (lo' := w.heap.size) (hi' := W.heap.size) (by omega) (by omega), bb.trans (fr6.below (fun k h1 h2 hc => by omega) bb.size)⟩
set_option maxRecDepth 100000 in
set_option maxHeartbeats 400000 in
theorem hyp1_any (v i : Nat) (X : World) (hv : v < 40) (hi : i < 6) :
    Calls Try.prog 59 #[.int .i64 v, .int .i64 i] X fun e w' => e = .returned (.agg #[.int .i64 (hypE v i).1, .int .i64 (hypE v i).2]) ∧ Below X.heap.size X w' := by
  have b0 : ∀ cs, Below X.heap.size X (X.alloc (.cells cs 57)) := fun cs => (by repeat (first | exact Below.refl _ _ | assumption | refine Below.alloc ?_ (by first | (simp; done) | (simp; omega) | omega) _ | refine Below.setCell ?_ (by first | (simp; done) | (simp; omega) | omega) _ | refine Below.drew ?_ | refine Below.drewN ?_ _))
  have HXO := Lib.hid (hyp_x v i hv hi)
  go_enter Try.func59, Try.ntmps59
  go_wp2_with fail
  refine bodyPost_ret (v := .agg #[.int .i64 (bits BinOp.xor IntKind.i64 (v : Int) (wrap64 (2 ^ i))), .int .i64 (i : Int)]) (by simp [results, Try.results59, go_sem]) rfl ?_
  rw [HXO.out.2]
  exact ⟨rfl, b0 _⟩
theorem hyp_wdB (d : Int) (h : inR d 0 6 = true) : wdB (2 ^ d.toNat) d.toNat hypE = inR d 0 5 := by
  have h6 := inR_iff.1 h
  obtain ⟨n, rfl⟩ := Int.eq_ofNat_of_zero_le h6.1
  rw [Int.toNat_natCast]
  have hc : ((2 : Int) ^ n) = ((2 ^ n : Nat) : Int) := by push_cast; rfl
  cases h5 : inR (n : Int) 0 5 with
  | true =>
    have h7 := inR_iff.1 h5
    have hp : 2 ^ n ≤ 2 ^ 5 := Nat.pow_le_pow_right (by omega) (by omega)
    have hq : 0 < 2 ^ n := Nat.pow_pos (by omega)
    rw [hc, wdB_t (inR_iff.2 ⟨by omega, by omega⟩) (by omega), Int.toNat_natCast]
    exact hyp_ok _ (by omega)
  | false =>
    have h8 : n = 6 := by
      rcases Nat.lt_or_ge n 6 with h9 | h9
      · rw [inR_iff.2 ⟨by omega, by omega⟩] at h5; cases h5
      · omega
    subst h8
    exact wdB_f (by decide)
theorem hyp_wdR (d : Int) (h : inR d 0 6 = true) : wdR (2 ^ d.toNat) d.toNat hypE = hyR d := by
  have hc : ((2 : Int) ^ d.toNat) = ((2 ^ d.toNat : Nat) : Int) := by push_cast; rfl
  rw [wdR, hyp_wdB d h, hyR, hc, Int.toNat_natCast]
set_option maxRecDepth 100000 in
set_option maxHeartbeats 400000 in
theorem implHyp_any (k : Int) (w : World) (hr : -9223372036854775808 ≤ k ∧ k ≤ 9223372036854775807) : Calls Try.prog 23 #[.int .i64 k] w (PostN (hyR k) (inR k 0 5) w) := by
  have BR := Bx.made w 25 #[.slice none 0 0, .slice none 0 0, .slice none 0 0]
  have b0 : Below w.heap.size w (w.alloc (.cells #[.slice none 0 0, .slice none 0 0, .slice none 0 0] 25)) := (by repeat (first | exact Below.refl _ _ | assumption | refine Below.alloc ?_ (by first | (simp; done) | (simp; omega) | omega) _ | refine Below.setCell ?_ (by first | (simp; done) | (simp; omega) | omega) _ | refine Below.drew ?_ | refine Below.drewN ?_ _))
  have z0 : w.heap.size + 1 ≤ (w.alloc (.cells #[.slice none 0 0, .slice none 0 0, .slice none 0 0] 25)).heap.size := by simp
  cases hk : inR k 0 6 with
  | false =>
    have HK := Lib.hid hk
    have HK7 := Lib.hid (show inR k 0 5 = false by cases h6 : inR k 0 5 with | false => rfl | true => have h1 := inR_iff.1 h6; rw [inR_iff.2 ⟨by omega, by omega⟩] at hk; cases hk)
    have HG := Lib.hid (show hyR k = nilN by rw [hyR, HK7.out]; rfl)
    clear hk
    go_enter Try.func23, Try.ntmps23
    go_wp2_with fail
    refine (within_any _ _ _ _).mono ?_
    rintro e w' ⟨rfl, rfl⟩
    rw [HK.out]
    generalize w.alloc (.cells #[.slice none 0 0, .slice none 0 0, .slice none 0 0] 25) = w0 at *
    have e0 := BR.cell 0 _ rfl
    have e1 := BR.cell 1 _ rfl
    have e2 := BR.cell 2 _ rfl
    have f0 := BR.frozen 0
    have f1 := BR.frozen 1
    have f2 := BR.frozen 2
    go_wp2_with fail
    clear e0 e1 e2 f0 f1 f2
    generalize hW : World.setCell _ _ _ = W
    have B6 : Bx W (w.heap.size) 25 #[.slice none 0 0, .slice none 0 0, .slice none 0 0] := by rw [← hW]; exact ((BR.set 0 _).set 1 _).set 2 _
    have fr6 : Fr (fun k => k = w.heap.size) w0 W := by rw [← hW]; exact fr3 _ _ _ _ _
    clear hW
    have z6 := fr6.size
    have d0 := B6.cell 0 _ rfl
    have d1 := B6.cell 1 _ rfl
    have d2 := B6.cell 2 _ rfl
    refine bodyPost_ret (v := .tuple #[.agg #[.slice none 0 0, .slice none 0 0, .slice none 0 0], .bool false]) (by simp [results, Try.results23, go_sem, d0, d1, d2]) rfl ?_
    rw [HG.out, HK7.out]
    exact ⟨_, rfl, NetAt.nilN _ _ _, b0.trans (fr6.below (fun k h1 h2 hc => by omega) b0.size)⟩
  | true =>
    have HK := Lib.hid hk
    have hk2 := inR_iff.1 hk
    obtain ⟨dn, rfl⟩ := Int.eq_ofNat_of_zero_le (show 0 ≤ k by omega)
    have HB := Lib.hid (And.intro (hyp_wdB (dn : Int) hk) (hyp_wdR (dn : Int) hk))
    clear hk hr
    have hp64 : 2 ^ dn ≤ 64 := by have := Nat.pow_le_pow_right (show 0 < 2 by omega) (show dn ≤ 6 by omega); omega
    have HW2 := Lib.hid (show wrap64 ((2 : Int) ^ dn) = (2 : Int) ^ dn by
      have hc : ((2 : Int) ^ dn) = ((2 ^ dn : Nat) : Int) := by push_cast; rfl
      rw [hc]
      exact (wrapN (2 ^ dn) (by omega)).1)
    go_enter Try.func23, Try.ntmps23
    go_wp2_with fail
    refine (within_any _ _ _ _).mono ?_
    rintro e w' ⟨rfl, rfl⟩
    rw [HK.out]
    generalize w.alloc (.cells #[.slice none 0 0, .slice none 0 0, .slice none 0 0] 25) = w0 at *
    go_wp2_with fail
    rw [HW2.out]
    refine (wiredHyp_any ((2 : Int) ^ dn) dn hypE w0 (by omega) (fun X v i bX hv hk hi hd => hyp1_any v i X (by omega) (by omega))).mono ?_
    rw [show wdB ((2 : Int) ^ dn) dn hypE = inR (dn : Int) 0 5 from HB.out.1, show wdR ((2 : Int) ^ dn) dn hypE = hyR (dn : Int) from HB.out.2]
    rintro e w7 ⟨x7, rfl, own7, bel7⟩
    replace BR := BR.new bel7
    have bb := b0.trans (bel7.mono b0.size)
    have z7 := bel7.size
    clear bel7
    obtain ⟨ay, cy, aiy, ciy, apy, cpy, rfl, own7⟩ := own7.shape
    generalize hRR : hyR (dn : Int) = RR at *
    generalize hOO : inR (dn : Int) 0 5 = oo at *
    have HRR := Lib.hid (And.intro hRR hOO)
    clear hRR hOO
    have e0 := BR.cell 0 _ rfl
    have e1 := BR.cell 1 _ rfl
    have e2 := BR.cell 2 _ rfl
    have f0 := BR.frozen 0
    have f1 := BR.frozen 1
    have f2 := BR.frozen 2
    have zB := BR.lt
    go_wp2_with fail
    clear e0 e1 e2 f0 f1 f2
    generalize hW : World.setCell _ _ _ = W
    have B6 : Bx W (w.heap.size) 25 #[.slice ay RR.ends.length cy, .slice aiy RR.ids.length ciy, .slice apy RR.inputs.length cpy] := by rw [← hW]; exact ((BR.set 0 _).set 1 _).set 2 _
    have fr6 : Fr (fun k => k = w.heap.size) w7 W := by rw [← hW]; exact fr3 _ _ _ _ _
    clear hW
    have z6 := fr6.size
    have d0 := B6.cell 0 _ rfl
    have d1 := B6.cell 1 _ rfl
    have d2 := B6.cell 2 _ rfl
    refine bodyPost_ret (v := .tuple #[.agg #[.slice ay RR.ends.length cy, .slice aiy RR.ids.length ciy, .slice apy RR.inputs.length cpy], .bool oo]) (by simp [results, Try.results23, go_sem, d0, d1, d2]) rfl ?_
    exact ⟨_, rfl, (own7.frBx BR fr6).wide (lo' := w.heap.size) (hi' := W.heap.size) (by omega) (by omega), bb.trans (fr6.below (fun k h1 h2 hc => by omega) bb.size)⟩
set_option maxRecDepth 100000 in
set_option maxHeartbeats 1600000 in
theorem specHyp_any (k : Int) (w : World) : Calls Try.prog 22 #[.int .i64 k] w (PostN (hyR k) (inR k 0 5) w) := by
  have BR := Bx.made w 25 #[.slice none 0 0, .slice none 0 0, .slice none 0 0]
  have b0 : Below w.heap.size w (w.alloc (.cells #[.slice none 0 0, .slice none 0 0, .slice none 0 0] 25)) := (by repeat (first | exact Below.refl _ _ | assumption | refine Below.alloc ?_ (by first | (simp; done) | (simp; omega) | omega) _ | refine Below.setCell ?_ (by first | (simp; done) | (simp; omega) | omega) _ | refine Below.drew ?_ | refine Below.drewN ?_ _))
  have z0 : w.heap.size + 1 ≤ (w.alloc (.cells #[.slice none 0 0, .slice none 0 0, .slice none 0 0] 25)).heap.size := by simp
  cases hk : inR k 0 5 with
  | false =>
    have HK := Lib.hid hk
    have HG := Lib.hid (show hyR k = nilN by rw [hyR, hk]; rfl)
    clear hk
    go_enter Try.func22, Try.ntmps22
    go_wp2_with fail
    refine (l1In_any _ _ _ _).mono ?_
    rintro e w' ⟨rfl, rfl⟩
    rw [HK.out]
    generalize w.alloc (.cells #[.slice none 0 0, .slice none 0 0, .slice none 0 0] 25) = w0 at *
    have e0 := BR.cell 0 _ rfl
    have e1 := BR.cell 1 _ rfl
    have e2 := BR.cell 2 _ rfl
    have f0 := BR.frozen 0
    have f1 := BR.frozen 1
    have f2 := BR.frozen 2
    go_wp2_with fail
    clear e0 e1 e2 f0 f1 f2
    generalize hW : World.setCell _ _ _ = W
    have B6 : Bx W (w.heap.size) 25 #[.slice none 0 0, .slice none 0 0, .slice none 0 0] := by rw [← hW]; exact ((BR.set 0 _).set 1 _).set 2 _
    have fr6 : Fr (fun k => k = w.heap.size) w0 W := by rw [← hW]; exact fr3 _ _ _ _ _
    clear hW
    have z6 := fr6.size
    have d0 := B6.cell 0 _ rfl
    have d1 := B6.cell 1 _ rfl
    have d2 := B6.cell 2 _ rfl
    refine bodyPost_ret (v := .tuple #[.agg #[.slice none 0 0, .slice none 0 0, .slice none 0 0], .bool false]) (by simp [results, Try.results22, go_sem, d0, d1, d2]) rfl ?_
    rw [HG.out]
    exact ⟨_, rfl, NetAt.nilN _ _ _, b0.trans (fr6.below (fun k h1 h2 hc => by omega) b0.size)⟩
  | true =>
    have HK := Lib.hid hk
    have hk2 := inR_iff.1 hk
    obtain ⟨dn, rfl⟩ := Int.eq_ofNat_of_zero_le (show 0 ≤ k by omega)
    have HG := Lib.hid (show hyR (dn : Int) = wireN (2 ^ dn) dn hypE by rw [hyR, hk]; rfl)
    clear hk
    have hp64 : 2 ^ dn ≤ 32 := by have := Nat.pow_le_pow_right (show 0 < 2 by omega) (show dn ≤ 5 by omega); omega
    have HW2 := Lib.hid (show wrap64 ((2 : Int) ^ dn) = ((2 ^ dn : Nat) : Int) by
      have hc : ((2 : Int) ^ dn) = ((2 ^ dn : Nat) : Int) := by push_cast; rfl
      rw [hc]
      exact (wrapN (2 ^ dn) (by omega)).1)
    go_enter Try.func22, Try.ntmps22
    go_wp2_with fail
    refine (l1In_any _ _ _ _).mono ?_
    rintro e w' ⟨rfl, rfl⟩
    rw [HK.out]
    generalize w.alloc (.cells #[.slice none 0 0, .slice none 0 0, .slice none 0 0] 25) = w0 at *
    go_wp2_with fail
    rw [HW2.out]
    refine (neEmpty_any (2 ^ dn) _ (by omega)).mono ?_
    rintro e w1 ⟨v1, rfl, own1, bel1⟩
    obtain ⟨a1, c1, ai1, ci1, ap1, cp1, rfl, own1⟩ := own1.shape
    replace BR := BR.new bel1
    have z1 : w.heap.size + 1 ≤ w1.heap.size := by have := bel1.size; omega
    have b1 := b0.trans (bel1.mono b0.size)
    replace own1 := own1.wide (lo' := w.heap.size + 1) z0 (Nat.le_refl _)
    clear b0 bel1
    have HEL := Lib.hid (show (emptyN (2 ^ dn)).ends.length = 2 ^ dn from List.length_replicate ..)
    have BO := Bx.made w1 25 #[.slice a1 (emptyN (2 ^ dn)).ends.length c1, .slice ai1 (emptyN (2 ^ dn)).ids.length ci1, .slice ap1 (emptyN (2 ^ dn)).inputs.length cp1]
    have b2 : Below w1.heap.size w1 (w1.alloc (.cells #[.slice a1 (emptyN (2 ^ dn)).ends.length c1, .slice ai1 (emptyN (2 ^ dn)).ids.length ci1, .slice ap1 (emptyN (2 ^ dn)).inputs.length cp1] 25)) := (by repeat (first | exact Below.refl _ _ | assumption | refine Below.alloc ?_ (by first | (simp; done) | (simp; omega) | omega) _ | refine Below.setCell ?_ (by first | (simp; done) | (simp; omega) | omega) _ | refine Below.drew ?_ | refine Below.drewN ?_ _))
    go_upto_region 4 with fail
    have z2 : w1.heap.size + 1 ≤ (w1.alloc (.cells #[.slice a1 (emptyN (2 ^ dn)).ends.length c1, .slice ai1 (emptyN (2 ^ dn)).ids.length ci1, .slice ap1 (emptyN (2 ^ dn)).inputs.length cp1] 25)).heap.size := by simp
    generalize w1.alloc (.cells #[.slice a1 (emptyN (2 ^ dn)).ends.length c1, .slice ai1 (emptyN (2 ^ dn)).ids.length ci1, .slice ap1 (emptyN (2 ^ dn)).inputs.length cp1] 25) = w2 at *
    obtain ⟨b, hb⟩ : ∃ b, b = w1.heap.size := ⟨_, rfl⟩
    rw [← hb] at BO ⊢
    replace BR := BR.new b2
    replace own1 := (own1.new b2).wide (Nat.le_refl _) b2.size
    have bb := b1.trans (b2.mono b1.size)
    have zb : w.heap.size + 1 ≤ b := by omega
    have zlo : w.heap.size + 1 ≤ w2.heap.size := by omega
    clear hb b1 b2 z2
    obtain ⟨E, hEE⟩ : ∃ E, E = hypE := ⟨_, rfl⟩
    obtain ⟨d, hdd⟩ : ∃ d, d = dn := ⟨_, rfl⟩
    obtain ⟨K0, hKK⟩ : ∃ K0, K0 = 2 ^ dn := ⟨_, rfl⟩
    have HEE := Lib.hid hEE
    have HDD := Lib.hid hdd
    have HKK := Lib.hid hKK
    have hK40 : K0 ≤ 40 := by omega
    have hd6 : d ≤ 6 := by omega
    have hNB : NBx w2 (w.heap.size + 1) b (tN K0 d E 0 0) := by
      have hE0 : tN K0 d E 0 0 = emptyN K0 := by unfold tN emptyN; rw [wireT_zero]
      rw [hE0, hKK]
      exact NBx.of BO own1 (Nat.le_refl _)
    rw [HEL.out] at BO ⊢
    rw [← hKK] at BO ⊢
    have q0 := BO.cell 0 _ rfl
    clear own1 BO hEE hKK hdd
    have hDn1 : d ≤ dn := by have := HDD.out; omega
    have hDn2 : dn ≤ d := by have := HDD.out; omega
    go_wp2_with fail
    clear q0
    go_loopw [17] (fun iv wr => ∃ v : Nat, v ≤ K0 ∧ iv = .int .i64 v ∧ NBx wr (w.heap.size + 1) b (tN K0 d E v 0) ∧ Bx wr w.heap.size 25 #[.slice none 0 0, .slice none 0 0, .slice none 0 0] ∧ Below w.heap.size w wr ∧ w.heap.size + 1 ≤ wr.heap.size) (fun iv _ => K0 - (intOf iv).toNat)
    case atStart => exact ⟨0, Nat.zero_le _, rfl, hNB, BR, bb, zlo⟩
    case round =>
      clear hNB BR bb zlo
      obtain ⟨v, hv, rfl, hNB, BR, bb, zlo⟩ := hrel
      by_cases hlt : v < K0
      · go_wp2_with fail
        go_loopw [6] (fun iv wr => ∃ i : Nat, i ≤ d ∧ iv = .int .i64 i ∧ NBx wr (w.heap.size + 1) b (tN K0 d E v i) ∧ Bx wr w.heap.size 25 #[.slice none 0 0, .slice none 0 0, .slice none 0 0] ∧ Below w.heap.size w wr ∧ w.heap.size + 1 ≤ wr.heap.size) (fun iv _ => d - (intOf iv).toNat)
        case atStart => exact ⟨0, Nat.zero_le _, rfl, hNB, BR, bb, zlo⟩
        case round =>
          clear hNB BR bb zlo
          obtain ⟨i, hi, rfl, hNB, BR, bb, zlo⟩ := hrel
          skip
          by_cases hil : i < d
          · obtain ⟨aq, c, vs, ai, ci, ap, cp, hbx, hE, owni, ownp, hdis⟩ := hNB
            have hWL : (tN K0 d E v i).ends.length = K0 := wireT_length ..
            have hrl : (rowOf (wireT K0 d E v i) v).length ≤ 6 := by rw [wireT_row _ _ _ _ _ _ hlt, if_neg (by omega), if_pos rfl, rowW_length]; omega
            replace hE : RowsE wr (w.heap.size + 1) wr.heap.size aq c (wireT K0 d E v i) vs := hE
            have hv1 : v < (wireT K0 d E v i).length := by rw [wireT_length]; exact hlt
            obtain ⟨A, hA, _, _⟩ := Ow.addr hE.1 (by omega)
            subst hA
            obtain ⟨lo, hlo0⟩ : ∃ lo, lo = w.heap.size + 1 := ⟨_, rfl⟩
            rw [← hlo0] at hE owni ownp
            have zl1 : w.heap.size + 1 ≤ lo := by omega
            have hlo : lo ≤ wr.heap.size := by omega
            have HLO := Lib.hid hlo0
            clear hlo0
            rw [hWL] at hbx
            obtain ⟨n, hn⟩ : ∃ n, n = K0 := ⟨_, rfl⟩
            rw [← hn] at hbx
            have HNK := Lib.hid hn
            have hvn : v < n := by omega
            clear hn
            have HNI := Lib.hid (fun (x : Nat) (hx : blk ai ci = some x) => rb_ne hE (by omega) owni hx)
            have HNP := Lib.hid (fun (x : Nat) (hx : blk ap cp = some x) => rb_ne hE (by omega) ownp hx)
            have HIN := Lib.hid (fun (x : Nat) (h : RB A (wireT K0 d E v i) vs x) => rb_in hE (by omega) h)
            have HWA := Lib.hid (wireT_add K0 d E v i hlt)
            clear hWL
            have HXO := Lib.hid (hyp_x v i (by omega) (by omega))
            go_wp2_with fail
            obtain ⟨X0, hX0⟩ : ∃ X0 : Int, X0 = ((v ^^^ 2 ^ i : Nat) : Int) := ⟨_, rfl⟩
            obtain ⟨Y0, hY0⟩ : ∃ Y0 : Int, Y0 = (i : Int) := ⟨_, rfl⟩
            have hx1 : bits BinOp.xor IntKind.i64 (v : Int) (IntKind.i64.wrap (2 ^ i)) = X0 := by rw [hX0]; exact HXO.out.1
            have hx2 : bits BinOp.xor IntKind.i64 (v : Int) (wrap64 (2 ^ i)) = X0 := by rw [hX0]; exact HXO.out.2
            have HXY := Lib.hid (show (X0, Y0) = E v i by rw [HEE.out, hX0, hY0]; rfl)
            clear hX0
            have hS0 : wr.drew.cell? ⟨b, 0, none⟩ = some (.slice (some ⟨A, 0, none⟩) n c) := hbx.cell 0 _ rfl
            have hw1 : Below wr.heap.size wr (wr.drew.alloc (.cells #[.int .i64 X0, .int .i64 (i : Int)] 57)) := (by repeat (first | exact Below.refl _ _ | assumption | refine Below.alloc ?_ (by first | (simp; done) | (simp; omega) | omega) _ | refine Below.setCell ?_ (by first | (simp; done) | (simp; omega) | omega) _ | refine Below.drew ?_ | refine Below.drewN ?_ _))
            have hS1 := (hbx.new hw1).cell 0 _ rfl
            have hrow1 : Ow (wr.drew.alloc (.cells #[.int .i64 X0, .int .i64 (i : Int)] 57)) lo wr.heap.size 57 2 (vs v).1 (rowOf (wireT K0 d E v i) v).length (vs v).2 (cellE (rowOf (wireT K0 d E v i) v)) := Ow.new (hE.2.1 v hv1) hw1
            have hnews : ∀ jj uu, [Value.int .i64 X0, Value.int .i64 (i : Int)][jj]? = some uu → (wr.drew.alloc (.cells #[.int .i64 X0, .int .i64 (i : Int)] 57)).cell? (Addr.add ⟨wr.heap.size, 0, none⟩ jj) = some uu := news2 _ _ _ _
            obtain ⟨gq, offq, haeq, _, hcv⟩ := Rd.at (Ow.rd hE.1) hv1
            obtain ⟨rfl, rfl⟩ : A = gq ∧ 0 = offq := by injection haeq with h; injection h with h1 h2; exact ⟨h1, h2⟩
            clear haeq
            rw [Nat.zero_add] at hcv
            refine wp_region_held_drew (S := fun X => X.cell? ⟨b, 0, none⟩ = some (.slice (some ⟨A, 0, none⟩) n c)) (by kernel_rfl) hS0 (fun hHeld => ?_)
            refine wpAnyH_take (i := 0) (v := ?_) rfl (by kernel_rfl) (by kernel_rfl) (by kernel_rfl) (fun _ _ _ h => h) (Or.inl ⟨by rfl, ?_⟩) (by assumption) ?_
            rotate_left
            · (intro w hSw; (try dsimp only at hSw); go_simp; try with_reducible rfl)
            try simp only [Act.put, List.getElem_toArray, List.getElem_cons_zero, List.getElem_cons_succ, List.setIfInBounds_toArray, List.set_cons_zero, List.set_cons_succ]
            refine wpAnyH_take (i := 1) (v := ?_) rfl (by kernel_rfl) (by kernel_rfl) (by kernel_rfl) (fun _ _ _ h => h) (Or.inl ⟨by rfl, ?_⟩) (by assumption) ?_
            rotate_left
            · (intro w hSw; (try dsimp only at hSw); go_simp; try with_reducible rfl)
            try simp only [Act.put, List.getElem_toArray, List.getElem_cons_zero, List.getElem_cons_succ, List.setIfInBounds_toArray, List.set_cons_zero, List.set_cons_succ]
            refine wpAnyH_take (i := 2) (v := ?_) rfl (by kernel_rfl) (by kernel_rfl) (by kernel_rfl) (fun _ _ _ h => h) (Or.inl ⟨by rfl, ?_⟩) (by assumption) ?_
            rotate_left
            · (intro w hSw; (try dsimp only at hSw); go_simp; try with_reducible rfl)
            try simp only [Act.put, List.getElem_toArray, List.getElem_cons_zero, List.getElem_cons_succ, List.setIfInBounds_toArray, List.set_cons_zero, List.set_cons_succ]
            refine wpAnyH_take (i := 3) (v := ?_) rfl (by kernel_rfl) (by kernel_rfl) (by kernel_rfl) (fun _ _ _ h => h) (Or.inl ⟨by rfl, ?_⟩) (by assumption) ?_
            rotate_left
            · (intro w hSw; (try dsimp only at hSw); go_simp; try with_reducible rfl)
            try simp only [Act.put, List.getElem_toArray, List.getElem_cons_zero, List.getElem_cons_succ, List.setIfInBounds_toArray, List.set_cons_zero, List.set_cons_succ]
            refine wpAnyH_take (i := 4) (v := ?_) rfl (by kernel_rfl) (by kernel_rfl) (by kernel_rfl) (fun _ _ _ h => h) (Or.inl ⟨by rfl, ?_⟩) (by assumption) ?_
            rotate_left
            · (intro w hSw; (try dsimp only at hSw); go_simp; try with_reducible rfl)
            try simp only [Act.put, List.getElem_toArray, List.getElem_cons_zero, List.getElem_cons_succ, List.setIfInBounds_toArray, List.set_cons_zero, List.set_cons_succ]
            refine wpAnyH_take (i := 5) (v := ?_) rfl (by kernel_rfl) (by kernel_rfl) (by kernel_rfl) (fun _ _ _ h => h) (Or.inl ⟨by rfl, ?_⟩) (by assumption) ?_
            rotate_left
            · (intro w hSw; (try dsimp only at hSw); go_simp; try with_reducible rfl)
            try simp only [Act.put, List.getElem_toArray, List.getElem_cons_zero, List.getElem_cons_succ, List.setIfInBounds_toArray, List.set_cons_zero, List.set_cons_succ]
            refine wpAnyH_take (i := 6) (v := ?_) rfl (by kernel_rfl) (by kernel_rfl) (by kernel_rfl) (fun _ _ _ h => h) (Or.inl ⟨by rfl, ?_⟩) (by assumption) ?_
            rotate_left
            · (intro w hSw; (try dsimp only at hSw); go_simp; try with_reducible rfl)
            try simp only [Act.put, List.getElem_toArray, List.getElem_cons_zero, List.getElem_cons_succ, List.setIfInBounds_toArray, List.set_cons_zero, List.set_cons_succ]
            refine wpAnyH_take (i := 8) (v := ?_) rfl (by kernel_rfl) (by kernel_rfl) (by kernel_rfl) (fun _ _ _ h => h) (Or.inl ⟨by rfl, ?_⟩) (by assumption) ?_
            rotate_left
            · (intro w hSw; (try dsimp only at hSw); go_simp; try with_reducible rfl)
            try simp only [Act.put, List.getElem_toArray, List.getElem_cons_zero, List.getElem_cons_succ, List.setIfInBounds_toArray, List.set_cons_zero, List.set_cons_succ]
            refine wpAnyH_take (i := 9) (v := ?_) rfl (by kernel_rfl) (by kernel_rfl) (by kernel_rfl) (fun _ _ _ h => h) (Or.inl ⟨by rfl, ?_⟩) (by assumption) ?_
            rotate_left
            · (intro w hSw; (try dsimp only at hSw); go_simp; try with_reducible rfl)
            try simp only [Act.put, List.getElem_toArray, List.getElem_cons_zero, List.getElem_cons_succ, List.setIfInBounds_toArray, List.set_cons_zero, List.set_cons_succ]
            refine wpAnyH_take (i := 10) (v := ?_) rfl (by kernel_rfl) (by kernel_rfl) (by kernel_rfl) (fun _ _ _ h => h) (Or.inl ⟨by rfl, ?_⟩) (by assumption) ?_
            rotate_left
            · (intro w hSw; (try dsimp only at hSw); go_simp; try with_reducible rfl)
            try simp only [Act.put, List.getElem_toArray, List.getElem_cons_zero, List.getElem_cons_succ, List.setIfInBounds_toArray, List.set_cons_zero, List.set_cons_succ]
            refine wpAnyH_take (i := 11) (v := ?_) rfl (by kernel_rfl) (by kernel_rfl) (by kernel_rfl) (fun _ _ _ h => h) (Or.inl ⟨by rfl, ?_⟩) (by assumption) ?_
            rotate_left
            · (intro w hSw; (try dsimp only at hSw); go_simp; try with_reducible rfl)
            try simp only [Act.put, List.getElem_toArray, List.getElem_cons_zero, List.getElem_cons_succ, List.setIfInBounds_toArray, List.set_cons_zero, List.set_cons_succ]
            refine wpAnyH_take (i := 12) (v := ?_) rfl (by kernel_rfl) (by kernel_rfl) (by kernel_rfl) (fun _ _ _ h => h) (Or.inl ⟨by rfl, ?_⟩) (by assumption) ?_
            rotate_left
            · (intro w hSw; (try dsimp only at hSw); go_simp; try with_reducible rfl)
            try simp only [Act.put, List.getElem_toArray, List.getElem_cons_zero, List.getElem_cons_succ, List.setIfInBounds_toArray, List.set_cons_zero, List.set_cons_succ]
            refine wpAnyH_take (i := 13) (v := ?_) rfl (by kernel_rfl) (by kernel_rfl) (by kernel_rfl) (fun _ _ _ h => h) (Or.inl ⟨by rfl, ?_⟩) (by assumption) ?_
            rotate_left
            · (intro w hSw; (try dsimp only at hSw); go_simp; try with_reducible rfl)
            try simp only [Act.put, List.getElem_toArray, List.getElem_cons_zero, List.getElem_cons_succ, List.setIfInBounds_toArray, List.set_cons_zero, List.set_cons_succ]
            refine wpAnyH_ready (rs := [7, 14]) (by kernel_rfl) (by simp) ?_
            refine AllReadyH.cons (o := _) rfl (fun K hK => ?_) (AllReadyH.cons (o := _) rfl (fun K hK => ?_) AllReadyH.nil)
            go_simp
            refine hK.out _ _ (hS0) (fun hHeld => ?_)
            clear hK K
            try simp only [Act.put, List.getElem_toArray, List.getElem_cons_zero, List.getElem_cons_succ, List.setIfInBounds_toArray, List.set_cons_zero, List.set_cons_succ]
            refine wpAnyH_ready (rs := [14]) (by kernel_rfl) (by simp) ?_
            refine AllReadyH.cons (o := _) rfl (fun K hK => ?_) AllReadyH.nil
            go_simp
            refine hK.out _ _ (hS1) (fun hHeld => ?_)
            clear hK K
            try simp only [Act.put, List.getElem_toArray, List.getElem_cons_zero, List.getElem_cons_succ, List.setIfInBounds_toArray, List.set_cons_zero, List.set_cons_succ]
            refine wpAnyH_ready (rs := [15]) (by kernel_rfl) (by simp) ?_
            refine AllReadyH.cons (o := _) rfl (fun K hK => ?_) AllReadyH.nil
            rw [if_pos (by rfl)]
            refine step_app _ _ _ rfl 57 (.agg #[.int .i64 0, .int .i64 0]) 2 16 Try.underlying55 end_info rfl (by decide) lo wr.heap.size (vs v).1 (rowOf (wireT K0 d E v i) v).length (vs v).2 _ rfl hrow1 ⟨wr.heap.size, 0, none⟩ 1 1 [.int .i64 X0, .int .i64 (i : Int)] rfl rfl hnews (by simp [Value.oneCell']) (by decide) (by unfold maxLen; omega) (by omega) (by simp; omega) ?_
            intro g' cap' w2 own2 hgr hbg _
            obtain ⟨hbx2, hc2, hf2, vt, hE', hbx', hfr', hrb'⟩ := addP_mem hbx hE hv1 hw1 hlo hgr own2 hbg
            have hS2 := hbx2.cell 0 _ rfl
            have hS3 := hbx'.cell 0 _ rfl
            refine hK.out _ _ hS2 (fun hHeld => ?_)
            clear hK K
            try simp only [Act.put, List.getElem_toArray, List.getElem_cons_zero, List.getElem_cons_succ, List.setIfInBounds_toArray, List.set_cons_zero, List.set_cons_succ]
            refine wpAnyH_take (i := 16) (v := ?_) rfl (by kernel_rfl) (by kernel_rfl) (by kernel_rfl) (fun _ _ _ h => h) (Or.inl ⟨by rfl, ?_⟩) (by assumption) ?_
            rotate_left
            · (intro w hSw; (try dsimp only at hSw); go_simp; try with_reducible rfl)
            try simp only [Act.put, List.getElem_toArray, List.getElem_cons_zero, List.getElem_cons_succ, List.setIfInBounds_toArray, List.set_cons_zero, List.set_cons_succ]
            refine wpAnyH_ready (rs := [17]) (by kernel_rfl) (by simp) ?_
            refine AllReadyH.cons (o := _) rfl (fun K hK => ?_) AllReadyH.nil
            go_simp
            refine hK.out _ _ (hS3) (fun hHeld => ?_)
            clear hK K
            try simp only [Act.put, List.getElem_toArray, List.getElem_cons_zero, List.getElem_cons_succ, List.setIfInBounds_toArray, List.set_cons_zero, List.set_cons_succ]
            refine wpAnyH_done (by kernel_rfl) ?_ _
            clear hHeld hS2 hS3 hc2 hf2 hbx2 own2 hgr hbg
            rotate_left
            go_simp
            refine hK.out _ _ (hS1) (fun hHeld => ?_)
            clear hK K
            try simp only [Act.put, List.getElem_toArray, List.getElem_cons_zero, List.getElem_cons_succ, List.setIfInBounds_toArray, List.set_cons_zero, List.set_cons_succ]
            refine wpAnyH_ready (rs := [7]) (by kernel_rfl) (by simp) ?_
            refine AllReadyH.cons (o := _) rfl (fun K hK => ?_) AllReadyH.nil
            go_simp
            refine hK.out _ _ (hS1) (fun hHeld => ?_)
            clear hK K
            try simp only [Act.put, List.getElem_toArray, List.getElem_cons_zero, List.getElem_cons_succ, List.setIfInBounds_toArray, List.set_cons_zero, List.set_cons_succ]
            refine wpAnyH_ready (rs := [15]) (by kernel_rfl) (by simp) ?_
            refine AllReadyH.cons (o := _) rfl (fun K hK => ?_) AllReadyH.nil
            rw [if_pos (by rfl)]
            refine step_app _ _ _ rfl 57 (.agg #[.int .i64 0, .int .i64 0]) 2 16 Try.underlying55 end_info rfl (by decide) lo wr.heap.size (vs v).1 (rowOf (wireT K0 d E v i) v).length (vs v).2 _ rfl hrow1 ⟨wr.heap.size, 0, none⟩ 1 1 [.int .i64 X0, .int .i64 (i : Int)] rfl rfl hnews (by simp [Value.oneCell']) (by decide) (by unfold maxLen; omega) (by omega) (by simp; omega) ?_
            intro g' cap' w2 own2 hgr hbg _
            obtain ⟨hbx2, hc2, hf2, vt, hE', hbx', hfr', hrb'⟩ := addP_mem hbx hE hv1 hw1 hlo hgr own2 hbg
            have hS2 := hbx2.cell 0 _ rfl
            have hS3 := hbx'.cell 0 _ rfl
            refine hK.out _ _ hS2 (fun hHeld => ?_)
            clear hK K
            try simp only [Act.put, List.getElem_toArray, List.getElem_cons_zero, List.getElem_cons_succ, List.setIfInBounds_toArray, List.set_cons_zero, List.set_cons_succ]
            refine wpAnyH_take (i := 16) (v := ?_) rfl (by kernel_rfl) (by kernel_rfl) (by kernel_rfl) (fun _ _ _ h => h) (Or.inl ⟨by rfl, ?_⟩) (by assumption) ?_
            rotate_left
            · (intro w hSw; (try dsimp only at hSw); go_simp; try with_reducible rfl)
            try simp only [Act.put, List.getElem_toArray, List.getElem_cons_zero, List.getElem_cons_succ, List.setIfInBounds_toArray, List.set_cons_zero, List.set_cons_succ]
            refine wpAnyH_ready (rs := [17]) (by kernel_rfl) (by simp) ?_
            refine AllReadyH.cons (o := _) rfl (fun K hK => ?_) AllReadyH.nil
            go_simp
            refine hK.out _ _ (hS3) (fun hHeld => ?_)
            clear hK K
            try simp only [Act.put, List.getElem_toArray, List.getElem_cons_zero, List.getElem_cons_succ, List.setIfInBounds_toArray, List.set_cons_zero, List.set_cons_succ]
            refine wpAnyH_done (by kernel_rfl) ?_ _
            clear hHeld hS2 hS3 hc2 hf2 hbx2 own2 hgr hbg
            rotate_left
            all_goals
              clear hS0 hS1 hw1 hrow1 hnews hcv hbx hE
              generalize hWW : World.setCell w2 _ _ = w4 at hE' hbx' hfr' ⊢
              clear hWW
              replace hE' := RowsAt.top hE'
              obtain ⟨hE, hbx, hfr, hrb⟩ := (⟨hE', hbx', hfr', hrb'⟩ : _ ∧ _ ∧ _ ∧ _)
              clear hE' hbx' hfr' hrb'
              replace owni := Ow.top (Ow.frB owni hfr HNI.out)
              replace ownp := Ow.top (Ow.frB ownp hfr HNP.out)
              replace BR := BR.fr hfr (fun h => by have := HIN.out _ h; omega)
              replace bb := bb.trans (hfr.below (B := w.heap.size) (fun x h1 h2 hc => by have := HIN.out _ hc; omega) bb.size)
              have z6' := hfr.size
              clear hfr hrb HNI HNP HIN
              rw [HLO.out] at hE owni ownp
              rw [HNK.out] at hbx
              have hEn : (X0, (i : Int)) = E v i := by rw [← hY0]; exact HXY.out
              rw [show addP (wireT K0 d E v i) v X0 (i : Int) = wireT K0 d E v (i + 1) by rw [← HWA.out, ← hEn]] at hE
              have hNB5 : NBx w4 (w.heap.size + 1) b (tN K0 d E v (i + 1)) := ⟨_, c, vt, ai, ci, ap, cp, by rw [show (tN K0 d E v (i + 1)).ends.length = K0 from wireT_length ..]; exact hbx, hE, owni, ownp, hdis⟩
              clear hEn
              go_wp2_with fail
              go_roundw
              case rel => exact ⟨i + 1, by omega, by go_num, hNB5, BR, bb, by omega⟩
              case measure => simp [intOf]; omega
          · have HID := Lib.hid (show i = d by omega)
            rw [HID.out] at hNB
            go_wp2_with fail
            go_roundw
            case rel => exact ⟨v + 1, by omega, by go_num, by unfold tN; rw [← wireT_next]; exact hNB, BR, bb, zlo⟩
            case measure => simp [intOf]; omega
      · have HVK := Lib.hid (show v = K0 by omega)
        rw [HVK.out] at hNB
        have HTN := Lib.hid (show tN K0 d E K0 0 = wireN K0 d E by unfold tN wireN; rw [wireT_all])
        rw [HTN.out] at hNB
        have HNN := Lib.hid (show wireN K0 d E = wireN (2 ^ dn) (dn) (hypE) by rw [HKK.out, HDD.out, HEE.out])
        clear HTN
        generalize wireN K0 d E = Nk at *
        obtain ⟨ax, cx, vx, aix, cix, apx, cpx, BO, hE, owni, ownp, hdis⟩ := hNB
        have q0 := BO.cell 0 _ rfl
        have q1 := BO.cell 1 _ rfl
        have q2 := BO.cell 2 _ rfl
        have e0 := BR.cell 0 _ rfl
        have e1 := BR.cell 1 _ rfl
        have e2 := BR.cell 2 _ rfl
        have f0 := BR.frozen 0
        have f1 := BR.frozen 1
        have f2 := BR.frozen 2
        go_wp2_with fail
        clear q0 q1 q2 e0 e1 e2 f0 f1 f2
        generalize hW : World.setCell _ _ _ = W
        have B6 : Bx W (w.heap.size) 25 #[.slice ax Nk.ends.length cx, .slice aix Nk.ids.length cix, .slice apx Nk.inputs.length cpx] := by rw [← hW]; exact ((BR.set 0 _).set 1 _).set 2 _
        have fr6 : Fr (fun k => k = w.heap.size) wr W := by rw [← hW]; exact fr3 _ _ _ _ _
        clear hW
        have z6 := fr6.size
        have d0 := B6.cell 0 _ rfl
        have d1 := B6.cell 1 _ rfl
        have d2 := B6.cell 2 _ rfl
        refine bodyPost_ret (v := .tuple #[.agg #[.slice ax Nk.ends.length cx, .slice aix Nk.ids.length cix, .slice apx Nk.inputs.length cpx], .bool true]) (by simp [results, Try.results22, go_sem, d0, d1, d2]) rfl ?_
        rw [HG.out, ← HNN.out]
        exact ⟨_, rfl, ⟨ax, cx, vx, aix, cix, apx, cpx, rfl, RowsAt.wide (RowsAt.fr hE fr6 (fun k h1 h2 hc => by omega)) (by omega) (by omega), Ow.wide (Ow.fr owni fr6 (fun k h1 h2 hc => by omega)) (by omega) (by omega), Ow.wide (Ow.fr ownp fr6 (fun k h1 h2 hc => by omega)) (by omega) (by omega), hdis⟩, bb.trans (fr6.below (fun k h1 h2 hc => by omega) bb.size)⟩
theorem hyR_sm {d : Int} : NetSmall (hyR d) := ifN_small fun h => by
  have h1 := inR_iff.1 h
  have h2 := Nat.pow_le_pow_right (show 0 < 2 by omega) (show d.toNat ≤ 5 by omega)
  have h5 := tN_small (v := 2 ^ d.toNat) (i := 0) (E := hypE) (show 2 ^ d.toNat ≤ 40 by omega) (show d.toNat ≤ 6 by omega) (Nat.zero_le _)
  have h6 : tN (2 ^ d.toNat) d.toNat hypE (2 ^ d.toNat) 0 = wireN (2 ^ d.toNat) d.toNat hypE := by unfold tN wireN; rw [wireT_all]
  rwa [h6] at h5
set_option maxRecDepth 100000 in
set_option maxHeartbeats 1000000 in
theorem FnExactHypercubeNetwork_walk (k : Int) (w : World) (hk0 : -9223372036854775808 ≤ k) (hk1 : k ≤ 9223372036854775807) :
    Calls Try.prog 5 #[.int .i64 k] w fun e w' => e = .returned (.bool true) ∧ Below w.heap.size w w' := by
  have HS : Hid (∀ w, Calls Try.prog 22 #[.int .i64 k] w (PostN (hyR k) (inR k 0 5) w)) := specHyp_any k
  have HI : Hid (∀ w, Calls Try.prog 23 #[.int .i64 k] w (PostN (hyR k) (inR k 0 5) w)) := (fun w => implHyp_any k w ⟨hk0, hk1⟩)
  have hR : NetSmall (hyR k) := hyR_sm
  generalize hyR k = R at *
  generalize inR k 0 5 = ok at *
  go_enter Try.func5, Try.ntmps5
  go_wp2_with fail
  refine (HS.out _).mono ?_
  rintro e w1 ⟨vw, rfl, ownw, bel1⟩
  obtain ⟨aw, cw, aiw, ciw, apw, cpw, rfl, ownw⟩ := ownw.shape
  have z1 := bel1.size
  have BW := Bx.made w1 25 #[.slice aw R.ends.length cw, .slice aiw R.ids.length ciw, .slice apw R.inputs.length cpw]
  have bx1 : Below w1.heap.size w1 (w1.alloc (.cells #[.slice aw R.ends.length cw, .slice aiw R.ids.length ciw, .slice apw R.inputs.length cpw] 25)) := (by repeat (first | exact Below.refl _ _ | assumption | refine Below.alloc ?_ (by first | (simp; done) | (simp; omega) | omega) _ | refine Below.setCell ?_ (by first | (simp; done) | (simp; omega) | omega) _ | refine Below.drew ?_ | refine Below.drewN ?_ _))
  go_wp2_with fail
  refine (HI.out _).mono ?_
  rintro e w2 ⟨vg, rfl, owng, bel2⟩
  obtain ⟨ag, cg, aig, cig, apg, cpg, rfl, owng⟩ := owng.shape
  simp only [World.size_alloc] at owng
  have z2 : w1.heap.size + 1 ≤ w2.heap.size := by have := bel2.size; simpa using this
  replace ownw := (ownw.new bx1).new bel2
  replace BW := BW.new bel2
  have b2 := bel1.trans ((bx1.mono z1).trans (bel2.mono (by have := bx1.size; omega)))
  clear bel1 bx1 bel2
  have BG := Bx.made w2 25 #[.slice ag R.ends.length cg, .slice aig R.ids.length cig, .slice apg R.inputs.length cpg]
  have bx2 : Below w2.heap.size w2 (w2.alloc (.cells #[.slice ag R.ends.length cg, .slice aig R.ids.length cig, .slice apg R.inputs.length cpg] 25)) := (by repeat (first | exact Below.refl _ _ | assumption | refine Below.alloc ?_ (by first | (simp; done) | (simp; omega) | omega) _ | refine Below.setCell ?_ (by first | (simp; done) | (simp; omega) | omega) _ | refine Below.drew ?_ | refine Below.drewN ?_ _))
  replace BW := BW.new bx2
  have cW0 := BW.cell 0 _ rfl
  have cW1 := BW.cell 1 _ rfl
  have cW2 := BW.cell 2 _ rfl
  go_wp2_with fail
  clear cW0 cW1 cW2
  have zx2 : w2.heap.size + 1 ≤ (w2.alloc (.cells #[.slice ag R.ends.length cg, .slice aig R.ids.length cig, .slice apg R.inputs.length cpg] 25)).heap.size := by simp
  replace ownw := ownw.new bx2
  replace owng := owng.new bx2
  have b3 := b2.trans (bx2.mono b2.size)
  have HBB : Hid ((ok != ok) = false) := by show _ = _; simp
  generalize w2.alloc (.cells #[.slice ag R.ends.length cg, .slice aig R.ids.length cig, .slice apg R.inputs.length cpg] 25) = x2 at *
  clear bx2 b2
  refine (eqNetwork_any _ _ R _ _ _ _ _ owng ownw (by omega) (by omega) hR).mono ?_
  rintro e w3 ⟨rfl, bel3⟩
  replace ownw := ownw.new bel3
  replace owng := owng.new bel3
  replace BW := BW.new bel3
  replace BG := BG.new bel3
  have z3 := bel3.size
  have b4 := b3.trans (bel3.mono b3.size)
  clear b3 bel3
  have cG0 := BG.cell 0 _ rfl
  have cG1 := BG.cell 1 _ rfl
  have cG2 := BG.cell 2 _ rfl
  have hbb := HBB.out
  go_wp2_with fail
  clear cG0 cG1 cG2
  refine (markNetwork_any _ R 1 _ _ _ owng (by omega) hR (by omega)).mono ?_
  rintro e w4 ⟨rfl, owngm, fr4⟩
  replace ownw := ownw.fr fr4 (fun k h1 h2 hc => by omega)
  replace BW := BW.fr fr4 (by omega)
  replace BG := BG.fr fr4 (by omega)
  have z4 := fr4.size
  have b5 := b4.trans (fr4.below (B := w.heap.size) (fun k h1 h2 hc => by omega) (by omega))
  clear b4 fr4 owng
  have cG0 := BG.cell 0 _ rfl
  have cG1 := BG.cell 1 _ rfl
  have cG2 := BG.cell 2 _ rfl
  go_wp2_with fail
  clear cG0 cG1 cG2
  refine (heldNetwork_any _ R 1 _ _ _ owngm (by omega) hR (by omega)).mono ?_
  rintro e w5 ⟨rfl, bel5⟩
  replace ownw := ownw.new bel5
  replace owngm := owngm.new bel5
  replace BW := BW.new bel5
  replace BG := BG.new bel5
  have z5 := bel5.size
  have b6 := b5.trans (bel5.mono b5.size)
  clear b5 bel5
  have hlt : ¬ (((1 + netTot R : Nat) : Int) < 0) := by omega
  go_wp2_with fail
  refine (HI.out _).mono ?_
  rintro e w6 ⟨vh, rfl, ownh, bel6⟩
  obtain ⟨ah, chh, aih, cih, aph, cph, rfl, ownh⟩ := ownh.shape
  replace ownw := ownw.new bel6
  replace owngm := owngm.new bel6
  replace BW := BW.new bel6
  replace BG := BG.new bel6
  have z6 := bel6.size
  have b7 := b6.trans (bel6.mono b6.size)
  clear b6 bel6
  have bx6 : Below w6.heap.size w6 (w6.alloc (.cells #[.slice ah R.ends.length chh, .slice aih R.ids.length cih, .slice aph R.inputs.length cph] 25)) := (by repeat (first | exact Below.refl _ _ | assumption | refine Below.alloc ?_ (by first | (simp; done) | (simp; omega) | omega) _ | refine Below.setCell ?_ (by first | (simp; done) | (simp; omega) | omega) _ | refine Below.drew ?_ | refine Below.drewN ?_ _))
  replace BW := BW.new bx6
  replace BG := BG.new bx6
  have cW0 := BW.cell 0 _ rfl
  have cW1 := BW.cell 1 _ rfl
  have cW2 := BW.cell 2 _ rfl
  go_wp2_with fail
  clear cW0 cW1 cW2
  replace ownw := ownw.new bx6
  replace owngm := owngm.new bx6
  replace ownh := ownh.new bx6
  have b8 := b7.trans (bx6.mono b7.size)
  have zx6 := bx6.size
  generalize w6.alloc (.cells #[.slice ah R.ends.length chh, .slice aih R.ids.length cih, .slice aph R.inputs.length cph] 25) = x6 at *
  clear bx6 b7
  refine (eqNetwork_any _ _ R _ _ _ _ _ ownh ownw (by omega) (by omega) hR).mono ?_
  rintro e w7 ⟨rfl, bel7⟩
  replace owngm := owngm.new bel7
  replace BG := BG.new bel7
  have z7 := bel7.size
  have b9 := b8.trans (bel7.mono b8.size)
  clear b8 bel7
  have cG0 := BG.cell 0 _ rfl
  have cG1 := BG.cell 1 _ rfl
  have cG2 := BG.cell 2 _ rfl
  go_wp2_with fail
  clear cG0 cG1 cG2
  refine (heldNetwork_any _ R 1 _ _ _ owngm (by omega) hR (by omega)).mono ?_
  rintro e w8 ⟨rfl, bel8⟩
  go_wp2_with fail
  go_ret
  exact ⟨rfl, b9.trans (bel8.mono b9.size)⟩
end Go.Proofs.Ytdchomjdimbenaa
