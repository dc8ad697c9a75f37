/- CycleNetwork. -/
import Derived.Test.YtpfjglheinomiaaWire
namespace Go.Proofs.Ytpfjglheinomiaa
open Go.RowKit
set_option linter.unusedVariables false
set_option linter.unusedSimpArgs false




set_option maxRecDepth 100000 in
set_option maxHeartbeats 1600000 in
theorem wiredCycle_any (k : Int) (d : Nat) (E : Nat → Nat → Int × Int) (p : Nat) (w : World) (hd : d ≤ 1000000)
    (HFN : ∀ X (v i : Nat), Below w.heap.size w X → (v : Int) < k → k ≤ 40 → i < d → d ≤ 6 → Calls Try.prog 87 #[.int .i64 v, .int .i64 i, .pointer (some ⟨p, 0, none⟩)] X fun e w' => e = .returned (.agg #[.int .i64 (E v i).1, .int .i64 (E v i).2]) ∧ Below X.heap.size X w') :
    Calls Try.prog 86 #[.int .i64 k, .int .i64 d, .func (.func 87) #[] #[.pointer (some ⟨p, 0, none⟩)]] w (PostN (wdR k d E) (wdB k d E) w) := by
  have BR := Bx.made w 31 #[.slice none 0 0, .slice none 0 0, .slice none 0 0]
  have b0 : Below w.heap.size w (w.alloc (.cells #[.slice none 0 0, .slice none 0 0, .slice none 0 0] 31)) := (by repeat (first | exact Below.refl _ _ | assumption | refine Below.alloc ?_ (by first | (simp; done) | (simp; omega) | omega) _ | refine Below.setCell ?_ (by first | (simp; done) | (simp; omega) | omega) _ | refine Below.drew ?_ | refine Below.drewN ?_ _))
  have z0 : w.heap.size + 1 ≤ (w.alloc (.cells #[.slice none 0 0, .slice none 0 0, .slice none 0 0] 31)).heap.size := by simp
  have HF := Lib.hid HFN
  clear HFN
  have HKB := Lib.hid (fun h => inR_iff.1 (h : inR k 1 40 = true))
  go_enter Try.func86, Try.ntmps86
  go_wp2_with fail
  refine (emptyNetwork_any k _).mono ?_
  rintro e w1 ⟨v1, rfl, own1, bel1⟩
  obtain ⟨a1, c1, ai1, ci1, ap1, cp1, rfl, own1⟩ := own1.shape
  replace BR := BR.new bel1
  have z1 : w.heap.size + 1 ≤ w1.heap.size := by have := bel1.size; omega
  simp only [World.size_alloc] at own1
  have b1 := b0.trans (bel1.mono b0.size)
  clear b0 bel1 z0
  generalize hR0 : ifN (inR k 1 40) (emptyN k.toNat) = R0 at *
  have HR0 := Lib.hid hR0
  clear hR0
  have BO := Bx.made w1 31 #[.slice a1 R0.ends.length c1, .slice ai1 R0.ids.length ci1, .slice ap1 R0.inputs.length cp1]
  have b2 : Below w1.heap.size w1 (w1.alloc (.cells #[.slice a1 R0.ends.length c1, .slice ai1 R0.ids.length ci1, .slice ap1 R0.inputs.length cp1] 31)) := (by repeat (first | exact Below.refl _ _ | assumption | refine Below.alloc ?_ (by first | (simp; done) | (simp; omega) | omega) _ | refine Below.setCell ?_ (by first | (simp; done) | (simp; omega) | omega) _ | refine Below.drew ?_ | refine Below.drewN ?_ _))
  go_upto_region 2 with fail
  have z2 : w1.heap.size + 1 ≤ (w1.alloc (.cells #[.slice a1 R0.ends.length c1, .slice ai1 R0.ids.length ci1, .slice ap1 R0.inputs.length cp1] 31)).heap.size := by simp
  generalize w1.alloc (.cells #[.slice a1 R0.ends.length c1, .slice ai1 R0.ids.length ci1, .slice ap1 R0.inputs.length cp1] 31) = w2 at *
  obtain ⟨b, hb⟩ : ∃ b, b = w1.heap.size := ⟨_, rfl⟩
  rw [← hb] at BO ⊢
  replace BR := BR.new b2
  replace own1 := (own1.new b2).wide (Nat.le_refl _) b2.size
  have bb := b1.trans (b2.mono b1.size)
  have zb : w.heap.size + 1 ≤ b := by omega
  have zlo : w.heap.size + 1 ≤ w2.heap.size := by omega
  clear hb b1 b2 z2
  cases hk : inR k 1 40 with
  | false =>
    have HFF := Lib.hid (show (inR k 1 40 && decide (d ≤ 6)) = false by rw [hk]; rfl)
    clear hk
    have e0 := BR.cell 0 _ rfl
    have e1 := BR.cell 1 _ rfl
    have e2 := BR.cell 2 _ rfl
    have f0 := BR.frozen 0
    have f1 := BR.frozen 1
    have f2 := BR.frozen 2
    go_wp2_with fail
    clear e0 e1 e2 f0 f1 f2
    generalize hW : World.setCell _ _ _ = W
    have B6 : Bx W (w.heap.size) 31 #[.slice none 0 0, .slice none 0 0, .slice none 0 0] := by rw [← hW]; exact ((BR.set 0 _).set 1 _).set 2 _
    have fr6 : Fr (fun k => k = w.heap.size) w2 W := by rw [← hW]; exact fr3 _ _ _ _ _
    clear hW
    have z6 := fr6.size
    have d0 := B6.cell 0 _ rfl
    have d1 := B6.cell 1 _ rfl
    have d2 := B6.cell 2 _ rfl
    refine bodyPost_ret (v := .tuple #[.agg #[.slice none 0 0, .slice none 0 0, .slice none 0 0], .bool false]) (by simp [results, Try.results86, go_sem, d0, d1, d2]) rfl ?_
    rw [wdR_f HFF.out, wdB_f HFF.out]
    exact ⟨_, rfl, NetAt.nilN _ _ _, bb.trans (fr6.below (fun k h1 h2 hc => by omega) bb.size)⟩
  | true =>
    have HK := Lib.hid hk
    have hk2 := HKB.out hk
    clear hk HKB
    by_cases hd6 : d ≤ 6
    case neg =>
      have HFF := Lib.hid (show (inR k 1 40 && decide (d ≤ 6)) = false by rw [decide_eq_false hd6, Bool.and_false])
      have e0 := BR.cell 0 _ rfl
      have e1 := BR.cell 1 _ rfl
      have e2 := BR.cell 2 _ rfl
      have f0 := BR.frozen 0
      have f1 := BR.frozen 1
      have f2 := BR.frozen 2
      go_wp2_with fail
      clear e0 e1 e2 f0 f1 f2
      generalize hW : World.setCell _ _ _ = W
      have B6 : Bx W (w.heap.size) 31 #[.slice none 0 0, .slice none 0 0, .slice none 0 0] := by rw [← hW]; exact ((BR.set 0 _).set 1 _).set 2 _
      have fr6 : Fr (fun k => k = w.heap.size) w2 W := by rw [← hW]; exact fr3 _ _ _ _ _
      clear hW
      have z6 := fr6.size
      have d0 := B6.cell 0 _ rfl
      have d1 := B6.cell 1 _ rfl
      have d2 := B6.cell 2 _ rfl
      refine bodyPost_ret (v := .tuple #[.agg #[.slice none 0 0, .slice none 0 0, .slice none 0 0], .bool false]) (by simp [results, Try.results86, go_sem, d0, d1, d2]) rfl ?_
      rw [wdR_f HFF.out, wdB_f HFF.out]
      exact ⟨_, rfl, NetAt.nilN _ _ _, bb.trans (fr6.below (fun k h1 h2 hc => by omega) bb.size)⟩
    obtain ⟨kn, rfl⟩ := Int.eq_ofNat_of_zero_le (show 0 ≤ k by omega)
    obtain rfl : R0 = emptyN kn := by rw [← HR0.out, HK.out, Int.toNat_natCast]; rfl
    have hNB : NBx w2 (w.heap.size + 1) b (tN kn d E 0 0) := by
      have hE0 : tN kn d E 0 0 = emptyN kn := by unfold tN emptyN; rw [wireT_zero]
      rw [hE0]
      obtain ⟨a, c, vs, ai, ci, ap, cp, hv, h1, h2, h3, h4⟩ := own1
      simp only [Value.agg.injEq, Array.mk.injEq, List.cons.injEq, Value.slice.injEq, true_and, and_true] at hv
      obtain ⟨⟨rfl, rfl⟩, ⟨rfl, rfl⟩, rfl, rfl⟩ := hv
      exact ⟨_, _, vs, _, _, _, _, BO, h1, h2, h3, h4⟩
    have HEL := Lib.hid (show (emptyN kn).ends.length = kn from List.length_replicate ..)
    rw [HEL.out] at BO ⊢
    have q0 := BO.cell 0 _ rfl
    have HOKB := Lib.hid (wdB_t (E := E) HK.out hd6)
    clear own1 HR0 BO
    go_wp2_with fail
    clear q0
    go_loopw [27] (fun iv wr => ∃ v : Nat, v ≤ kn ∧ iv = .int .i64 v ∧ NBx wr (w.heap.size + 1) b (tN kn d E v 0) ∧ Bx wr w.heap.size 31 #[.slice none 0 0, .slice none 0 0, .slice none 0 0] ∧ Below w.heap.size w wr ∧ w.heap.size + 1 ≤ wr.heap.size) (fun iv _ => kn - (intOf iv).toNat)
    case atStart => exact ⟨0, Nat.zero_le _, rfl, hNB, BR, bb, zlo⟩
    case round =>
      clear hNB BR bb zlo
      obtain ⟨v, hv, rfl, hNB, BR, bb, zlo⟩ := hrel
      by_cases hlt : v < kn
      · go_wp2_with fail
        go_loopw [31] (fun iv wr => ∃ i : Nat, i ≤ d ∧ iv = .int .i64 i ∧ NBx wr (w.heap.size + 1) b (tN kn d E v i) ∧ Bx wr w.heap.size 31 #[.slice none 0 0, .slice none 0 0, .slice none 0 0] ∧ Below w.heap.size w wr ∧ w.heap.size + 1 ≤ wr.heap.size) (fun iv _ => d - (intOf iv).toNat)
        case atStart => exact ⟨0, Nat.zero_le _, rfl, hNB, BR, bb, zlo⟩
        case round =>
          clear hNB BR bb zlo
          obtain ⟨i, hi, rfl, hNB, BR, bb, zlo⟩ := hrel
          by_cases hil : i < d
          · obtain ⟨aq, c, vs, ai, ci, ap, cp, hbx, hE, owni, ownp, hdis⟩ := hNB
            have hWL : (tN kn d E v i).ends.length = kn := wireT_length ..
            have hrl : (rowOf (wireT kn d E v i) v).length ≤ 6 := by rw [wireT_row _ _ _ _ _ _ hlt, if_neg (by omega), if_pos rfl, rowW_length]; omega
            replace hE : RowsE wr (w.heap.size + 1) wr.heap.size aq c (wireT kn d E v i) vs := hE
            have hv1 : v < (wireT kn d E v i).length := by rw [wireT_length]; exact hlt
            obtain ⟨A, hA, _, _⟩ := Ow.addr hE.1 (by omega)
            subst hA
            obtain ⟨lo, hlo0⟩ : ∃ lo, lo = w.heap.size + 1 := ⟨_, rfl⟩
            rw [← hlo0] at hE owni ownp
            have zl1 : w.heap.size + 1 ≤ lo := by omega
            have hlo : lo ≤ wr.heap.size := by omega
            have HLO := Lib.hid hlo0
            clear hlo0
            rw [hWL] at hbx
            obtain ⟨n, hn⟩ : ∃ n, n = kn := ⟨_, rfl⟩
            rw [← hn] at hbx
            have HNK := Lib.hid hn
            have hvn : v < n := by omega
            clear hn
            have HNI := Lib.hid (fun (x : Nat) (hx : blk ai ci = some x) => rb_ne hE (by omega) owni hx)
            have HNP := Lib.hid (fun (x : Nat) (hx : blk ap cp = some x) => rb_ne hE (by omega) ownp hx)
            have HIN := Lib.hid (fun (x : Nat) (h : RB A (wireT kn d E v i) vs x) => rb_in hE (by omega) h)
            have HWL := Lib.hid hWL
            clear hWL
            go_wp2_with fail
            have hS0 : wr.drew.cell? ⟨b, 0, none⟩ = some (.slice (some ⟨A, 0, none⟩) n c) := hbx.cell 0 _ rfl
            obtain ⟨gq, offq, haeq, _, hcv0⟩ := Rd.at (Ow.rd hE.1) hv1
            obtain ⟨rfl, rfl⟩ : A = gq ∧ 0 = offq := by injection haeq with h; injection h with h1 h2; exact ⟨h1, h2⟩
            clear haeq
            rw [Nat.zero_add] at hcv0
            have hcv : wr.drew.cell? ⟨A, v, none⟩ = _ := hcv0
            refine wp_region_held_drew (S := fun X => X.cell? ⟨b, 0, none⟩ = some (.slice (some ⟨A, 0, none⟩) n c)) (by kernel_rfl) hS0 (fun hHeld => ?_)
            refine wpAnyH_take (i := 0) (v := ?_) rfl (by kernel_rfl) (by kernel_rfl) (by kernel_rfl) (fun _ _ _ h => h) (Or.inl ⟨by rfl, ?_⟩) (by assumption) ?_
            rotate_left
            · (intro w hSw; (try dsimp only at hSw); go_simp; try with_reducible rfl)
            try simp only [Act.put, List.getElem_toArray, List.getElem_cons_zero, List.getElem_cons_succ, List.setIfInBounds_toArray, List.set_cons_zero, List.set_cons_succ]
            refine wpAnyH_take (i := 1) (v := ?_) rfl (by kernel_rfl) (by kernel_rfl) (by kernel_rfl) (fun _ _ _ h => h) (Or.inl ⟨by rfl, ?_⟩) (by assumption) ?_
            rotate_left
            · (intro w hSw; (try dsimp only at hSw); go_simp; try with_reducible rfl)
            try simp only [Act.put, List.getElem_toArray, List.getElem_cons_zero, List.getElem_cons_succ, List.setIfInBounds_toArray, List.set_cons_zero, List.set_cons_succ]
            refine wpAnyH_take (i := 2) (v := ?_) rfl (by kernel_rfl) (by kernel_rfl) (by kernel_rfl) (fun _ _ _ h => h) (Or.inl ⟨by rfl, ?_⟩) (by assumption) ?_
            rotate_left
            · (intro w hSw; (try dsimp only at hSw); go_simp; try with_reducible rfl)
            try simp only [Act.put, List.getElem_toArray, List.getElem_cons_zero, List.getElem_cons_succ, List.setIfInBounds_toArray, List.set_cons_zero, List.set_cons_succ]
            refine wpAnyH_take (i := 3) (v := ?_) rfl (by kernel_rfl) (by kernel_rfl) (by kernel_rfl) (fun _ _ _ h => h) (Or.inl ⟨by rfl, ?_⟩) (by assumption) ?_
            rotate_left
            · (intro w hSw; (try dsimp only at hSw); go_simp; try with_reducible rfl)
            try simp only [Act.put, List.getElem_toArray, List.getElem_cons_zero, List.getElem_cons_succ, List.setIfInBounds_toArray, List.set_cons_zero, List.set_cons_succ]
            refine wpAnyH_take (i := 4) (v := ?_) rfl (by kernel_rfl) (by kernel_rfl) (by kernel_rfl) (fun _ _ _ h => h) (Or.inl ⟨by rfl, ?_⟩) (by assumption) ?_
            rotate_left
            · (intro w hSw; (try dsimp only at hSw); go_simp; try with_reducible rfl)
            try simp only [Act.put, List.getElem_toArray, List.getElem_cons_zero, List.getElem_cons_succ, List.setIfInBounds_toArray, List.set_cons_zero, List.set_cons_succ]
            refine wpAnyH_take (i := 5) (v := ?_) rfl (by kernel_rfl) (by kernel_rfl) (by kernel_rfl) (fun _ _ _ h => h) (Or.inl ⟨by rfl, ?_⟩) (by assumption) ?_
            rotate_left
            · (intro w hSw; (try dsimp only at hSw); go_simp; try with_reducible rfl)
            try simp only [Act.put, List.getElem_toArray, List.getElem_cons_zero, List.getElem_cons_succ, List.setIfInBounds_toArray, List.set_cons_zero, List.set_cons_succ]
            refine wpAnyH_take (i := 6) (v := ?_) rfl (by kernel_rfl) (by kernel_rfl) (by kernel_rfl) (fun _ _ _ h => h) (Or.inl ⟨by rfl, ?_⟩) (by assumption) ?_
            rotate_left
            · (intro w hSw; (try dsimp only at hSw); go_simp; try with_reducible rfl)
            try simp only [Act.put, List.getElem_toArray, List.getElem_cons_zero, List.getElem_cons_succ, List.setIfInBounds_toArray, List.set_cons_zero, List.set_cons_succ]
            refine wpAnyH_take (i := 8) (v := ?_) rfl (by kernel_rfl) (by kernel_rfl) (by kernel_rfl) (fun _ _ _ h => h) (Or.inl ⟨by rfl, ?_⟩) (by assumption) ?_
            rotate_left
            · (intro w hSw; (try dsimp only at hSw); go_simp; try with_reducible rfl)
            try simp only [Act.put, List.getElem_toArray, List.getElem_cons_zero, List.getElem_cons_succ, List.setIfInBounds_toArray, List.set_cons_zero, List.set_cons_succ]
            refine wpAnyH_take (i := 9) (v := ?_) rfl (by kernel_rfl) (by kernel_rfl) (by kernel_rfl) (fun _ _ _ h => h) (Or.inl ⟨by rfl, ?_⟩) (by assumption) ?_
            rotate_left
            · (intro w hSw; (try dsimp only at hSw); go_simp; try with_reducible rfl)
            try simp only [Act.put, List.getElem_toArray, List.getElem_cons_zero, List.getElem_cons_succ, List.setIfInBounds_toArray, List.set_cons_zero, List.set_cons_succ]
            refine wpAnyH_take (i := 10) (v := ?_) rfl (by kernel_rfl) (by kernel_rfl) (by kernel_rfl) (fun _ _ _ h => h) (Or.inl ⟨by rfl, ?_⟩) (by assumption) ?_
            rotate_left
            · (intro w hSw; (try dsimp only at hSw); go_simp; try with_reducible rfl)
            try simp only [Act.put, List.getElem_toArray, List.getElem_cons_zero, List.getElem_cons_succ, List.setIfInBounds_toArray, List.set_cons_zero, List.set_cons_succ]
            refine wpAnyH_ready (rs := [7, 11]) (by kernel_rfl) (by simp) ?_
            refine AllReadyH.cons (o := _) rfl (fun K hK => ?_) (AllReadyH.cons (o := _) rfl (fun K hK => ?_) AllReadyH.nil)
            go_simp
            refine hK.out _ _ (hS0) (fun hHeld => ?_)
            clear hK K
            try simp only [Act.put, List.getElem_toArray, List.getElem_cons_zero, List.getElem_cons_succ, List.setIfInBounds_toArray, List.set_cons_zero, List.set_cons_succ]
            refine wpAnyH_ready (rs := [11]) (by kernel_rfl) (by simp) ?_
            refine AllReadyH.cons (o := _) rfl (fun K hK => ?_) AllReadyH.nil
            go_simp
            refine (HF.out wr.drew v i bb.drew (by omega) (by omega) hil hd6).mono ?_
            rintro e wc ⟨rfl, belc⟩
            have belc' : Below wr.heap.size wr wc := ((Below.refl _ _).drew).trans belc
            clear belc
            have hbc := hbx.new belc'
            have hS4 := hbc.cell 0 _ rfl
            have hcv4 := (belc'.cell (p := ⟨A, v, none⟩) (World.block_lt_of_cell? wr _ hcv0)).trans hcv0
            have hba : Below wc.heap.size wc (wc.alloc (.cells #[.int .i64 (E v i).1, .int .i64 (E v i).2] 69)) := (by repeat (first | exact Below.refl _ _ | assumption | refine Below.alloc ?_ (by first | (simp; done) | (simp; omega) | omega) _ | refine Below.setCell ?_ (by first | (simp; done) | (simp; omega) | omega) _ | refine Below.drew ?_ | refine Below.drewN ?_ _))
            have hw1 := belc'.trans (hba.mono belc'.size)
            have hS1 := (hbx.new hw1).cell 0 _ rfl
            have hcv5 := (hw1.cell (p := ⟨A, v, none⟩) (World.block_lt_of_cell? wr _ hcv0)).trans hcv0
            have hrow1 : Ow (wc.alloc (.cells #[.int .i64 (E v i).1, .int .i64 (E v i).2] 69)) lo wr.heap.size 69 2 (vs v).1 (rowOf (wireT kn d E v i) v).length (vs v).2 (cellE (rowOf (wireT kn d E v i) v)) := Ow.new (hE.2.1 v hv1) hw1
            have hnews : ∀ jj uu, [Value.int .i64 (E v i).1, Value.int .i64 (E v i).2][jj]? = some uu → (wc.alloc (.cells #[.int .i64 (E v i).1, .int .i64 (E v i).2] 69)).cell? (Addr.add ⟨wc.heap.size, 0, none⟩ jj) = some uu := news2 _ _ _ _
            have zc := belc'.size
            refine hK.out _ _ (hS4) (fun hHeld => ?_)
            clear hK K
            try simp only [Act.put, List.getElem_toArray, List.getElem_cons_zero, List.getElem_cons_succ, List.setIfInBounds_toArray, List.set_cons_zero, List.set_cons_succ]
            refine wpAnyH_ready (rs := [12]) (by kernel_rfl) (by simp) ?_
            refine AllReadyH.cons (o := _) rfl (fun K hK => ?_) AllReadyH.nil
            go_simp
            refine hK.out _ _ (hS1) (fun hHeld => ?_)
            clear hK K
            try simp only [Act.put, List.getElem_toArray, List.getElem_cons_zero, List.getElem_cons_succ, List.setIfInBounds_toArray, List.set_cons_zero, List.set_cons_succ]
            refine wpAnyH_ready (rs := [13]) (by kernel_rfl) (by simp) ?_
            refine AllReadyH.cons (o := _) rfl (fun K hK => ?_) AllReadyH.nil
            rw [if_pos (by rfl)]
            refine step_app _ _ _ rfl 69 (.agg #[.int .i64 0, .int .i64 0]) 2 16 Try.underlying67 end_info rfl (by decide) lo wr.heap.size (vs v).1 (rowOf (wireT kn d E v i) v).length (vs v).2 _ rfl hrow1 ⟨wc.heap.size, 0, none⟩ 1 1 [.int .i64 (E v i).1, .int .i64 (E v i).2] rfl rfl hnews (by simp [Value.oneCell']) (by decide) (by unfold maxLen; omega) (by omega) (by simp; omega) ?_
            intro g' cap' w2 own2 hgr hbg _
            obtain ⟨hbx2, hc2, hf2, vt, hE', hbx', hfr', hrb'⟩ := addP_mem hbx hE hv1 hw1 hlo hgr own2 hbg
            have hS2 := hbx2.cell 0 _ rfl
            have hS3 := hbx'.cell 0 _ rfl
            refine hK.out _ _ hS2 (fun hHeld => ?_)
            clear hK K
            try simp only [Act.put, List.getElem_toArray, List.getElem_cons_zero, List.getElem_cons_succ, List.setIfInBounds_toArray, List.set_cons_zero, List.set_cons_succ]
            refine wpAnyH_take (i := 14) (v := ?_) rfl (by kernel_rfl) (by kernel_rfl) (by kernel_rfl) (fun _ _ _ h => h) (Or.inl ⟨by rfl, ?_⟩) (by assumption) ?_
            rotate_left
            · (intro w hSw; (try dsimp only at hSw); go_simp; try with_reducible rfl)
            try simp only [Act.put, List.getElem_toArray, List.getElem_cons_zero, List.getElem_cons_succ, List.setIfInBounds_toArray, List.set_cons_zero, List.set_cons_succ]
            refine wpAnyH_ready (rs := [15]) (by kernel_rfl) (by simp) ?_
            refine AllReadyH.cons (o := _) rfl (fun K hK => ?_) AllReadyH.nil
            go_simp
            refine hK.out _ _ (hS3) (fun hHeld => ?_)
            clear hK K
            try simp only [Act.put, List.getElem_toArray, List.getElem_cons_zero, List.getElem_cons_succ, List.setIfInBounds_toArray, List.set_cons_zero, List.set_cons_succ]
            refine wpAnyH_done (by kernel_rfl) ?_ _
            clear hHeld hS2 hS3 hc2 hf2 hbx2 own2 hgr hbg hS4 hS1 hcv4 hcv5 hba hw1 hrow1 hnews hbc belc'
            rotate_left
            go_simp
            refine (HF.out wr.drew v i bb.drew (by omega) (by omega) hil hd6).mono ?_
            rintro e wc ⟨rfl, belc⟩
            have belc' : Below wr.heap.size wr wc := ((Below.refl _ _).drew).trans belc
            clear belc
            have hbc := hbx.new belc'
            have hS4 := hbc.cell 0 _ rfl
            have hcv4 := (belc'.cell (p := ⟨A, v, none⟩) (World.block_lt_of_cell? wr _ hcv0)).trans hcv0
            have hba : Below wc.heap.size wc (wc.alloc (.cells #[.int .i64 (E v i).1, .int .i64 (E v i).2] 69)) := (by repeat (first | exact Below.refl _ _ | assumption | refine Below.alloc ?_ (by first | (simp; done) | (simp; omega) | omega) _ | refine Below.setCell ?_ (by first | (simp; done) | (simp; omega) | omega) _ | refine Below.drew ?_ | refine Below.drewN ?_ _))
            have hw1 := belc'.trans (hba.mono belc'.size)
            have hS1 := (hbx.new hw1).cell 0 _ rfl
            have hcv5 := (hw1.cell (p := ⟨A, v, none⟩) (World.block_lt_of_cell? wr _ hcv0)).trans hcv0
            have hrow1 : Ow (wc.alloc (.cells #[.int .i64 (E v i).1, .int .i64 (E v i).2] 69)) lo wr.heap.size 69 2 (vs v).1 (rowOf (wireT kn d E v i) v).length (vs v).2 (cellE (rowOf (wireT kn d E v i) v)) := Ow.new (hE.2.1 v hv1) hw1
            have hnews : ∀ jj uu, [Value.int .i64 (E v i).1, Value.int .i64 (E v i).2][jj]? = some uu → (wc.alloc (.cells #[.int .i64 (E v i).1, .int .i64 (E v i).2] 69)).cell? (Addr.add ⟨wc.heap.size, 0, none⟩ jj) = some uu := news2 _ _ _ _
            have zc := belc'.size
            refine hK.out _ _ (hS4) (fun hHeld => ?_)
            clear hK K
            try simp only [Act.put, List.getElem_toArray, List.getElem_cons_zero, List.getElem_cons_succ, List.setIfInBounds_toArray, List.set_cons_zero, List.set_cons_succ]
            refine wpAnyH_ready (rs := [7, 12]) (by kernel_rfl) (by simp) ?_
            refine AllReadyH.cons (o := _) rfl (fun K hK => ?_) (AllReadyH.cons (o := _) rfl (fun K hK => ?_) AllReadyH.nil)
            go_simp
            refine hK.out _ _ (hS4) (fun hHeld => ?_)
            clear hK K
            try simp only [Act.put, List.getElem_toArray, List.getElem_cons_zero, List.getElem_cons_succ, List.setIfInBounds_toArray, List.set_cons_zero, List.set_cons_succ]
            refine wpAnyH_ready (rs := [12]) (by kernel_rfl) (by simp) ?_
            refine AllReadyH.cons (o := _) rfl (fun K hK => ?_) AllReadyH.nil
            go_simp
            refine hK.out _ _ (hS1) (fun hHeld => ?_)
            clear hK K
            try simp only [Act.put, List.getElem_toArray, List.getElem_cons_zero, List.getElem_cons_succ, List.setIfInBounds_toArray, List.set_cons_zero, List.set_cons_succ]
            refine wpAnyH_ready (rs := [13]) (by kernel_rfl) (by simp) ?_
            refine AllReadyH.cons (o := _) rfl (fun K hK => ?_) AllReadyH.nil
            rw [if_pos (by rfl)]
            refine step_app _ _ _ rfl 69 (.agg #[.int .i64 0, .int .i64 0]) 2 16 Try.underlying67 end_info rfl (by decide) lo wr.heap.size (vs v).1 (rowOf (wireT kn d E v i) v).length (vs v).2 _ rfl hrow1 ⟨wc.heap.size, 0, none⟩ 1 1 [.int .i64 (E v i).1, .int .i64 (E v i).2] rfl rfl hnews (by simp [Value.oneCell']) (by decide) (by unfold maxLen; omega) (by omega) (by simp; omega) ?_
            intro g' cap' w2 own2 hgr hbg _
            obtain ⟨hbx2, hc2, hf2, vt, hE', hbx', hfr', hrb'⟩ := addP_mem hbx hE hv1 hw1 hlo hgr own2 hbg
            have hS2 := hbx2.cell 0 _ rfl
            have hS3 := hbx'.cell 0 _ rfl
            refine hK.out _ _ hS2 (fun hHeld => ?_)
            clear hK K
            try simp only [Act.put, List.getElem_toArray, List.getElem_cons_zero, List.getElem_cons_succ, List.setIfInBounds_toArray, List.set_cons_zero, List.set_cons_succ]
            refine wpAnyH_take (i := 14) (v := ?_) rfl (by kernel_rfl) (by kernel_rfl) (by kernel_rfl) (fun _ _ _ h => h) (Or.inl ⟨by rfl, ?_⟩) (by assumption) ?_
            rotate_left
            · (intro w hSw; (try dsimp only at hSw); go_simp; try with_reducible rfl)
            try simp only [Act.put, List.getElem_toArray, List.getElem_cons_zero, List.getElem_cons_succ, List.setIfInBounds_toArray, List.set_cons_zero, List.set_cons_succ]
            refine wpAnyH_ready (rs := [15]) (by kernel_rfl) (by simp) ?_
            refine AllReadyH.cons (o := _) rfl (fun K hK => ?_) AllReadyH.nil
            go_simp
            refine hK.out _ _ (hS3) (fun hHeld => ?_)
            clear hK K
            try simp only [Act.put, List.getElem_toArray, List.getElem_cons_zero, List.getElem_cons_succ, List.setIfInBounds_toArray, List.set_cons_zero, List.set_cons_succ]
            refine wpAnyH_done (by kernel_rfl) ?_ _
            clear hHeld hS2 hS3 hc2 hf2 hbx2 own2 hgr hbg hS4 hS1 hcv4 hcv5 hba hw1 hrow1 hnews hbc belc'
            rotate_left
            go_simp
            refine hK.out _ _ (hS1) (fun hHeld => ?_)
            clear hK K
            try simp only [Act.put, List.getElem_toArray, List.getElem_cons_zero, List.getElem_cons_succ, List.setIfInBounds_toArray, List.set_cons_zero, List.set_cons_succ]
            refine wpAnyH_ready (rs := [7]) (by kernel_rfl) (by simp) ?_
            refine AllReadyH.cons (o := _) rfl (fun K hK => ?_) AllReadyH.nil
            go_simp
            refine hK.out _ _ (hS1) (fun hHeld => ?_)
            clear hK K
            try simp only [Act.put, List.getElem_toArray, List.getElem_cons_zero, List.getElem_cons_succ, List.setIfInBounds_toArray, List.set_cons_zero, List.set_cons_succ]
            refine wpAnyH_ready (rs := [13]) (by kernel_rfl) (by simp) ?_
            refine AllReadyH.cons (o := _) rfl (fun K hK => ?_) AllReadyH.nil
            rw [if_pos (by rfl)]
            refine step_app _ _ _ rfl 69 (.agg #[.int .i64 0, .int .i64 0]) 2 16 Try.underlying67 end_info rfl (by decide) lo wr.heap.size (vs v).1 (rowOf (wireT kn d E v i) v).length (vs v).2 _ rfl hrow1 ⟨wc.heap.size, 0, none⟩ 1 1 [.int .i64 (E v i).1, .int .i64 (E v i).2] rfl rfl hnews (by simp [Value.oneCell']) (by decide) (by unfold maxLen; omega) (by omega) (by simp; omega) ?_
            intro g' cap' w2 own2 hgr hbg _
            obtain ⟨hbx2, hc2, hf2, vt, hE', hbx', hfr', hrb'⟩ := addP_mem hbx hE hv1 hw1 hlo hgr own2 hbg
            have hS2 := hbx2.cell 0 _ rfl
            have hS3 := hbx'.cell 0 _ rfl
            refine hK.out _ _ hS2 (fun hHeld => ?_)
            clear hK K
            try simp only [Act.put, List.getElem_toArray, List.getElem_cons_zero, List.getElem_cons_succ, List.setIfInBounds_toArray, List.set_cons_zero, List.set_cons_succ]
            refine wpAnyH_take (i := 14) (v := ?_) rfl (by kernel_rfl) (by kernel_rfl) (by kernel_rfl) (fun _ _ _ h => h) (Or.inl ⟨by rfl, ?_⟩) (by assumption) ?_
            rotate_left
            · (intro w hSw; (try dsimp only at hSw); go_simp; try with_reducible rfl)
            try simp only [Act.put, List.getElem_toArray, List.getElem_cons_zero, List.getElem_cons_succ, List.setIfInBounds_toArray, List.set_cons_zero, List.set_cons_succ]
            refine wpAnyH_ready (rs := [15]) (by kernel_rfl) (by simp) ?_
            refine AllReadyH.cons (o := _) rfl (fun K hK => ?_) AllReadyH.nil
            go_simp
            refine hK.out _ _ (hS3) (fun hHeld => ?_)
            clear hK K
            try simp only [Act.put, List.getElem_toArray, List.getElem_cons_zero, List.getElem_cons_succ, List.setIfInBounds_toArray, List.set_cons_zero, List.set_cons_succ]
            refine wpAnyH_done (by kernel_rfl) ?_ _
            clear hHeld hS2 hS3 hc2 hf2 hbx2 own2 hgr hbg hS4 hS1 hcv4 hcv5 hba hw1 hrow1 hnews hbc belc'
            rotate_left
            all_goals
              clear hS0 hcv hcv0 hbx hE
              generalize hWW : World.setCell w2 _ _ = w4 at hE' hbx' hfr' ⊢
              clear hWW
              replace hE' := RowsAt.top hE'
              obtain ⟨hE, hbx, hfr, hrb⟩ := (⟨hE', hbx', hfr', hrb'⟩ : _ ∧ _ ∧ _ ∧ _)
              clear hE' hbx' hfr' hrb'
              replace owni := Ow.top (Ow.frB owni hfr HNI.out)
              replace ownp := Ow.top (Ow.frB ownp hfr HNP.out)
              replace BR := BR.fr hfr (fun h => by have := HIN.out _ h; omega)
              replace bb := bb.trans (hfr.below (B := w.heap.size) (fun x h1 h2 hc => by have := HIN.out _ hc; omega) bb.size)
              have z6' := hfr.size
              clear hfr hrb HNI HNP HIN
              rw [wireT_add _ _ _ _ _ hlt] at hE
              rw [HLO.out] at hE owni ownp
              rw [HNK.out] at hbx
              have hNB5 : NBx w4 (w.heap.size + 1) b (tN kn d E v (i + 1)) := ⟨_, c, vt, ai, ci, ap, cp, by rw [show (tN kn d E v (i + 1)).ends.length = kn from wireT_length ..]; exact hbx, hE, owni, ownp, hdis⟩
              go_wp2_with fail
              go_roundw
              case rel => exact ⟨i + 1, by omega, by go_num, hNB5, BR, bb, by omega⟩
              case measure => simp [intOf]; omega
          · obtain rfl : i = d := by omega
            go_wp2_with fail
            go_roundw
            case rel => exact ⟨v + 1, by omega, by go_num, by unfold tN; rw [← wireT_next]; exact hNB, BR, bb, zlo⟩
            case measure => simp [intOf]; omega
      · have HVK := Lib.hid (show v = kn by omega)
        rw [HVK.out] at hNB
        have HTN := Lib.hid (show tN kn d E kn 0 = wireN kn d E by unfold tN wireN; rw [wireT_all])
        rw [HTN.out] at hNB
        have HSM := Lib.hid (show NetSmall (wireN kn d E) by rw [← HTN.out]; exact tN_small (by omega) hd6 (Nat.zero_le _))
        obtain ⟨ax, cx, vx, aix, cix, apx, cpx, BO, hE, owni, ownp, hdis⟩ := hNB
        have own6 : NetAt wr (w.heap.size + 1) wr.heap.size _ (wireN kn d E) := ⟨ax, cx, vx, aix, cix, apx, cpx, rfl, hE, owni, ownp, hdis⟩
        have q0 := BO.cell 0 _ rfl
        have q1 := BO.cell 1 _ rfl
        have q2 := BO.cell 2 _ rfl
        clear hE owni ownp hdis BO
        go_wp2_with fail
        clear q0 q1 q2
        refine (network_any _ (wireN kn d E) _ _ _ own6 (Nat.le_refl _) zlo HSM.out).mono ?_
        rintro e w7 ⟨x7, rfl, own7, bel7⟩
        replace BR := BR.new bel7
        replace bb := bb.trans (bel7.mono bb.size)
        have z7 := bel7.size
        clear bel7 own6
        obtain ⟨ay, cy, aiy, ciy, apy, cpy, rfl, own7⟩ := own7.shape
        generalize hRR : ifN (netB (wireN kn d E)) (wireN kn d E) = RR at *
        generalize hOO : netB (wireN kn d E) = oo at *
        have HRR := Lib.hid (show wdR (kn : Int) d E = RR ∧ wdB (kn : Int) d E = oo by
          have h1 : wdB (kn : Int) d E = oo := by rw [HOKB.out, Int.toNat_natCast]; exact hOO
          exact ⟨by rw [wdR, h1, Int.toNat_natCast]; exact hRR, h1⟩)
        clear hRR hOO
        have e0 := BR.cell 0 _ rfl
        have e1 := BR.cell 1 _ rfl
        have e2 := BR.cell 2 _ rfl
        have f0 := BR.frozen 0
        have f1 := BR.frozen 1
        have f2 := BR.frozen 2
        go_wp2_with fail
        clear e0 e1 e2 f0 f1 f2
        generalize hW : World.setCell _ _ _ = W
        have B6 : Bx W (w.heap.size) 31 #[.slice ay RR.ends.length cy, .slice aiy RR.ids.length ciy, .slice apy RR.inputs.length cpy] := by rw [← hW]; exact ((BR.set 0 _).set 1 _).set 2 _
        have fr6 : Fr (fun k => k = w.heap.size) w7 W := by rw [← hW]; exact fr3 _ _ _ _ _
        clear hW
        have z6 := fr6.size
        have d0 := B6.cell 0 _ rfl
        have d1 := B6.cell 1 _ rfl
        have d2 := B6.cell 2 _ rfl
        refine bodyPost_ret (v := .tuple #[.agg #[.slice ay RR.ends.length cy, .slice aiy RR.ids.length ciy, .slice apy RR.inputs.length cpy], .bool oo]) (by simp [results, Try.results86, go_sem, d0, d1, d2]) rfl ?_
        rw [HRR.out.1, HRR.out.2]
        exact ⟨_, rfl, (own7.fr fr6 (fun k h1 h2 hc => by omega)).wide (lo' := w.heap.size) (hi' := W.heap.size) (by omega) (by omega), bb.trans (fr6.below (fun k h1 h2 hc => by omega) bb.size)⟩
/-- the ends of a cycle -/
def cycE (k v i : Nat) : Int × Int := if i = 0 then (((v + 1) % k : Nat), 1) else (((v + k - 1) % k : Nat), 0)
theorem cyc_ok : ∀ k, k < 41 → 1 ≤ k → netB (wireN k 2 (cycE k)) = true := by decide +kernel
theorem wrapI (n : Int) (h : -9223372036854775808 ≤ n ∧ n ≤ 9223372036854775807) : IntKind.i64.wrap n = n := by
  simp [IntKind.wrap, IntKind.bits, IntKind.signed]
  omega
theorem emod_facts (x k : Int) (hk : 0 < k) : 0 ≤ x % k ∧ x % k < k := ⟨Int.emod_nonneg _ (by omega), Int.emod_lt_of_pos _ hk⟩
def cyR (k : Int) : Net := ifN (inR k 1 40) (wireN k.toNat 2 (cycE k.toNat))
theorem cyc_wdB (k : Int) : wdB k 2 (cycE k.toNat) = inR k 1 40 := by
  cases h : inR k 1 40 with
  | false => exact wdB_f (by rw [h]; rfl)
  | true =>
    have h1 := inR_iff.1 h
    rw [wdB_t h (by omega)]
    exact cyc_ok _ (by omega) (by omega)
theorem cyc_wdR (k : Int) : wdR k 2 (cycE k.toNat) = cyR k := by rw [wdR, cyc_wdB]; rfl
set_option maxHeartbeats 400000 in
theorem cyc1_any (k p v i : Nat) (X : World) (hp : X.cell? ⟨p, 0, none⟩ = some (.int .i64 (k : Int))) (hv : v < k) (hk : k ≤ 40) (hi : i < 2) :
    Calls Try.prog 87 #[.int .i64 v, .int .i64 i, .pointer (some ⟨p, 0, none⟩)] X fun e w' => e = .returned (.agg #[.int .i64 (cycE k v i).1, .int .i64 (cycE k v i).2]) ∧ Below X.heap.size X w' := by
  have b0 : ∀ cs, Below X.heap.size X (X.alloc (.cells cs 69)) := fun cs => (by repeat (first | exact Below.refl _ _ | assumption | refine Below.alloc ?_ (by first | (simp; done) | (simp; omega) | omega) _ | refine Below.setCell ?_ (by first | (simp; done) | (simp; omega) | omega) _ | refine Below.drew ?_ | refine Below.drewN ?_ _))
  have hpX : p < X.heap.size := World.block_lt_of_cell? X _ hp
  have hp0 := ((b0 #[.int .i64 0, .int .i64 0]).cell (p := ⟨p, 0, none⟩) hpX).trans hp
  have m1 := emod_facts ((v : Int) + 1) (k : Int) (by omega)
  have m2 := emod_facts ((v : Int) + (k : Int) - 1) (k : Int) (by omega)
  by_cases h0 : i = 0
  · subst h0
    have HC := Lib.hid (show cycE k v 0 = (((v : Int) + 1) % (k : Int), 1) by
      have h : (((v + 1) % k : Nat) : Int) = ((v : Int) + 1) % (k : Int) := by push_cast; rfl
      show ((((v + 1) % k : Nat) : Int), (1 : Int)) = _
      rw [h])
    go_enter Try.func87, Try.ntmps87
    go_wp2_with fail
    refine bodyPost_ret (v := .agg #[.int .i64 (((v : Int) + 1) % (k : Int)), .int .i64 1]) (by simp [results, Try.results87, go_sem]) rfl ?_
    rw [HC.out]
    exact ⟨rfl, b0 _⟩
  · obtain rfl : i = 1 := by omega
    have HC := Lib.hid (show cycE k v 1 = (((v : Int) + (k : Int) - 1) % (k : Int), 0) by
      have h : (((v + k - 1) % k : Nat) : Int) = ((v : Int) + (k : Int) - 1) % (k : Int) := by
        rw [Int.natCast_emod, show ((v + k - 1 : Nat) : Int) = (v : Int) + (k : Int) - 1 by omega]
      show ((((v + k - 1) % k : Nat) : Int), (0 : Int)) = _
      rw [h])
    clear h0
    go_enter Try.func87, Try.ntmps87
    go_wp2_with fail
    refine bodyPost_ret (v := .agg #[.int .i64 (((v : Int) + (k : Int) - 1) % (k : Int)), .int .i64 0]) (by simp [results, Try.results87, go_sem]) rfl ?_
    rw [HC.out]
    exact ⟨rfl, b0 _⟩
set_option maxRecDepth 100000 in
set_option maxHeartbeats 400000 in
theorem implCycle_any (k : Int) (w : World) : Calls Try.prog 50 #[.int .i64 k] w (PostN (cyR k) (inR k 1 40) w) := by
  have BK := (Bx.made w 3 #[.int .i64 k]).alloc (.cells #[.slice none 0 0, .slice none 0 0, .slice none 0 0] 31)
  have BR := Bx.made (w.alloc (.cells #[.int .i64 k] 3)) 31 #[.slice none 0 0, .slice none 0 0, .slice none 0 0]
  have b0 : Below w.heap.size w ((w.alloc (.cells #[.int .i64 k] 3)).alloc (.cells #[.slice none 0 0, .slice none 0 0, .slice none 0 0] 31)) := (by repeat (first | exact Below.refl _ _ | assumption | refine Below.alloc ?_ (by first | (simp; done) | (simp; omega) | omega) _ | refine Below.setCell ?_ (by first | (simp; done) | (simp; omega) | omega) _ | refine Below.drew ?_ | refine Below.drewN ?_ _))
  have z0 : w.heap.size + 1 + 1 ≤ ((w.alloc (.cells #[.int .i64 k] 3)).alloc (.cells #[.slice none 0 0, .slice none 0 0, .slice none 0 0] 31)).heap.size := by simp
  rw [World.size_alloc] at BR
  go_enter Try.func50, Try.ntmps50
  go_wp2_with fail
  generalize (w.alloc (.cells #[.int .i64 k] 3)).alloc (.cells #[.slice none 0 0, .slice none 0 0, .slice none 0 0] 31) = w0 at *
  refine (wiredCycle_any k 2 (cycE k.toNat) w.heap.size w0 (by omega) (fun X v i bX hv hk hi _ => ?_)).mono ?_
  · have hck := (BK.new bX).cell 0 _ rfl
    obtain ⟨kn, rfl⟩ := Int.eq_ofNat_of_zero_le (show 0 ≤ k by omega)
    rw [Int.toNat_natCast]
    exact cyc1_any kn w.heap.size v i X hck (by omega) (by omega) hi
  rw [cyc_wdB, cyc_wdR]
  rintro e w7 ⟨x7, rfl, own7, bel7⟩
  replace BR := BR.new bel7
  have bb := b0.trans (bel7.mono b0.size)
  have z7 := bel7.size
  clear bel7
  obtain ⟨ay, cy, aiy, ciy, apy, cpy, rfl, own7⟩ := own7.shape
  generalize hRR : cyR k = RR at *
  generalize hOO : inR k 1 40 = oo at *
  have HRR := Lib.hid (And.intro hRR hOO)
  clear hRR hOO
  have e0 := BR.cell 0 _ rfl
  have e1 := BR.cell 1 _ rfl
  have e2 := BR.cell 2 _ rfl
  have f0 := BR.frozen 0
  have f1 := BR.frozen 1
  have f2 := BR.frozen 2
  go_wp2_with fail
  clear e0 e1 e2 f0 f1 f2
  generalize hW : World.setCell _ _ _ = W
  have B6 : Bx W (w.heap.size + 1) 31 #[.slice ay RR.ends.length cy, .slice aiy RR.ids.length ciy, .slice apy RR.inputs.length cpy] := by rw [← hW]; exact ((BR.set 0 _).set 1 _).set 2 _
  have fr6 : Fr (fun k => k = w.heap.size + 1) w7 W := by rw [← hW]; exact fr3 _ _ _ _ _
  clear hW
  have z6 := fr6.size
  have d0 := B6.cell 0 _ rfl
  have d1 := B6.cell 1 _ rfl
  have d2 := B6.cell 2 _ rfl
  refine bodyPost_ret (v := .tuple #[.agg #[.slice ay RR.ends.length cy, .slice aiy RR.ids.length ciy, .slice apy RR.inputs.length cpy], .bool oo]) (by simp [results, Try.results50, go_sem, d0, d1, d2]) rfl ?_
  exact ⟨_, rfl, (own7.fr fr6 (fun k h1 h2 hc => by omega)).wide (lo' := w.heap.size) (hi' := W.heap.size) (by omega) (by omega), bb.trans (fr6.below (fun k h1 h2 hc => by omega) bb.size)⟩
set_option maxRecDepth 100000 in
set_option maxHeartbeats 800000 in
theorem buCycle_any (kn : Nat) (w : World) (hk1 : 1 ≤ kn) (hk : kn ≤ 40) : Calls Try.prog 85 #[.int .i64 kn] w fun e w' => ∃ v, e = .returned v ∧ NetAt w' w.heap.size w'.heap.size v (wireN kn 2 (cycE kn)) ∧ Below w.heap.size w w' := by
  have BR := Bx.made w 31 #[.slice none 0 0, .slice none 0 0, .slice none 0 0]
  have b0 : Below w.heap.size w (w.alloc (.cells #[.slice none 0 0, .slice none 0 0, .slice none 0 0] 31)) := (by repeat (first | exact Below.refl _ _ | assumption | refine Below.alloc ?_ (by first | (simp; done) | (simp; omega) | omega) _ | refine Below.setCell ?_ (by first | (simp; done) | (simp; omega) | omega) _ | refine Below.drew ?_ | refine Below.drewN ?_ _))
  go_enter Try.func85, Try.ntmps85
  go_wp2_with fail
  refine (neEmpty_any kn _ (by omega)).mono ?_
  rintro e w1 ⟨v1, rfl, own1, bel1⟩
  obtain ⟨a1, c1, ai1, ci1, ap1, cp1, rfl, own1⟩ := own1.shape
  replace BR := BR.new bel1
  have z1 : w.heap.size + 1 ≤ w1.heap.size := by have := bel1.size; simpa using this
  simp only [World.size_alloc] at own1
  have b1 := b0.trans (bel1.mono b0.size)
  clear b0 bel1
  have HEL := Lib.hid (show (emptyN kn).ends.length = kn from List.length_replicate ..)
  have BO := Bx.made w1 31 #[.slice a1 (emptyN kn).ends.length c1, .slice ai1 (emptyN kn).ids.length ci1, .slice ap1 (emptyN kn).inputs.length cp1]
  have b2 : Below w1.heap.size w1 (w1.alloc (.cells #[.slice a1 (emptyN kn).ends.length c1, .slice ai1 (emptyN kn).ids.length ci1, .slice ap1 (emptyN kn).inputs.length cp1] 31)) := (by repeat (first | exact Below.refl _ _ | assumption | refine Below.alloc ?_ (by first | (simp; done) | (simp; omega) | omega) _ | refine Below.setCell ?_ (by first | (simp; done) | (simp; omega) | omega) _ | refine Below.drew ?_ | refine Below.drewN ?_ _))
  go_upto_region 2 with fail
  have z2 : w1.heap.size + 1 ≤ (w1.alloc (.cells #[.slice a1 (emptyN kn).ends.length c1, .slice ai1 (emptyN kn).ids.length ci1, .slice ap1 (emptyN kn).inputs.length cp1] 31)).heap.size := by simp
  generalize w1.alloc (.cells #[.slice a1 (emptyN kn).ends.length c1, .slice ai1 (emptyN kn).ids.length ci1, .slice ap1 (emptyN kn).inputs.length cp1] 31) = w2 at *
  obtain ⟨b, hb⟩ : ∃ b, b = w1.heap.size := ⟨_, rfl⟩
  rw [← hb] at BO ⊢
  replace BR := BR.new b2
  replace own1 := (own1.new b2).wide (Nat.le_refl _) b2.size
  have bb := b1.trans (b2.mono b1.size)
  have zb : w.heap.size + 1 ≤ b := by omega
  have zlo : w.heap.size + 1 ≤ w2.heap.size := by omega
  clear hb b1 b2 z2
  obtain ⟨aq, c, vs, ai, ci, ap, cp, hvq, hE, owni, ownp, hdis⟩ := own1
  simp only [Value.agg.injEq, Array.mk.injEq, List.cons.injEq, Value.slice.injEq, true_and, and_true] at hvq
  obtain ⟨⟨rfl, rfl⟩, ⟨rfl, rfl⟩, rfl, rfl⟩ := hvq
  rw [HEL.out] at BO ⊢
  obtain ⟨A, hA, _, _⟩ := Ow.addr hE.1 (by rw [HEL.out]; omega)
  subst hA
  have hE0 : RowsE w2 (w.heap.size + 1) w2.heap.size (some ⟨A, 0, none⟩) c1 (wireT kn 2 (cycE kn) 0 0) vs := by rw [wireT_zero]; exact hE
  obtain ⟨n, hn⟩ : ∃ n, n = kn := ⟨_, rfl⟩
  have HNK := Lib.hid hn
  have hn1 : n ≤ 40 := by omega
  have hn2 : n ≤ kn := by omega
  have hn3 : kn ≤ n := by omega
  replace BO : Bx w2 b 31 #[.slice (some ⟨A, 0, none⟩) n c1, .slice ai1 (emptyN kn).ids.length ci1, .slice ap1 (emptyN kn).inputs.length cp1] := by rw [hn]; exact BO
  rw [← hn] at ⊢
  clear hn hE
  have q0 := BO.cell 0 _ rfl
  go_wp2_with fail
  clear q0
  go_loopw [10] (fun iv wr => ∃ v : Nat, v ≤ n ∧ iv = .int .i64 v ∧ ∃ vs, Bx wr b 31 #[.slice (some ⟨A, 0, none⟩) n c1, .slice ai1 (emptyN kn).ids.length ci1, .slice ap1 (emptyN kn).inputs.length cp1] ∧ RowsE wr (w.heap.size + 1) wr.heap.size (some ⟨A, 0, none⟩) c1 (wireT kn 2 (cycE kn) v 0) vs ∧ OwI wr (w.heap.size + 1) wr.heap.size ai1 ci1 (emptyN kn).ids ∧ OwI wr (w.heap.size + 1) wr.heap.size ap1 cp1 (emptyN kn).inputs ∧ Bx wr w.heap.size 31 #[.slice none 0 0, .slice none 0 0, .slice none 0 0] ∧ Below w.heap.size w wr ∧ w.heap.size + 1 ≤ wr.heap.size) (fun iv _ => n - (intOf iv).toNat)
  case atStart => exact ⟨0, Nat.zero_le _, rfl, vs, BO, hE0, owni, ownp, BR, bb, zlo⟩
  case round =>
    clear BO hE0 owni ownp BR bb zlo
    obtain ⟨v, hv, rfl, vs, hbx, hE, owni, ownp, BR, bb, zlo⟩ := hrel
    by_cases hlt : v < n
    · have hv1 : v < (wireT kn 2 (cycE kn) v 0).length := by rw [wireT_length]; omega
      have m1 := emod_facts ((v : Int) + 1) (n : Int) (by omega)
      have m2 := emod_facts ((v : Int) + (n : Int) - 1) (n : Int) (by omega)
      have HRW := Lib.hid (show rowW (cycE kn) v 2 = [(((v : Int) + 1) % (n : Int), 1), (((v : Int) + (n : Int) - 1) % (n : Int), 0)] by
        rw [HNK.out]
        have h1 : (((v + 1) % kn : Nat) : Int) = ((v : Int) + 1) % (kn : Int) := by push_cast; rfl
        have h2 : (((v + kn - 1) % kn : Nat) : Int) = ((v : Int) + (kn : Int) - 1) % (kn : Int) := by
          rw [Int.natCast_emod, show ((v + kn - 1 : Nat) : Int) = (v : Int) + (kn : Int) - 1 by omega]
        show [((((v + 1) % kn : Nat) : Int), (1 : Int)), ((((v + kn - 1) % kn : Nat) : Int), (0 : Int))] = _
        rw [h1, h2])
      have HWS := Lib.hid (wireT_set kn 2 (cycE kn) v (by omega))
      go_wp2_with fail
      have hn0 : ¬ n = 0 := by omega
      have hwr1 : IntKind.i64.wrap ((v : Int) + 1) = (v : Int) + 1 := wrapI _ (by omega)
      have hwr2 : IntKind.i64.wrap ((v : Int) + (n : Int)) = (v : Int) + (n : Int) := wrapI _ (by omega)
      have hwr3 : IntKind.i64.wrap ((v : Int) + (n : Int) - 1) = (v : Int) + (n : Int) - 1 := wrapI _ (by omega)
      have htm1 : Int.tmod ((v : Int) + 1) (n : Int) = ((v : Int) + 1) % (n : Int) := Int.tmod_eq_emod_of_nonneg (by omega)
      have htm2 : Int.tmod ((v : Int) + (n : Int) - 1) (n : Int) = ((v : Int) + (n : Int) - 1) % (n : Int) := Int.tmod_eq_emod_of_nonneg (by omega)
      generalize ((v : Int) + 1) % (n : Int) = x1 at *
      generalize ((v : Int) + (n : Int) - 1) % (n : Int) = x2 at *
      have hS0 : wr.drew.cell? ⟨b, 0, none⟩ = some (.slice (some ⟨A, 0, none⟩) n c1) := hbx.cell 0 _ rfl
      have hw1 : Below wr.heap.size wr (wr.alloc (.cells #[.int .i64 x1, .int .i64 1, .int .i64 x2, .int .i64 0] 69)).drew := (by repeat (first | exact Below.refl _ _ | assumption | refine Below.alloc ?_ (by first | (simp; done) | (simp; omega) | omega) _ | refine Below.setCell ?_ (by first | (simp; done) | (simp; omega) | omega) _ | refine Below.drew ?_ | refine Below.drewN ?_ _))
      have hbn : Bx (wr.alloc (.cells #[.int .i64 x1, .int .i64 1, .int .i64 x2, .int .i64 0] 69)).drew wr.heap.size 69 #[.int .i64 x1, .int .i64 1, .int .i64 x2, .int .i64 0] := Bx.made wr _ _
      have zn : wr.heap.size + 1 ≤ (wr.alloc (.cells #[.int .i64 x1, .int .i64 1, .int .i64 x2, .int .i64 0] 69)).drew.heap.size := by simp
      have how := Ow.endsOf (lo := w.heap.size + 1) (hi := (wr.alloc (.cells #[.int .i64 x1, .int .i64 1, .int .i64 x2, .int .i64 0] 69)).drew.heap.size) (es := [(x1, 1), (x2, 0)]) (n := 2) hbn zlo zn rfl rfl (by decide) (fun i hi => match i, hi with | 0, _ => rfl | 1, _ => rfl | 2, _ => rfl | 3, _ => rfl)
      obtain ⟨hbx2, hc2, hf2, vt, hE', hbx', hfr'⟩ := setR_mem (r := [(x1, 1), (x2, 0)]) hbx hE hv1 hw1 (by omega) rfl how
      have hS1 := hbx2.cell 0 _ rfl
      have hS3 := hbx'.cell 0 _ rfl
      refine wp_region_held_drew (S := fun X => X.cell? ⟨b, 0, none⟩ = some (.slice (some ⟨A, 0, none⟩) n c1)) (by kernel_rfl) hS0 (fun hHeld => ?_)
      refine wpAnyH_take (i := 0) (v := ?_) rfl (by kernel_rfl) (by kernel_rfl) (by kernel_rfl) (fun _ _ _ h => h) (Or.inl ⟨by rfl, ?_⟩) (by assumption) ?_
      rotate_left
      · (intro w hSw; (try dsimp only at hSw); go_simp; try with_reducible rfl)
      try simp only [Act.put, List.getElem_toArray, List.getElem_cons_zero, List.getElem_cons_succ, List.setIfInBounds_toArray, List.set_cons_zero, List.set_cons_succ]
      refine wpAnyH_take (i := 1) (v := ?_) rfl (by kernel_rfl) (by kernel_rfl) (by kernel_rfl) (fun _ _ _ h => h) (Or.inl ⟨by rfl, ?_⟩) (by assumption) ?_
      rotate_left
      · (intro w hSw; (try dsimp only at hSw); go_simp; try with_reducible rfl)
      try simp only [Act.put, List.getElem_toArray, List.getElem_cons_zero, List.getElem_cons_succ, List.setIfInBounds_toArray, List.set_cons_zero, List.set_cons_succ]
      refine wpAnyH_take (i := 2) (v := ?_) rfl (by kernel_rfl) (by kernel_rfl) (by kernel_rfl) (fun _ _ _ h => h) (Or.inl ⟨by rfl, ?_⟩) (by assumption) ?_
      rotate_left
      · (intro w hSw; (try dsimp only at hSw); go_simp; try with_reducible rfl)
      try simp only [Act.put, List.getElem_toArray, List.getElem_cons_zero, List.getElem_cons_succ, List.setIfInBounds_toArray, List.set_cons_zero, List.set_cons_succ]
      refine wpAnyH_take (i := 3) (v := ?_) rfl (by kernel_rfl) (by kernel_rfl) (by kernel_rfl) (fun _ _ _ h => h) (Or.inl ⟨by rfl, ?_⟩) (by assumption) ?_
      rotate_left
      · (intro w hSw; (try dsimp only at hSw); go_simp; try with_reducible rfl)
      try simp only [Act.put, List.getElem_toArray, List.getElem_cons_zero, List.getElem_cons_succ, List.setIfInBounds_toArray, List.set_cons_zero, List.set_cons_succ]
      refine wpAnyH_take (i := 4) (v := ?_) rfl (by kernel_rfl) (by kernel_rfl) (by kernel_rfl) (fun _ _ _ h => h) (Or.inl ⟨by rfl, ?_⟩) (by assumption) ?_
      rotate_left
      · (intro w hSw; (try dsimp only at hSw); go_simp; try with_reducible rfl)
      try simp only [Act.put, List.getElem_toArray, List.getElem_cons_zero, List.getElem_cons_succ, List.setIfInBounds_toArray, List.set_cons_zero, List.set_cons_succ]
      refine wpAnyH_take (i := 5) (v := ?_) rfl (by kernel_rfl) (by kernel_rfl) (by kernel_rfl) (fun _ _ _ h => h) (Or.inl ⟨by rfl, ?_⟩) (by assumption) ?_
      rotate_left
      · (intro w hSw; (try dsimp only at hSw); go_simp; try with_reducible rfl)
      try simp only [Act.put, List.getElem_toArray, List.getElem_cons_zero, List.getElem_cons_succ, List.setIfInBounds_toArray, List.set_cons_zero, List.set_cons_succ]
      refine wpAnyH_take (i := 6) (v := ?_) rfl (by kernel_rfl) (by kernel_rfl) (by kernel_rfl) (fun _ _ _ h => h) (Or.inl ⟨by rfl, ?_⟩) (by assumption) ?_
      rotate_left
      · (intro w hSw; (try dsimp only at hSw); go_simp; try with_reducible rfl)
      try simp only [Act.put, List.getElem_toArray, List.getElem_cons_zero, List.getElem_cons_succ, List.setIfInBounds_toArray, List.set_cons_zero, List.set_cons_succ]
      refine wpAnyH_take (i := 7) (v := ?_) rfl (by kernel_rfl) (by kernel_rfl) (by kernel_rfl) (fun _ _ _ h => h) (Or.inl ⟨by rfl, ?_⟩) (by assumption) ?_
      rotate_left
      · (intro w hSw; (try dsimp only at hSw); go_simp; try with_reducible rfl)
      try simp only [Act.put, List.getElem_toArray, List.getElem_cons_zero, List.getElem_cons_succ, List.setIfInBounds_toArray, List.set_cons_zero, List.set_cons_succ]
      refine wpAnyH_take (i := 8) (v := ?_) rfl (by kernel_rfl) (by kernel_rfl) (by kernel_rfl) (fun _ _ _ h => h) (Or.inl ⟨by rfl, ?_⟩) (by assumption) ?_
      rotate_left
      · (intro w hSw; (try dsimp only at hSw); go_simp; try with_reducible rfl)
      try simp only [Act.put, List.getElem_toArray, List.getElem_cons_zero, List.getElem_cons_succ, List.setIfInBounds_toArray, List.set_cons_zero, List.set_cons_succ]
      refine wpAnyH_take (i := 9) (v := ?_) rfl (by kernel_rfl) (by kernel_rfl) (by kernel_rfl) (fun _ _ _ h => h) (Or.inl ⟨by rfl, ?_⟩) (by assumption) ?_
      rotate_left
      · (intro w hSw; (try dsimp only at hSw); go_simp; try with_reducible rfl)
      try simp only [Act.put, List.getElem_toArray, List.getElem_cons_zero, List.getElem_cons_succ, List.setIfInBounds_toArray, List.set_cons_zero, List.set_cons_succ]
      refine wpAnyH_take (i := 10) (v := ?_) rfl (by kernel_rfl) (by kernel_rfl) (by kernel_rfl) (fun _ _ _ h => h) (Or.inl ⟨by rfl, ?_⟩) (by assumption) ?_
      rotate_left
      · (intro w hSw; (try dsimp only at hSw); go_simp; try with_reducible rfl)
      try simp only [Act.put, List.getElem_toArray, List.getElem_cons_zero, List.getElem_cons_succ, List.setIfInBounds_toArray, List.set_cons_zero, List.set_cons_succ]
      refine wpAnyH_take (i := 11) (v := ?_) rfl (by kernel_rfl) (by kernel_rfl) (by kernel_rfl) (fun _ _ _ h => h) (Or.inl ⟨by rfl, ?_⟩) (by assumption) ?_
      rotate_left
      · (intro w hSw; (try dsimp only at hSw); go_simp; try with_reducible rfl)
      try simp only [Act.put, List.getElem_toArray, List.getElem_cons_zero, List.getElem_cons_succ, List.setIfInBounds_toArray, List.set_cons_zero, List.set_cons_succ]
      refine wpAnyH_take (i := 12) (v := ?_) rfl (by kernel_rfl) (by kernel_rfl) (by kernel_rfl) (fun _ _ _ h => h) (Or.inl ⟨by rfl, ?_⟩) (by assumption) ?_
      rotate_left
      · (intro w hSw; (try dsimp only at hSw); go_simp; try with_reducible rfl)
      try simp only [Act.put, List.getElem_toArray, List.getElem_cons_zero, List.getElem_cons_succ, List.setIfInBounds_toArray, List.set_cons_zero, List.set_cons_succ]
      refine wpAnyH_take (i := 13) (v := ?_) rfl (by kernel_rfl) (by kernel_rfl) (by kernel_rfl) (fun _ _ _ h => h) (Or.inl ⟨by rfl, ?_⟩) (by assumption) ?_
      rotate_left
      · (intro w hSw; (try dsimp only at hSw); go_simp; try with_reducible rfl)
      try simp only [Act.put, List.getElem_toArray, List.getElem_cons_zero, List.getElem_cons_succ, List.setIfInBounds_toArray, List.set_cons_zero, List.set_cons_succ]
      refine wpAnyH_take (i := 14) (v := ?_) rfl (by kernel_rfl) (by kernel_rfl) (by kernel_rfl) (fun _ _ _ h => h) (Or.inl ⟨by rfl, ?_⟩) (by assumption) ?_
      rotate_left
      · (intro w hSw; (try dsimp only at hSw); go_simp; try with_reducible rfl)
      try simp only [Act.put, List.getElem_toArray, List.getElem_cons_zero, List.getElem_cons_succ, List.setIfInBounds_toArray, List.set_cons_zero, List.set_cons_succ]
      refine wpAnyH_ready (rs := [15]) (by kernel_rfl) (by simp) ?_
      refine AllReadyH.cons (o := _) rfl (fun K hK => ?_) AllReadyH.nil
      go_simp
      refine hK.out _ _ hS1 (fun hHeld => ?_)
      clear hK K
      try simp only [Act.put, List.getElem_toArray, List.getElem_cons_zero, List.getElem_cons_succ, List.setIfInBounds_toArray, List.set_cons_zero, List.set_cons_succ]
      generalize (wr.alloc (.cells #[.int .i64 x1, .int .i64 1, .int .i64 x2, .int .i64 0] 69)).drew = wa at *
      refine wpAnyH_take (i := 16) (v := ?_) rfl (by kernel_rfl) (by kernel_rfl) (by kernel_rfl) (fun _ _ _ h => h) (Or.inl ⟨by rfl, ?_⟩) (by assumption) ?_
      rotate_left
      · (intro w hSw; (try dsimp only at hSw); go_simp; try with_reducible rfl)
      try simp only [Act.put, List.getElem_toArray, List.getElem_cons_zero, List.getElem_cons_succ, List.setIfInBounds_toArray, List.set_cons_zero, List.set_cons_succ]
      refine wpAnyH_ready (rs := [17]) (by kernel_rfl) (by simp) ?_
      refine AllReadyH.cons (o := _) rfl (fun K hK => ?_) AllReadyH.nil
      go_simp
      refine hK.out _ _ hS3 (fun hHeld => ?_)
      clear hK K
      try simp only [Act.put, List.getElem_toArray, List.getElem_cons_zero, List.getElem_cons_succ, List.setIfInBounds_toArray, List.set_cons_zero, List.set_cons_succ]
      refine wpAnyH_done (by kernel_rfl) ?_ _
      have hrbA : ∀ x, blk ai1 ci1 = some x → ¬ x = A := fun x hx hc => rb_ne hE (by omega) owni hx (.inl hc)
      have hrbB : ∀ x, blk ap1 cp1 = some x → ¬ x = A := fun x hx hc => rb_ne hE (by omega) ownp hx (.inl hc)
      have hAin := rb_in hE (by omega) (k := A) (.inl rfl)
      replace owni := Ow.top (Ow.frB owni hfr' hrbA)
      replace ownp := Ow.top (Ow.frB ownp hfr' hrbB)
      replace BR := BR.fr hfr' (by omega)
      replace bb := bb.trans (hfr'.below (B := w.heap.size) (fun x h1 h2 hc => by omega) bb.size)
      have z6' := hfr'.size
      replace hE' := RowsAt.top hE'
      clear hE hbx hfr' hbx2 hc2 hf2 hS0 hS1 hS3 hHeld how hbn hw1
      generalize wa.setCell ⟨A, v, none⟩ (.slice (some ⟨wr.heap.size, 0, none⟩) [(x1, 1), (x2, 0)].length 2) = w8 at *
      rw [← HRW.out, HWS.out] at hE'
      go_wp2_with fail
      go_roundw
      case rel => exact ⟨v + 1, by omega, by go_num, vt, hbx', hE', owni, ownp, BR, bb, by omega⟩
      case measure => simp [intOf]; omega
    · have HVK := Lib.hid (show v = kn by omega)
      rw [HVK.out, wireT_all] at hE
      have q0 := hbx.cell 0 _ rfl
      have q1 := hbx.cell 1 _ rfl
      have q2 := hbx.cell 2 _ rfl
      have e0 := BR.cell 0 _ rfl
      have e1 := BR.cell 1 _ rfl
      have e2 := BR.cell 2 _ rfl
      have f0 := BR.frozen 0
      have f1 := BR.frozen 1
      have f2 := BR.frozen 2
      go_wp2_with fail
      clear q0 q1 q2 e0 e1 e2 f0 f1 f2
      generalize hW : World.setCell _ _ _ = W
      have B6 : Bx W (w.heap.size) 31 #[.slice (some ⟨A, 0, none⟩) n c1, .slice ai1 (emptyN kn).ids.length ci1, .slice ap1 (emptyN kn).inputs.length cp1] := by rw [← hW]; exact ((BR.set 0 _).set 1 _).set 2 _
      have fr6 : Fr (fun k => k = w.heap.size) wr W := by rw [← hW]; exact fr3 _ _ _ _ _
      clear hW
      have z6 := fr6.size
      have d0 := B6.cell 0 _ rfl
      have d1 := B6.cell 1 _ rfl
      have d2 := B6.cell 2 _ rfl
      refine bodyPost_ret (v := .agg #[.slice (some ⟨A, 0, none⟩) n c1, .slice ai1 (emptyN kn).ids.length ci1, .slice ap1 (emptyN kn).inputs.length cp1]) (by simp [results, Try.results85, go_sem, d0, d1, d2]) rfl ?_
      refine ⟨_, rfl, ⟨some ⟨A, 0, none⟩, c1, vs, ai1, ci1, ap1, cp1, ?_, RowsAt.wide (RowsAt.fr hE fr6 (fun k h1 h2 hc => by omega)) (by omega) (by omega), Ow.wide (Ow.fr owni fr6 (fun k h1 h2 hc => by omega)) (by omega) (by omega), Ow.wide (Ow.fr ownp fr6 (fun k h1 h2 hc => by omega)) (by omega) (by omega), hdis⟩, bb.trans (fr6.below (fun k h1 h2 hc => by omega) bb.size)⟩
      have hl : (wireN kn 2 (cycE kn)).ends.length = n := by rw [HNK.out]; show ((List.range kn).map _).length = kn; simp
      rw [hl]
      rfl
set_option maxRecDepth 100000 in
set_option maxHeartbeats 400000 in
theorem specCycle_any (k : Int) (w : World) : Calls Try.prog 49 #[.int .i64 k] w (PostN (cyR k) (inR k 1 40) w) := by
  have BR := Bx.made w 31 #[.slice none 0 0, .slice none 0 0, .slice none 0 0]
  have b0 : Below w.heap.size w (w.alloc (.cells #[.slice none 0 0, .slice none 0 0, .slice none 0 0] 31)) := (by repeat (first | exact Below.refl _ _ | assumption | refine Below.alloc ?_ (by first | (simp; done) | (simp; omega) | omega) _ | refine Below.setCell ?_ (by first | (simp; done) | (simp; omega) | omega) _ | refine Below.drew ?_ | refine Below.drewN ?_ _))
  cases hk : inR k 1 40 with
  | false =>
    have HK := Lib.hid hk
    have HG := Lib.hid (show cyR k = nilN by rw [cyR, hk]; rfl)
    clear hk
    go_enter Try.func49, Try.ntmps49
    go_wp2_with fail
    refine (l1In_any _ _ _ _).mono ?_
    rintro e w' ⟨rfl, rfl⟩
    rw [HK.out]
    generalize w.alloc (.cells #[.slice none 0 0, .slice none 0 0, .slice none 0 0] 31) = w0 at *
    have e0 := BR.cell 0 _ rfl
    have e1 := BR.cell 1 _ rfl
    have e2 := BR.cell 2 _ rfl
    have f0 := BR.frozen 0
    have f1 := BR.frozen 1
    have f2 := BR.frozen 2
    go_wp2_with fail
    clear e0 e1 e2 f0 f1 f2
    generalize hW : World.setCell _ _ _ = W
    have B6 : Bx W (w.heap.size) 31 #[.slice none 0 0, .slice none 0 0, .slice none 0 0] := by rw [← hW]; exact ((BR.set 0 _).set 1 _).set 2 _
    have fr6 : Fr (fun k => k = w.heap.size) w0 W := by rw [← hW]; exact fr3 _ _ _ _ _
    clear hW
    have z6 := fr6.size
    have d0 := B6.cell 0 _ rfl
    have d1 := B6.cell 1 _ rfl
    have d2 := B6.cell 2 _ rfl
    refine bodyPost_ret (v := .tuple #[.agg #[.slice none 0 0, .slice none 0 0, .slice none 0 0], .bool false]) (by simp [results, Try.results49, go_sem, d0, d1, d2]) rfl ?_
    rw [HG.out]
    exact ⟨_, rfl, NetAt.nilN _ _ _, b0.trans (fr6.below (fun k h1 h2 hc => by omega) b0.size)⟩
  | true =>
    have HK := Lib.hid hk
    have hk2 := inR_iff.1 hk
    obtain ⟨kn, rfl⟩ := Int.eq_ofNat_of_zero_le (show 0 ≤ k by omega)
    have HG := Lib.hid (show cyR (kn : Int) = wireN kn 2 (cycE kn) by rw [cyR, hk]; rfl)
    clear hk
    go_enter Try.func49, Try.ntmps49
    go_wp2_with fail
    refine (l1In_any _ _ _ _).mono ?_
    rintro e w' ⟨rfl, rfl⟩
    rw [HK.out]
    generalize w.alloc (.cells #[.slice none 0 0, .slice none 0 0, .slice none 0 0] 31) = w0 at *
    go_wp2_with fail
    refine (buCycle_any kn _ (by omega) (by omega)).mono ?_
    rintro e w4 ⟨v4, rfl, own4, bel4⟩
    obtain ⟨a4, c4, ai4, ci4, ap4, cp4, rfl, own4⟩ := own4.shape
    replace BR := BR.new bel4
    have bb := b0.trans (bel4.mono b0.size)
    have z4 := bel4.size
    have zR := b0.size
    clear b0 bel4
    generalize wireN kn 2 (cycE kn) = Nk at *
    have e0 := BR.cell 0 _ rfl
    have e1 := BR.cell 1 _ rfl
    have e2 := BR.cell 2 _ rfl
    have f0 := BR.frozen 0
    have f1 := BR.frozen 1
    have f2 := BR.frozen 2
    have zB := BR.lt
    go_wp2_with fail
    clear e0 e1 e2 f0 f1 f2
    generalize hW : World.setCell _ _ _ = W
    have B6 : Bx W (w.heap.size) 31 #[.slice a4 Nk.ends.length c4, .slice ai4 Nk.ids.length ci4, .slice ap4 Nk.inputs.length cp4] := by rw [← hW]; exact ((BR.set 0 _).set 1 _).set 2 _
    have fr6 : Fr (fun k => k = w.heap.size) w4 W := by rw [← hW]; exact fr3 _ _ _ _ _
    clear hW
    have z6 := fr6.size
    have d0 := B6.cell 0 _ rfl
    have d1 := B6.cell 1 _ rfl
    have d2 := B6.cell 2 _ rfl
    refine bodyPost_ret (v := .tuple #[.agg #[.slice a4 Nk.ends.length c4, .slice ai4 Nk.ids.length ci4, .slice ap4 Nk.inputs.length cp4], .bool true]) (by simp [results, Try.results49, go_sem, d0, d1, d2]) rfl ?_
    rw [HG.out]
    exact ⟨_, rfl, (own4.frBx BR fr6).wide (lo' := w.heap.size) (hi' := W.heap.size) (by omega) (by omega), bb.trans (fr6.below (fun k h1 h2 hc => by omega) bb.size)⟩
theorem cyR_sm {k : Int} : NetSmall (cyR k) := by rw [← cyc_wdR]; exact wdR_sm
set_option maxRecDepth 100000 in
set_option maxHeartbeats 1000000 in
theorem FnExactCycleNetwork_walk (k : Int) (w : World) (hk0 : -9223372036854775808 ≤ k) (hk1 : k ≤ 9223372036854775807) :
    Calls Try.prog 14 #[.int .i64 k] w fun e w' => e = .returned (.bool true) ∧ Below w.heap.size w w' := by
  have HS : Hid (∀ w, Calls Try.prog 49 #[.int .i64 k] w (PostN (cyR k) (inR k 1 40) w)) := specCycle_any k
  have HI : Hid (∀ w, Calls Try.prog 50 #[.int .i64 k] w (PostN (cyR k) (inR k 1 40) w)) := implCycle_any k
  have hR : NetSmall (cyR k) := cyR_sm
  generalize cyR k = R at *
  generalize inR k 1 40 = ok at *
  go_enter Try.func14, Try.ntmps14
  go_wp2_with fail
  refine (HS.out _).mono ?_
  rintro e w1 ⟨vw, rfl, ownw, bel1⟩
  obtain ⟨aw, cw, aiw, ciw, apw, cpw, rfl, ownw⟩ := ownw.shape
  have z1 := bel1.size
  have BW := Bx.made w1 31 #[.slice aw R.ends.length cw, .slice aiw R.ids.length ciw, .slice apw R.inputs.length cpw]
  have bx1 : Below w1.heap.size w1 (w1.alloc (.cells #[.slice aw R.ends.length cw, .slice aiw R.ids.length ciw, .slice apw R.inputs.length cpw] 31)) := (by repeat (first | exact Below.refl _ _ | assumption | refine Below.alloc ?_ (by first | (simp; done) | (simp; omega) | omega) _ | refine Below.setCell ?_ (by first | (simp; done) | (simp; omega) | omega) _ | refine Below.drew ?_ | refine Below.drewN ?_ _))
  go_wp2_with fail
  refine (HI.out _).mono ?_
  rintro e w2 ⟨vg, rfl, owng, bel2⟩
  obtain ⟨ag, cg, aig, cig, apg, cpg, rfl, owng⟩ := owng.shape
  simp only [World.size_alloc] at owng
  have z2 : w1.heap.size + 1 ≤ w2.heap.size := by have := bel2.size; simpa using this
  replace ownw := (ownw.new bx1).new bel2
  replace BW := BW.new bel2
  have b2 := bel1.trans ((bx1.mono z1).trans (bel2.mono (by have := bx1.size; omega)))
  clear bel1 bx1 bel2
  have BG := Bx.made w2 31 #[.slice ag R.ends.length cg, .slice aig R.ids.length cig, .slice apg R.inputs.length cpg]
  have bx2 : Below w2.heap.size w2 (w2.alloc (.cells #[.slice ag R.ends.length cg, .slice aig R.ids.length cig, .slice apg R.inputs.length cpg] 31)) := (by repeat (first | exact Below.refl _ _ | assumption | refine Below.alloc ?_ (by first | (simp; done) | (simp; omega) | omega) _ | refine Below.setCell ?_ (by first | (simp; done) | (simp; omega) | omega) _ | refine Below.drew ?_ | refine Below.drewN ?_ _))
  replace BW := BW.new bx2
  have cW0 := BW.cell 0 _ rfl
  have cW1 := BW.cell 1 _ rfl
  have cW2 := BW.cell 2 _ rfl
  go_wp2_with fail
  clear cW0 cW1 cW2
  have zx2 : w2.heap.size + 1 ≤ (w2.alloc (.cells #[.slice ag R.ends.length cg, .slice aig R.ids.length cig, .slice apg R.inputs.length cpg] 31)).heap.size := by simp
  replace ownw := ownw.new bx2
  replace owng := owng.new bx2
  have b3 := b2.trans (bx2.mono b2.size)
  have HBB : Hid ((ok != ok) = false) := by show _ = _; simp
  generalize w2.alloc (.cells #[.slice ag R.ends.length cg, .slice aig R.ids.length cig, .slice apg R.inputs.length cpg] 31) = x2 at *
  clear bx2 b2
  refine (eqNetwork_any _ _ R _ _ _ _ _ owng ownw (by omega) (by omega) hR).mono ?_
  rintro e w3 ⟨rfl, bel3⟩
  replace ownw := ownw.new bel3
  replace owng := owng.new bel3
  replace BW := BW.new bel3
  replace BG := BG.new bel3
  have z3 := bel3.size
  have b4 := b3.trans (bel3.mono b3.size)
  clear b3 bel3
  have cG0 := BG.cell 0 _ rfl
  have cG1 := BG.cell 1 _ rfl
  have cG2 := BG.cell 2 _ rfl
  have hbb := HBB.out
  go_wp2_with fail
  clear cG0 cG1 cG2
  refine (markNetwork_any _ R 1 _ _ _ owng (by omega) hR (by omega)).mono ?_
  rintro e w4 ⟨rfl, owngm, fr4⟩
  replace ownw := ownw.fr fr4 (fun k h1 h2 hc => by omega)
  replace BW := BW.fr fr4 (by omega)
  replace BG := BG.fr fr4 (by omega)
  have z4 := fr4.size
  have b5 := b4.trans (fr4.below (B := w.heap.size) (fun k h1 h2 hc => by omega) (by omega))
  clear b4 fr4 owng
  have cG0 := BG.cell 0 _ rfl
  have cG1 := BG.cell 1 _ rfl
  have cG2 := BG.cell 2 _ rfl
  go_wp2_with fail
  clear cG0 cG1 cG2
  refine (heldNetwork_any _ R 1 _ _ _ owngm (by omega) hR (by omega)).mono ?_
  rintro e w5 ⟨rfl, bel5⟩
  replace ownw := ownw.new bel5
  replace owngm := owngm.new bel5
  replace BW := BW.new bel5
  replace BG := BG.new bel5
  have z5 := bel5.size
  have b6 := b5.trans (bel5.mono b5.size)
  clear b5 bel5
  have hlt : ¬ (((1 + netTot R : Nat) : Int) < 0) := by omega
  go_wp2_with fail
  refine (HI.out _).mono ?_
  rintro e w6 ⟨vh, rfl, ownh, bel6⟩
  obtain ⟨ah, chh, aih, cih, aph, cph, rfl, ownh⟩ := ownh.shape
  replace ownw := ownw.new bel6
  replace owngm := owngm.new bel6
  replace BW := BW.new bel6
  replace BG := BG.new bel6
  have z6 := bel6.size
  have b7 := b6.trans (bel6.mono b6.size)
  clear b6 bel6
  have bx6 : Below w6.heap.size w6 (w6.alloc (.cells #[.slice ah R.ends.length chh, .slice aih R.ids.length cih, .slice aph R.inputs.length cph] 31)) := (by repeat (first | exact Below.refl _ _ | assumption | refine Below.alloc ?_ (by first | (simp; done) | (simp; omega) | omega) _ | refine Below.setCell ?_ (by first | (simp; done) | (simp; omega) | omega) _ | refine Below.drew ?_ | refine Below.drewN ?_ _))
  replace BW := BW.new bx6
  replace BG := BG.new bx6
  have cW0 := BW.cell 0 _ rfl
  have cW1 := BW.cell 1 _ rfl
  have cW2 := BW.cell 2 _ rfl
  go_wp2_with fail
  clear cW0 cW1 cW2
  replace ownw := ownw.new bx6
  replace owngm := owngm.new bx6
  replace ownh := ownh.new bx6
  have b8 := b7.trans (bx6.mono b7.size)
  have zx6 := bx6.size
  generalize w6.alloc (.cells #[.slice ah R.ends.length chh, .slice aih R.ids.length cih, .slice aph R.inputs.length cph] 31) = x6 at *
  clear bx6 b7
  refine (eqNetwork_any _ _ R _ _ _ _ _ ownh ownw (by omega) (by omega) hR).mono ?_
  rintro e w7 ⟨rfl, bel7⟩
  replace owngm := owngm.new bel7
  replace BG := BG.new bel7
  have z7 := bel7.size
  have b9 := b8.trans (bel7.mono b8.size)
  clear b8 bel7
  have cG0 := BG.cell 0 _ rfl
  have cG1 := BG.cell 1 _ rfl
  have cG2 := BG.cell 2 _ rfl
  go_wp2_with fail
  clear cG0 cG1 cG2
  refine (heldNetwork_any _ R 1 _ _ _ owngm (by omega) hR (by omega)).mono ?_
  rintro e w8 ⟨rfl, bel8⟩
  go_wp2_with fail
  go_ret
  exact ⟨rfl, b9.trans (bel8.mono b9.size)⟩
end Go.Proofs.Ytpfjglheinomiaa
