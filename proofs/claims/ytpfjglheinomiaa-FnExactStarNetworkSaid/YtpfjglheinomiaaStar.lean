/- StarNetwork. -/
import Derived.Test.YtpfjglheinomiaaPath
namespace Go.Proofs.Ytpfjglheinomiaa
open Go.RowKit
set_option linter.unusedVariables false
set_option linter.unusedSimpArgs false


/-- the edges of a star -/
def starE (j : Nat) : List (Nat × Nat) := (List.range j).map fun i => (0, i + 1)
theorem starE_succ (j : Nat) : starE (j + 1) = starE j ++ [(0, j + 1)] := by unfold starE; rw [List.range_succ, List.map_append]; rfl
theorem starE_length (j : Nat) : (starE j).length = j := by simp [starE]
theorem starE_in {j k : Nat} (h : j < k) : EdgesIn k (starE j) := fun e he => by
  obtain ⟨i, hi, rfl⟩ := List.mem_map.1 he
  rw [List.mem_range] at hi
  exact ⟨by omega, by omega⟩
def starN (j : Nat) : Net := joinsN (emptyN (j + 1)) (starE j)
set_option maxRecDepth 100000 in
theorem starN_ok : ∀ j, j < 40 → netB (starN j) = decide (j ≤ 6) := by decide +kernel
set_option maxRecDepth 100000 in
set_option maxHeartbeats 800000 in
theorem specStar_any (k : Int) (w : World) : Calls Try.prog 41 #[.int .i64 k] w (PostN (ifN (inR k 0 6) (starN k.toNat)) (inR k 0 6) w) := by
  have BR := Bx.made w 31 #[.slice none 0 0, .slice none 0 0, .slice none 0 0]
  have b0 : Below w.heap.size w (w.alloc (.cells #[.slice none 0 0, .slice none 0 0, .slice none 0 0] 31)) := (by repeat (first | exact Below.refl _ _ | assumption | refine Below.alloc ?_ (by first | (simp; done) | (simp; omega) | omega) _ | refine Below.setCell ?_ (by first | (simp; done) | (simp; omega) | omega) _ | refine Below.drew ?_ | refine Below.drewN ?_ _))
  have z0 : w.heap.size + 1 ≤ (w.alloc (.cells #[.slice none 0 0, .slice none 0 0, .slice none 0 0] 31)).heap.size := by simp
  cases hk : inR k 0 6 with
  | false =>
    have HK := Lib.hid hk
    clear hk
    go_enter Try.func41, Try.ntmps41
    go_wp2_with fail
    refine (l1In_any _ _ _ _).mono ?_
    rintro e w' ⟨rfl, rfl⟩
    rw [HK.out]
    generalize w.alloc (.cells #[.slice none 0 0, .slice none 0 0, .slice none 0 0] 31) = w0 at *
    have e0 := BR.cell 0 _ rfl
    have e1 := BR.cell 1 _ rfl
    have e2 := BR.cell 2 _ rfl
    have f0 := BR.frozen 0
    have f1 := BR.frozen 1
    have f2 := BR.frozen 2
    go_wp2_with fail
    clear e0 e1 e2 f0 f1 f2
    generalize hW : World.setCell _ _ _ = W
    have B6 : Bx W (w.heap.size) 31 #[.slice none 0 0, .slice none 0 0, .slice none 0 0] := by rw [← hW]; exact ((BR.set 0 _).set 1 _).set 2 _
    have fr6 : Fr (fun k => k = w.heap.size) w0 W := by rw [← hW]; exact fr3 _ _ _ _ _
    clear hW
    have z6 := fr6.size
    have d0 := B6.cell 0 _ rfl
    have d1 := B6.cell 1 _ rfl
    have d2 := B6.cell 2 _ rfl
    refine bodyPost_ret (v := .tuple #[.agg #[.slice none 0 0, .slice none 0 0, .slice none 0 0], .bool false]) (by simp [results, Try.results41, go_sem, d0, d1, d2]) rfl ?_
    exact ⟨_, rfl, NetAt.nilN _ _ _, b0.trans (fr6.below (fun k h1 h2 hc => by omega) b0.size)⟩
  | true =>
    have HK := Lib.hid hk
    obtain ⟨n, rfl⟩ := Int.eq_ofNat_of_zero_le (show 0 ≤ k by have := inR_iff.1 hk; omega)
    have hk2 := inR_iff.1 hk
    clear hk
    go_enter Try.func41, Try.ntmps41
    go_wp2_with fail
    refine (l1In_any _ _ _ _).mono ?_
    rintro e w' ⟨rfl, rfl⟩
    rw [HK.out]
    go_wp2_with fail
    generalize w.alloc (.cells #[.slice none 0 0, .slice none 0 0, .slice none 0 0] 31) = w0 at *
    go_loopw [4, 5] (fun v i wr => ∃ j : Nat, j ≤ n ∧ i = .int .i64 (j + 1 : Nat) ∧ (∃ a cap vo, v = .slice a j cap ∧ RowsI wr w0.heap.size wr.heap.size a cap (pairL (starE j)) vo) ∧ Below w0.heap.size w0 wr) (fun _ i _ => n + 1 - (intOf i).toNat)
    case atStart => exact ⟨0, by omega, rfl, ⟨none, 0, fun _ => (none, 0), rfl, RowsAt.nil _ _ _ _ _⟩, Below.refl _ _⟩
    case round =>
      obtain ⟨j, hj, rfl, ⟨a1, cap1, vo, rfl, own1⟩, bel⟩ := hrel
      have hDw := bel.size
      by_cases hlt : j < n
      · have HLK := Lib.hid (show (pairL (starE j)).length = j by rw [pairL_length, starE_length])
        have hol : Ow wr w0.heap.size wr.heap.size 23 1 a1 j cap1 (fun x => .slice (vo x).1 (rowOf (pairL (starE j)) x).length (vo x).2) := by have h := own1.1; rwa [HLK.out] at h
        go_wp2_with (at_builtin; refine wpList_app rfl _ _ _ rfl 23 (.slice none 0 0) 1 24 Try.underlying42 ints_info4 rfl (by decide) w0.heap.size wr.heap.size a1 j cap1 _ rfl (Ow.alloc (Ow.alloc hol _) _) ⟨wr.heap.size + 1, 0, none⟩ 1 1 [.slice (some ⟨wr.heap.size, 0, none⟩) 2 2] rfl rfl (by have h := cell_one_new (wr.alloc (.cells #[.int .i64 0, .int .i64 ((j : Int) + 1)] 3)) (.slice (some ⟨wr.heap.size, 0, none⟩) 2 2) 23; rw [World.size_alloc] at h; exact h) (by simp [Value.oneCell']) (by decide) (by unfold maxLen; omega) (by omega) (by simp; omega) ?_; intro g' cap' w3 own3 hgr _ _)
        go_roundw
        case rel =>
          have bx2 := (Bx.made wr 3 #[.int .i64 0, .int .i64 ((j : Int) + 1)]).alloc (.cells #[.slice (some ⟨wr.heap.size, 0, none⟩) 2 2] 23)
          refine ⟨j + 1, by omega, by go_num, ⟨some ⟨g', 0, none⟩, cap', setv vo (pairL (starE j)).length (some ⟨wr.heap.size, 0, none⟩, 2), rfl, ?_⟩, ?_⟩
          · rw [starE_succ, pairL_snoc]
            refine RowsAt.snoc (w := (wr.alloc (.cells #[.int .i64 0, .int .i64 ((j : Int) + 1)] 3)).alloc (.cells #[.slice (some ⟨wr.heap.size, 0, none⟩) 2 2] 23)) (hi := wr.heap.size) (RowsAt.new (RowsAt.new own1 ((Below.refl _ _).alloc (Nat.le_refl _) _)) ((Below.refl _ _).alloc (Nat.le_refl _) _)) (by decide) (Ow.two bx2 (Nat.le_refl _) (by simp; omega)) (by omega) (by simp; omega) hgr ?_
            rw [HLK.out]
            exact own3
          · exact below_app ((bel.alloc hDw _).alloc (by simp; omega) _) (Ow.alloc (Ow.alloc hol _) _) hgr (Nat.le_refl _) (by simp; omega)
        case measure => simp [intOf]; omega
      · have HJN := Lib.hid (show j = n by omega)
        go_wp2_with fail
        have hpl := starE_length j
        have own1' := own1
        have HC := Lib.hid (buMade_any (n + 1) (starE j) a1 cap1 vo wr w0.heap.size wr.heap.size own1 (Nat.le_refl _) (starE_in (by omega)) (by omega) (by omega))
        rw [hpl, show ((n + 1 : Nat) : Int) = (n : Int) + 1 from by omega] at HC
        refine HC.out.mono ?_
        rintro e w4 ⟨v4, rfl, own4, bel4⟩
        obtain ⟨a4, c4, ai4, ci4, ap4, cp4, rfl, own4⟩ := own4.shape
        replace BR := (BR.new bel).new bel4
        have bb := (b0.trans (bel.mono b0.size)).trans (bel4.mono (by omega))
        have z4 := bel4.size
        have HP := Lib.hid (show ifN true (starN ((n : Int).toNat)) = joinsN (emptyN (n + 1)) (starE j) by rw [HJN.out]; rfl)
        clear HC hpl own1 own1' b0 bel4
        generalize joinsN (emptyN (n + 1)) (starE j) = Nk at *
        have e0 := BR.cell 0 _ rfl
        have e1 := BR.cell 1 _ rfl
        have e2 := BR.cell 2 _ rfl
        have f0 := BR.frozen 0
        have f1 := BR.frozen 1
        have f2 := BR.frozen 2
        go_wp2_with fail
        clear e0 e1 e2 f0 f1 f2
        generalize hW : World.setCell _ _ _ = W
        have B6 : Bx W (w.heap.size) 31 #[.slice a4 Nk.ends.length c4, .slice ai4 Nk.ids.length ci4, .slice ap4 Nk.inputs.length cp4] := by rw [← hW]; exact ((BR.set 0 _).set 1 _).set 2 _
        have fr6 : Fr (fun k => k = w.heap.size) w4 W := by rw [← hW]; exact fr3 _ _ _ _ _
        clear hW
        have z6 := fr6.size
        have d0 := B6.cell 0 _ rfl
        have d1 := B6.cell 1 _ rfl
        have d2 := B6.cell 2 _ rfl
        refine bodyPost_ret (v := .tuple #[.agg #[.slice a4 Nk.ends.length c4, .slice ai4 Nk.ids.length ci4, .slice ap4 Nk.inputs.length cp4], .bool true]) (by simp [results, Try.results41, go_sem, d0, d1, d2]) rfl ?_
        rw [HP.out]
        exact ⟨_, rfl, (own4.fr fr6 (fun k h1 h2 hc => by omega)).wide (lo' := w.heap.size) (hi' := W.heap.size) (by omega) (by omega), bb.trans (fr6.below (fun k h1 h2 hc => by omega) bb.size)⟩
theorem star_no {k : Int} (h : inR k 0 6 = false) : ifN (inR k 0 6) (starN k.toNat) = nilN := by rw [h]; rfl
set_option maxRecDepth 100000 in
set_option maxHeartbeats 800000 in
theorem implStar_any (k : Int) (w : World) (hk0 : -9223372036854775808 ≤ k) (hk1 : k ≤ 9223372036854775807) : Calls Try.prog 42 #[.int .i64 k] w (PostN (ifN (inR k 0 6) (starN k.toNat)) (inR k 0 6) w) := by
  have BR := Bx.made w 31 #[.slice none 0 0, .slice none 0 0, .slice none 0 0]
  have b0 : Below w.heap.size w (w.alloc (.cells #[.slice none 0 0, .slice none 0 0, .slice none 0 0] 31)) := (by repeat (first | exact Below.refl _ _ | assumption | refine Below.alloc ?_ (by first | (simp; done) | (simp; omega) | omega) _ | refine Below.setCell ?_ (by first | (simp; done) | (simp; omega) | omega) _ | refine Below.drew ?_ | refine Below.drewN ?_ _))
  have z0 : w.heap.size + 1 ≤ (w.alloc (.cells #[.slice none 0 0, .slice none 0 0, .slice none 0 0] 31)).heap.size := by simp
  cases hk : inR k 0 40 with
  | false =>
    have HK := Lib.hid hk
    have HK6 := Lib.hid (show inR k 0 6 = false by cases h6 : inR k 0 6 with | false => rfl | true => have h1 := inR_iff.1 h6; rw [inR_iff.2 ⟨by omega, by omega⟩] at hk; cases hk)
    clear hk
    go_enter Try.func42, Try.ntmps42
    go_wp2_with fail
    refine (within_any _ _ _ _).mono ?_
    rintro e w' ⟨rfl, rfl⟩
    rw [HK.out]
    generalize w.alloc (.cells #[.slice none 0 0, .slice none 0 0, .slice none 0 0] 31) = w0 at *
    have e0 := BR.cell 0 _ rfl
    have e1 := BR.cell 1 _ rfl
    have e2 := BR.cell 2 _ rfl
    have f0 := BR.frozen 0
    have f1 := BR.frozen 1
    have f2 := BR.frozen 2
    go_wp2_with fail
    clear e0 e1 e2 f0 f1 f2
    generalize hW : World.setCell _ _ _ = W
    have B6 : Bx W (w.heap.size) 31 #[.slice none 0 0, .slice none 0 0, .slice none 0 0] := by rw [← hW]; exact ((BR.set 0 _).set 1 _).set 2 _
    have fr6 : Fr (fun k => k = w.heap.size) w0 W := by rw [← hW]; exact fr3 _ _ _ _ _
    clear hW
    have z6 := fr6.size
    have d0 := B6.cell 0 _ rfl
    have d1 := B6.cell 1 _ rfl
    have d2 := B6.cell 2 _ rfl
    refine bodyPost_ret (v := .tuple #[.agg #[.slice none 0 0, .slice none 0 0, .slice none 0 0], .bool false]) (by simp [results, Try.results42, go_sem, d0, d1, d2]) rfl ?_
    rw [star_no HK6.out, HK6.out]
    exact ⟨_, rfl, NetAt.nilN _ _ _, b0.trans (fr6.below (fun k h1 h2 hc => by omega) b0.size)⟩
  | true =>
    have HK := Lib.hid hk
    have hk2 := inR_iff.1 hk
    obtain ⟨n, rfl⟩ := Int.eq_ofNat_of_zero_le (show 0 ≤ k by omega)
    clear hk hk0 hk1
    go_enter Try.func42, Try.ntmps42
    go_wp2_with fail
    refine (within_any _ _ _ _).mono ?_
    rintro e w' ⟨rfl, rfl⟩
    rw [HK.out]
    generalize w.alloc (.cells #[.slice none 0 0, .slice none 0 0, .slice none 0 0] 31) = w0 at *
    go_wp2_with fail
    refine (emptyNetwork_any ((n : Int) + 1) _).mono ?_
    rintro e w1 ⟨v1, rfl, own1, bel1⟩
    obtain ⟨a1, c1, ai1, ci1, ap1, cp1, rfl, own1⟩ := own1.shape
    replace BR := BR.new bel1
    have z1 : w.heap.size + 1 ≤ w1.heap.size := by have := bel1.size; omega
    have b1 := b0.trans (bel1.mono b0.size)
    clear b0 bel1
    generalize hR0 : ifN (inR ((n : Int) + 1) 1 40) (emptyN ((n : Int) + 1).toNat) = R0 at *
    have HR0 := Lib.hid hR0
    clear hR0
    have BO := Bx.made w1 31 #[.slice a1 R0.ends.length c1, .slice ai1 R0.ids.length ci1, .slice ap1 R0.inputs.length cp1]
    have b2 : Below w1.heap.size w1 (w1.alloc (.cells #[.slice a1 R0.ends.length c1, .slice ai1 R0.ids.length ci1, .slice ap1 R0.inputs.length cp1] 31)) := (by repeat (first | exact Below.refl _ _ | assumption | refine Below.alloc ?_ (by first | (simp; done) | (simp; omega) | omega) _ | refine Below.setCell ?_ (by first | (simp; done) | (simp; omega) | omega) _ | refine Below.drew ?_ | refine Below.drewN ?_ _))
    go_upto_region 4 with fail
    have z2 : w1.heap.size + 1 ≤ (w1.alloc (.cells #[.slice a1 R0.ends.length c1, .slice ai1 R0.ids.length ci1, .slice ap1 R0.inputs.length cp1] 31)).heap.size := by simp
    generalize w1.alloc (.cells #[.slice a1 R0.ends.length c1, .slice ai1 R0.ids.length ci1, .slice ap1 R0.inputs.length cp1] 31) = w2 at *
    obtain ⟨b, hb⟩ : ∃ b, b = w1.heap.size := ⟨_, rfl⟩
    rw [← hb] at BO ⊢
    replace BR := BR.new b2
    replace own1 := (own1.new b2).wide (lo' := w.heap.size + 1) z0 b2.size
    have bb := b1.trans (b2.mono b1.size)
    have zb : w.heap.size + 1 ≤ b := by omega
    have zlo : w.heap.size + 1 ≤ w2.heap.size := by omega
    clear hb b1 b2 z2
    cases hk : inR ((n : Int) + 1) 1 40 with
    | false =>
      have HK6 := Lib.hid (show inR (n : Int) 0 6 = false by cases h6 : inR (n : Int) 0 6 with | false => rfl | true => have h1 := inR_iff.1 h6; rw [inR_iff.2 ⟨by omega, by omega⟩] at hk; cases hk)
      clear hk
      have e0 := BR.cell 0 _ rfl
      have e1 := BR.cell 1 _ rfl
      have e2 := BR.cell 2 _ rfl
      have f0 := BR.frozen 0
      have f1 := BR.frozen 1
      have f2 := BR.frozen 2
      go_wp2_with fail
      clear e0 e1 e2 f0 f1 f2
      generalize hW : World.setCell _ _ _ = W
      have B6 : Bx W (w.heap.size) 31 #[.slice none 0 0, .slice none 0 0, .slice none 0 0] := by rw [← hW]; exact ((BR.set 0 _).set 1 _).set 2 _
      have fr6 : Fr (fun k => k = w.heap.size) w2 W := by rw [← hW]; exact fr3 _ _ _ _ _
      clear hW
      have z6 := fr6.size
      have d0 := B6.cell 0 _ rfl
      have d1 := B6.cell 1 _ rfl
      have d2 := B6.cell 2 _ rfl
      refine bodyPost_ret (v := .tuple #[.agg #[.slice none 0 0, .slice none 0 0, .slice none 0 0], .bool false]) (by simp [results, Try.results42, go_sem, d0, d1, d2]) rfl ?_
      rw [star_no HK6.out, HK6.out]
      exact ⟨_, rfl, NetAt.nilN _ _ _, bb.trans (fr6.below (fun k h1 h2 hc => by omega) bb.size)⟩
    | true =>
      have HK1 := Lib.hid hk
      have hn40 : n < 40 := by have := inR_iff.1 hk; omega
      clear hk
      obtain rfl : R0 = emptyN (n + 1) := by rw [← HR0.out, HK1.out]; show emptyN _ = _; congr 1
      have hNB : NBx w2 (w.heap.size + 1) b (joinsN (emptyN (n + 1)) (starE 0)) := by
        obtain ⟨a, c, vs, ai, ci, ap, cp, hv, h1, h2, h3, h4⟩ := own1
        simp only [Value.agg.injEq, Array.mk.injEq, List.cons.injEq, Value.slice.injEq, true_and, and_true] at hv
        obtain ⟨⟨rfl, rfl⟩, ⟨rfl, rfl⟩, rfl, rfl⟩ := hv
        exact ⟨_, _, vs, _, _, _, _, BO, h1, h2, h3, h4⟩
      clear own1 BO HR0
      go_wp2_with fail
      go_loopw [6] (fun i wr => ∃ j : Nat, j ≤ n ∧ i = .int .i64 (j + 1 : Nat) ∧ NBx wr (w.heap.size + 1) b (joinsN (emptyN (n + 1)) (starE j)) ∧ Bx wr w.heap.size 31 #[.slice none 0 0, .slice none 0 0, .slice none 0 0] ∧ Below w.heap.size w wr ∧ w.heap.size + 1 ≤ wr.heap.size) (fun i _ => n + 1 - (intOf i).toNat)
      case atStart => exact ⟨0, by omega, rfl, hNB, BR, bb, zlo⟩
      case round =>
        clear hNB BR bb zlo
        obtain ⟨j, hj, rfl, hNB, BR, bb, zlo⟩ := hrel
        have HEL : Hid ((emptyN (n + 1)).ends.length = n + 1) := List.length_replicate ..
        have HF := Lib.hid (joinsN_facts (emptyN (n + 1)) (starE j) (by rw [HEL.out]; exact starE_in (by omega)))
        have HSM := Lib.hid (joinsN_small (starE_in (show j < n + 1 by omega)) (by omega) (by rw [starE_length]; omega))
        by_cases hlt : j < n
        · have HC := Lib.hid (connectN_any (v := 0) (u := j + 1) wr hNB (by rw [HF.out.1, HEL.out]; omega) (by rw [HF.out.1, HEL.out]; omega) zlo HSM.out)
          rw [show ((j + 1 : Nat) : Int) = (j : Int) + 1 from by omega] at HC
          go_wp2_with fail
          refine HC.out.mono ?_
          rintro e w5 ⟨rfl, hNB5, fr5⟩
          replace BR := BR.fr fr5 (by omega)
          have z5 := fr5.size
          replace bb := bb.trans (fr5.below (B := w.heap.size) (fun k h1 h2 hc => by omega) bb.size)
          clear HC hNB fr5
          go_wp2_with fail
          go_roundw
          case rel => exact ⟨j + 1, by omega, by go_num, by rw [starE_succ, joinsN_snoc]; exact hNB5, BR, bb, by omega⟩
          case measure => simp [intOf]; omega
        · have HP := Lib.hid (show joinsN (emptyN (n + 1)) (starE j) = starN n by rw [show j = n by omega]; rfl)
          have HOKN := Lib.hid (starN_ok n hn40)
          rw [HP.out] at hNB HSM
          clear HF HP
          obtain ⟨ax, cx, vx, aix, cix, apx, cpx, BO, hE, owni, ownp, hdis⟩ := hNB
          have own6 : NetAt wr (w.heap.size + 1) wr.heap.size _ (starN n) := ⟨ax, cx, vx, aix, cix, apx, cpx, rfl, hE, owni, ownp, hdis⟩
          have q0 := BO.cell 0 _ rfl
          have q1 := BO.cell 1 _ rfl
          have q2 := BO.cell 2 _ rfl
          clear hE owni ownp hdis BO
          go_wp2_with fail
          clear q0 q1 q2
          refine (network_any _ (starN n) _ _ _ own6 (Nat.le_refl _) (by omega) HSM.out).mono ?_
          rintro e w7 ⟨x7, rfl, own7, bel7⟩
          replace BR := BR.new bel7
          replace bb := bb.trans (bel7.mono bb.size)
          have z7 := bel7.size
          clear bel7 own6
          obtain ⟨ay, cy, aiy, ciy, apy, cpy, rfl, own7⟩ := own7.shape
          generalize hRR : ifN (netB (starN n)) (starN n) = RR at *
          generalize hOO : netB (starN n) = oo at *
          have HRR := Lib.hid (show ifN (inR (n : Int) 0 6) (starN ((n : Int).toNat)) = RR ∧ inR (n : Int) 0 6 = oo by
            have e6 : inR (n : Int) 0 6 = decide (n ≤ 6) := by
              cases h6 : inR (n : Int) 0 6 with
              | true => have := inR_iff.1 h6; exact (decide_eq_true (by omega)).symm
              | false => exact (decide_eq_false fun hh => by rw [inR_iff.2 ⟨by omega, by omega⟩] at h6; cases h6).symm
            rw [e6, Int.toNat_natCast, ← HOKN.out]
            exact ⟨hRR, rfl⟩)
          clear hRR hOO HOKN
          have e0 := BR.cell 0 _ rfl
          have e1 := BR.cell 1 _ rfl
          have e2 := BR.cell 2 _ rfl
          have f0 := BR.frozen 0
          have f1 := BR.frozen 1
          have f2 := BR.frozen 2
          go_wp2_with fail
          clear e0 e1 e2 f0 f1 f2
          generalize hW : World.setCell _ _ _ = W
          have B6 : Bx W (w.heap.size) 31 #[.slice ay RR.ends.length cy, .slice aiy RR.ids.length ciy, .slice apy RR.inputs.length cpy] := by rw [← hW]; exact ((BR.set 0 _).set 1 _).set 2 _
          have fr6 : Fr (fun k => k = w.heap.size) w7 W := by rw [← hW]; exact fr3 _ _ _ _ _
          clear hW
          have z6 := fr6.size
          have d0 := B6.cell 0 _ rfl
          have d1 := B6.cell 1 _ rfl
          have d2 := B6.cell 2 _ rfl
          refine bodyPost_ret (v := .tuple #[.agg #[.slice ay RR.ends.length cy, .slice aiy RR.ids.length ciy, .slice apy RR.inputs.length cpy], .bool oo]) (by simp [results, Try.results42, go_sem, d0, d1, d2]) rfl ?_
          rw [HRR.out.1, HRR.out.2]
          exact ⟨_, rfl, (own7.fr fr6 (fun k h1 h2 hc => by omega)).wide (lo' := w.heap.size) (hi' := W.heap.size) (by omega) (by omega), bb.trans (fr6.below (fun k h1 h2 hc => by omega) bb.size)⟩
theorem starR_sm {k : Int} : NetSmall (ifN (inR k 0 6) (starN k.toNat)) := ifN_small fun h => by
  have h1 := inR_iff.1 h
  exact joinsN_small (starE_in (by omega)) (by omega) (by rw [starE_length]; omega)
set_option maxRecDepth 100000 in
set_option maxHeartbeats 1000000 in
theorem FnExactStarNetwork_walk (k : Int) (w : World) (hk0 : -9223372036854775808 ≤ k) (hk1 : k ≤ 9223372036854775807) :
    Calls Try.prog 10 #[.int .i64 k] w fun e w' => e = .returned (.bool true) ∧ Below w.heap.size w w' := by
  have HS : Hid (∀ w, Calls Try.prog 41 #[.int .i64 k] w (PostN (ifN (inR k 0 6) (starN k.toNat)) (inR k 0 6) w)) := specStar_any k
  have HI : Hid (∀ w, Calls Try.prog 42 #[.int .i64 k] w (PostN (ifN (inR k 0 6) (starN k.toNat)) (inR k 0 6) w)) := (fun w => implStar_any k w hk0 hk1)
  have hR : NetSmall (ifN (inR k 0 6) (starN k.toNat)) := starR_sm
  generalize ifN (inR k 0 6) (starN k.toNat) = R at *
  generalize inR k 0 6 = ok at *
  go_enter Try.func10, Try.ntmps10
  go_wp2_with fail
  refine (HS.out _).mono ?_
  rintro e w1 ⟨vw, rfl, ownw, bel1⟩
  obtain ⟨aw, cw, aiw, ciw, apw, cpw, rfl, ownw⟩ := ownw.shape
  have z1 := bel1.size
  have BW := Bx.made w1 31 #[.slice aw R.ends.length cw, .slice aiw R.ids.length ciw, .slice apw R.inputs.length cpw]
  have bx1 : Below w1.heap.size w1 (w1.alloc (.cells #[.slice aw R.ends.length cw, .slice aiw R.ids.length ciw, .slice apw R.inputs.length cpw] 31)) := (by repeat (first | exact Below.refl _ _ | assumption | refine Below.alloc ?_ (by first | (simp; done) | (simp; omega) | omega) _ | refine Below.setCell ?_ (by first | (simp; done) | (simp; omega) | omega) _ | refine Below.drew ?_ | refine Below.drewN ?_ _))
  go_wp2_with fail
  refine (HI.out _).mono ?_
  rintro e w2 ⟨vg, rfl, owng, bel2⟩
  obtain ⟨ag, cg, aig, cig, apg, cpg, rfl, owng⟩ := owng.shape
  simp only [World.size_alloc] at owng
  have z2 : w1.heap.size + 1 ≤ w2.heap.size := by have := bel2.size; simpa using this
  replace ownw := (ownw.new bx1).new bel2
  replace BW := BW.new bel2
  have b2 := bel1.trans ((bx1.mono z1).trans (bel2.mono (by have := bx1.size; omega)))
  clear bel1 bx1 bel2
  have BG := Bx.made w2 31 #[.slice ag R.ends.length cg, .slice aig R.ids.length cig, .slice apg R.inputs.length cpg]
  have bx2 : Below w2.heap.size w2 (w2.alloc (.cells #[.slice ag R.ends.length cg, .slice aig R.ids.length cig, .slice apg R.inputs.length cpg] 31)) := (by repeat (first | exact Below.refl _ _ | assumption | refine Below.alloc ?_ (by first | (simp; done) | (simp; omega) | omega) _ | refine Below.setCell ?_ (by first | (simp; done) | (simp; omega) | omega) _ | refine Below.drew ?_ | refine Below.drewN ?_ _))
  replace BW := BW.new bx2
  have cW0 := BW.cell 0 _ rfl
  have cW1 := BW.cell 1 _ rfl
  have cW2 := BW.cell 2 _ rfl
  go_wp2_with fail
  clear cW0 cW1 cW2
  have zx2 : w2.heap.size + 1 ≤ (w2.alloc (.cells #[.slice ag R.ends.length cg, .slice aig R.ids.length cig, .slice apg R.inputs.length cpg] 31)).heap.size := by simp
  replace ownw := ownw.new bx2
  replace owng := owng.new bx2
  have b3 := b2.trans (bx2.mono b2.size)
  have HBB : Hid ((ok != ok) = false) := by show _ = _; simp
  generalize w2.alloc (.cells #[.slice ag R.ends.length cg, .slice aig R.ids.length cig, .slice apg R.inputs.length cpg] 31) = x2 at *
  clear bx2 b2
  refine (eqNetwork_any _ _ R _ _ _ _ _ owng ownw (by omega) (by omega) hR).mono ?_
  rintro e w3 ⟨rfl, bel3⟩
  replace ownw := ownw.new bel3
  replace owng := owng.new bel3
  replace BW := BW.new bel3
  replace BG := BG.new bel3
  have z3 := bel3.size
  have b4 := b3.trans (bel3.mono b3.size)
  clear b3 bel3
  have cG0 := BG.cell 0 _ rfl
  have cG1 := BG.cell 1 _ rfl
  have cG2 := BG.cell 2 _ rfl
  have hbb := HBB.out
  go_wp2_with fail
  clear cG0 cG1 cG2
  refine (markNetwork_any _ R 1 _ _ _ owng (by omega) hR (by omega)).mono ?_
  rintro e w4 ⟨rfl, owngm, fr4⟩
  replace ownw := ownw.fr fr4 (fun k h1 h2 hc => by omega)
  replace BW := BW.fr fr4 (by omega)
  replace BG := BG.fr fr4 (by omega)
  have z4 := fr4.size
  have b5 := b4.trans (fr4.below (B := w.heap.size) (fun k h1 h2 hc => by omega) (by omega))
  clear b4 fr4 owng
  have cG0 := BG.cell 0 _ rfl
  have cG1 := BG.cell 1 _ rfl
  have cG2 := BG.cell 2 _ rfl
  go_wp2_with fail
  clear cG0 cG1 cG2
  refine (heldNetwork_any _ R 1 _ _ _ owngm (by omega) hR (by omega)).mono ?_
  rintro e w5 ⟨rfl, bel5⟩
  replace ownw := ownw.new bel5
  replace owngm := owngm.new bel5
  replace BW := BW.new bel5
  replace BG := BG.new bel5
  have z5 := bel5.size
  have b6 := b5.trans (bel5.mono b5.size)
  clear b5 bel5
  have hlt : ¬ (((1 + netTot R : Nat) : Int) < 0) := by omega
  go_wp2_with fail
  refine (HI.out _).mono ?_
  rintro e w6 ⟨vh, rfl, ownh, bel6⟩
  obtain ⟨ah, chh, aih, cih, aph, cph, rfl, ownh⟩ := ownh.shape
  replace ownw := ownw.new bel6
  replace owngm := owngm.new bel6
  replace BW := BW.new bel6
  replace BG := BG.new bel6
  have z6 := bel6.size
  have b7 := b6.trans (bel6.mono b6.size)
  clear b6 bel6
  have bx6 : Below w6.heap.size w6 (w6.alloc (.cells #[.slice ah R.ends.length chh, .slice aih R.ids.length cih, .slice aph R.inputs.length cph] 31)) := (by repeat (first | exact Below.refl _ _ | assumption | refine Below.alloc ?_ (by first | (simp; done) | (simp; omega) | omega) _ | refine Below.setCell ?_ (by first | (simp; done) | (simp; omega) | omega) _ | refine Below.drew ?_ | refine Below.drewN ?_ _))
  replace BW := BW.new bx6
  replace BG := BG.new bx6
  have cW0 := BW.cell 0 _ rfl
  have cW1 := BW.cell 1 _ rfl
  have cW2 := BW.cell 2 _ rfl
  go_wp2_with fail
  clear cW0 cW1 cW2
  replace ownw := ownw.new bx6
  replace owngm := owngm.new bx6
  replace ownh := ownh.new bx6
  have b8 := b7.trans (bx6.mono b7.size)
  have zx6 := bx6.size
  generalize w6.alloc (.cells #[.slice ah R.ends.length chh, .slice aih R.ids.length cih, .slice aph R.inputs.length cph] 31) = x6 at *
  clear bx6 b7
  refine (eqNetwork_any _ _ R _ _ _ _ _ ownh ownw (by omega) (by omega) hR).mono ?_
  rintro e w7 ⟨rfl, bel7⟩
  replace owngm := owngm.new bel7
  replace BG := BG.new bel7
  have z7 := bel7.size
  have b9 := b8.trans (bel7.mono b8.size)
  clear b8 bel7
  have cG0 := BG.cell 0 _ rfl
  have cG1 := BG.cell 1 _ rfl
  have cG2 := BG.cell 2 _ rfl
  go_wp2_with fail
  clear cG0 cG1 cG2
  refine (heldNetwork_any _ R 1 _ _ _ owngm (by omega) hR (by omega)).mono ?_
  rintro e w8 ⟨rfl, bel8⟩
  go_wp2_with fail
  go_ret
  exact ⟨rfl, b9.trans (bel8.mono b9.size)⟩
end Go.Proofs.Ytpfjglheinomiaa
