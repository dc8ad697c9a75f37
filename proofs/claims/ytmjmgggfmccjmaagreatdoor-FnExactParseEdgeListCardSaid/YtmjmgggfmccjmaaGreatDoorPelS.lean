/- ParseEdgeList: spec's walk. -/
import Derived.Test.YtmjmgggfmccjmaaGreatDoorPelB
namespace Go.Proofs.YtmjmgggfmccjmaaGreatDoor
open Go.RowKit
set_option linter.unusedVariables false
set_option linter.unusedSimpArgs false

theorem allB_one (n : Nat) (x : List UInt8) : allB [readL x] 0 ((n : Int) - 1) = pelNode n x := by
  unfold allB pelNode
  rw [Bool.eq_iff_iff, decide_eq_true_iff, inR_iff]
  constructor
  · intro h; exact h 0 (by simp)
  · intro h j hj
    obtain rfl : j = 0 := by simp at hj; omega
    exact h
theorem allB_two (n : Nat) (x y : List UInt8) : allB [readL x, readL y] 0 ((n : Int) - 1) = (pelNode n x && pelNode n y) := by
  unfold allB pelNode
  rw [Bool.eq_iff_iff, decide_eq_true_iff, Bool.and_eq_true, inR_iff, inR_iff]
  constructor
  · intro h; exact ⟨h 0 (by simp), h 1 (by simp)⟩
  · rintro ⟨h1, h2⟩ j hj
    have : j = 0 ∨ j = 1 := by simp at hj; omega
    rcases this with rfl | rfl
    · exact h1
    · exact h2
theorem allOne_any (bl : Option Addr) (cbl n B : Nat) (x : List UInt8) (z : Int) (hz : z = (n : Int) - 1) (X : World) (h : RdI X B bl [readL x]) :
    Calls Tryz.prog 13 #[.slice bl 1 cbl, .int .i64 0, .int .i64 z] X fun e w' => e = .returned (.bool (pelNode n x)) ∧ Below X.heap.size X w' := by
  subst hz
  have e1 : ([readL x] : List Int).length = 1 := rfl
  have key := l1All_any bl cbl [readL x] 0 ((n : Int) - 1) X B h (by rw [e1]; decide)
  rw [e1, allB_one] at key
  refine key.mono ?_
  rintro e w' ⟨h1, k9, h2⟩
  exact ⟨h1, by rw [h2]; exact Below.drewN (Below.refl _ _) k9⟩
theorem allTwo_any (bl : Option Addr) (cbl n B : Nat) (x y : List UInt8) (z : Int) (hz : z = (n : Int) - 1) (X : World) (h : RdI X B bl [readL x, readL y]) :
    Calls Tryz.prog 13 #[.slice bl 2 cbl, .int .i64 0, .int .i64 z] X fun e w' => e = .returned (.bool (pelNode n x && pelNode n y)) ∧ Below X.heap.size X w' := by
  subst hz
  have e1 : ([readL x, readL y] : List Int).length = 2 := rfl
  have key := l1All_any bl cbl [readL x, readL y] 0 ((n : Int) - 1) X B h (by rw [e1]; decide)
  rw [e1, allB_two] at key
  refine key.mono ?_
  rintro e w' ⟨h1, k9, h2⟩
  exact ⟨h1, by rw [h2]; exact Below.drewN (Below.refl _ _) k9⟩
set_option maxRecDepth 100000 in
set_option maxHeartbeats 4000000 in
theorem specPel_any (s : ByteArray) (w : World) (hs : s.size ≤ 1048576) :
    Calls Tryz.prog 4 #[.string s] w (PostN (pelR s.data.toList) (pelOk s.data.toList) w) := by
  have HSL := Lib.hid (size_list s)
  have HSp := Lib.hid (fun X => l1SplitZ_any s 10 10 rfl X hs)
  have BR := Bx.made w 25 #[.slice none 0 0, .slice none 0 0, .slice none 0 0]
  have b0 : Below w.heap.size w (w.alloc (.cells #[.slice none 0 0, .slice none 0 0, .slice none 0 0] 25)) := (by repeat (first | exact Below.refl _ _ | assumption | refine Below.alloc ?_ (by first | (simp; done) | (simp; omega) | omega) _ | refine Below.setCell ?_ (by first | (simp; done) | (simp; omega) | omega) _ | refine Below.drew ?_ | refine Below.drewN ?_ _))
  go_enter Tryz.func4, Tryz.ntmps4
  go_upto_region 1 with fail
  generalize w.alloc (.cells #[.slice none 0 0, .slice none 0 0, .slice none 0 0] 25) = w0 at *
  go_wp2_with fail
  refine (HSp.out _).mono ?_
  rintro e w1 ⟨aL, cL, rfl, ownL, bel1⟩
  replace BR := BR.new bel1
  have b1 := b0.trans (bel1.mono b0.size)
  have z1 := b1.size
  have zR := BR.lt
  have hcnt := spl_cnt 10 s.data.toList
  clear b0 bel1 HSp
  by_cases hlong : 6000 < s.size
  · have HO : Hid (pelOk s.data.toList = false) := pelOk_long (by rw [HSL.out]; omega)
    have e0 := BR.cell 0 _ rfl
    have e1 := BR.cell 1 _ rfl
    have e2 := BR.cell 2 _ rfl
    have f0 := BR.frozen 0
    have f1 := BR.frozen 1
    have f2 := BR.frozen 2
    go_wp2_with fail
    clear e0 e1 e2 f0 f1 f2
    generalize hW : World.setCell _ _ _ = W
    have B6 : Bx W (w.heap.size) 25 #[.slice none 0 0, .slice none 0 0, .slice none 0 0] := by rw [← hW]; exact ((BR.set 0 _).set 1 _).set 2 _
    have fr6 : Fr (fun k => k = w.heap.size) w1 W := by rw [← hW]; exact fr3 _ _ _ _ _
    clear hW
    have z6 := fr6.size
    have d0 := B6.cell 0 _ rfl
    have d1 := B6.cell 1 _ rfl
    have d2 := B6.cell 2 _ rfl
    refine bodyPost_ret (v := .tuple #[.agg #[.slice none 0 0, .slice none 0 0, .slice none 0 0], .bool false]) (by simp [results, Tryz.results4, go_sem, d0, d1, d2]) rfl ?_
    unfold PostN
    rw [HO.out, pelR_f HO.out]
    exact ⟨_, rfl, NetAt.nilN _ _ _, b1.trans (fr6.below (B := w.heap.size) (fun k h1 h2 hc => by omega) b1.size)⟩
  have hlen : s.size ≤ 6000 := by omega
  rcases ended 10 s.data.toList with ⟨a, ha⟩ | hne
  case inr =>
    have HO := Lib.hid (pelOk_open hne)
    rcases not_ended hne with h2 | ⟨i, l, hil, hl⟩
    · clear hne
      have e0 := BR.cell 0 _ rfl
      have e1 := BR.cell 1 _ rfl
      have e2 := BR.cell 2 _ rfl
      have f0 := BR.frozen 0
      have f1 := BR.frozen 1
      have f2 := BR.frozen 2
      go_wp2_with fail
      clear e0 e1 e2 f0 f1 f2
      generalize hW : World.setCell _ _ _ = W
      have B6 : Bx W (w.heap.size) 25 #[.slice none 0 0, .slice none 0 0, .slice none 0 0] := by rw [← hW]; exact ((BR.set 0 _).set 1 _).set 2 _
      have fr6 : Fr (fun k => k = w.heap.size) w1 W := by rw [← hW]; exact fr3 _ _ _ _ _
      clear hW
      have z6 := fr6.size
      have d0 := B6.cell 0 _ rfl
      have d1 := B6.cell 1 _ rfl
      have d2 := B6.cell 2 _ rfl
      refine bodyPost_ret (v := .tuple #[.agg #[.slice none 0 0, .slice none 0 0, .slice none 0 0], .bool false]) (by simp [results, Tryz.results4, go_sem, d0, d1, d2]) rfl ?_
      unfold PostN
      rw [HO.out, pelR_f HO.out]
      exact ⟨_, rfl, NetAt.nilN _ _ _, b1.trans (fr6.below (B := w.heap.size) (fun k h1 h2 hc => by omega) b1.size)⟩
    · by_cases h2 : (spl 10 s.data.toList).length < 2
      · clear hne hil hl
        have e0 := BR.cell 0 _ rfl
        have e1 := BR.cell 1 _ rfl
        have e2 := BR.cell 2 _ rfl
        have f0 := BR.frozen 0
        have f1 := BR.frozen 1
        have f2 := BR.frozen 2
        go_wp2_with fail
        clear e0 e1 e2 f0 f1 f2
        generalize hW : World.setCell _ _ _ = W
        have B6 : Bx W (w.heap.size) 25 #[.slice none 0 0, .slice none 0 0, .slice none 0 0] := by rw [← hW]; exact ((BR.set 0 _).set 1 _).set 2 _
        have fr6 : Fr (fun k => k = w.heap.size) w1 W := by rw [← hW]; exact fr3 _ _ _ _ _
        clear hW
        have z6 := fr6.size
        have d0 := B6.cell 0 _ rfl
        have d1 := B6.cell 1 _ rfl
        have d2 := B6.cell 2 _ rfl
        refine bodyPost_ret (v := .tuple #[.agg #[.slice none 0 0, .slice none 0 0, .slice none 0 0], .bool false]) (by simp [results, Tryz.results4, go_sem, d0, d1, d2]) rfl ?_
        unfold PostN
        rw [HO.out, pelR_f HO.out]
        exact ⟨_, rfl, NetAt.nilN _ _ _, b1.trans (fr6.below (B := w.heap.size) (fun k h1 h2 hc => by omega) b1.size)⟩
      · have hP : (spl 10 s.data.toList).length = i.length + 1 := by rw [hil]; simp
        have hlast : nthS (spl 10 s.data.toList) i.length = l := by
          rw [hil]; unfold nthS; rw [List.getD_eq_getElem?_getD, List.getElem?_append_right (Nat.le_refl _)]; simp
        obtain ⟨g, o, rfl, _, hc⟩ := Rd.at (Ow.rd ownL) (show i.length < _ by omega)
        have hc2 : w1.cell? ⟨g, o + i.length, none⟩ = some (.string (bs l)) := by rw [← hlast]; exact hc
        have hlb : ((bs l).toList == []) = false := bs_test_ne hl
        have hil2 : 1 ≤ i.length := by omega
        have hil3 : i.length ≤ 6001 := by rw [hP, HSL.out] at hcnt; omega
        rw [hP]
        clear hne hil hlast hc hl h2 hP ownL hcnt
        have e0 := BR.cell 0 _ rfl
        have e1 := BR.cell 1 _ rfl
        have e2 := BR.cell 2 _ rfl
        have f0 := BR.frozen 0
        have f1 := BR.frozen 1
        have f2 := BR.frozen 2
        go_wp2_with fail
        clear e0 e1 e2 f0 f1 f2
        generalize hW : World.setCell _ _ _ = W
        have B6 : Bx W (w.heap.size) 25 #[.slice none 0 0, .slice none 0 0, .slice none 0 0] := by rw [← hW]; exact ((BR.set 0 _).set 1 _).set 2 _
        have fr6 : Fr (fun k => k = w.heap.size) w1 W := by rw [← hW]; exact fr3 _ _ _ _ _
        clear hW
        have z6 := fr6.size
        have d0 := B6.cell 0 _ rfl
        have d1 := B6.cell 1 _ rfl
        have d2 := B6.cell 2 _ rfl
        refine bodyPost_ret (v := .tuple #[.agg #[.slice none 0 0, .slice none 0 0, .slice none 0 0], .bool false]) (by simp [results, Tryz.results4, go_sem, d0, d1, d2]) rfl ?_
        unfold PostN
        rw [HO.out, pelR_f HO.out]
        exact ⟨_, rfl, NetAt.nilN _ _ _, b1.trans (fr6.below (B := w.heap.size) (fun k h1 h2 hc => by omega) b1.size)⟩
  case inl =>
    have hP : spl 10 s.data.toList = spl 10 a ++ [[]] := by rw [ha]; exact spl_end 10 a
    have HOK : Hid (pelOk s.data.toList = pelGood a) := by show _ = _; rw [ha]; exact pelOk_of (by rw [← ha, HSL.out]; exact hlen)
    have HRR : Hid (pelR s.data.toList = ifN (pelOk s.data.toList) (pelN (pelK a) (pelLs a) (pelLs a).length)) := by show _ = _; rw [ha]; exact pelR_of a
    have hLl := pelLs_len a
    have hm : (spl 10 s.data.toList).length = (pelLs a).length + 2 := by rw [hP, List.length_append]; simp; omega
    rw [hm] at ownL hcnt ⊢
    have hm6 : (pelLs a).length ≤ 6000 := by rw [HSL.out] at hcnt; omega
    obtain ⟨g, F, rfl, hgl, hgh, hr, hf⟩ := ownL.2.2 (by have := ownL.1; omega)
    have hcm : (pelLs a).length + 2 ≤ cL := ownL.1
    have hcn : ¬ cL = 1 := by omega
    have HCE : Hid (∀ j, j < (pelLs a).length + 2 → w1.cell? ⟨g, j, none⟩ = some (.string (bs (nthS (spl 10 s.data.toList) j)))) := fun j hj => by
      rw [hr.cell (by have := ownL.1; omega), hf j (by omega)]; rfl
    have hc0 : w1.cell? ⟨g, 0, none⟩ = some (.string (bs ((spl 10 a).getD 0 []))) := by
      rw [HCE.out 0 (by omega), hP, nthS_append_left _ _ _ (by omega)]; rfl
    have hcl : w1.cell? ⟨g, (pelLs a).length + 1, none⟩ = some (.string (bs [])) := by
      rw [HCE.out _ (by omega), hP, nthS_append_right _ _ _ (by omega), show (pelLs a).length + 1 - (spl 10 a).length = 0 by omega]; rfl
    have HLN : Hid (∀ k, k < (pelLs a).length → w1.cell? ⟨g, 1 + k, none⟩ = some (.string (bs ((pelLs a).getD k [])))) := fun k hk => by
      rw [HCE.out _ (by omega), hP, nthS_append_left _ _ _ (by omega), pelLs_at]; rfl
    have HLL : Hid (∀ k, k < (pelLs a).length → ((pelLs a).getD k []).length ≤ 6000) := fun k hk => by
      have h1 : (pelLs a).getD k [] ∈ spl 10 a := by
        rw [pelLs_at, List.getD_eq_getElem?_getD, List.getElem?_eq_getElem (by omega)]
        exact List.getElem_mem (by omega)
      have h2 := spl_le 10 a _ h1
      have h3 : a.length ≤ 6000 := by have := congrArg List.length ha; rw [HSL.out] at this; simp at this; omega
      omega
    have hl0 : ((spl 10 a).getD 0 []).length ≤ 6000 := by
      have h1 : (spl 10 a).getD 0 [] ∈ spl 10 a := by
        rw [List.getD_eq_getElem?_getD, List.getElem?_eq_getElem (by omega)]
        exact List.getElem_mem (by omega)
      have h2 := spl_le 10 a _ h1
      have h3 : a.length ≤ 6000 := by have := congrArg List.length ha; rw [HSL.out] at this; simp at this; omega
      omega
    have HRd : Hid (∀ X, Calls Tryz.prog 11 #[.string (bs ((spl 10 a).getD 0 []))] X fun e w' => e = .returned (.int .i64 (pelHd a)) ∧ w' = X) := fun X => l1Read_any _ X (by rw [bs_size]; omega)
    have hGH := pelGood_hd (a := a)
    have hGO := pelGood_of (a := a)
    have hKB := pelK_bd (a := a)
    have hAO := fun k => pelAll_op (a := a) (k := k)
    have hAD := fun k => pelAll_deg (a := a) (k := k)
    have hAE := pelAll_end (a := a)
    have hlb : ((bs []).toList == []) = true := bs_test_nil rfl
    clear hr hf hP ownL HCE ha hcnt
    generalize (spl 10 a).getD 0 [] = l0 at *
    generalize pelHd a = hd at *
    generalize pelK a = n at *
    generalize pelGood a = gd at *
    generalize pelAll a = al at *
    generalize hls : pelLs a = ls at *
    clear hls
    obtain ⟨m, hmm⟩ : ∃ m, m = ls.length := ⟨_, rfl⟩
    rw [← hmm] at HRR hLl hm hcl HLN HLL hAO hAD hAE hm6 hcm ⊢
    have HMM := Lib.hid hmm
    clear hmm hm hLl
    cases hin : inR hd 1 40 with
    | false =>
      have HO : Hid (pelOk s.data.toList = false) := HOK.out.trans (hGH hin)
      clear hGH hGO hKB hAO hAD hAE
      have e0 := BR.cell 0 _ rfl
      have e1 := BR.cell 1 _ rfl
      have e2 := BR.cell 2 _ rfl
      have f0 := BR.frozen 0
      have f1 := BR.frozen 1
      have f2 := BR.frozen 2
      go_wp2_with (first | (go_at_call 11; refine (HRd.out _).mono ?_; rintro e w' ⟨rfl, hww⟩; subst w') | (go_at_call 10; refine (l1In_any _ _ _ _).mono ?_; rintro e w' ⟨rfl, rfl⟩))
      clear e0 e1 e2 f0 f1 f2
      generalize hW : World.setCell _ _ _ = W
      have B6 : Bx W (w.heap.size) 25 #[.slice none 0 0, .slice none 0 0, .slice none 0 0] := by rw [← hW]; exact ((BR.set 0 _).set 1 _).set 2 _
      have fr6 : Fr (fun k => k = w.heap.size) w1 W := by rw [← hW]; exact fr3 _ _ _ _ _
      clear hW
      have z6 := fr6.size
      have d0 := B6.cell 0 _ rfl
      have d1 := B6.cell 1 _ rfl
      have d2 := B6.cell 2 _ rfl
      refine bodyPost_ret (v := .tuple #[.agg #[.slice none 0 0, .slice none 0 0, .slice none 0 0], .bool false]) (by simp [results, Tryz.results4, go_sem, d0, d1, d2]) rfl ?_
      unfold PostN
      rw [HO.out, pelR_f HO.out]
      exact ⟨_, rfl, NetAt.nilN _ _ _, b1.trans (fr6.below (B := w.heap.size) (fun k h1 h2 hc => by omega) b1.size)⟩
    | true =>
      obtain ⟨hn1, hn40, hhd⟩ := hKB hin
      have HGO : Hid (pelOk s.data.toList = al) := HOK.out.trans (hGO hin)
      have HNE : Hid (∀ X, Calls Tryz.prog 12 #[.int .i64 hd] X fun e w' => ∃ v, e = .returned v ∧ NetAt w' X.heap.size w'.heap.size v (emptyN n) ∧ Below X.heap.size X w') := fun X => by rw [hhd]; exact neEmpty_any n X (by omega)
      have HAO := Lib.hid hAO
      have HAD := Lib.hid hAD
      have HAE := Lib.hid hAE
      have HD0 : Hid (degB (pelN n ls 0).ends = true) := decide_eq_true fun v _ => by rw [show (pelN n ls 0).ends = List.replicate n [] from rfl, rowOf_nil]; exact Nat.zero_le _
      clear hGH hGO hKB hhd HOK hAO hAD hAE
      go_upto_region 5 with (first | (go_at_call 11; refine (HRd.out _).mono ?_; rintro e w' ⟨rfl, hww⟩; subst w') | (go_at_call 10; refine (l1In_any _ _ _ _).mono ?_; rintro e w' ⟨rfl, rfl⟩) | (go_at_call 12; refine (HNE.out _).mono ?_; rintro e w2 ⟨v2, rfl, own2, bel2⟩; obtain ⟨ae, ce, aie, cie, ape, cpe, rfl, own2⟩ := own2.shape))
      replace BR := BR.new bel2
      have BO := Bx.made w2 25 #[.slice ae (emptyN n).ends.length ce, .slice aie (emptyN n).ids.length cie, .slice ape (emptyN n).inputs.length cpe]
      have b2 : Below w2.heap.size w2 (w2.alloc (.cells #[.slice ae (emptyN n).ends.length ce, .slice aie (emptyN n).ids.length cie, .slice ape (emptyN n).inputs.length cpe] 25)) := (by repeat (first | exact Below.refl _ _ | assumption | refine Below.alloc ?_ (by first | (simp; done) | (simp; omega) | omega) _ | refine Below.setCell ?_ (by first | (simp; done) | (simp; omega) | omega) _ | refine Below.drew ?_ | refine Below.drewN ?_ _))
      generalize w2.alloc (.cells #[.slice ae (emptyN n).ends.length ce, .slice aie (emptyN n).ids.length cie, .slice ape (emptyN n).inputs.length cpe] 25) = w3 at *
      obtain ⟨b, hb⟩ : ∃ b, b = w2.heap.size := ⟨_, rfl⟩
      rw [← hb] at BO ⊢
      replace BR := BR.new b2
      have zR1 : w.heap.size + 1 ≤ w1.heap.size := by omega
      have own3 : NetAt w3 (w.heap.size + 1) w3.heap.size _ _ := (own2.new b2).wide zR1 b2.size
      have b13 := bel2.trans (b2.mono bel2.size)
      have b3 := b1.trans (b13.mono z1)
      have zb : b < w3.heap.size := BO.lt
      have zb1 : w1.heap.size ≤ b := by have := bel2.size; omega
      clear hb bel2 b2 own2 HNE HRd hc0 hcl hlb hin
      go_wp2_with fail
      rw [show m + 2 - 1 - 1 = m from rfl]
      go_loopw [50] (fun iv wr => ∃ k : Nat, k ≤ m ∧ iv = .int .i64 k ∧ (∀ j, j < k → (pelOp n (ls.getD j [])).isSome = true) ∧ degB (pelN n ls k).ends = true ∧ (∃ a c ai ci ap cp, Bx wr b 25 #[.slice a (pelN n ls k).ends.length c, .slice ai (pelN n ls k).ids.length ci, .slice ap (pelN n ls k).inputs.length cp] ∧ NetAt wr (w.heap.size + 1) wr.heap.size (.agg #[.slice a (pelN n ls k).ends.length c, .slice ai (pelN n ls k).ids.length ci, .slice ap (pelN n ls k).inputs.length cp]) (pelN n ls k)) ∧ Bx wr w.heap.size 25 #[.slice none 0 0, .slice none 0 0, .slice none 0 0] ∧ Below w.heap.size w wr ∧ Below w1.heap.size w1 wr ∧ b < wr.heap.size) (fun iv _ => m - (intOf iv).toNat)
      case atStart => exact ⟨0, Nat.zero_le _, rfl, fun j hj => absurd hj (by omega), HD0.out, ⟨ae, ce, aie, cie, ape, cpe, BO, own3⟩, BR, b3, b13, zb⟩
      case round =>
        clear BO own3 BR b3 b13 zb
        obtain ⟨k, hk, rfl, hops, hdeg, ⟨a0, c0, ai0, ci0, ap0, cp0, BO, own⟩, BR, bw, b1w, zbw⟩ := hrel
        have HOPS := Lib.hid hops
        have HDEG := Lib.hid hdeg
        have zw := bw.size
        have zw1 := b1w.size
        clear hops hdeg
        obtain ⟨w4, hw4⟩ : ∃ w4, w4 = wr := ⟨_, rfl⟩
        subst hw4
        have HPF := Lib.hid (pel_facts n ls k)
        by_cases hlt : k < m
        · have hcl := (b1w.cell (p := ⟨g, 1 + k, none⟩) (by show g < _; omega)).trans (HLN.out k hlt)
          have hll := HLL.out k hlt
          have HOPk := Lib.hid (HAO.out k hlt)
          have HNX : Hid (∀ op, pelOp n (ls.getD k []) = some op → pelN n ls (k + 1) = pelDo (pelN n ls k) op) := fun op h => by rw [pelN, h]
          have HDG := Lib.hid (HAD.out (k + 1) (by omega))
          have HPF1 := Lib.hid (pel_facts n ls (k + 1))
          generalize hNk : (pelN n ls k) = Nk at *
          clear hNk
          generalize hN1 : pelN n ls (k + 1) = N1 at *
          have HN1 := Lib.hid hN1
          clear hN1
          obtain ⟨l, hl⟩ : ∃ l, l = ls.getD k [] := ⟨_, rfl⟩
          have HLK := Lib.hid hl
          rw [← hl] at hcl hll HOPk HNX
          clear hl
          have HSq := Lib.hid (fun X => l1SplitZ_any (bs l) 32 32 rfl X (by rw [bs_size]; omega))
          rw [bs_data] at HSq
          have hq1 := spl_cnt 32 l
          have HQL := Lib.hid (fun x hx => spl_le 32 l x hx)
          have hq0 : 1 ≤ (spl 32 l).length := by
            have : (spl 32 l).length ≠ 0 := fun h => spl_ne 32 l (List.length_eq_zero_iff.1 h)
            omega
          go_wp2_with fail
          refine (HSq.out _).mono ?_
          rintro e w5 ⟨aq, cq, rfl, ownq, bel5⟩
          clear hcl
          have HQR : Hid (∀ i, i < (spl 32 l).length → nth ((spl 32 l).map readL) i = readL (nthS (spl 32 l) i)) := fun i hi => by
            rw [nth_eq_getElem _ _ (by rw [List.length_map]; exact hi), nthS_eq_getElem _ _ hi]; simp
          have HQS : Hid (∀ i, i < (spl 32 l).length → (nthS (spl 32 l) i).length ≤ 6000) := fun i hi => by
            rw [nthS_eq_getElem _ _ hi]
            exact Nat.le_trans (HQL.out _ (List.getElem_mem hi)) hll
          obtain ⟨Q, hQ⟩ : ∃ Q, Q = spl 32 l := ⟨_, rfl⟩
          have HQ := Lib.hid hQ
          rw [← hQ] at ownq HQR HQS hq1 hq0 ⊢
          clear hQ HQL HSq
          have hrdq := Ow.rd ownq
          replace BO := BO.new bel5
          replace BR := BR.new bel5
          have own5 := own.new bel5
          have zbw5 : b < w5.heap.size := BO.lt
          replace bw := bw.trans (bel5.mono zw)
          replace b1w := b1w.trans (bel5.mono zw1)
          have z5 := bw.size
          have z15 := b1w.size
          have z45 := bel5.size
          clear ownq own zw zw1 zbw
          go_wp2_with fail
          go_loopw [8, 57] (fun lv iv wx => ∃ i : Nat, i ≤ Q.length ∧ iv = .int .i64 i ∧ (∃ a cap, lv = .slice a i cap ∧ Ow wx w5.heap.size wx.heap.size 3 1 a i cap (cellI (Q.map readL))) ∧ Below w5.heap.size w5 wx) (fun _ iv _ => Q.length - (intOf iv).toNat)
          case atStart => exact ⟨0, Nat.zero_le _, rfl, ⟨none, 0, rfl, Ow.nil _ _ _ _ _ _ _⟩, Below.refl _ _⟩
          case round =>
            obtain ⟨i, hi, rfl, ⟨bl, cbl, rfl, ownb⟩, belx⟩ := hrel
            have zx := belx.size
            by_cases hil : i < Q.length
            · obtain ⟨g5, o5, rfl, hg5, hcell5⟩ := Rd.at hrdq hil
              have hc5 : wr.cell? ⟨g5, o5 + i, none⟩ = some (.string (bs (nthS Q i))) := (belx.cell (p := ⟨g5, o5 + i, none⟩) (by show g5 < _; omega)).trans hcell5
              have HQI := Lib.hid (HQR.out i hil)
              have hwl := HQS.out i hil
              clear hcell5
              generalize nthS Q i = q at *
              have HRN : Hid (∀ X, Calls Tryz.prog 11 #[.string (bs q)] X fun e w' => e = .returned (.int .i64 (readL q)) ∧ w' = X) := fun X => l1Read_any (bs q) X (by rw [bs_size]; omega)
              generalize readL q = z at *
              go_wp2_with (first | (go_at_call 11; refine (HRN.out _).mono ?_; rintro e w9 ⟨rfl, hww⟩; subst w9) | (at_builtin; refine wpList_app rfl _ _ _ rfl 3 (.int .i64 0) 1 8 Tryz.underlying23 int_info rfl (by decide) w5.heap.size wr.heap.size bl i cbl _ rfl (ownb.alloc _) ⟨wr.heap.size, 0, none⟩ 1 1 [.int .i64 z] rfl rfl (cell_one_new _ _ _) (by simp [Value.oneCell']) (by decide) (by unfold maxLen; omega) (by omega) (by simp; omega) ?_; intro g' cap' w6 own6 hgr _ _))
              go_roundw
              case rel => exact ⟨i + 1, by omega, by go_num, ⟨some ⟨g', 0, none⟩, cap', rfl, own6.congr (cellI_app HQI.out)⟩, below_app (belx.alloc zx _) (ownb.alloc _) hgr (Nat.le_refl _) (by simp; omega)⟩
              case measure => simp [intOf]; omega
            · obtain rfl : i = Q.length := by omega
              obtain ⟨w6, hw6⟩ : ∃ w6, w6 = wr := ⟨_, rfl⟩
              subst hw6
              replace BO := BO.new belx
              replace BR := BR.new belx
              have own6 := own5.new belx
              have zb6 : b < w6.heap.size := BO.lt
              have bw6 := bw.trans (belx.mono z5)
              have b16 := b1w.trans (belx.mono z15)
              have z6 := bw6.size
              clear own5 bw b1w hrdq HQR HQS
              have hlen1 := HPF.out.len
              have hNe : ((Nk.ends.length : Nat) : Int) - 1 = (n : Int) - 1 := by rw [hlen1]
              have hNe0 := hNe
              clear hlen1 hNe0
              have HNL := Lib.hid hNe
              clear hNe
              have hnl : Nk.ends.length ≤ 40 := by rw [HPF.out.len]; exact hn40
              by_cases hq2 : 2 < Q.length
              · have HO : Hid (pelOk s.data.toList = false) := HGO.out.trans (HOPk.out (pelOp_many (by rw [← HQ.out]; exact hq2)))
                have q0 := BO.cell 0 _ rfl
                have e0 := BR.cell 0 _ rfl
                have e1 := BR.cell 1 _ rfl
                have e2 := BR.cell 2 _ rfl
                have f0 := BR.frozen 0
                have f1 := BR.frozen 1
                have f2 := BR.frozen 2
                go_wp2_with fail
                clear e0 e1 e2 f0 f1 f2
                generalize hW : World.setCell _ _ _ = W
                have B6 : Bx W (w.heap.size) 25 #[.slice none 0 0, .slice none 0 0, .slice none 0 0] := by rw [← hW]; exact ((BR.set 0 _).set 1 _).set 2 _
                have fr6 : Fr (fun k => k = w.heap.size) w6 W := by rw [← hW]; exact fr3 _ _ _ _ _
                clear hW
                have z6 := fr6.size
                have d0 := B6.cell 0 _ rfl
                have d1 := B6.cell 1 _ rfl
                have d2 := B6.cell 2 _ rfl
                refine bodyPost_ret (v := .tuple #[.agg #[.slice none 0 0, .slice none 0 0, .slice none 0 0], .bool false]) (by simp [results, Tryz.results4, go_sem, d0, d1, d2]) rfl ?_
                unfold PostN
                rw [HO.out, pelR_f HO.out]
                exact ⟨_, rfl, NetAt.nilN _ _ _, bw6.trans (fr6.below (B := w.heap.size) (fun k h1 h2 hc => by omega) bw6.size)⟩
              · rcases (show (∃ x, Q = [x]) ∨ (∃ x y, Q = [x, y]) by
                  match h : Q, hq0, hq2 with
                  | [x], _, _ => exact .inl ⟨x, rfl⟩
                  | [x, y], _, _ => exact .inr ⟨x, y, rfl⟩
                  | _ :: _ :: _ :: _, _, h2 => exact absurd h2 (by simp)) with ⟨x, rfl⟩ | ⟨x, y, rfl⟩
                · skip
                  have hqe : [x].length = 1 := rfl
                  have HALL : Hid (∀ X B, RdI X B bl [readL x] → Calls Tryz.prog 13 #[.slice bl 1 cbl, .int .i64 0, .int .i64 ((Nk.ends.length : Int) - 1)] X fun e w' => e = .returned (.bool (pelNode n x)) ∧ Below X.heap.size X w') := fun X B h => allOne_any bl cbl n B x _ HNL.out X h
                  have HOP := Lib.hid (pelOp_one (n := n) HQ.out.symm)
                  have HC1 := Lib.hid hqe
                  obtain ⟨hn9, hm9, h39⟩ := ownb
                  have hcb9 : 1 ≤ cbl := hn9
                  obtain ⟨gl, Fl, rfl, hgl9, hgh9, hr9, hf9⟩ := h39 (by omega)
                  have s0 : w6.cell? ⟨gl, 0, none⟩ = some (.int .i64 (readL x)) := by rw [hr9.cell (by omega), hf9 0 (by show 0 < 1 * 1; omega)]; rfl
                  have hrdI : RdI w6 w6.heap.size (some ⟨gl, 0, none⟩) [readL x] := fun _ => ⟨gl, 0, rfl, by omega, fun j hj => by
                    rw [Nat.zero_add, hr9.cell (by have : [readL x].length = 1 := rfl; omega), hf9 j (by have : [readL x].length = 1 := rfl; omega)]; rfl⟩
                  clear hr9 hf9 hn9 hm9 h39 hqe
                  have q0 := BO.cell 0 _ rfl
                  go_wp2_with fail
                  refine (HALL.out _ _ hrdI).mono ?_
                  rintro e w7 ⟨rfl, bel7⟩
                  replace BO := BO.new bel7
                  replace BR := BR.new bel7
                  have own7 := own6.new bel7
                  have zb7 : b < w7.heap.size := BO.lt
                  have bw7 := bw6.trans (bel7.mono z6)
                  have b17 := b16.trans (bel7.mono b16.size)
                  have z7 := bw7.size
                  replace s0 := (bel7.cell (World.block_lt_of_cell? _ _ s0)).trans s0
                  skip
                  clear q0 hrdI own6 bw6 b16 HALL
                  cases hpn : pelNode n x with
                  | false =>
                    have HO : Hid (pelOk s.data.toList = false) := HGO.out.trans (HOPk.out (by rw [HOP.out]; rw [hpn]; rfl))
                    clear hpn
                    have e0 := BR.cell 0 _ rfl
                    have e1 := BR.cell 1 _ rfl
                    have e2 := BR.cell 2 _ rfl
                    have f0 := BR.frozen 0
                    have f1 := BR.frozen 1
                    have f2 := BR.frozen 2
                    go_wp2_with fail
                    clear e0 e1 e2 f0 f1 f2
                    generalize hW : World.setCell _ _ _ = W
                    have B6 : Bx W (w.heap.size) 25 #[.slice none 0 0, .slice none 0 0, .slice none 0 0] := by rw [← hW]; exact ((BR.set 0 _).set 1 _).set 2 _
                    have fr6 : Fr (fun k => k = w.heap.size) w7 W := by rw [← hW]; exact fr3 _ _ _ _ _
                    clear hW
                    have z6 := fr6.size
                    have d0 := B6.cell 0 _ rfl
                    have d1 := B6.cell 1 _ rfl
                    have d2 := B6.cell 2 _ rfl
                    refine bodyPost_ret (v := .tuple #[.agg #[.slice none 0 0, .slice none 0 0, .slice none 0 0], .bool false]) (by simp [results, Tryz.results4, go_sem, d0, d1, d2]) rfl ?_
                    unfold PostN
                    rw [HO.out, pelR_f HO.out]
                    exact ⟨_, rfl, NetAt.nilN _ _ _, bw7.trans (fr6.below (B := w.heap.size) (fun k h1 h2 hc => by omega) bw7.size)⟩
                  | true =>
                    obtain ⟨hx1, hx2⟩ := pelNode_nat hpn
                    have HN1e : Hid (stubN Nk (readL x).toNat = N1) := by
                      show _ = _
                      rw [HNX.out _ (by rw [HOP.out, if_pos hpn])]; rfl
                    have HSOME : Hid ((pelOp n l).isSome = true) := by show _ = _; rw [HOP.out, if_pos hpn]; rfl
                    clear hpn
                    generalize (readL x).toNat = v at *
                    have hvl : v < Nk.ends.length := by rw [HPF.out.len]; exact hx2
                    rw [hx1] at s0
                    clear hx1
                    go_upto_region 17 with fail
                    have HK : Hid (∀ X, Below w7.heap.size w7 X → X.cell? ⟨gl, 0, none⟩ = some (.int .i64 (v : Int))) := fun X hX => (hX.cell (World.block_lt_of_cell? _ _ s0)).trans s0
                    have HSM := Lib.hid (HPF.out.small hn40 (by omega))
                    refine wp_region_held_drew (S := fun X => X.cell? ⟨gl, 0, none⟩ = some (.int .i64 (v : Int))) (by kernel_rfl) (HK.out _ (Below.refl _ _).drew) (fun hHeld => ?_)
                    clear s0 
                    refine wpAnyH_take (i := 1) (v := ?_) rfl (by kernel_rfl) (by kernel_rfl) (by kernel_rfl) (fun _ _ _ h => h) (Or.inl ⟨by rfl, ?_⟩) (by assumption) ?_
                    rotate_left
                    · (intro w hSw; (try dsimp only at hSw); go_simp; try with_reducible rfl)
                    try simp only [Act.put, List.getElem_toArray, List.getElem_cons_zero, List.getElem_cons_succ, List.setIfInBounds_toArray, List.set_cons_zero, List.set_cons_succ]
                    refine wpAnyH_take (i := 2) (v := ?_) rfl (by kernel_rfl) (by kernel_rfl) (by kernel_rfl) (fun _ _ _ h => h) (Or.inl ⟨by rfl, ?_⟩) (by assumption) ?_
                    rotate_left
                    · (intro w hSw; (try dsimp only at hSw); go_simp; try with_reducible rfl)
                    try simp only [Act.put, List.getElem_toArray, List.getElem_cons_zero, List.getElem_cons_succ, List.setIfInBounds_toArray, List.set_cons_zero, List.set_cons_succ]
                    refine wpAnyH_take (i := 3) (v := ?_) rfl (by kernel_rfl) (by kernel_rfl) (by kernel_rfl) (fun _ _ _ h => h) (Or.inl ⟨by rfl, ?_⟩) (by assumption) ?_
                    rotate_left
                    · (intro w hSw; (try dsimp only at hSw); go_simp; try with_reducible rfl)
                    try simp only [Act.put, List.getElem_toArray, List.getElem_cons_zero, List.getElem_cons_succ, List.setIfInBounds_toArray, List.set_cons_zero, List.set_cons_succ]
                    refine wpAnyH_ready (rs := [0]) (by kernel_rfl) (by simp) ?_
                    refine AllReadyH.cons (o := _) rfl (fun K hK => ?_) AllReadyH.nil
                    have q0 : w7.drew.cell? _ = _ := BO.cell 0 _ rfl
                    have q1 : w7.drew.cell? _ = _ := BO.cell 1 _ rfl
                    have q2 : w7.drew.cell? _ = _ := BO.cell 2 _ rfl
                    go_simp
                    clear q0 q1 q2
                    refine hK.out _ _ (HK.out _ (Below.refl _ _).drew) (fun hHeld => ?_)
                    clear hK K
                    try simp only [Act.put, List.getElem_toArray, List.getElem_cons_zero, List.getElem_cons_succ, List.setIfInBounds_toArray, List.set_cons_zero, List.set_cons_succ]
                    refine wpAnyH_ready (rs := [4]) (by kernel_rfl) (by simp) ?_
                    refine AllReadyH.cons (o := _) rfl (fun K hK => ?_) AllReadyH.nil
                    go_simp
                    have own8 : NetAt w7.drew (w.heap.size + 1) w7.drew.heap.size _ Nk := own7.wide (Nat.le_refl _) (by show _ ≤ w7.heap.size; have := bel7.size; omega)
                    refine (neStub_any _ Nk v w7.drew w7.drew.heap.size own8.in_ (Nat.le_refl _) HSM.out hvl).mono ?_
                    rintro e w9 ⟨v9, rfl, own9, bel9⟩
                    have bel9' : Below w7.heap.size w7 w9 := ((Below.refl _ _).drew).trans bel9
                    have z9 : w7.heap.size ≤ w9.heap.size := bel9.size
                    rw [HN1e.out] at own9
                    obtain ⟨a9, c9, ai9, ci9, ap9, cp9, rfl, own9⟩ := own9.shape
                    replace own9 : NetAt w9 (w.heap.size + 1) w9.heap.size _ _ := own9.wide (by show _ ≤ w7.heap.size; omega) (Nat.le_refl _)
                    replace BO := BO.new bel9'
                    replace BR := BR.new bel9'
                    replace bw7 := bw7.trans (bel9'.mono z7)
                    have hkp := HK.out _ bel9'
                    clear own7 own8 bel9
                    refine hK.out _ _ hkp (fun hHeld => ?_)
                    clear hK K
                    try simp only [Act.put, List.getElem_toArray, List.getElem_cons_zero, List.getElem_cons_succ, List.setIfInBounds_toArray, List.set_cons_zero, List.set_cons_succ]
                    have q0 := BO.cell 0 _ rfl
                    have q1 := BO.cell 1 _ rfl
                    have q2 := BO.cell 2 _ rfl
                    have f0 := BO.frozen 0
                    have f1 := BO.frozen 1
                    have f2 := BO.frozen 2
                    refine wpAnyH_ready (rs := [5]) (by kernel_rfl) (by simp) ?_
                    refine AllReadyH.cons (o := _) rfl (fun K hK => ?_) AllReadyH.nil
                    go_simp
                    clear q0 q1 q2 f0 f1 f2
                    generalize hW : World.setCell _ _ _ = W
                    have BO2 : Bx W b 25 #[.slice a9 N1.ends.length c9, .slice ai9 N1.ids.length ci9, .slice ap9 N1.inputs.length cp9] := by rw [← hW]; exact ((BO.set 0 _).set 1 _).set 2 _
                    have frW : Fr (fun k => k = b) w9 W := by rw [← hW]; exact fr3 _ _ _ _ _
                    clear hW
                    have own10 := own9.frBx BO frW
                    replace BR := BR.fr frW (by omega)
                    have belW := frW.below (B := w1.heap.size) (fun k h1 h2 hc => by omega) (by have := b17.size; omega)
                    have hkp2 := (Fr.cellZ frW (p := ⟨gl, 0, none⟩) (by show gl < _; have := bel7.size; omega) (by show ¬ gl = b; omega)).trans hkp
                    replace bw7 := bw7.trans (frW.below (B := w.heap.size) (fun k h1 h2 hc => by omega) bw7.size)
                    have b1W := (b17.trans (bel9'.mono b17.size)).trans belW
                    have zW := frW.size
                    refine hK.out _ _ hkp2 (fun hHeld => ?_)
                    clear hK K
                    try simp only [Act.put, List.getElem_toArray, List.getElem_cons_zero, List.getElem_cons_succ, List.setIfInBounds_toArray, List.set_cons_zero, List.set_cons_succ]
                    refine wpAnyH_done (by kernel_rfl) ?_ _
                    have own11 : NetAt W (w.heap.size + 1) W.heap.size _ N1 := own10.wide (Nat.le_refl _) zW
                    have HGD := Lib.hid (HPF1.out.good hn1 hn40)
                    have HSM1 := Lib.hid (HPF1.out.small hn40 (by omega))
                    have q0 := BO2.cell 0 _ rfl
                    have q1 := BO2.cell 1 _ rfl
                    have q2 := BO2.cell 2 _ rfl
                    go_wp2_with fail
                    refine (neGood_any _ N1 W W.heap.size own11.in_ (Nat.le_refl _) HSM1.out).mono ?_
                    rintro e w10 ⟨rfl, bel10⟩
                    replace BO2 := BO2.new bel10
                    replace BR := BR.new bel10
                    have own12 := own11.new bel10
                    have bw10 := bw7.trans (bel10.mono bw7.size)
                    have b1x := b1W.trans (bel10.mono b1W.size)
                    have zb10 : b < w10.heap.size := BO2.lt
                    rw [HGD.out]
                    clear q0 q1 q2 own11 own10
                    cases hd1 : degB N1.ends with
                    | false =>
                      have HO : Hid (pelOk s.data.toList = false) := HGO.out.trans (HDG.out hd1)
                      clear hd1
                      have e0 := BR.cell 0 _ rfl
                      have e1 := BR.cell 1 _ rfl
                      have e2 := BR.cell 2 _ rfl
                      have f0 := BR.frozen 0
                      have f1 := BR.frozen 1
                      have f2 := BR.frozen 2
                      go_wp2_with fail
                      clear e0 e1 e2 f0 f1 f2
                      generalize hW : World.setCell _ _ _ = W
                      have B6 : Bx W (w.heap.size) 25 #[.slice none 0 0, .slice none 0 0, .slice none 0 0] := by rw [← hW]; exact ((BR.set 0 _).set 1 _).set 2 _
                      have fr6 : Fr (fun k => k = w.heap.size) w10 W := by rw [← hW]; exact fr3 _ _ _ _ _
                      clear hW
                      have z6 := fr6.size
                      have d0 := B6.cell 0 _ rfl
                      have d1 := B6.cell 1 _ rfl
                      have d2 := B6.cell 2 _ rfl
                      refine bodyPost_ret (v := .tuple #[.agg #[.slice none 0 0, .slice none 0 0, .slice none 0 0], .bool false]) (by simp [results, Tryz.results4, go_sem, d0, d1, d2]) rfl ?_
                      unfold PostN
                      rw [HO.out, pelR_f HO.out]
                      exact ⟨_, rfl, NetAt.nilN _ _ _, bw10.trans (fr6.below (B := w.heap.size) (fun k h1 h2 hc => by omega) bw10.size)⟩
                    | true =>
                      have HD1 := Lib.hid hd1
                      have HOS : Hid (∀ j, j < k + 1 → (pelOp n (ls.getD j [])).isSome = true) := all_snoc (p := fun j => (pelOp n (ls.getD j [])).isSome = true) HOPS.out (by show (pelOp n (ls.getD k [])).isSome = true; rw [← HLK.out]; exact HSOME.out)
                      clear hd1
                      go_wp2_with fail
                      go_roundw
                      case rel => exact ⟨k + 1, by omega, by go_num, HOS.out, by rw [HN1.out]; exact HD1.out, ⟨a9, c9, ai9, ci9, ap9, cp9, by rw [HN1.out]; exact BO2, by rw [HN1.out]; exact own12.wide (Nat.le_refl _) bel10.size⟩, BR, bw10, b1x, zb10⟩
                      case measure => simp [intOf]; omega
                · skip
                  have hqe : [x, y].length = 2 := rfl
                  have HALL : Hid (∀ X B, RdI X B bl [readL x, readL y] → Calls Tryz.prog 13 #[.slice bl 2 cbl, .int .i64 0, .int .i64 ((Nk.ends.length : Int) - 1)] X fun e w' => e = .returned (.bool (pelNode n x && pelNode n y)) ∧ Below X.heap.size X w') := fun X B h => allTwo_any bl cbl n B x y _ HNL.out X h
                  have HOP := Lib.hid (pelOp_two (n := n) HQ.out.symm)
                  have HC1 := Lib.hid hqe
                  obtain ⟨hn9, hm9, h39⟩ := ownb
                  have hcb9 : 2 ≤ cbl := hn9
                  obtain ⟨gl, Fl, rfl, hgl9, hgh9, hr9, hf9⟩ := h39 (by omega)
                  have s0 : w6.cell? ⟨gl, 0, none⟩ = some (.int .i64 (readL x)) := by rw [hr9.cell (by omega), hf9 0 (by show 0 < 2 * 1; omega)]; rfl
                  have s1 : w6.cell? ⟨gl, 1, none⟩ = some (.int .i64 (readL y)) := by rw [hr9.cell (by omega), hf9 1 (by show 1 < 2 * 1; omega)]; rfl
                  have hrdI : RdI w6 w6.heap.size (some ⟨gl, 0, none⟩) [readL x, readL y] := fun _ => ⟨gl, 0, rfl, by omega, fun j hj => by
                    rw [Nat.zero_add, hr9.cell (by have : [readL x, readL y].length = 2 := rfl; omega), hf9 j (by have : [readL x, readL y].length = 2 := rfl; omega)]; rfl⟩
                  clear hr9 hf9 hn9 hm9 h39 hqe
                  have q0 := BO.cell 0 _ rfl
                  go_wp2_with fail
                  refine (HALL.out _ _ hrdI).mono ?_
                  rintro e w7 ⟨rfl, bel7⟩
                  replace BO := BO.new bel7
                  replace BR := BR.new bel7
                  have own7 := own6.new bel7
                  have zb7 : b < w7.heap.size := BO.lt
                  have bw7 := bw6.trans (bel7.mono z6)
                  have b17 := b16.trans (bel7.mono b16.size)
                  have z7 := bw7.size
                  replace s0 := (bel7.cell (World.block_lt_of_cell? _ _ s0)).trans s0
                  replace s1 := (bel7.cell (World.block_lt_of_cell? _ _ s1)).trans s1
                  clear q0 hrdI own6 bw6 b16 HALL
                  cases hpn : (pelNode n x && pelNode n y) with
                  | false =>
                    have HO : Hid (pelOk s.data.toList = false) := HGO.out.trans (HOPk.out (by rw [HOP.out]; rw [if_neg (fun hh => by rw [hh.1, hh.2] at hpn; cases hpn)]))
                    clear hpn
                    have e0 := BR.cell 0 _ rfl
                    have e1 := BR.cell 1 _ rfl
                    have e2 := BR.cell 2 _ rfl
                    have f0 := BR.frozen 0
                    have f1 := BR.frozen 1
                    have f2 := BR.frozen 2
                    go_wp2_with fail
                    clear e0 e1 e2 f0 f1 f2
                    generalize hW : World.setCell _ _ _ = W
                    have B6 : Bx W (w.heap.size) 25 #[.slice none 0 0, .slice none 0 0, .slice none 0 0] := by rw [← hW]; exact ((BR.set 0 _).set 1 _).set 2 _
                    have fr6 : Fr (fun k => k = w.heap.size) w7 W := by rw [← hW]; exact fr3 _ _ _ _ _
                    clear hW
                    have z6 := fr6.size
                    have d0 := B6.cell 0 _ rfl
                    have d1 := B6.cell 1 _ rfl
                    have d2 := B6.cell 2 _ rfl
                    refine bodyPost_ret (v := .tuple #[.agg #[.slice none 0 0, .slice none 0 0, .slice none 0 0], .bool false]) (by simp [results, Tryz.results4, go_sem, d0, d1, d2]) rfl ?_
                    unfold PostN
                    rw [HO.out, pelR_f HO.out]
                    exact ⟨_, rfl, NetAt.nilN _ _ _, bw7.trans (fr6.below (B := w.heap.size) (fun k h1 h2 hc => by omega) bw7.size)⟩
                  | true =>
                    rw [Bool.and_eq_true] at hpn
                    obtain ⟨hx1, hx2⟩ := pelNode_nat hpn.1
                    obtain ⟨hy1, hy2⟩ := pelNode_nat hpn.2
                    have HN1e : Hid (joinN Nk (readL x).toNat (readL y).toNat = N1) := by
                      show _ = _
                      rw [HNX.out _ (by rw [HOP.out, if_pos hpn])]; rfl
                    have HSOME : Hid ((pelOp n l).isSome = true) := by show _ = _; rw [HOP.out, if_pos hpn]; rfl
                    clear hpn
                    generalize (readL x).toNat = v at *
                    generalize (readL y).toNat = u at *
                    have hvl : v < Nk.ends.length := by rw [HPF.out.len]; exact hx2
                    have hul : u < Nk.ends.length := by rw [HPF.out.len]; exact hy2
                    rw [hx1] at s0
                    rw [hy1] at s1
                    clear hx1 hy1
                    go_upto_region 18 with fail
                    have HK : Hid (∀ X, Below w7.heap.size w7 X → X.cell? ⟨gl, 0, none⟩ = some (.int .i64 (v : Int)) ∧ X.cell? ⟨gl, 1, none⟩ = some (.int .i64 (u : Int))) := fun X hX => ⟨(hX.cell (World.block_lt_of_cell? _ _ s0)).trans s0, (hX.cell (World.block_lt_of_cell? _ _ s1)).trans s1⟩
                    have HSM := Lib.hid (HPF.out.small hn40 (by omega))
                    refine wp_region_held_drew (S := fun X => X.cell? ⟨gl, 0, none⟩ = some (.int .i64 (v : Int)) ∧ X.cell? ⟨gl, 1, none⟩ = some (.int .i64 (u : Int))) (by kernel_rfl) (HK.out _ (Below.refl _ _).drew) (fun hHeld => ?_)
                    clear s0 s1
                    refine wpAnyH_take (i := 1) (v := ?_) rfl (by kernel_rfl) (by kernel_rfl) (by kernel_rfl) (fun _ _ _ h => h) (Or.inl ⟨by rfl, ?_⟩) (by assumption) ?_
                    rotate_left
                    · (intro w hSw; (try dsimp only at hSw); obtain ⟨hq0, hq1⟩ := hSw; go_simp; try with_reducible rfl)
                    try simp only [Act.put, List.getElem_toArray, List.getElem_cons_zero, List.getElem_cons_succ, List.setIfInBounds_toArray, List.set_cons_zero, List.set_cons_succ]
                    refine wpAnyH_take (i := 2) (v := ?_) rfl (by kernel_rfl) (by kernel_rfl) (by kernel_rfl) (fun _ _ _ h => h) (Or.inl ⟨by rfl, ?_⟩) (by assumption) ?_
                    rotate_left
                    · (intro w hSw; (try dsimp only at hSw); obtain ⟨hq0, hq1⟩ := hSw; go_simp; try with_reducible rfl)
                    try simp only [Act.put, List.getElem_toArray, List.getElem_cons_zero, List.getElem_cons_succ, List.setIfInBounds_toArray, List.set_cons_zero, List.set_cons_succ]
                    refine wpAnyH_take (i := 3) (v := ?_) rfl (by kernel_rfl) (by kernel_rfl) (by kernel_rfl) (fun _ _ _ h => h) (Or.inl ⟨by rfl, ?_⟩) (by assumption) ?_
                    rotate_left
                    · (intro w hSw; (try dsimp only at hSw); obtain ⟨hq0, hq1⟩ := hSw; go_simp; try with_reducible rfl)
                    try simp only [Act.put, List.getElem_toArray, List.getElem_cons_zero, List.getElem_cons_succ, List.setIfInBounds_toArray, List.set_cons_zero, List.set_cons_succ]
                    refine wpAnyH_take (i := 4) (v := ?_) rfl (by kernel_rfl) (by kernel_rfl) (by kernel_rfl) (fun _ _ _ h => h) (Or.inl ⟨by rfl, ?_⟩) (by assumption) ?_
                    rotate_left
                    · (intro w hSw; (try dsimp only at hSw); obtain ⟨hq0, hq1⟩ := hSw; go_simp; try with_reducible rfl)
                    try simp only [Act.put, List.getElem_toArray, List.getElem_cons_zero, List.getElem_cons_succ, List.setIfInBounds_toArray, List.set_cons_zero, List.set_cons_succ]
                    refine wpAnyH_take (i := 5) (v := ?_) rfl (by kernel_rfl) (by kernel_rfl) (by kernel_rfl) (fun _ _ _ h => h) (Or.inl ⟨by rfl, ?_⟩) (by assumption) ?_
                    rotate_left
                    · (intro w hSw; (try dsimp only at hSw); obtain ⟨hq0, hq1⟩ := hSw; go_simp; try with_reducible rfl)
                    try simp only [Act.put, List.getElem_toArray, List.getElem_cons_zero, List.getElem_cons_succ, List.setIfInBounds_toArray, List.set_cons_zero, List.set_cons_succ]
                    refine wpAnyH_take (i := 6) (v := ?_) rfl (by kernel_rfl) (by kernel_rfl) (by kernel_rfl) (fun _ _ _ h => h) (Or.inl ⟨by rfl, ?_⟩) (by assumption) ?_
                    rotate_left
                    · (intro w hSw; (try dsimp only at hSw); obtain ⟨hq0, hq1⟩ := hSw; go_simp; try with_reducible rfl)
                    try simp only [Act.put, List.getElem_toArray, List.getElem_cons_zero, List.getElem_cons_succ, List.setIfInBounds_toArray, List.set_cons_zero, List.set_cons_succ]
                    refine wpAnyH_ready (rs := [0]) (by kernel_rfl) (by simp) ?_
                    refine AllReadyH.cons (o := _) rfl (fun K hK => ?_) AllReadyH.nil
                    have q0 : w7.drew.cell? _ = _ := BO.cell 0 _ rfl
                    have q1 : w7.drew.cell? _ = _ := BO.cell 1 _ rfl
                    have q2 : w7.drew.cell? _ = _ := BO.cell 2 _ rfl
                    go_simp
                    clear q0 q1 q2
                    refine hK.out _ _ (HK.out _ (Below.refl _ _).drew) (fun hHeld => ?_)
                    clear hK K
                    try simp only [Act.put, List.getElem_toArray, List.getElem_cons_zero, List.getElem_cons_succ, List.setIfInBounds_toArray, List.set_cons_zero, List.set_cons_succ]
                    refine wpAnyH_ready (rs := [7]) (by kernel_rfl) (by simp) ?_
                    refine AllReadyH.cons (o := _) rfl (fun K hK => ?_) AllReadyH.nil
                    go_simp
                    have own8 : NetAt w7.drew (w.heap.size + 1) w7.drew.heap.size _ Nk := own7.wide (Nat.le_refl _) (by show _ ≤ w7.heap.size; have := bel7.size; omega)
                    refine (neJoin_any _ Nk v u w7.drew w7.drew.heap.size own8.in_ (Nat.le_refl _) HSM.out hvl hul).mono ?_
                    rintro e w9 ⟨v9, rfl, own9, bel9⟩
                    have bel9' : Below w7.heap.size w7 w9 := ((Below.refl _ _).drew).trans bel9
                    have z9 : w7.heap.size ≤ w9.heap.size := bel9.size
                    rw [HN1e.out] at own9
                    obtain ⟨a9, c9, ai9, ci9, ap9, cp9, rfl, own9⟩ := own9.shape
                    replace own9 : NetAt w9 (w.heap.size + 1) w9.heap.size _ _ := own9.wide (by show _ ≤ w7.heap.size; omega) (Nat.le_refl _)
                    replace BO := BO.new bel9'
                    replace BR := BR.new bel9'
                    replace bw7 := bw7.trans (bel9'.mono z7)
                    have hkp := HK.out _ bel9'
                    clear own7 own8 bel9
                    refine hK.out _ _ hkp (fun hHeld => ?_)
                    clear hK K
                    try simp only [Act.put, List.getElem_toArray, List.getElem_cons_zero, List.getElem_cons_succ, List.setIfInBounds_toArray, List.set_cons_zero, List.set_cons_succ]
                    have q0 := BO.cell 0 _ rfl
                    have q1 := BO.cell 1 _ rfl
                    have q2 := BO.cell 2 _ rfl
                    have f0 := BO.frozen 0
                    have f1 := BO.frozen 1
                    have f2 := BO.frozen 2
                    refine wpAnyH_ready (rs := [8]) (by kernel_rfl) (by simp) ?_
                    refine AllReadyH.cons (o := _) rfl (fun K hK => ?_) AllReadyH.nil
                    go_simp
                    clear q0 q1 q2 f0 f1 f2
                    generalize hW : World.setCell _ _ _ = W
                    have BO2 : Bx W b 25 #[.slice a9 N1.ends.length c9, .slice ai9 N1.ids.length ci9, .slice ap9 N1.inputs.length cp9] := by rw [← hW]; exact ((BO.set 0 _).set 1 _).set 2 _
                    have frW : Fr (fun k => k = b) w9 W := by rw [← hW]; exact fr3 _ _ _ _ _
                    clear hW
                    have own10 := own9.frBx BO frW
                    replace BR := BR.fr frW (by omega)
                    have belW := frW.below (B := w1.heap.size) (fun k h1 h2 hc => by omega) (by have := b17.size; omega)
                    have hkp2 := And.intro ((Fr.cellZ frW (p := ⟨gl, 0, none⟩) (by show gl < _; have := bel7.size; omega) (by show ¬ gl = b; omega)).trans hkp.1) ((Fr.cellZ frW (p := ⟨gl, 1, none⟩) (by show gl < _; have := bel7.size; omega) (by show ¬ gl = b; omega)).trans hkp.2)
                    replace bw7 := bw7.trans (frW.below (B := w.heap.size) (fun k h1 h2 hc => by omega) bw7.size)
                    have b1W := (b17.trans (bel9'.mono b17.size)).trans belW
                    have zW := frW.size
                    refine hK.out _ _ hkp2 (fun hHeld => ?_)
                    clear hK K
                    try simp only [Act.put, List.getElem_toArray, List.getElem_cons_zero, List.getElem_cons_succ, List.setIfInBounds_toArray, List.set_cons_zero, List.set_cons_succ]
                    refine wpAnyH_done (by kernel_rfl) ?_ _
                    have own11 : NetAt W (w.heap.size + 1) W.heap.size _ N1 := own10.wide (Nat.le_refl _) zW
                    have HGD := Lib.hid (HPF1.out.good hn1 hn40)
                    have HSM1 := Lib.hid (HPF1.out.small hn40 (by omega))
                    have q0 := BO2.cell 0 _ rfl
                    have q1 := BO2.cell 1 _ rfl
                    have q2 := BO2.cell 2 _ rfl
                    go_wp2_with fail
                    refine (neGood_any _ N1 W W.heap.size own11.in_ (Nat.le_refl _) HSM1.out).mono ?_
                    rintro e w10 ⟨rfl, bel10⟩
                    replace BO2 := BO2.new bel10
                    replace BR := BR.new bel10
                    have own12 := own11.new bel10
                    have bw10 := bw7.trans (bel10.mono bw7.size)
                    have b1x := b1W.trans (bel10.mono b1W.size)
                    have zb10 : b < w10.heap.size := BO2.lt
                    rw [HGD.out]
                    clear q0 q1 q2 own11 own10
                    cases hd1 : degB N1.ends with
                    | false =>
                      have HO : Hid (pelOk s.data.toList = false) := HGO.out.trans (HDG.out hd1)
                      clear hd1
                      have e0 := BR.cell 0 _ rfl
                      have e1 := BR.cell 1 _ rfl
                      have e2 := BR.cell 2 _ rfl
                      have f0 := BR.frozen 0
                      have f1 := BR.frozen 1
                      have f2 := BR.frozen 2
                      go_wp2_with fail
                      clear e0 e1 e2 f0 f1 f2
                      generalize hW : World.setCell _ _ _ = W
                      have B6 : Bx W (w.heap.size) 25 #[.slice none 0 0, .slice none 0 0, .slice none 0 0] := by rw [← hW]; exact ((BR.set 0 _).set 1 _).set 2 _
                      have fr6 : Fr (fun k => k = w.heap.size) w10 W := by rw [← hW]; exact fr3 _ _ _ _ _
                      clear hW
                      have z6 := fr6.size
                      have d0 := B6.cell 0 _ rfl
                      have d1 := B6.cell 1 _ rfl
                      have d2 := B6.cell 2 _ rfl
                      refine bodyPost_ret (v := .tuple #[.agg #[.slice none 0 0, .slice none 0 0, .slice none 0 0], .bool false]) (by simp [results, Tryz.results4, go_sem, d0, d1, d2]) rfl ?_
                      unfold PostN
                      rw [HO.out, pelR_f HO.out]
                      exact ⟨_, rfl, NetAt.nilN _ _ _, bw10.trans (fr6.below (B := w.heap.size) (fun k h1 h2 hc => by omega) bw10.size)⟩
                    | true =>
                      have HD1 := Lib.hid hd1
                      have HOS : Hid (∀ j, j < k + 1 → (pelOp n (ls.getD j [])).isSome = true) := all_snoc (p := fun j => (pelOp n (ls.getD j [])).isSome = true) HOPS.out (by show (pelOp n (ls.getD k [])).isSome = true; rw [← HLK.out]; exact HSOME.out)
                      clear hd1
                      go_wp2_with fail
                      go_roundw
                      case rel => exact ⟨k + 1, by omega, by go_num, HOS.out, by rw [HN1.out]; exact HD1.out, ⟨a9, c9, ai9, ci9, ap9, cp9, by rw [HN1.out]; exact BO2, by rw [HN1.out]; exact own12.wide (Nat.le_refl _) bel10.size⟩, BR, bw10, b1x, zb10⟩
                      case measure => simp [intOf]; omega
        · obtain rfl : k = m := by omega
          have hal : al = true := (HAE.out HOPS.out).trans HDEG.out
          have HO : Hid (pelOk s.data.toList = true) := HGO.out.trans hal
          have HR2 : Hid (pelR s.data.toList = (pelN n ls k)) := by show _ = _; rw [HRR.out, HO.out]; rfl
          clear hal
          have q0 := BO.cell 0 _ rfl
          have q1 := BO.cell 1 _ rfl
          have q2 := BO.cell 2 _ rfl
          have e0 := BR.cell 0 _ rfl
          have e1 := BR.cell 1 _ rfl
          have e2 := BR.cell 2 _ rfl
          have f0 := BR.frozen 0
          have f1 := BR.frozen 1
          have f2 := BR.frozen 2
          generalize hNk : (pelN n ls k) = Nk at BO own q0 q1 q2
          have HNk := Lib.hid hNk
          clear hNk
          go_wp2_with fail
          clear q0 q1 q2 e0 e1 e2 f0 f1 f2
          generalize hW : World.setCell _ _ _ = W
          have B6 : Bx W (w.heap.size) 25 #[.slice a0 Nk.ends.length c0, .slice ai0 Nk.ids.length ci0, .slice ap0 Nk.inputs.length cp0] := by rw [← hW]; exact ((BR.set 0 _).set 1 _).set 2 _
          have fr6 : Fr (fun k => k = w.heap.size) w4 W := by rw [← hW]; exact fr3 _ _ _ _ _
          clear hW
          have z6 := fr6.size
          have d0 := B6.cell 0 _ rfl
          have d1 := B6.cell 1 _ rfl
          have d2 := B6.cell 2 _ rfl
          refine bodyPost_ret (v := .tuple #[.agg #[.slice a0 Nk.ends.length c0, .slice ai0 Nk.ids.length ci0, .slice ap0 Nk.inputs.length cp0], .bool true]) (by simp [results, Tryz.results4, go_sem, d0, d1, d2]) rfl ?_
          unfold PostN
          rw [HO.out, HR2.out, HNk.out]
          exact ⟨_, rfl, (own.fr fr6 (fun k h1 h2 hc => by omega)).wide (lo' := w.heap.size) (hi' := W.heap.size) (by omega) (by omega), bw.trans (fr6.below (B := w.heap.size) (fun k h1 h2 hc => by omega) bw.size)⟩
end Go.Proofs.YtmjmgggfmccjmaaGreatDoor
