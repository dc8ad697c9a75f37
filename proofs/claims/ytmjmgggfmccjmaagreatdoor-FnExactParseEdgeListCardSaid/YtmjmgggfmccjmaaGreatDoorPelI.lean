/- ParseEdgeList: impl's walk. -/
import Derived.Test.YtmjmgggfmccjmaaGreatDoorPelS
import Derived.Test.YtmjmgggfmccjmaaGreatDoorNBx
namespace Go.Proofs.YtmjmgggfmccjmaaGreatDoor
open Go.RowKit
set_option linter.unusedVariables false
set_option linter.unusedSimpArgs false

theorem rnV_in (l : List UInt8) : inR (rnV l) 1 40 = inR (readL l) 1 40 := by
  unfold rnV
  split
  · rfl
  · rename_i h
    rw [inR_f (by omega), inR_f (by omega)]
theorem pelNode_ge {n : Nat} {l : List UInt8} (h : decide (0 ≤ readL l) = false) : pelNode n l = false := inR_f (by have := of_decide_eq_false h; omega)
set_option maxRecDepth 100000 in
set_option maxHeartbeats 6400000 in
theorem implPel_any (s : ByteArray) (w : World) (hF : PTab w ∧ SErr w ∧ MLen w) (hs : s.size ≤ 1048576) :
    Calls Tryz.prog 5 #[.string s] w (PostN (pelR s.data.toList) (pelOk s.data.toList) w) := by
  have HSL := Lib.hid (size_list s)
  have HFF : Hid (∀ X, Below w.heap.size w X → PTab X ∧ SErr X ∧ MLen X) := fun X b => ⟨hF.1.below b, hF.2.1.below b, hF.2.2.below b⟩
  have HCS : Hid (∀ X, Calls Tryz.prog 17 #[.string s, .string ⟨#[10]⟩] X fun e w' => e = .returned (.tuple #[.string (bs (Lib.trimSuffix s.data.toList [10])), .bool (Lib.hasSuffix s.data.toList [10])]) ∧ w' = X) := fun X => Tryz.strings_CutSuffix s ⟨#[10]⟩ X (by omega)
  have BR := Bx.made w 25 #[.slice none 0 0, .slice none 0 0, .slice none 0 0]
  have b0 : Below w.heap.size w (w.alloc (.cells #[.slice none 0 0, .slice none 0 0, .slice none 0 0] 25)) := (by repeat (first | exact Below.refl _ _ | assumption | refine Below.alloc ?_ (by first | (simp; done) | (simp; omega) | omega) _ | refine Below.setCell ?_ (by first | (simp; done) | (simp; omega) | omega) _ | refine Below.drew ?_ | refine Below.drewN ?_ _))
  clear hF
  go_enter Tryz.func5, Tryz.ntmps5
  go_upto_region 1 with fail
  generalize w.alloc (.cells #[.slice none 0 0, .slice none 0 0, .slice none 0 0] 25) = w0 at *
  have zR := BR.lt
  by_cases hlong : 6000 < s.size
  · have HO : Hid (pelOk s.data.toList = false) := pelOk_long (by rw [HSL.out]; omega)
    go_wp2_with fail
    refine (HCS.out _).mono ?_
    rintro e w1 ⟨rfl, hww⟩
    subst w1
    have e0 := BR.cell 0 _ rfl
    have e1 := BR.cell 1 _ rfl
    have e2 := BR.cell 2 _ rfl
    have f0 := BR.frozen 0
    have f1 := BR.frozen 1
    have f2 := BR.frozen 2
    go_wp2_with fail
    clear e0 e1 e2 f0 f1 f2
    generalize hW : World.setCell _ _ _ = W
    have B6 : Bx W (w.heap.size) 25 #[.slice none 0 0, .slice none 0 0, .slice none 0 0] := by rw [← hW]; exact ((BR.set 0 _).set 1 _).set 2 _
    have fr6 : Fr (fun k => k = w.heap.size) w0 W := by rw [← hW]; exact fr3 _ _ _ _ _
    clear hW
    have z6 := fr6.size
    have d0 := B6.cell 0 _ rfl
    have d1 := B6.cell 1 _ rfl
    have d2 := B6.cell 2 _ rfl
    refine bodyPost_ret (v := .tuple #[.agg #[.slice none 0 0, .slice none 0 0, .slice none 0 0], .bool false]) (by simp [results, Tryz.results5, go_sem, d0, d1, d2]) rfl ?_
    unfold PostN
    rw [HO.out, pelR_f HO.out]
    exact ⟨_, rfl, NetAt.nilN _ _ _, b0.trans (fr6.below (B := w.heap.size) (fun k h1 h2 hc => by omega) b0.size)⟩
  have hlen : s.size ≤ 6000 := by omega
  rcases ended 10 s.data.toList with ⟨a, ha⟩ | hne
  case inr =>
    have HO := Lib.hid (pelOk_open hne)
    rw [suf_no hne] at HCS
    clear hne
    go_wp2_with fail
    refine (HCS.out _).mono ?_
    rintro e w1 ⟨rfl, hww⟩
    subst w1
    have e0 := BR.cell 0 _ rfl
    have e1 := BR.cell 1 _ rfl
    have e2 := BR.cell 2 _ rfl
    have f0 := BR.frozen 0
    have f1 := BR.frozen 1
    have f2 := BR.frozen 2
    go_wp2_with fail
    clear e0 e1 e2 f0 f1 f2
    generalize hW : World.setCell _ _ _ = W
    have B6 : Bx W (w.heap.size) 25 #[.slice none 0 0, .slice none 0 0, .slice none 0 0] := by rw [← hW]; exact ((BR.set 0 _).set 1 _).set 2 _
    have fr6 : Fr (fun k => k = w.heap.size) w0 W := by rw [← hW]; exact fr3 _ _ _ _ _
    clear hW
    have z6 := fr6.size
    have d0 := B6.cell 0 _ rfl
    have d1 := B6.cell 1 _ rfl
    have d2 := B6.cell 2 _ rfl
    refine bodyPost_ret (v := .tuple #[.agg #[.slice none 0 0, .slice none 0 0, .slice none 0 0], .bool false]) (by simp [results, Tryz.results5, go_sem, d0, d1, d2]) rfl ?_
    unfold PostN
    rw [HO.out, pelR_f HO.out]
    exact ⟨_, rfl, NetAt.nilN _ _ _, b0.trans (fr6.below (B := w.heap.size) (fun k h1 h2 hc => by omega) b0.size)⟩
  case inl =>
    have HOK : Hid (pelOk s.data.toList = pelGood a) := by show _ = _; rw [ha]; exact pelOk_of (by rw [← ha, HSL.out]; exact hlen)
    have HRR : Hid (pelR s.data.toList = ifN (pelOk s.data.toList) (pelN (pelK a) (pelLs a) (pelLs a).length)) := by show _ = _; rw [ha]; exact pelR_of a
    have hal : a.length ≤ 6000 := by have := congrArg List.length ha; rw [HSL.out] at this; simp at this; omega
    have HCS2 : Hid (∀ X, Calls Tryz.prog 17 #[.string s, .string ⟨#[10]⟩] X fun e w' => e = .returned (.tuple #[.string (bs a), .bool true]) ∧ w' = X) := by
      have h := HCS.out
      rw [ha, suf_yes, suf_trim] at h
      exact h
    have HSp : Hid (∀ X, MLen X → Calls Tryz.prog 18 #[.string (bs a), .string ⟨#[10]⟩] X fun e w' => ∃ b cap, e = .returned (.slice b (spl 10 a).length cap) ∧ Ow w' X.heap.size w'.heap.size 9 1 b (spl 10 a).length cap (cellS (spl 10 a)) ∧ Below X.heap.size X w') := fun X h => splitS_any (bs a) 10 X h (by rw [bs_size]; omega)
    have hLl := pelLs_len a
    have hcnt := spl_cnt 10 a
    clear HCS ha
    go_wp2_with fail
    refine (HCS2.out _).mono ?_
    rintro e w1 ⟨rfl, hww⟩
    subst w1
    go_wp2_with fail
    refine (HSp.out _ (HFF.out _ b0).2.2).mono ?_
    rintro e w1 ⟨aL, cL, rfl, ownL, bel1⟩
    replace BR := BR.new bel1
    have b1 := b0.trans (bel1.mono b0.size)
    have z1 := b1.size
    rw [← hLl] at ownL ⊢
    obtain ⟨g, F, rfl, hgl, hgh, hr, hf⟩ := ownL.2.2 (by have := ownL.1; omega)
    have hcm : (pelLs a).length + 1 ≤ cL := ownL.1
    have HCE : Hid (∀ j, j < (pelLs a).length + 1 → w1.cell? ⟨g, j, none⟩ = some (.string (bs (nthS (spl 10 a) j)))) := fun j hj => by
      rw [hr.cell (by omega), hf j (by omega)]; rfl
    have hc0 : w1.cell? ⟨g, 0, none⟩ = some (.string (bs ((spl 10 a).getD 0 []))) := HCE.out 0 (by omega)
    have HLN : Hid (∀ k, k < (pelLs a).length → w1.cell? ⟨g, 1 + k, none⟩ = some (.string (bs ((pelLs a).getD k [])))) := fun k hk => by
      rw [HCE.out _ (by omega), pelLs_at]; rfl
    have HLL : Hid (∀ k, k < (pelLs a).length → ((pelLs a).getD k []).length ≤ 6000) := fun k hk => by
      have h1 : (pelLs a).getD k [] ∈ spl 10 a := by
        rw [pelLs_at, List.getD_eq_getElem?_getD, List.getElem?_eq_getElem (by omega)]
        exact List.getElem_mem (by omega)
      exact Nat.le_trans (spl_le 10 a _ h1) hal
    have hl0 : ((spl 10 a).getD 0 []).length ≤ 6000 := by
      have h1 : (spl 10 a).getD 0 [] ∈ spl 10 a := by
        rw [List.getD_eq_getElem?_getD, List.getElem?_eq_getElem (by omega)]
        exact List.getElem_mem (by omega)
      exact Nat.le_trans (spl_le 10 a _ h1) hal
    have HHD : Hid (pelHd a = readL ((spl 10 a).getD 0 [])) := rfl
    have hm6 : (pelLs a).length ≤ 6000 := by omega
    have hGH := pelGood_hd (a := a)
    have hGO := pelGood_of (a := a)
    have hKB := pelK_bd (a := a)
    have hAO := fun k => pelAll_op (a := a) (k := k)
    have hAE := pelAll_end (a := a)
    clear hr hf ownL HCE bel1 b0 HSp HCS2 hcnt
    generalize (spl 10 a).getD 0 [] = l0 at *
    generalize pelHd a = hd at *
    generalize pelK a = n at *
    generalize pelGood a = gd at *
    generalize pelAll a = al at *
    generalize hls : pelLs a = ls at *
    clear hls
    obtain ⟨m, hmm⟩ : ∃ m, m = ls.length := ⟨_, rfl⟩
    rw [← hmm] at HRR hcm HLN HLL hAO hAE hm6 ⊢
    clear hmm hLl
    have HRN0 := Lib.hid (fun X h1 h2 => readNumber_any (bs l0) X h1 h2 (by rw [bs_size]; omega))
    rw [bs_data] at HRN0
    go_wp2_with fail
    refine (HRN0.out _ (HFF.out _ b1).1 (HFF.out _ b1).2.1).mono ?_
    rintro e w2 ⟨rfl, bel2⟩
    replace BR := BR.new bel2
    have b2 := b1.trans (bel2.mono z1)
    have z2 := b2.size
    have hg2 : g < w2.heap.size := by have := bel2.size; omega
    cases hin : inR hd 1 40 with
    | false =>
      have HO : Hid (pelOk s.data.toList = false) := HOK.out.trans (hGH hin)
      obtain ⟨E0, hE0⟩ : ∃ E, E = nilN := ⟨_, rfl⟩
      have HE0 : Hid (Calls Tryz.prog 20 #[.int .i64 (rnV l0)] w2 (PostN E0 false w2)) := by
        have h := emptyNetwork_any (rnV l0) w2
        rw [rnV_in, ← HHD.out, hin] at h
        rw [hE0]; exact h
      clear hGH hGO hKB hAO hAE hin hc0 hE0
      generalize decide (0 ≤ readL l0) = bok at *
      go_wp2_with fail
      refine HE0.out.mono ?_
      rintro e w3 ⟨v3, rfl, own3, bel3⟩
      obtain ⟨ae, ce, aie, cie, ape, cpe, rfl, own3⟩ := own3.shape
      replace BR := BR.new bel3
      have b3 := b2.trans (bel3.mono z2)
      have z3 := b3.size
      have BR4 := BR.alloc (.cells #[.slice ae E0.ends.length ce, .slice aie E0.ids.length cie, .slice ape E0.inputs.length cpe] 25)
      have b4 : Below w.heap.size w (w3.alloc (.cells #[.slice ae E0.ends.length ce, .slice aie E0.ids.length cie, .slice ape E0.inputs.length cpe] 25)) := b3.alloc z3 _
      go_upto_region 7 with fail
      generalize w3.alloc (.cells #[.slice ae E0.ends.length ce, .slice aie E0.ids.length cie, .slice ape E0.inputs.length cpe] 25) = w4 at *
      replace BR := BR4
      have zR4 := BR.lt
      cases bok with
      | false =>
        skip
        have e0 := BR.cell 0 _ rfl
        have e1 := BR.cell 1 _ rfl
        have e2 := BR.cell 2 _ rfl
        have f0 := BR.frozen 0
        have f1 := BR.frozen 1
        have f2 := BR.frozen 2
        go_wp2_with fail
        clear e0 e1 e2 f0 f1 f2
        generalize hW : World.setCell _ _ _ = W
        have B6 : Bx W (w.heap.size) 25 #[.slice none 0 0, .slice none 0 0, .slice none 0 0] := by rw [← hW]; exact ((BR.set 0 _).set 1 _).set 2 _
        have fr6 : Fr (fun k => k = w.heap.size) w4 W := by rw [← hW]; exact fr3 _ _ _ _ _
        clear hW
        have z6 := fr6.size
        have d0 := B6.cell 0 _ rfl
        have d1 := B6.cell 1 _ rfl
        have d2 := B6.cell 2 _ rfl
        refine bodyPost_ret (v := .tuple #[.agg #[.slice none 0 0, .slice none 0 0, .slice none 0 0], .bool false]) (by simp [results, Tryz.results5, go_sem, d0, d1, d2]) rfl ?_
        unfold PostN
        rw [HO.out, pelR_f HO.out]
        exact ⟨_, rfl, NetAt.nilN _ _ _, b4.trans (fr6.below (B := w.heap.size) (fun k h1 h2 hc => by omega) b4.size)⟩
      | true =>
        skip
        have e0 := BR.cell 0 _ rfl
        have e1 := BR.cell 1 _ rfl
        have e2 := BR.cell 2 _ rfl
        have f0 := BR.frozen 0
        have f1 := BR.frozen 1
        have f2 := BR.frozen 2
        go_wp2_with fail
        clear e0 e1 e2 f0 f1 f2
        generalize hW : World.setCell _ _ _ = W
        have B6 : Bx W (w.heap.size) 25 #[.slice none 0 0, .slice none 0 0, .slice none 0 0] := by rw [← hW]; exact ((BR.set 0 _).set 1 _).set 2 _
        have fr6 : Fr (fun k => k = w.heap.size) w4 W := by rw [← hW]; exact fr3 _ _ _ _ _
        clear hW
        have z6 := fr6.size
        have d0 := B6.cell 0 _ rfl
        have d1 := B6.cell 1 _ rfl
        have d2 := B6.cell 2 _ rfl
        refine bodyPost_ret (v := .tuple #[.agg #[.slice none 0 0, .slice none 0 0, .slice none 0 0], .bool false]) (by simp [results, Tryz.results5, go_sem, d0, d1, d2]) rfl ?_
        unfold PostN
        rw [HO.out, pelR_f HO.out]
        exact ⟨_, rfl, NetAt.nilN _ _ _, b4.trans (fr6.below (B := w.heap.size) (fun k h1 h2 hc => by omega) b4.size)⟩
    | true =>
      obtain ⟨hn1, hn40, hhd⟩ := hKB hin
      have HGO : Hid (pelOk s.data.toList = al) := HOK.out.trans (hGO hin)
      have hr0 : 0 ≤ readL l0 := by rw [← HHD.out, hhd]; omega
      have hbk : decide (0 ≤ readL l0) = true := decide_eq_true hr0
      have hrv : (rnV l0).toNat = n := by rw [rnV_t hr0, ← HHD.out, hhd]; exact Int.toNat_natCast n
      have HE0 : Hid (Calls Tryz.prog 20 #[.int .i64 (rnV l0)] w2 (PostN (emptyN n) true w2)) := by
        have h := emptyNetwork_any (rnV l0) w2
        rw [rnV_in, ← HHD.out, hin, hrv] at h
        exact h
      have HAO := Lib.hid hAO
      have HAE := Lib.hid hAE
      rw [hbk]
      clear hGH hGO hKB hhd HOK hAO hAE hr0 hbk hrv hin hc0 HRN0
      go_wp2_with fail
      refine HE0.out.mono ?_
      rintro e w3 ⟨v3, rfl, own3, bel3⟩
      obtain ⟨ae, ce, aie, cie, ape, cpe, rfl, own3⟩ := own3.shape
      replace BR := BR.new bel3
      have b23 := bel3
      have b3 := b2.trans (bel3.mono z2)
      have z3 := b3.size
      have BO := Bx.made w3 25 #[.slice ae (emptyN n).ends.length ce, .slice aie (emptyN n).ids.length cie, .slice ape (emptyN n).inputs.length cpe]
      have b34 : Below w3.heap.size w3 (w3.alloc (.cells #[.slice ae (emptyN n).ends.length ce, .slice aie (emptyN n).ids.length cie, .slice ape (emptyN n).inputs.length cpe] 25)) := (by repeat (first | exact Below.refl _ _ | assumption | refine Below.alloc ?_ (by first | (simp; done) | (simp; omega) | omega) _ | refine Below.setCell ?_ (by first | (simp; done) | (simp; omega) | omega) _ | refine Below.drew ?_ | refine Below.drewN ?_ _))
      go_upto_region 7 with fail
      generalize w3.alloc (.cells #[.slice ae (emptyN n).ends.length ce, .slice aie (emptyN n).ids.length cie, .slice ape (emptyN n).inputs.length cpe] 25) = w4 at *
      obtain ⟨b, hb⟩ : ∃ b, b = w3.heap.size := ⟨_, rfl⟩
      rw [← hb] at BO ⊢
      clear hb
      replace BR := BR.new b34
      obtain ⟨lo, hlo0⟩ : ∃ lo, lo = w2.heap.size := ⟨_, rfl⟩
      have hNB : NBx w4 lo b (emptyN n) := by rw [hlo0]; exact NBx.of BO (own3.new b34) b34.size
      have b24 : Below lo w2 w4 := by rw [hlo0]; exact b23.trans (b34.mono b23.size)
      have b4 := b3.trans (b34.mono z3)
      have HLN2 : Hid (∀ k, k < m → w2.cell? ⟨g, 1 + k, none⟩ = some (.string (bs (ls.getD k [])))) := fun k hk => (bel2.cell (p := ⟨g, 1 + k, none⟩) hgh).trans (HLN.out k hk)
      have zgl : g < lo := by omega
      have zwl : w.heap.size < lo := by have := b1.size; have := BR.lt; omega
      have hlo4 : lo ≤ w4.heap.size := by have := b24.size; omega
      clear own3 BO b34 b3 z3 bel3 b23 bel2 HLN hlo0 z1 b1 z2
      by_cases hcl1 : cL = 1
      · have hm0 : m = 0 := by omega
        subst hcl1
        subst hm0
        skip
        go_wp2_with fail
        skip
        go_loopw [57] (fun iv wr => ∃ k : Nat, k ≤ 0 ∧ iv = .int .i64 k ∧ (∀ j, j < k → (pelOp n (ls.getD j [])).isSome = true) ∧ NBx wr lo b (pelN n ls k) ∧ Bx wr w.heap.size 25 #[.slice none 0 0, .slice none 0 0, .slice none 0 0] ∧ Below w.heap.size w wr ∧ Below lo w2 wr ∧ lo ≤ wr.heap.size) (fun iv _ => 0 - (intOf iv).toNat)
        case atStart => exact ⟨0, Nat.zero_le _, rfl, fun j hj => absurd hj (by omega), hNB, BR, b4, b24, hlo4⟩
        case round =>
          clear hNB BR b4 b24 hlo4
          obtain ⟨k, hk, rfl, hops, hNB, BR, bw, belw, zlw⟩ := hrel
          have HOPS := Lib.hid hops
          clear hops
          obtain ⟨w5, hw5⟩ : ∃ w5, w5 = wr := ⟨_, rfl⟩
          subst hw5
          have HPF := Lib.hid (pel_facts n ls k)
          have zR5 := BR.lt
          by_cases hlt : k < 0
          · exact absurd hlt (by omega)
          · obtain rfl : k = 0 := by omega
            have hal2 : al = degB (pelN n ls 0).ends := HAE.out HOPS.out
            have hgd2 := HPF.out.good hn1 hn40
            have HSM := Lib.hid (HPF.out.small hn40 (by omega))
            obtain ⟨Nm, hNm⟩ : ∃ N, N = pelN n ls 0 := ⟨_, rfl⟩
            have HOK2 : Hid (pelOk s.data.toList = netB Nm) := HGO.out.trans (by rw [hNm, hal2, hgd2])
            have HR2 : Hid (pelR s.data.toList = ifN (netB Nm) Nm) := by show _ = _; rw [HRR.out, HOK2.out, hNm]
            rw [← hNm] at hNB HSM
            clear hal2 hgd2 hNm HPF HAE HRR
            obtain ⟨ab, c, vs, ai, ci, ap, cp, hbx, hE, owni, ownp, hdis⟩ := id hNB
            have q0 := hbx.cell 0 _ rfl
            have q1 := hbx.cell 1 _ rfl
            have q2 := hbx.cell 2 _ rfl
            have own : NetAt w5 lo w5.heap.size (.agg #[.slice ab Nm.ends.length c, .slice ai Nm.ids.length ci, .slice ap Nm.inputs.length cp]) Nm := ⟨ab, c, vs, ai, ci, ap, cp, rfl, hE, owni, ownp, hdis⟩
            have HNW := Lib.hid (network_any _ Nm w5 lo w5.heap.size own (Nat.le_refl _) zlw HSM.out)
            generalize netB Nm = ok at *
            generalize ifN ok Nm = R1 at *
            clear hE owni ownp hdis own hNB
            go_wp2_with fail
            refine HNW.out.mono ?_
            rintro e w7 ⟨v7, rfl, own7, bel7⟩
            obtain ⟨a7, c7, ai7, ci7, ap7, cp7, rfl, own7⟩ := own7.shape
            replace BR := BR.new bel7
            have bw7 := bw.trans (bel7.mono bw.size)
            have zR7 := BR.lt
            clear q0 q1 q2 hbx HNW
            have e0 := BR.cell 0 _ rfl
            have e1 := BR.cell 1 _ rfl
            have e2 := BR.cell 2 _ rfl
            have f0 := BR.frozen 0
            have f1 := BR.frozen 1
            have f2 := BR.frozen 2
            go_wp2_with fail
            clear e0 e1 e2 f0 f1 f2
            generalize hW : World.setCell _ _ _ = W
            have B6 : Bx W (w.heap.size) 25 #[.slice a7 R1.ends.length c7, .slice ai7 R1.ids.length ci7, .slice ap7 R1.inputs.length cp7] := by rw [← hW]; exact ((BR.set 0 _).set 1 _).set 2 _
            have fr6 : Fr (fun k => k = w.heap.size) w7 W := by rw [← hW]; exact fr3 _ _ _ _ _
            clear hW
            have z6 := fr6.size
            have d0 := B6.cell 0 _ rfl
            have d1 := B6.cell 1 _ rfl
            have d2 := B6.cell 2 _ rfl
            refine bodyPost_ret (v := .tuple #[.agg #[.slice a7 R1.ends.length c7, .slice ai7 R1.ids.length ci7, .slice ap7 R1.inputs.length cp7], .bool ok]) (by simp [results, Tryz.results5, go_sem, d0, d1, d2]) rfl ?_
            unfold PostN
            rw [HOK2.out, HR2.out]
            exact ⟨_, rfl, (own7.fr fr6 (fun k h1 h2 hc => by omega)).wide (lo' := w.heap.size) (hi' := W.heap.size) (by omega) (by omega), bw7.trans (fr6.below (B := w.heap.size) (fun k h1 h2 hc => by omega) bw7.size)⟩
      · skip
        go_wp2_with fail
        skip
        go_loopw [57] (fun iv wr => ∃ k : Nat, k ≤ m ∧ iv = .int .i64 k ∧ (∀ j, j < k → (pelOp n (ls.getD j [])).isSome = true) ∧ NBx wr lo b (pelN n ls k) ∧ Bx wr w.heap.size 25 #[.slice none 0 0, .slice none 0 0, .slice none 0 0] ∧ Below w.heap.size w wr ∧ Below lo w2 wr ∧ lo ≤ wr.heap.size) (fun iv _ => m - (intOf iv).toNat)
        case atStart => exact ⟨0, Nat.zero_le _, rfl, fun j hj => absurd hj (by omega), hNB, BR, b4, b24, hlo4⟩
        case round =>
          clear hNB BR b4 b24 hlo4
          obtain ⟨k, hk, rfl, hops, hNB, BR, bw, belw, zlw⟩ := hrel
          have HOPS := Lib.hid hops
          clear hops
          obtain ⟨w5, hw5⟩ : ∃ w5, w5 = wr := ⟨_, rfl⟩
          subst hw5
          have HPF := Lib.hid (pel_facts n ls k)
          have zR5 := BR.lt
          by_cases hlt : k < m
          · have hcl := (belw.cell (p := ⟨g, 1 + k, none⟩) (by show g < _; omega)).trans (HLN2.out k hlt)
            have hll := HLL.out k hlt
            have HOPk := Lib.hid (HAO.out k hlt)
            have HNX : Hid (∀ op, pelOp n (ls.getD k []) = some op → pelN n ls (k + 1) = pelDo (pelN n ls k) op) := fun op h => by rw [pelN, h]
            have HSMk := Lib.hid (HPF.out.small hn40 (by omega))
            generalize hNk : pelN n ls k = Nk at *
            clear hNk
            have hlen1 : Nk.ends.length = n := HPF.out.len
            have HLEN := Lib.hid hlen1
            have hnl : Nk.ends.length ≤ 40 := by omega
            clear hlen1
            obtain ⟨N1, hN1⟩ : ∃ N1, N1 = pelN n ls (k + 1) := ⟨_, rfl⟩
            have HN1 := Lib.hid hN1
            rw [← hN1] at HNX
            clear hN1
            obtain ⟨l, hl⟩ : ∃ l, l = ls.getD k [] := ⟨_, rfl⟩
            have HLK := Lib.hid hl
            rw [← hl] at hcl hll HOPk HNX
            clear hl
            have hc1 : (Lib.cut l [32]).1.length ≤ 1048576 := by
              rcases byte_cut 32 l with h | ⟨a, r, rfl, h2⟩
              · rw [cut_one_none h]; show l.length ≤ _; omega
              · rw [cut_one_some h2]; simp at hll; show a.length ≤ _; omega
            have hc2 : (Lib.cut l [32]).2.1.length ≤ 1048576 := by
              rcases byte_cut 32 l with h | ⟨a, r, rfl, h2⟩
              · rw [cut_one_none h]; show 0 ≤ _; omega
              · rw [cut_one_some h2]; simp at hll; show r.length ≤ _; omega
            have HOC := Lib.hid (pelOp_cut n l)
            have HCut : Hid (∀ X, MLen X → Calls Tryz.prog 21 #[.string (bs l), .string ⟨#[32]⟩] X fun e w' => e = .returned (.tuple #[.string (bs (Lib.cut l [32]).1), .string (bs (Lib.cut l [32]).2.1), .bool (Lib.cut l [32]).2.2]) ∧ ∃ n, w' = X.drewN n) := fun X ⟨m, hm⟩ => Tryz.strings_Cut (bs l) ⟨#[32]⟩ m X (by rw [bs_size]; omega) hm
            generalize (Lib.cut l [32]).1 = c1 at *
            generalize (Lib.cut l [32]).2.1 = c2 at *
            generalize (Lib.cut l [32]).2.2 = fo at *
            have HR1 : Hid (∀ X, PTab X → SErr X → Calls Tryz.prog 19 #[.string (bs c1)] X fun e w' => e = .returned (.tuple #[.int .i64 (rnV c1), .bool (decide (0 ≤ readL c1))]) ∧ Below X.heap.size X w') := fun X h1 h2 => readNumber_any (bs c1) X h1 h2 (by rw [bs_size]; exact hc1)
            have HR2 : Hid (∀ X, PTab X → SErr X → Calls Tryz.prog 19 #[.string (bs c2)] X fun e w' => e = .returned (.tuple #[.int .i64 (rnV c2), .bool (decide (0 ≤ readL c2))]) ∧ Below X.heap.size X w') := fun X h1 h2 => readNumber_any (bs c2) X h1 h2 (by rw [bs_size]; exact hc2)
            obtain ⟨b1, hb1⟩ : ∃ b, b = decide (0 ≤ readL c1) := ⟨_, rfl⟩
            obtain ⟨b2, hb2⟩ : ∃ b, b = decide (0 ≤ readL c2) := ⟨_, rfl⟩
            rw [← hb1] at HR1
            rw [← hb2] at HR2
            have HB1 := Lib.hid hb1
            have HB2 := Lib.hid hb2
            clear hb1 hb2 hc1 hc2
            go_wp2_with fail
            refine (HCut.out _ (HFF.out _ bw).2.2).mono ?_
            rintro e w6 ⟨rfl, n6, hw6⟩
            have bel6 : Below w5.heap.size w5 w6 := by rw [hw6]; exact Below.drewN (Below.refl _ _) n6
            clear hw6 HCut hcl
            replace hNB := NBx.new hNB bel6
            replace BR := BR.new bel6
            replace bw := bw.trans (bel6.mono bw.size)
            replace belw := belw.trans (bel6.mono zlw)
            replace zlw : lo ≤ w6.heap.size := by have := bel6.size; omega
            have zRw6 := BR.lt
            go_wp2_with fail
            refine (HR1.out _ (HFF.out _ bw).1 (HFF.out _ bw).2.1).mono ?_
            rintro e w7 ⟨rfl, bel7⟩
            replace hNB := NBx.new hNB bel7
            replace BR := BR.new bel7
            replace bw := bw.trans (bel7.mono bw.size)
            replace belw := belw.trans (bel7.mono zlw)
            replace zlw : lo ≤ w7.heap.size := by have := bel7.size; omega
            have zRw7 := BR.lt
            go_wp2_with fail
            refine (HR2.out _ (HFF.out _ bw).1 (HFF.out _ bw).2.1).mono ?_
            rintro e w8 ⟨rfl, bel8⟩
            replace hNB := NBx.new hNB bel8
            replace BR := BR.new bel8
            replace bw := bw.trans (bel8.mono bw.size)
            replace belw := belw.trans (bel8.mono zlw)
            replace zlw : lo ≤ w8.heap.size := by have := bel8.size; omega
            have zRw8 := BR.lt
            clear HR1 HR2
            obtain ⟨ab, c, vs, ai, ci, ap, cp, hbx, hE, owni, ownp, hdis⟩ := id hNB
            have q0 := hbx.cell 0 _ rfl
            have q1 := hbx.cell 1 _ rfl
            have q2 := hbx.cell 2 _ rfl
            cases b1 with
            | false =>
              have HO : Hid (pelOk s.data.toList = false) := HGO.out.trans (HOPk.out (by rw [HOC.out, if_neg (by rw [pelNode_ge HB1.out.symm]; decide)]))
              have e0 := BR.cell 0 _ rfl
              have e1 := BR.cell 1 _ rfl
              have e2 := BR.cell 2 _ rfl
              have f0 := BR.frozen 0
              have f1 := BR.frozen 1
              have f2 := BR.frozen 2
              go_wp2_with fail
              clear e0 e1 e2 f0 f1 f2
              generalize hW : World.setCell _ _ _ = W
              have B6 : Bx W (w.heap.size) 25 #[.slice none 0 0, .slice none 0 0, .slice none 0 0] := by rw [← hW]; exact ((BR.set 0 _).set 1 _).set 2 _
              have fr6 : Fr (fun k => k = w.heap.size) w8 W := by rw [← hW]; exact fr3 _ _ _ _ _
              clear hW
              have z6 := fr6.size
              have d0 := B6.cell 0 _ rfl
              have d1 := B6.cell 1 _ rfl
              have d2 := B6.cell 2 _ rfl
              refine bodyPost_ret (v := .tuple #[.agg #[.slice none 0 0, .slice none 0 0, .slice none 0 0], .bool false]) (by simp [results, Tryz.results5, go_sem, d0, d1, d2]) rfl ?_
              unfold PostN
              rw [HO.out, pelR_f HO.out]
              exact ⟨_, rfl, NetAt.nilN _ _ _, bw.trans (fr6.below (B := w.heap.size) (fun k h1 h2 hc => by omega) bw.size)⟩
            | true =>
              have hge1 : 0 ≤ readL c1 := of_decide_eq_true HB1.out.symm
              have HH1 : Hid (∀ X, Calls Tryz.prog 22 #[.agg #[.slice ab Nk.ends.length c, .slice ai Nk.ids.length ci, .slice ap Nk.inputs.length cp], .int .i64 (rnV c1)] X fun e w' => e = .returned (.bool (pelNode n c1)) ∧ Below X.heap.size X w') := fun X => by
                have h := hasNode_any ab ai ap Nk.ends c Nk.ids.length ci Nk.inputs.length cp (rnV c1) X (by omega)
                rw [show hasN Nk.ends (rnV c1) = pelNode n c1 by unfold hasN pelNode; rw [HLEN.out, rnV_t hge1]] at h
                exact h
              go_wp2_with fail
              refine (HH1.out _).mono ?_
              rintro e w9 ⟨rfl, bel9⟩
              clear q0 q1 q2 hbx hE owni ownp hdis
              replace hNB := NBx.new hNB bel9
              replace BR := BR.new bel9
              replace bw := bw.trans (bel9.mono bw.size)
              replace belw := belw.trans (bel9.mono zlw)
              replace zlw : lo ≤ w9.heap.size := by have := bel9.size; omega
              have zRw9 := BR.lt
              cases hp1 : pelNode n c1 with
              | false =>
                have HO : Hid (pelOk s.data.toList = false) := HGO.out.trans (HOPk.out (by rw [HOC.out, if_neg (by rw [hp1]; decide)]))
                clear hp1
                have e0 := BR.cell 0 _ rfl
                have e1 := BR.cell 1 _ rfl
                have e2 := BR.cell 2 _ rfl
                have f0 := BR.frozen 0
                have f1 := BR.frozen 1
                have f2 := BR.frozen 2
                go_wp2_with fail
                clear e0 e1 e2 f0 f1 f2
                generalize hW : World.setCell _ _ _ = W
                have B6 : Bx W (w.heap.size) 25 #[.slice none 0 0, .slice none 0 0, .slice none 0 0] := by rw [← hW]; exact ((BR.set 0 _).set 1 _).set 2 _
                have fr6 : Fr (fun k => k = w.heap.size) w9 W := by rw [← hW]; exact fr3 _ _ _ _ _
                clear hW
                have z6 := fr6.size
                have d0 := B6.cell 0 _ rfl
                have d1 := B6.cell 1 _ rfl
                have d2 := B6.cell 2 _ rfl
                refine bodyPost_ret (v := .tuple #[.agg #[.slice none 0 0, .slice none 0 0, .slice none 0 0], .bool false]) (by simp [results, Tryz.results5, go_sem, d0, d1, d2]) rfl ?_
                unfold PostN
                rw [HO.out, pelR_f HO.out]
                exact ⟨_, rfl, NetAt.nilN _ _ _, bw.trans (fr6.below (B := w.heap.size) (fun k h1 h2 hc => by omega) bw.size)⟩
              | true =>
                obtain ⟨hx1, hx2⟩ := pelNode_nat hp1
                cases fo with
                | false =>
                  have HOPS1 : Hid (pelOp n l = some ((readL c1).toNat, none)) := by show _ = _; rw [HOC.out, if_pos hp1, if_neg (by decide)]
                  have HN1e : Hid (stubN Nk (readL c1).toNat = N1) := by show _ = _; rw [HNX.out _ HOPS1.out]; rfl
                  have HSOME : Hid ((pelOp n l).isSome = true) := by show _ = _; rw [HOPS1.out]; rfl
                  have hrv1 : rnV c1 = ((readL c1).toNat : Int) := by rw [rnV_t hge1]; exact hx1
                  rw [hrv1]
                  clear hp1 HOPk HNX HOC hx1 hge1 HB1 HB2 HOPS1 hrv1 HH1
                  generalize (readL c1).toNat = p at *
                  obtain ⟨ab, c, vs, ai, ci, ap, cp, hbx, hE, owni, ownp, hdis⟩ := id hNB
                  have hvl : p < Nk.ends.length := by rw [HLEN.out]; exact hx2
                  obtain ⟨A, hA, _, _⟩ := Ow.addr hE.1 (by omega)
                  subst hA
                  have HNI := Lib.hid (fun (k : Nat) (hk : blk ai ci = some k) => rb_ne hE (by omega) owni hk)
                  have HNP := Lib.hid (fun (k : Nat) (hk : blk ap cp = some k) => rb_ne hE (by omega) ownp hk)
                  have HIN := Lib.hid (fun (k : Nat) (h : RB A Nk.ends vs k) => rb_in hE (by omega) h)
                  have hv1 := hvl
                  have hlo := zlw
                  have hvn : p < n := hx2
                  have hlv := HSMk.out.row p hvl
                  rw [HLEN.out] at hbx
                  have q0 := hbx.cell 0 _ rfl
                  go_upto_region 15 with fail
                  clear q0
                  have hS0 : w9.drew.cell? ⟨b, 0, none⟩ = some (.slice (some ⟨A, 0, none⟩) n c) := hbx.cell 0 _ rfl
                  have hw1 : Below w9.heap.size w9 (w9.drew.alloc (.cells #[.int .i64 (p : Int), .int .i64 ((rowOf Nk.ends p).length : Int)] 52)) := (by repeat (first | exact Below.refl _ _ | assumption | refine Below.alloc ?_ (by first | (simp; done) | (simp; omega) | omega) _ | refine Below.setCell ?_ (by first | (simp; done) | (simp; omega) | omega) _ | refine Below.drew ?_ | refine Below.drewN ?_ _))
                  have hS1 := (hbx.new hw1).cell 0 _ rfl
                  have hrow1 : Ow (w9.drew.alloc (.cells #[.int .i64 (p : Int), .int .i64 ((rowOf Nk.ends p).length : Int)] 52)) lo w9.heap.size 52 2 (vs p).1 (rowOf Nk.ends p).length (vs p).2 (cellE (rowOf Nk.ends p)) := Ow.new (hE.2.1 p hv1) hw1
                  have hnews : ∀ jj uu, [Value.int .i64 (p : Int), Value.int .i64 ((rowOf Nk.ends p).length : Int)][jj]? = some uu → (w9.drew.alloc (.cells #[.int .i64 (p : Int), .int .i64 ((rowOf Nk.ends p).length : Int)] 52)).cell? (Addr.add ⟨w9.heap.size, 0, none⟩ jj) = some uu := news2 _ _ _ _
                  obtain ⟨gq, offq, haeq, _, hcv⟩ := Rd.at (Ow.rd hE.1) hv1
                  obtain ⟨rfl, rfl⟩ : A = gq ∧ 0 = offq := by injection haeq with h; injection h with h1 h2; exact ⟨h1, h2⟩
                  clear haeq
                  rw [Nat.zero_add] at hcv
                  refine wp_region_held_drew (S := fun X => X.cell? ⟨b, 0, none⟩ = some (.slice (some ⟨A, 0, none⟩) n c)) (by kernel_rfl) hS0 (fun hHeld => ?_)
                  refine wpAnyH_take (i := 0) (v := ?_) rfl (by kernel_rfl) (by kernel_rfl) (by kernel_rfl) (fun _ _ _ h => h) (Or.inl ⟨by rfl, ?_⟩) (by assumption) ?_
                  rotate_left
                  · (intro w hSw; (try dsimp only at hSw); go_simp; try with_reducible rfl)
                  try simp only [Act.put, List.getElem_toArray, List.getElem_cons_zero, List.getElem_cons_succ, List.setIfInBounds_toArray, List.set_cons_zero, List.set_cons_succ]
                  refine wpAnyH_take (i := 1) (v := ?_) rfl (by kernel_rfl) (by kernel_rfl) (by kernel_rfl) (fun _ _ _ h => h) (Or.inl ⟨by rfl, ?_⟩) (by assumption) ?_
                  rotate_left
                  · (intro w hSw; (try dsimp only at hSw); go_simp; try with_reducible rfl)
                  try simp only [Act.put, List.getElem_toArray, List.getElem_cons_zero, List.getElem_cons_succ, List.setIfInBounds_toArray, List.set_cons_zero, List.set_cons_succ]
                  refine wpAnyH_take (i := 2) (v := ?_) rfl (by kernel_rfl) (by kernel_rfl) (by kernel_rfl) (fun _ _ _ h => h) (Or.inl ⟨by rfl, ?_⟩) (by assumption) ?_
                  rotate_left
                  · (intro w hSw; (try dsimp only at hSw); go_simp; try with_reducible rfl)
                  try simp only [Act.put, List.getElem_toArray, List.getElem_cons_zero, List.getElem_cons_succ, List.setIfInBounds_toArray, List.set_cons_zero, List.set_cons_succ]
                  refine wpAnyH_take (i := 3) (v := ?_) rfl (by kernel_rfl) (by kernel_rfl) (by kernel_rfl) (fun _ _ _ h => h) (Or.inl ⟨by rfl, ?_⟩) (by assumption) ?_
                  rotate_left
                  · (intro w hSw; (try dsimp only at hSw); go_simp; try with_reducible rfl)
                  try simp only [Act.put, List.getElem_toArray, List.getElem_cons_zero, List.getElem_cons_succ, List.setIfInBounds_toArray, List.set_cons_zero, List.set_cons_succ]
                  refine wpAnyH_take (i := 4) (v := ?_) rfl (by kernel_rfl) (by kernel_rfl) (by kernel_rfl) (fun _ _ _ h => h) (Or.inl ⟨by rfl, ?_⟩) (by assumption) ?_
                  rotate_left
                  · (intro w hSw; (try dsimp only at hSw); go_simp; try with_reducible rfl)
                  try simp only [Act.put, List.getElem_toArray, List.getElem_cons_zero, List.getElem_cons_succ, List.setIfInBounds_toArray, List.set_cons_zero, List.set_cons_succ]
                  refine wpAnyH_take (i := 5) (v := ?_) rfl (by kernel_rfl) (by kernel_rfl) (by kernel_rfl) (fun _ _ _ h => h) (Or.inl ⟨by rfl, ?_⟩) (by assumption) ?_
                  rotate_left
                  · (intro w hSw; (try dsimp only at hSw); go_simp; try with_reducible rfl)
                  try simp only [Act.put, List.getElem_toArray, List.getElem_cons_zero, List.getElem_cons_succ, List.setIfInBounds_toArray, List.set_cons_zero, List.set_cons_succ]
                  refine wpAnyH_take (i := 6) (v := ?_) rfl (by kernel_rfl) (by kernel_rfl) (by kernel_rfl) (fun _ _ _ h => h) (Or.inl ⟨by rfl, ?_⟩) (by assumption) ?_
                  rotate_left
                  · (intro w hSw; (try dsimp only at hSw); go_simp; try with_reducible rfl)
                  try simp only [Act.put, List.getElem_toArray, List.getElem_cons_zero, List.getElem_cons_succ, List.setIfInBounds_toArray, List.set_cons_zero, List.set_cons_succ]
                  refine wpAnyH_take (i := 8) (v := ?_) rfl (by kernel_rfl) (by kernel_rfl) (by kernel_rfl) (fun _ _ _ h => h) (Or.inl ⟨by rfl, ?_⟩) (by assumption) ?_
                  rotate_left
                  · (intro w hSw; (try dsimp only at hSw); go_simp; try with_reducible rfl)
                  try simp only [Act.put, List.getElem_toArray, List.getElem_cons_zero, List.getElem_cons_succ, List.setIfInBounds_toArray, List.set_cons_zero, List.set_cons_succ]
                  refine wpAnyH_take (i := 9) (v := ?_) rfl (by kernel_rfl) (by kernel_rfl) (by kernel_rfl) (fun _ _ _ h => h) (Or.inl ⟨by rfl, ?_⟩) (by assumption) ?_
                  rotate_left
                  · (intro w hSw; (try dsimp only at hSw); go_simp; try with_reducible rfl)
                  try simp only [Act.put, List.getElem_toArray, List.getElem_cons_zero, List.getElem_cons_succ, List.setIfInBounds_toArray, List.set_cons_zero, List.set_cons_succ]
                  refine wpAnyH_take (i := 10) (v := ?_) rfl (by kernel_rfl) (by kernel_rfl) (by kernel_rfl) (fun _ _ _ h => h) (Or.inl ⟨by rfl, ?_⟩) (by assumption) ?_
                  rotate_left
                  · (intro w hSw; (try dsimp only at hSw); go_simp; try with_reducible rfl)
                  try simp only [Act.put, List.getElem_toArray, List.getElem_cons_zero, List.getElem_cons_succ, List.setIfInBounds_toArray, List.set_cons_zero, List.set_cons_succ]
                  refine wpAnyH_take (i := 11) (v := ?_) rfl (by kernel_rfl) (by kernel_rfl) (by kernel_rfl) (fun _ _ _ h => h) (Or.inl ⟨by rfl, ?_⟩) (by assumption) ?_
                  rotate_left
                  · (intro w hSw; (try dsimp only at hSw); go_simp; try with_reducible rfl)
                  try simp only [Act.put, List.getElem_toArray, List.getElem_cons_zero, List.getElem_cons_succ, List.setIfInBounds_toArray, List.set_cons_zero, List.set_cons_succ]
                  refine wpAnyH_take (i := 12) (v := ?_) rfl (by kernel_rfl) (by kernel_rfl) (by kernel_rfl) (fun _ _ _ h => h) (Or.inl ⟨by rfl, ?_⟩) (by assumption) ?_
                  rotate_left
                  · (intro w hSw; (try dsimp only at hSw); go_simp; try with_reducible rfl)
                  try simp only [Act.put, List.getElem_toArray, List.getElem_cons_zero, List.getElem_cons_succ, List.setIfInBounds_toArray, List.set_cons_zero, List.set_cons_succ]
                  refine wpAnyH_ready (rs := [7, 13]) (by kernel_rfl) (by simp) ?_
                  refine AllReadyH.cons (o := _) rfl (fun K hK => ?_) (AllReadyH.cons (o := _) rfl (fun K hK => ?_) AllReadyH.nil)
                  go_simp
                  refine hK.out _ _ (hS0) (fun hHeld => ?_)
                  clear hK K
                  try simp only [Act.put, List.getElem_toArray, List.getElem_cons_zero, List.getElem_cons_succ, List.setIfInBounds_toArray, List.set_cons_zero, List.set_cons_succ]
                  refine wpAnyH_ready (rs := [13]) (by kernel_rfl) (by simp) ?_
                  refine AllReadyH.cons (o := _) rfl (fun K hK => ?_) AllReadyH.nil
                  go_simp
                  refine hK.out _ _ (hS0) (fun hHeld => ?_)
                  clear hK K
                  try simp only [Act.put, List.getElem_toArray, List.getElem_cons_zero, List.getElem_cons_succ, List.setIfInBounds_toArray, List.set_cons_zero, List.set_cons_succ]
                  refine wpAnyH_take (i := 14) (v := ?_) rfl (by kernel_rfl) (by kernel_rfl) (by kernel_rfl) (fun _ _ _ h => h) (Or.inl ⟨by rfl, ?_⟩) (by assumption) ?_
                  rotate_left
                  · (intro w hSw; (try dsimp only at hSw); go_simp; try with_reducible rfl)
                  try simp only [Act.put, List.getElem_toArray, List.getElem_cons_zero, List.getElem_cons_succ, List.setIfInBounds_toArray, List.set_cons_zero, List.set_cons_succ]
                  refine wpAnyH_take (i := 15) (v := ?_) rfl (by kernel_rfl) (by kernel_rfl) (by kernel_rfl) (fun _ _ _ h => h) (Or.inl ⟨by rfl, ?_⟩) (by assumption) ?_
                  rotate_left
                  · (intro w hSw; (try dsimp only at hSw); go_simp; try with_reducible rfl)
                  try simp only [Act.put, List.getElem_toArray, List.getElem_cons_zero, List.getElem_cons_succ, List.setIfInBounds_toArray, List.set_cons_zero, List.set_cons_succ]
                  refine wpAnyH_ready (rs := [16]) (by kernel_rfl) (by simp) ?_
                  refine AllReadyH.cons (o := _) rfl (fun K hK => ?_) AllReadyH.nil
                  go_simp
                  refine hK.out _ _ (hS1) (fun hHeld => ?_)
                  clear hK K
                  try simp only [Act.put, List.getElem_toArray, List.getElem_cons_zero, List.getElem_cons_succ, List.setIfInBounds_toArray, List.set_cons_zero, List.set_cons_succ]
                  refine wpAnyH_ready (rs := [17]) (by kernel_rfl) (by simp) ?_
                  refine AllReadyH.cons (o := _) rfl (fun K hK => ?_) AllReadyH.nil
                  rw [if_pos (by rfl)]
                  refine step_app _ _ _ rfl 52 (.agg #[.int .i64 0, .int .i64 0]) 2 16 Tryz.underlying50 end_info rfl (by decide) lo w9.heap.size (vs p).1 (rowOf Nk.ends p).length (vs p).2 _ rfl hrow1 ⟨w9.heap.size, 0, none⟩ 1 1 [.int .i64 (p : Int), .int .i64 ((rowOf Nk.ends p).length : Int)] rfl rfl hnews (by simp [Value.oneCell']) (by decide) (by unfold maxLen; omega) (by omega) (by simp; omega) ?_
                  intro g' cap' w2 own2 hgr hbg _
                  obtain ⟨hbx2, hc2, hf2, vt, hE', hbx', hfr', hrb'⟩ := addP_mem hbx hE hv1 hw1 hlo hgr own2 hbg
                  have hS2 := hbx2.cell 0 _ rfl
                  have hS3 := hbx'.cell 0 _ rfl
                  refine hK.out _ _ hS2 (fun hHeld => ?_)
                  clear hK K
                  try simp only [Act.put, List.getElem_toArray, List.getElem_cons_zero, List.getElem_cons_succ, List.setIfInBounds_toArray, List.set_cons_zero, List.set_cons_succ]
                  refine wpAnyH_take (i := 18) (v := ?_) rfl (by kernel_rfl) (by kernel_rfl) (by kernel_rfl) (fun _ _ _ h => h) (Or.inl ⟨by rfl, ?_⟩) (by assumption) ?_
                  rotate_left
                  · (intro w hSw; (try dsimp only at hSw); go_simp; try with_reducible rfl)
                  try simp only [Act.put, List.getElem_toArray, List.getElem_cons_zero, List.getElem_cons_succ, List.setIfInBounds_toArray, List.set_cons_zero, List.set_cons_succ]
                  refine wpAnyH_ready (rs := [19]) (by kernel_rfl) (by simp) ?_
                  refine AllReadyH.cons (o := _) rfl (fun K hK => ?_) AllReadyH.nil
                  go_simp
                  refine hK.out _ _ (hS3) (fun hHeld => ?_)
                  clear hK K
                  try simp only [Act.put, List.getElem_toArray, List.getElem_cons_zero, List.getElem_cons_succ, List.setIfInBounds_toArray, List.set_cons_zero, List.set_cons_succ]
                  refine wpAnyH_done (by kernel_rfl) ?_ _
                  clear hHeld hS2 hS3 hc2 hf2 hbx2 own2 hgr hbg
                  rotate_left
                  go_simp
                  refine hK.out _ _ (hS0) (fun hHeld => ?_)
                  clear hK K
                  try simp only [Act.put, List.getElem_toArray, List.getElem_cons_zero, List.getElem_cons_succ, List.setIfInBounds_toArray, List.set_cons_zero, List.set_cons_succ]
                  refine wpAnyH_take (i := 14) (v := ?_) rfl (by kernel_rfl) (by kernel_rfl) (by kernel_rfl) (fun _ _ _ h => h) (Or.inl ⟨by rfl, ?_⟩) (by assumption) ?_
                  rotate_left
                  · (intro w hSw; (try dsimp only at hSw); go_simp; try with_reducible rfl)
                  try simp only [Act.put, List.getElem_toArray, List.getElem_cons_zero, List.getElem_cons_succ, List.setIfInBounds_toArray, List.set_cons_zero, List.set_cons_succ]
                  refine wpAnyH_take (i := 15) (v := ?_) rfl (by kernel_rfl) (by kernel_rfl) (by kernel_rfl) (fun _ _ _ h => h) (Or.inl ⟨by rfl, ?_⟩) (by assumption) ?_
                  rotate_left
                  · (intro w hSw; (try dsimp only at hSw); go_simp; try with_reducible rfl)
                  try simp only [Act.put, List.getElem_toArray, List.getElem_cons_zero, List.getElem_cons_succ, List.setIfInBounds_toArray, List.set_cons_zero, List.set_cons_succ]
                  refine wpAnyH_ready (rs := [7, 16]) (by kernel_rfl) (by simp) ?_
                  refine AllReadyH.cons (o := _) rfl (fun K hK => ?_) (AllReadyH.cons (o := _) rfl (fun K hK => ?_) AllReadyH.nil)
                  go_simp
                  refine hK.out _ _ (hS0) (fun hHeld => ?_)
                  clear hK K
                  try simp only [Act.put, List.getElem_toArray, List.getElem_cons_zero, List.getElem_cons_succ, List.setIfInBounds_toArray, List.set_cons_zero, List.set_cons_succ]
                  refine wpAnyH_ready (rs := [16]) (by kernel_rfl) (by simp) ?_
                  refine AllReadyH.cons (o := _) rfl (fun K hK => ?_) AllReadyH.nil
                  go_simp
                  refine hK.out _ _ (hS1) (fun hHeld => ?_)
                  clear hK K
                  try simp only [Act.put, List.getElem_toArray, List.getElem_cons_zero, List.getElem_cons_succ, List.setIfInBounds_toArray, List.set_cons_zero, List.set_cons_succ]
                  refine wpAnyH_ready (rs := [17]) (by kernel_rfl) (by simp) ?_
                  refine AllReadyH.cons (o := _) rfl (fun K hK => ?_) AllReadyH.nil
                  rw [if_pos (by rfl)]
                  refine step_app _ _ _ rfl 52 (.agg #[.int .i64 0, .int .i64 0]) 2 16 Tryz.underlying50 end_info rfl (by decide) lo w9.heap.size (vs p).1 (rowOf Nk.ends p).length (vs p).2 _ rfl hrow1 ⟨w9.heap.size, 0, none⟩ 1 1 [.int .i64 (p : Int), .int .i64 ((rowOf Nk.ends p).length : Int)] rfl rfl hnews (by simp [Value.oneCell']) (by decide) (by unfold maxLen; omega) (by omega) (by simp; omega) ?_
                  intro g' cap' w2 own2 hgr hbg _
                  obtain ⟨hbx2, hc2, hf2, vt, hE', hbx', hfr', hrb'⟩ := addP_mem hbx hE hv1 hw1 hlo hgr own2 hbg
                  have hS2 := hbx2.cell 0 _ rfl
                  have hS3 := hbx'.cell 0 _ rfl
                  refine hK.out _ _ hS2 (fun hHeld => ?_)
                  clear hK K
                  try simp only [Act.put, List.getElem_toArray, List.getElem_cons_zero, List.getElem_cons_succ, List.setIfInBounds_toArray, List.set_cons_zero, List.set_cons_succ]
                  refine wpAnyH_take (i := 18) (v := ?_) rfl (by kernel_rfl) (by kernel_rfl) (by kernel_rfl) (fun _ _ _ h => h) (Or.inl ⟨by rfl, ?_⟩) (by assumption) ?_
                  rotate_left
                  · (intro w hSw; (try dsimp only at hSw); go_simp; try with_reducible rfl)
                  try simp only [Act.put, List.getElem_toArray, List.getElem_cons_zero, List.getElem_cons_succ, List.setIfInBounds_toArray, List.set_cons_zero, List.set_cons_succ]
                  refine wpAnyH_ready (rs := [19]) (by kernel_rfl) (by simp) ?_
                  refine AllReadyH.cons (o := _) rfl (fun K hK => ?_) AllReadyH.nil
                  go_simp
                  refine hK.out _ _ (hS3) (fun hHeld => ?_)
                  clear hK K
                  try simp only [Act.put, List.getElem_toArray, List.getElem_cons_zero, List.getElem_cons_succ, List.setIfInBounds_toArray, List.set_cons_zero, List.set_cons_succ]
                  refine wpAnyH_done (by kernel_rfl) ?_ _
                  clear hHeld hS2 hS3 hc2 hf2 hbx2 own2 hgr hbg
                  rotate_left
                  go_simp
                  refine hK.out _ _ (hS1) (fun hHeld => ?_)
                  clear hK K
                  try simp only [Act.put, List.getElem_toArray, List.getElem_cons_zero, List.getElem_cons_succ, List.setIfInBounds_toArray, List.set_cons_zero, List.set_cons_succ]
                  refine wpAnyH_ready (rs := [7]) (by kernel_rfl) (by simp) ?_
                  refine AllReadyH.cons (o := _) rfl (fun K hK => ?_) AllReadyH.nil
                  go_simp
                  refine hK.out _ _ (hS1) (fun hHeld => ?_)
                  clear hK K
                  try simp only [Act.put, List.getElem_toArray, List.getElem_cons_zero, List.getElem_cons_succ, List.setIfInBounds_toArray, List.set_cons_zero, List.set_cons_succ]
                  refine wpAnyH_ready (rs := [17]) (by kernel_rfl) (by simp) ?_
                  refine AllReadyH.cons (o := _) rfl (fun K hK => ?_) AllReadyH.nil
                  rw [if_pos (by rfl)]
                  refine step_app _ _ _ rfl 52 (.agg #[.int .i64 0, .int .i64 0]) 2 16 Tryz.underlying50 end_info rfl (by decide) lo w9.heap.size (vs p).1 (rowOf Nk.ends p).length (vs p).2 _ rfl hrow1 ⟨w9.heap.size, 0, none⟩ 1 1 [.int .i64 (p : Int), .int .i64 ((rowOf Nk.ends p).length : Int)] rfl rfl hnews (by simp [Value.oneCell']) (by decide) (by unfold maxLen; omega) (by omega) (by simp; omega) ?_
                  intro g' cap' w2 own2 hgr hbg _
                  obtain ⟨hbx2, hc2, hf2, vt, hE', hbx', hfr', hrb'⟩ := addP_mem hbx hE hv1 hw1 hlo hgr own2 hbg
                  have hS2 := hbx2.cell 0 _ rfl
                  have hS3 := hbx'.cell 0 _ rfl
                  refine hK.out _ _ hS2 (fun hHeld => ?_)
                  clear hK K
                  try simp only [Act.put, List.getElem_toArray, List.getElem_cons_zero, List.getElem_cons_succ, List.setIfInBounds_toArray, List.set_cons_zero, List.set_cons_succ]
                  refine wpAnyH_take (i := 18) (v := ?_) rfl (by kernel_rfl) (by kernel_rfl) (by kernel_rfl) (fun _ _ _ h => h) (Or.inl ⟨by rfl, ?_⟩) (by assumption) ?_
                  rotate_left
                  · (intro w hSw; (try dsimp only at hSw); go_simp; try with_reducible rfl)
                  try simp only [Act.put, List.getElem_toArray, List.getElem_cons_zero, List.getElem_cons_succ, List.setIfInBounds_toArray, List.set_cons_zero, List.set_cons_succ]
                  refine wpAnyH_ready (rs := [19]) (by kernel_rfl) (by simp) ?_
                  refine AllReadyH.cons (o := _) rfl (fun K hK => ?_) AllReadyH.nil
                  go_simp
                  refine hK.out _ _ (hS3) (fun hHeld => ?_)
                  clear hK K
                  try simp only [Act.put, List.getElem_toArray, List.getElem_cons_zero, List.getElem_cons_succ, List.setIfInBounds_toArray, List.set_cons_zero, List.set_cons_succ]
                  refine wpAnyH_done (by kernel_rfl) ?_ _
                  clear hHeld hS2 hS3 hc2 hf2 hbx2 own2 hgr hbg
                  rotate_left
                  all_goals
                    clear hS0 hS1 hw1 hrow1 hnews hcv hbx hE
                    generalize hWW : World.setCell w2 _ _ = w10 at hE' hbx' hfr' ⊢
                    clear hWW
                    replace hE' := RowsAt.top hE'
                    obtain ⟨hE, hbx, hfr, hrb⟩ := (⟨hE', hbx', hfr', hrb'⟩ : _ ∧ _ ∧ _ ∧ _)
                    clear hE' hbx' hfr' hrb'
                    replace owni := Ow.top (Ow.frB owni hfr HNI.out)
                    replace ownp := Ow.top (Ow.frB ownp hfr HNP.out)
                    have BR10 := BR.fr hfr (fun h => by have := HIN.out _ h; omega)
                    have bw10 := bw.trans (hfr.below (B := w.heap.size) (fun k h1 h2 hc => by have := HIN.out _ hc; omega) bw.size)
                    have belw10 := belw.trans (hfr.below (B := lo) (fun k h1 h2 hc => by have := HIN.out _ hc; omega) zlw)
                    have z10 := hfr.size
                    have hJL : (stubN Nk p).ends.length = n := by rw [← HLEN.out]; exact addP_length ..
                    have hNB10 : NBx w10 lo b N1 := by
                      rw [← HN1e.out]
                      exact ⟨some ⟨A, 0, none⟩, c, vt, ai, ci, ap, cp, by rw [hJL]; exact hbx, hE, owni, ownp, hdis⟩
                    have HOS : Hid (∀ j, j < k + 1 → (pelOp n (ls.getD j [])).isSome = true) := all_snoc (p := fun j => (pelOp n (ls.getD j [])).isSome = true) HOPS.out (by show (pelOp n (ls.getD k [])).isSome = true; rw [← HLK.out]; exact HSOME.out)
                    clear hfr hrb HNI HNP HIN hJL hE owni ownp hdis hbx
                    go_wp2_with fail
                    go_roundw
                    case rel => exact ⟨k + 1, by omega, by go_num, HOS.out, by rw [← HN1.out]; exact hNB10, BR10, bw10, belw10, by omega⟩
                    case measure => simp [intOf]; omega
                | true =>
                  cases b2 with
                  | false =>
                    have HO : Hid (pelOk s.data.toList = false) := HGO.out.trans (HOPk.out (by rw [HOC.out, if_pos hp1, if_pos rfl, if_neg (by rw [pelNode_ge HB2.out.symm]; decide)]))
                    clear hp1
                    have e0 := BR.cell 0 _ rfl
                    have e1 := BR.cell 1 _ rfl
                    have e2 := BR.cell 2 _ rfl
                    have f0 := BR.frozen 0
                    have f1 := BR.frozen 1
                    have f2 := BR.frozen 2
                    go_wp2_with fail
                    clear e0 e1 e2 f0 f1 f2
                    generalize hW : World.setCell _ _ _ = W
                    have B6 : Bx W (w.heap.size) 25 #[.slice none 0 0, .slice none 0 0, .slice none 0 0] := by rw [← hW]; exact ((BR.set 0 _).set 1 _).set 2 _
                    have fr6 : Fr (fun k => k = w.heap.size) w9 W := by rw [← hW]; exact fr3 _ _ _ _ _
                    clear hW
                    have z6 := fr6.size
                    have d0 := B6.cell 0 _ rfl
                    have d1 := B6.cell 1 _ rfl
                    have d2 := B6.cell 2 _ rfl
                    refine bodyPost_ret (v := .tuple #[.agg #[.slice none 0 0, .slice none 0 0, .slice none 0 0], .bool false]) (by simp [results, Tryz.results5, go_sem, d0, d1, d2]) rfl ?_
                    unfold PostN
                    rw [HO.out, pelR_f HO.out]
                    exact ⟨_, rfl, NetAt.nilN _ _ _, bw.trans (fr6.below (B := w.heap.size) (fun k h1 h2 hc => by omega) bw.size)⟩
                  | true =>
                    have hge2 : 0 ≤ readL c2 := of_decide_eq_true HB2.out.symm
                    obtain ⟨ab2, c2b, vs2, ai2, ci2, ap2, cp2, hbx2, _⟩ := id hNB
                    have q0 := hbx2.cell 0 _ rfl
                    have q1 := hbx2.cell 1 _ rfl
                    have q2 := hbx2.cell 2 _ rfl
                    have HH2 : Hid (∀ X, Calls Tryz.prog 22 #[.agg #[.slice ab2 Nk.ends.length c2b, .slice ai2 Nk.ids.length ci2, .slice ap2 Nk.inputs.length cp2], .int .i64 (rnV c2)] X fun e w' => e = .returned (.bool (pelNode n c2)) ∧ Below X.heap.size X w') := fun X => by
                      have h := hasNode_any ab2 ai2 ap2 Nk.ends c2b Nk.ids.length ci2 Nk.inputs.length cp2 (rnV c2) X (by omega)
                      rw [show hasN Nk.ends (rnV c2) = pelNode n c2 by unfold hasN pelNode; rw [HLEN.out, rnV_t hge2]] at h
                      exact h
                    go_wp2_with fail
                    refine (HH2.out _).mono ?_
                    rintro e w10 ⟨rfl, bel10⟩
                    clear q0 q1 q2 hbx2
                    replace hNB := NBx.new hNB bel10
                    replace BR := BR.new bel10
                    replace bw := bw.trans (bel10.mono bw.size)
                    replace belw := belw.trans (bel10.mono zlw)
                    replace zlw : lo ≤ w10.heap.size := by have := bel10.size; omega
                    have zRw10 := BR.lt
                    cases hp2 : pelNode n c2 with
                    | false =>
                      have HO : Hid (pelOk s.data.toList = false) := HGO.out.trans (HOPk.out (by rw [HOC.out, if_pos hp1]; simp [hp2]))
                      clear hp1 hp2
                      have e0 := BR.cell 0 _ rfl
                      have e1 := BR.cell 1 _ rfl
                      have e2 := BR.cell 2 _ rfl
                      have f0 := BR.frozen 0
                      have f1 := BR.frozen 1
                      have f2 := BR.frozen 2
                      go_wp2_with fail
                      clear e0 e1 e2 f0 f1 f2
                      generalize hW : World.setCell _ _ _ = W
                      have B6 : Bx W (w.heap.size) 25 #[.slice none 0 0, .slice none 0 0, .slice none 0 0] := by rw [← hW]; exact ((BR.set 0 _).set 1 _).set 2 _
                      have fr6 : Fr (fun k => k = w.heap.size) w10 W := by rw [← hW]; exact fr3 _ _ _ _ _
                      clear hW
                      have z6 := fr6.size
                      have d0 := B6.cell 0 _ rfl
                      have d1 := B6.cell 1 _ rfl
                      have d2 := B6.cell 2 _ rfl
                      refine bodyPost_ret (v := .tuple #[.agg #[.slice none 0 0, .slice none 0 0, .slice none 0 0], .bool false]) (by simp [results, Tryz.results5, go_sem, d0, d1, d2]) rfl ?_
                      unfold PostN
                      rw [HO.out, pelR_f HO.out]
                      exact ⟨_, rfl, NetAt.nilN _ _ _, bw.trans (fr6.below (B := w.heap.size) (fun k h1 h2 hc => by omega) bw.size)⟩
                    | true =>
                      obtain ⟨hy1, hy2⟩ := pelNode_nat hp2
                      have HOPS1 : Hid (pelOp n l = some ((readL c1).toNat, some (readL c2).toNat)) := by show _ = _; rw [HOC.out, if_pos hp1]; simp [hp2]
                      have HN1e : Hid (joinN Nk (readL c1).toNat (readL c2).toNat = N1) := by show _ = _; rw [HNX.out _ HOPS1.out]; rfl
                      have HSOME : Hid ((pelOp n l).isSome = true) := by show _ = _; rw [HOPS1.out]; rfl
                      have hrv1 : rnV c1 = ((readL c1).toNat : Int) := by rw [rnV_t hge1]; exact hx1
                      have hrv2 : rnV c2 = ((readL c2).toNat : Int) := by rw [rnV_t hge2]; exact hy1
                      rw [hrv1, hrv2]
                      clear hp1 hp2 HOPk HNX HOC hx1 hy1 hge1 hge2 HB1 HB2 HOPS1 hrv1 hrv2 HH1 HH2
                      generalize (readL c1).toNat = p at *
                      generalize (readL c2).toNat = q at *
                      have HCN := Lib.hid (connectN_any (lo := lo) (b := b) (v := p) (u := q) (N := Nk) w10 hNB (by rw [HLEN.out]; exact hx2) (by rw [HLEN.out]; exact hy2) zlw HSMk.out)
                      rw [HN1e.out] at HCN
                      have HOS : Hid (∀ j, j < k + 1 → (pelOp n (ls.getD j [])).isSome = true) := all_snoc (p := fun j => (pelOp n (ls.getD j [])).isSome = true) HOPS.out (by show (pelOp n (ls.getD k [])).isSome = true; rw [← HLK.out]; exact HSOME.out)
                      go_wp2_with fail
                      refine HCN.out.mono ?_
                      rintro e w11 ⟨rfl, hNB11, fr11⟩
                      have BR11 := BR.fr fr11 (by omega)
                      have bw11 := bw.trans (fr11.below (B := w.heap.size) (fun k h1 h2 hc => by omega) bw.size)
                      have belw11 := belw.trans (fr11.below (B := lo) (fun k h1 h2 hc => by omega) zlw)
                      have z11 := fr11.size
                      go_wp2_with fail
                      go_roundw
                      case rel => exact ⟨k + 1, by omega, by go_num, HOS.out, by rw [← HN1.out]; exact hNB11, BR11, bw11, belw11, by omega⟩
                      case measure => simp [intOf]; omega
          · obtain rfl : k = m := by omega
            have hal2 : al = degB (pelN n ls k).ends := HAE.out HOPS.out
            have hgd2 := HPF.out.good hn1 hn40
            have HSM := Lib.hid (HPF.out.small hn40 (by omega))
            obtain ⟨Nm, hNm⟩ : ∃ N, N = pelN n ls k := ⟨_, rfl⟩
            have HOK2 : Hid (pelOk s.data.toList = netB Nm) := HGO.out.trans (by rw [hNm, hal2, hgd2])
            have HR2 : Hid (pelR s.data.toList = ifN (netB Nm) Nm) := by show _ = _; rw [HRR.out, HOK2.out, hNm]
            rw [← hNm] at hNB HSM
            clear hal2 hgd2 hNm HPF HAE HRR
            obtain ⟨ab, c, vs, ai, ci, ap, cp, hbx, hE, owni, ownp, hdis⟩ := id hNB
            have q0 := hbx.cell 0 _ rfl
            have q1 := hbx.cell 1 _ rfl
            have q2 := hbx.cell 2 _ rfl
            have own : NetAt w5 lo w5.heap.size (.agg #[.slice ab Nm.ends.length c, .slice ai Nm.ids.length ci, .slice ap Nm.inputs.length cp]) Nm := ⟨ab, c, vs, ai, ci, ap, cp, rfl, hE, owni, ownp, hdis⟩
            have HNW := Lib.hid (network_any _ Nm w5 lo w5.heap.size own (Nat.le_refl _) zlw HSM.out)
            generalize netB Nm = ok at *
            generalize ifN ok Nm = R1 at *
            clear hE owni ownp hdis own hNB
            go_wp2_with fail
            refine HNW.out.mono ?_
            rintro e w7 ⟨v7, rfl, own7, bel7⟩
            obtain ⟨a7, c7, ai7, ci7, ap7, cp7, rfl, own7⟩ := own7.shape
            replace BR := BR.new bel7
            have bw7 := bw.trans (bel7.mono bw.size)
            have zR7 := BR.lt
            clear q0 q1 q2 hbx HNW
            have e0 := BR.cell 0 _ rfl
            have e1 := BR.cell 1 _ rfl
            have e2 := BR.cell 2 _ rfl
            have f0 := BR.frozen 0
            have f1 := BR.frozen 1
            have f2 := BR.frozen 2
            go_wp2_with fail
            clear e0 e1 e2 f0 f1 f2
            generalize hW : World.setCell _ _ _ = W
            have B6 : Bx W (w.heap.size) 25 #[.slice a7 R1.ends.length c7, .slice ai7 R1.ids.length ci7, .slice ap7 R1.inputs.length cp7] := by rw [← hW]; exact ((BR.set 0 _).set 1 _).set 2 _
            have fr6 : Fr (fun k => k = w.heap.size) w7 W := by rw [← hW]; exact fr3 _ _ _ _ _
            clear hW
            have z6 := fr6.size
            have d0 := B6.cell 0 _ rfl
            have d1 := B6.cell 1 _ rfl
            have d2 := B6.cell 2 _ rfl
            refine bodyPost_ret (v := .tuple #[.agg #[.slice a7 R1.ends.length c7, .slice ai7 R1.ids.length ci7, .slice ap7 R1.inputs.length cp7], .bool ok]) (by simp [results, Tryz.results5, go_sem, d0, d1, d2]) rfl ?_
            unfold PostN
            rw [HOK2.out, HR2.out]
            exact ⟨_, rfl, (own7.fr fr6 (fun k h1 h2 hc => by omega)).wide (lo' := w.heap.size) (hi' := W.heap.size) (by omega) (by omega), bw7.trans (fr6.below (B := w.heap.size) (fun k h1 h2 hc => by omega) bw7.size)⟩
end Go.Proofs.YtmjmgggfmccjmaaGreatDoor
