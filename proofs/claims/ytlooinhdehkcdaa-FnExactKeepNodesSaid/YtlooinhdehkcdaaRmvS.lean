/- RemoveEdge: spec's walk. -/
import Derived.Test.YtlooinhdehkcdaaRmvE
namespace Go.Proofs.Ytlooinhdehkcdaa
open Go.RowKit
set_option linter.unusedVariables false
set_option linter.unusedSimpArgs false



theorem netIn_more {w : World} {B B' : Nat} {V : Value} {N : Net} (h : NetIn w B V N) (hB : B ≤ B') : NetIn w B' V N := by
  obtain ⟨a, c, vs, ai, ci, ap, cp, e, h1, h2, h3, h4⟩ := h
  exact ⟨a, c, vs, ai, ci, ap, cp, e, ⟨h1.1.more hB, fun j hj => Rd.more (h1.2 j hj) hB⟩, Rd.more h2 hB, Rd.more h3 hB, h4⟩
set_option maxRecDepth 100000 in
set_option maxHeartbeats 3200000 in
theorem rmvS_any (V : Value) (N : Net) (v i : Int) (w : World) (B : Nat) (hv : NetIn w B V N) (hB : B ≤ w.heap.size) (hs : NetSmall N) :
    Calls Try.prog 21 #[V, .int .i64 v, .int .i64 i] w (PostN (rmN N v i) (rmOk N v i) w) := by
  have HV2 := Lib.hid hv
  have HV := Lib.hid hv
  have HS := Lib.hid hs
  obtain ⟨a, c, vs, ai, ci, ap, cp, rfl, h1, _⟩ := hv
  have hl : N.ends.length ≤ 1048576 := by unfold NetSmall at hs; omega
  have BA := (Bx.made w 29 #[.slice a N.ends.length c, .slice ai N.ids.length ci, .slice ap N.inputs.length cp]).alloc (.cells #[.slice none 0 0, .slice none 0 0, .slice none 0 0] 29)
  have BR := Bx.made (w.alloc (.cells #[.slice a N.ends.length c, .slice ai N.ids.length ci, .slice ap N.inputs.length cp] 29)) 29 #[.slice none 0 0, .slice none 0 0, .slice none 0 0]
  have b0 : Below w.heap.size w ((w.alloc (.cells #[.slice a N.ends.length c, .slice ai N.ids.length ci, .slice ap N.inputs.length cp] 29)).alloc (.cells #[.slice none 0 0, .slice none 0 0, .slice none 0 0] 29)) := (by repeat (first | exact Below.refl _ _ | assumption | refine Below.alloc ?_ (by first | (simp; done) | (simp; omega) | omega) _ | refine Below.setCell ?_ (by first | (simp; done) | (simp; omega) | omega) _ | refine Below.drew ?_ | refine Below.drewN ?_ _))
  have z0 : w.heap.size + 1 + 1 ≤ ((w.alloc (.cells #[.slice a N.ends.length c, .slice ai N.ids.length ci, .slice ap N.inputs.length cp] 29)).alloc (.cells #[.slice none 0 0, .slice none 0 0, .slice none 0 0] 29)).heap.size := by simp
  rw [World.size_alloc] at BR
  clear hs h1
  go_enter Try.func21, Try.ntmps21
  go_wp2_with fail
  generalize (w.alloc (.cells #[.slice a N.ends.length c, .slice ai N.ids.length ci, .slice ap N.inputs.length cp] 29)).alloc (.cells #[.slice none 0 0, .slice none 0 0, .slice none 0 0] 29) = w0 at *
  refine (nePort_any _ N v i _ B (HV.out.below (b0.mono hB)) (Nat.le_trans hB b0.size) HS.out).mono ?_
  rintro e w1 ⟨rfl, bel1⟩
  replace BA := BA.new bel1
  replace BR := BR.new bel1
  have z1 := bel1.size
  have bb := b0.trans (bel1.mono b0.size)
  clear b0 bel1
  cases hn : npB N v i with
  | false =>
    have HF : Hid (rmOk N v i = false) := Lib.hid hn
    clear hn
    have e0 := BR.cell 0 _ rfl
    have e1 := BR.cell 1 _ rfl
    have e2 := BR.cell 2 _ rfl
    have f0 := BR.frozen 0
    have f1 := BR.frozen 1
    have f2 := BR.frozen 2
    go_wp2_with fail
    clear e0 e1 e2 f0 f1 f2
    generalize hW : World.setCell _ _ _ = W
    have B6 : Bx W (w.heap.size + 1) 29 #[.slice none 0 0, .slice none 0 0, .slice none 0 0] := by rw [← hW]; exact ((BR.set 0 _).set 1 _).set 2 _
    have fr6 : Fr (fun k => k = w.heap.size + 1) w1 W := by rw [← hW]; exact fr3 _ _ _ _ _
    clear hW
    have z6 := fr6.size
    have d0 := B6.cell 0 _ rfl
    have d1 := B6.cell 1 _ rfl
    have d2 := B6.cell 2 _ rfl
    refine bodyPost_ret (v := .tuple #[.agg #[.slice none 0 0, .slice none 0 0, .slice none 0 0], .bool false]) (by simp [results, Try.results21, go_sem, d0, d1, d2]) rfl ?_
    rw [rmN_f HF.out, id HF.out]
    exact ⟨_, rfl, NetAt.nilN _ _ _, bb.trans (fr6.below (fun k h1 h2 hc => by omega) bb.size)⟩
  | true =>
  have HT : Hid (rmOk N v i = true) := Lib.hid hn
  have hnb : netB N = true ∧ hasP N.ends v i = true := by rw [npB, Bool.and_eq_true] at hn; exact hn
  have HN := Lib.hid hnb.1
  have HSM := Lib.hid (netB_small hnb.1)
  obtain ⟨v, i, rfl, rfl, hvl, hil⟩ := hasP_nat hnb.2
  obtain ⟨p, q, hpq, hp, hq, _⟩ := net_back hnb.1 hvl hil
  have HPQ := Lib.hid hpq
  clear hn hnb hpq
  obtain ⟨a9, c9, vs9, ai9, ci9, ap9, cp9, heq, h1, h2, h3, _⟩ := HV2.out
  replace heq := heq.symm
  simp only [Value.agg.injEq, Array.mk.injEq, List.cons.injEq, Value.slice.injEq, and_true, true_and] at heq
  obtain ⟨⟨rfl, rfl⟩, ⟨rfl, rfl⟩, rfl, rfl⟩ := heq
  have hle : N.ends.length ≤ 40 := HSM.out.1
  have h1w := h1
  clear h1 h2 h3
  have c0 := BA.cell 0 _ rfl
  have c1 := BA.cell 1 _ rfl
  have c2 := BA.cell 2 _ rfl
  go_wp2_with fail
  refine (neAll_any _ N _ B (HV.out.below (bb.mono hB)) (Nat.le_trans hB bb.size) HS.out).mono ?_
  rintro e w2 ⟨ak, ck, vk, rfl, hK, bel2⟩
  replace BA := BA.new bel2
  replace BR := BR.new bel2
  replace bb := bb.trans (bel2.mono bb.size)
  have z2 := bel2.size
  clear c0 c1 c2 bel2
  obtain ⟨lo, hlo0⟩ : ∃ lo, lo = w1.heap.size := ⟨_, rfl⟩
  rw [← hlo0] at hK
  have zl : w.heap.size + 1 + 1 ≤ lo := by omega
  clear hlo0
  have hvK : v < (allT N.ends).length := by rw [allT_length]; exact hvl
  have HRL := Lib.hid (fun j (hj : j < N.ends.length) => show (rowOf (allT N.ends) j).length = (rowOf N.ends j).length by rw [allT_row hj, List.length_replicate])
  have hiK : i < (rowOf (allT N.ends) v).length := by rw [HRL.out v hvl]; exact hil
  obtain ⟨A, hA, _, _⟩ := Ow.addr hK.1 (by omega)
  subst hA
  obtain ⟨g, k0, k1, f1, hg, hK2, hfr2⟩ := RowsB.setAt false hK hvK hiK
  unfold cellB at k1
  rw [allT_row hvl, nthB_true hil] at k1
  rw [HRL.out v hvl] at k0
  go_upto_region 5 with fail
  clear k0 k1 f1 hK
  have hnC : ∀ j, j ≤ w.heap.size + 1 → ¬ j = g := fun j hj => by omega
  replace BA := BA.fr hfr2 (by omega)
  replace BR := BR.fr hfr2 (by omega)
  replace bb := bb.trans (hfr2.below (B := w.heap.size) (fun k h1 h2 hc => by omega) bb.size)
  have z3 := hfr2.size
  clear hfr2 hg hnC
  generalize w2.setCell ⟨g, i, none⟩ (.bool false) = w3 at *
  replace hK2 := RowsAt.top hK2
  obtain ⟨gE, offE, hae, _, hcE⟩ := Rd.at (h1w.1.below (bb.mono hB)) hvl
  subst hae
  obtain ⟨gR, offR, har, _, e1, e2⟩ := RdE.at ((h1w.2 v hvl).below (bb.mono hB)) hil
  rw [har] at hcE
  rw [HPQ.out] at e1 e2
  have q0 := BA.cell 0 _ rfl
  have BE := Bx.made w3 62 #[.int .i64 (p : Int), .int .i64 (q : Int)]
  have bE : Below w3.heap.size w3 (w3.alloc (.cells #[.int .i64 (p : Int), .int .i64 (q : Int)] 62)) := (by repeat (first | exact Below.refl _ _ | assumption | refine Below.alloc ?_ (by first | (simp; done) | (simp; omega) | omega) _ | refine Below.setCell ?_ (by first | (simp; done) | (simp; omega) | omega) _ | refine Below.drew ?_ | refine Below.drewN ?_ _))
  obtain ⟨eb, heb⟩ : ∃ eb, eb = w3.heap.size := ⟨_, rfl⟩
  go_upto_region 6 with fail
  clear hcE e1 e2 q0 har
  rw [← heb] at BE ⊢
  clear heb
  replace BA := BA.new bE
  replace BR := BR.new bE
  replace bb := bb.trans (bE.mono bb.size)
  replace hK2 := RowsAt.top (RowsAt.new hK2 bE)
  have z4 := bE.size
  clear bE
  generalize w3.alloc (.cells #[.int .i64 (p : Int), .int .i64 (q : Int)] 62) = w4 at *
  have s1 := sameB_setB i false (sameB_all N.ends) hvl
  have hpK : p < (setB (allT N.ends) v i false).length := by rw [s1.1]; exact hp
  have hqK : q < (rowOf (setB (allT N.ends) v i false) p).length := by rw [s1.2 p hp]; exact hq
  have HS1 := Lib.hid s1
  clear s1
  have hKd : RowsB w4.drew lo w4.heap.size (some ⟨A, 0, none⟩) ck (setB (allT N.ends) v i false) vk := hK2
  obtain ⟨g2, k0, k1, f1, hg, hK3, hfr3⟩ := RowsB.setAt false hKd hpK hqK
  rw [HS1.out.2 p hp] at k0
  have k0' : w4.cell? ⟨A, p, none⟩ = some (.slice (some ⟨g2, 0, none⟩) (rowOf N.ends p).length (vk p).2) := k0
  have y0 := BE.cell 0 _ rfl
  have y1 := BE.cell 1 _ rfl
  have hlk : (setB (allT N.ends) v i false).length = N.ends.length := HS1.out.1
  go_still_tail 8, (by kernel_rfl)
  change wpList _ _ _ _ _ w4.drew
  clear k0 k0' y0 y1 BE hK2 hKd hlk
  replace BA : Bx w4.drew w.heap.size 29 #[.slice (some ⟨gE, offE, none⟩) N.ends.length c9, .slice ai9 N.ids.length ci9, .slice ap9 N.inputs.length cp9] := BA
  replace BR : Bx w4.drew (w.heap.size + 1) 29 #[.slice none 0 0, .slice none 0 0, .slice none 0 0] := BR
  replace bb := bb.drew
  have zd : w4.drew.heap.size = w4.heap.size := rfl
  rw [← zd] at hK3 z4
  clear zd
  generalize w4.drew = w5 at *
  go_upto_region 7 with fail
  clear k1 f1
  replace BA := BA.fr hfr3 (by omega)
  replace BR := BR.fr hfr3 (by omega)
  replace bb := bb.trans (hfr3.below (B := w.heap.size) (fun k h1 h2 hc => by omega) bb.size)
  have z5 := hfr3.size
  clear hfr3 hg
  generalize w5.setCell ⟨g2, q, none⟩ (.bool false) = w6 at *
  replace hK3 : RowsB w6 lo w6.heap.size (some ⟨A, 0, none⟩) ck (rmKs N.ends v i p q) vk := RowsAt.top hK3
  have HSB := Lib.hid (rmKs_same (i := i) (q := q) hvl hp)
  have HCT := Lib.hid (rmKs_cut HN.out hvl hil hp hq HPQ.out)
  have c0 := BA.cell 0 _ rfl
  have c1 := BA.cell 1 _ rfl
  have c2 := BA.cell 2 _ rfl
  go_wp2_with fail
  refine (neCut_any _ N (rmKs N.ends v i p q) _ _ vk _ w6.heap.size (netIn_more (HV.out.below (bb.mono hB)) (Nat.le_trans hB bb.size)) hK3.rdBB (Nat.le_refl _) HN.out HSB.out).mono ?_
  rintro e w9 ⟨x9, rfl, own9, bel9⟩
  rw [HCT.out] at own9
  replace BR := BR.new bel9
  replace bb := bb.trans (bel9.mono bb.size)
  have z9 := bel9.size
  clear c0 c1 c2 bel9 BA hK3
  obtain ⟨Nk, hNk⟩ : ∃ Nk, Nk = cutN N (rmK N.ends v i) := ⟨_, rfl⟩
  rw [← hNk] at own9
  have HNk := Lib.hid hNk
  clear hNk
  obtain ⟨ax, cx, aix, cix, apx, cpx, rfl, own9⟩ := own9.shape
  have e0 := BR.cell 0 _ rfl
  have e1 := BR.cell 1 _ rfl
  have e2 := BR.cell 2 _ rfl
  have f0 := BR.frozen 0
  have f1 := BR.frozen 1
  have f2 := BR.frozen 2
  go_wp2_with fail
  clear e0 e1 e2 f0 f1 f2
  generalize hW : World.setCell _ _ _ = W
  have B6 : Bx W (w.heap.size + 1) 29 #[.slice ax Nk.ends.length cx, .slice aix Nk.ids.length cix, .slice apx Nk.inputs.length cpx] := by rw [← hW]; exact ((BR.set 0 _).set 1 _).set 2 _
  have fr6 : Fr (fun k => k = w.heap.size + 1) w9 W := by rw [← hW]; exact fr3 _ _ _ _ _
  clear hW
  have z6 := fr6.size
  have d0 := B6.cell 0 _ rfl
  have d1 := B6.cell 1 _ rfl
  have d2 := B6.cell 2 _ rfl
  refine bodyPost_ret (v := .tuple #[.agg #[.slice ax Nk.ends.length cx, .slice aix Nk.ids.length cix, .slice apx Nk.inputs.length cpx], .bool true]) (by simp [results, Try.results21, go_sem, d0, d1, d2]) rfl ?_
  rw [rmN_t HT.out, HT.out, ← HNk.out]
  exact ⟨_, rfl, (own9.frBx BR fr6).wide (lo' := w.heap.size) (hi' := W.heap.size) (by omega) (by omega), bb.trans (fr6.below (fun k h1 h2 hc => by omega) bb.size)⟩
end Go.Proofs.Ytlooinhdehkcdaa
