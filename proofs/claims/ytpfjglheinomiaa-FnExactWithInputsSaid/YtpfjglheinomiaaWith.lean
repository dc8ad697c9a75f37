/- WithIds, WithInputs: contracts. -/
import Derived.Test.YtpfjglheinomiaaFit
import Derived.Test.YtpfjglheinomiaaCopy
import Derived.Test.YtpfjglheinomiaaAddE
namespace Go.Proofs.Ytpfjglheinomiaa
open Go.RowKit
set_option linter.unusedVariables false
set_option linter.unusedSimpArgs false


theorem disj_new {w : World} {lo hi lo' hi' : Nat} {e e' : TypeId} {s s' n n' : Nat} {a a' : Option Addr} {c c' : Nat} {f f' : Nat → Value} (h : Ow w lo hi e s a n c f) (k : Ow w lo' hi' e' s' a' n' c' f') (hl : hi ≤ lo' ∨ hi' ≤ lo) : blk a c = none ∨ blk a c ≠ blk a' c' := by
  cases hb : blk a c with
  | none => exact .inl rfl
  | some x => exact .inr fun he => by have h5 := Ow.blk_in h hb; have h6 := Ow.blk_in k he.symm; omega
/-- the network with other ids -/
def wiN (N : Net) (l : List Int) : Net := { N with ids := l }
def wiOk (N : Net) (l : List Int) : Bool := netB N && idsB l N.ends.length
def wiR (N : Net) (l : List Int) : Net := ifN (wiOk N l) (wiN N l)
theorem wiOk_f0 {N : Net} {l : List Int} (h : netB N = false) : wiOk N l = false := by rw [wiOk, h]; rfl
theorem wiOk_t {N : Net} {l : List Int} (h : netB N = true) : wiOk N l = idsB l N.ends.length := by rw [wiOk, h]; rfl
theorem wiR_f {N : Net} {l : List Int} (h : wiOk N l = false) : wiR N l = nilN := by rw [wiR, h]; rfl
theorem wiOk_net {N : Net} {l : List Int} (h : netB N = true) : netB (wiN N l) = wiOk N l := by
  rw [wiOk_t h]
  unfold netB at h ⊢
  simp only [Bool.and_eq_true] at h
  obtain ⟨⟨⟨h1, h2⟩, h3⟩, h4⟩ := h
  show (inR (N.ends.length : Int) 1 40 && idsB l N.ends.length && inpB N.inputs N.ends.length && rowsB N.ends) = _
  rw [h1, h3, h4]
  simp
theorem wiOk_le {N : Net} {l : List Int} (h : wiOk N l = true) : l.length ≤ 40 ∧ netB N = true := by
  rw [wiOk, Bool.and_eq_true] at h
  have h1 := netB_small h.1
  obtain ⟨h0, h2⟩ := h
  have h3 : l.length = 0 ∨ l.length = N.ends.length := (of_decide_eq_true h2).2.2
  exact ⟨by omega, h0⟩
theorem wiR_sm {N : Net} {l : List Int} : NetSmall (wiR N l) := ifN_small fun h => by
  have h1 := wiOk_le h
  have h2 := netB_small h1.2
  unfold NetSmall wiN
  show N.ends.length + Total N.ends + l.length + N.inputs.length ≤ 1048576
  omega
theorem wiN_fit {N : Net} {l : List Int} (h : NetSmall N) (hl : l.length ≤ 1048576) : NetFit (wiN N l) := by
  have hr := h.row
  unfold NetSmall at h
  exact ⟨show N.ends.length ≤ _ by omega, show l.length ≤ _ by omega, show N.inputs.length ≤ _ by omega, hr⟩
set_option maxRecDepth 100000 in
set_option maxHeartbeats 800000 in
theorem withIdsS_any (V : Value) (N : Net) (al : Option Addr) (capl : Nat) (l : List Int) (w : World) (B : Nat) (hv : NetIn w B V N) (hB : B ≤ w.heap.size) (ha : RdI w w.heap.size al l) (hcl : l.length ≤ capl) (hs : NetSmall N) (hlen : l.length ≤ 1048576) :
    Calls Try.prog 33 #[V, .slice al l.length capl] w (PostN (wiR N l) (wiOk N l) w) := by
  have HV := Lib.hid hv
  have HS := Lib.hid hs
  obtain ⟨a, c, vs, ai, ci, ap, cp, rfl, h1, _⟩ := hv
  have hl : N.ends.length ≤ 1048576 := by unfold NetSmall at hs; omega
  have BA := (Bx.made w 31 #[.slice a N.ends.length c, .slice ai N.ids.length ci, .slice ap N.inputs.length cp]).alloc (.cells #[.slice none 0 0, .slice none 0 0, .slice none 0 0] 31)
  have BR := Bx.made (w.alloc (.cells #[.slice a N.ends.length c, .slice ai N.ids.length ci, .slice ap N.inputs.length cp] 31)) 31 #[.slice none 0 0, .slice none 0 0, .slice none 0 0]
  have b0 : Below w.heap.size w ((w.alloc (.cells #[.slice a N.ends.length c, .slice ai N.ids.length ci, .slice ap N.inputs.length cp] 31)).alloc (.cells #[.slice none 0 0, .slice none 0 0, .slice none 0 0] 31)) := (by repeat (first | exact Below.refl _ _ | assumption | refine Below.alloc ?_ (by first | (simp; done) | (simp; omega) | omega) _ | refine Below.setCell ?_ (by first | (simp; done) | (simp; omega) | omega) _ | refine Below.drew ?_ | refine Below.drewN ?_ _))
  have z0 : w.heap.size + 1 + 1 ≤ ((w.alloc (.cells #[.slice a N.ends.length c, .slice ai N.ids.length ci, .slice ap N.inputs.length cp] 31)).alloc (.cells #[.slice none 0 0, .slice none 0 0, .slice none 0 0] 31)).heap.size := by simp
  rw [World.size_alloc] at BR
  clear hs h1
  go_enter Try.func33, Try.ntmps33
  go_wp2_with fail
  generalize (w.alloc (.cells #[.slice a N.ends.length c, .slice ai N.ids.length ci, .slice ap N.inputs.length cp] 31)).alloc (.cells #[.slice none 0 0, .slice none 0 0, .slice none 0 0] 31) = w0 at *
  refine (neGood_any _ N _ B (HV.out.below (b0.mono hB)) (Nat.le_trans hB b0.size) HS.out).mono ?_
  rintro e w1 ⟨rfl, bel1⟩
  replace BA := BA.new bel1
  replace BR := BR.new bel1
  have z1 := bel1.size
  have bb := b0.trans (bel1.mono b0.size)
  clear b0 bel1
  cases hn : netB N with
  | false =>
    have HF := Lib.hid (wiOk_f0 (l := l) hn)
    clear hn
    have e0 := BR.cell 0 _ rfl
    have e1 := BR.cell 1 _ rfl
    have e2 := BR.cell 2 _ rfl
    have f0 := BR.frozen 0
    have f1 := BR.frozen 1
    have f2 := BR.frozen 2
    go_wp2_with fail
    clear e0 e1 e2 f0 f1 f2
    generalize hW : World.setCell _ _ _ = W
    have B6 : Bx W (w.heap.size + 1) 31 #[.slice none 0 0, .slice none 0 0, .slice none 0 0] := by rw [← hW]; exact ((BR.set 0 _).set 1 _).set 2 _
    have fr6 : Fr (fun k => k = w.heap.size + 1) w1 W := by rw [← hW]; exact fr3 _ _ _ _ _
    clear hW
    have z6 := fr6.size
    have d0 := B6.cell 0 _ rfl
    have d1 := B6.cell 1 _ rfl
    have d2 := B6.cell 2 _ rfl
    refine bodyPost_ret (v := .tuple #[.agg #[.slice none 0 0, .slice none 0 0, .slice none 0 0], .bool false]) (by simp [results, Try.results33, go_sem, d0, d1, d2]) rfl ?_
    rw [wiR_f HF.out, id HF.out]
    exact ⟨_, rfl, NetAt.nilN _ _ _, bb.trans (fr6.below (fun k h1 h2 hc => by omega) bb.size)⟩
  | true =>
    have HT := Lib.hid hn
    clear hn
    have c0 := BA.cell 0 _ rfl
    have c1 := BA.cell 1 _ rfl
    have c2 := BA.cell 2 _ rfl
    go_wp2_with fail
    refine (neOwn_any _ N _ B (HV.out.below (bb.mono hB)) (Nat.le_trans hB bb.size) HS.out).mono ?_
    rintro e w4 ⟨x4, rfl, own4, bel4⟩
    obtain ⟨a4, c4, ai4, ci4, ap4, cp4, rfl, own4⟩ := own4.shape
    replace BR := BR.new bel4
    have z4 := bel4.size
    replace bb := bb.trans (bel4.mono bb.size)
    clear c0 c1 c2 bel4 BA
    go_upto_region 4 with fail
    have BO := Bx.made w4 31 #[.slice a4 N.ends.length c4, .slice ai4 N.ids.length ci4, .slice ap4 N.inputs.length cp4]
    have b5 : Below w4.heap.size w4 (w4.alloc (.cells #[.slice a4 N.ends.length c4, .slice ai4 N.ids.length ci4, .slice ap4 N.inputs.length cp4] 31)) := (by repeat (first | exact Below.refl _ _ | assumption | refine Below.alloc ?_ (by first | (simp; done) | (simp; omega) | omega) _ | refine Below.setCell ?_ (by first | (simp; done) | (simp; omega) | omega) _ | refine Below.drew ?_ | refine Below.drewN ?_ _))
    replace own4 := own4.new b5
    replace BR := BR.new b5
    replace bb := bb.trans (b5.mono bb.size)
    have z5 := b5.size
    generalize w4.alloc (.cells #[.slice a4 N.ends.length c4, .slice ai4 N.ids.length ci4, .slice ap4 N.inputs.length cp4] 31) = w5 at *
    obtain ⟨b, hb⟩ : ∃ b, b = w4.heap.size := ⟨_, rfl⟩
    rw [← hb] at BO ⊢
    have zb : w4.heap.size ≤ b := by omega
    clear hb b5
    obtain ⟨aq, cq, vs, aiq, ciq, apq, cpq, hvq, hE, owni, ownp, hdis⟩ := own4
    simp only [Value.agg.injEq, Array.mk.injEq, List.cons.injEq, Value.slice.injEq, true_and, and_true] at hvq
    obtain ⟨⟨rfl, rfl⟩, ⟨rfl, rfl⟩, rfl, rfl⟩ := hvq
    go_wp2_with fail
    refine (l1Own_any al capl l w5 w.heap.size (Rd.below ha bb) bb.size hlen).mono ?_
    rintro e w6 ⟨aa, ca, rfl, owna, bel6⟩
    replace BO := BO.new bel6
    replace BR := BR.new bel6
    replace hE := RowsAt.new hE bel6
    replace owni := Ow.new owni bel6
    replace ownp := Ow.new ownp bel6
    have z6 := bel6.size
    replace bb := bb.trans (bel6.mono bb.size)
    clear bel6
    have q0 := BO.cell 0 _ rfl
    have q1 := BO.cell 1 _ rfl
    have q2 := BO.cell 2 _ rfl
    have f0 := BO.frozen 0
    have f1 := BO.frozen 1
    have f2 := BO.frozen 2
    go_upto_region 5 with fail
    clear q0 q1 q2 f0 f1 f2
    have fr8 := fr_set w6 b 1 (.slice aa l.length ca)
    replace hE := RowsAt.wide (hi' := (w6.setCell ⟨b, 1, none⟩ (.slice aa l.length ca)).heap.size) (RowsAt.frB hE fr8 (fun k hk hc => BO.ne_row hE.1 (by decide) (hc ▸ hk)) (fun j hj k hk hc => BO.ne_row (hE.2.1 j hj) (by decide) (hc ▸ hk))) (Nat.le_refl _) (by rw [size_set]; omega)
    have hdA := disj_new owni owna (by omega)
    have hdB := disj_new owna ownp (by omega)
    replace owni := Ow.wide (hi' := (w6.setCell ⟨b, 1, none⟩ (.slice aa l.length ca)).heap.size) (Ow.frB owni fr8 (fun k hk hc => BO.ne_row owni (by decide) (hc ▸ hk))) (Nat.le_refl _) (by rw [size_set]; omega)
    replace ownp := Ow.wide (hi' := (w6.setCell ⟨b, 1, none⟩ (.slice aa l.length ca)).heap.size) (Ow.frB ownp fr8 (fun k hk hc => BO.ne_row ownp (by decide) (hc ▸ hk))) (Nat.le_refl _) (by rw [size_set]; omega)
    replace owna := Ow.wide (hi' := (w6.setCell ⟨b, 1, none⟩ (.slice aa l.length ca)).heap.size) (lo' := w1.heap.size) (Ow.frB owna fr8 (fun k hk hc => BO.ne_row owna (by decide) (hc ▸ hk))) (by omega) (by rw [size_set]; omega)
    replace BO := BO.set 1 (.slice aa l.length ca)
    replace BR := BR.fr fr8 (by omega)
    replace bb := bb.trans (fr8.below (B := w.heap.size) (fun k h1 h2 hc => by omega) bb.size)
    have z8 := fr8.size
    generalize w6.setCell ⟨b, 1, none⟩ (.slice aa l.length ca) = w8 at *
    clear fr8
    have own8 : NetAt w8 w1.heap.size w8.heap.size (.agg #[.slice a4 N.ends.length c4, .slice aa l.length ca, .slice ap4 N.inputs.length cp4]) (wiN N l) := ⟨_, _, vs, _, _, _, _, rfl, hE, owna, ownp, hdB⟩
    have q0 := BO.cell 0 _ rfl
    have q1 := BO.cell 1 _ rfl
    have q2 := BO.cell 2 _ rfl
    clear hE owni ownp owna BO
    go_wp2_with fail
    clear q0 q1 q2
    refine (neIfF_any _ (wiN N l) _ _ _ own8 (Nat.le_refl _) (by omega) (wiN_fit HS.out hlen)).mono ?_
    rintro e w9 ⟨x9, rfl, own9, bel9⟩
    replace BR := BR.new bel9
    replace bb := bb.trans (bel9.mono bb.size)
    have z9 := bel9.size
    clear bel9 own8
    obtain ⟨ax, cx, aix, cix, apx, cpx, rfl, own9⟩ := own9.shape
    generalize hRR : ifN (netB (wiN N l)) (wiN N l) = RR at *
    generalize hOO : netB (wiN N l) = oo at *
    have HRR := Lib.hid hRR
    have HOO := Lib.hid hOO
    clear hRR hOO
    have e0 := BR.cell 0 _ rfl
    have e1 := BR.cell 1 _ rfl
    have e2 := BR.cell 2 _ rfl
    have f0 := BR.frozen 0
    have f1 := BR.frozen 1
    have f2 := BR.frozen 2
    go_wp2_with fail
    clear e0 e1 e2 f0 f1 f2
    generalize hW : World.setCell _ _ _ = W
    have B6 : Bx W (w.heap.size + 1) 31 #[.slice ax RR.ends.length cx, .slice aix RR.ids.length cix, .slice apx RR.inputs.length cpx] := by rw [← hW]; exact ((BR.set 0 _).set 1 _).set 2 _
    have fr6 : Fr (fun k => k = w.heap.size + 1) w9 W := by rw [← hW]; exact fr3 _ _ _ _ _
    clear hW
    have z6 := fr6.size
    have d0 := B6.cell 0 _ rfl
    have d1 := B6.cell 1 _ rfl
    have d2 := B6.cell 2 _ rfl
    refine bodyPost_ret (v := .tuple #[.agg #[.slice ax RR.ends.length cx, .slice aix RR.ids.length cix, .slice apx RR.inputs.length cpx], .bool oo]) (by simp [results, Try.results33, go_sem, d0, d1, d2]) rfl ?_
    rw [wiR, ← wiOk_net HT.out, HOO.out, HRR.out]
    exact ⟨_, rfl, (own9.frBx BR fr6).wide (lo' := w.heap.size) (hi' := W.heap.size) (by omega) (by omega), bb.trans (fr6.below (fun k h1 h2 hc => by omega) bb.size)⟩
set_option maxRecDepth 100000 in
set_option maxHeartbeats 800000 in
theorem withIds_any (V : Value) (N : Net) (al : Option Addr) (capl : Nat) (l : List Int) (w : World) (B : Nat) (hv : NetIn w B V N) (hB : B ≤ w.heap.size) (ha : RdI w w.heap.size al l) (hcl : l.length ≤ capl) (hs : NetSmall N) (hlen : l.length ≤ 1048576) :
    Calls Try.prog 35 #[V, .slice al l.length capl] w (PostN (wiR N l) (wiOk N l) w) := by
  have HV := Lib.hid hv
  have HS := Lib.hid hs
  obtain ⟨a, c, vs, ai, ci, ap, cp, rfl, h1, _⟩ := hv
  have hl : N.ends.length ≤ 1048576 := by unfold NetSmall at hs; omega
  have BA := (Bx.made w 31 #[.slice a N.ends.length c, .slice ai N.ids.length ci, .slice ap N.inputs.length cp]).alloc (.cells #[.slice none 0 0, .slice none 0 0, .slice none 0 0] 31)
  have BR := Bx.made (w.alloc (.cells #[.slice a N.ends.length c, .slice ai N.ids.length ci, .slice ap N.inputs.length cp] 31)) 31 #[.slice none 0 0, .slice none 0 0, .slice none 0 0]
  have b0 : Below w.heap.size w ((w.alloc (.cells #[.slice a N.ends.length c, .slice ai N.ids.length ci, .slice ap N.inputs.length cp] 31)).alloc (.cells #[.slice none 0 0, .slice none 0 0, .slice none 0 0] 31)) := (by repeat (first | exact Below.refl _ _ | assumption | refine Below.alloc ?_ (by first | (simp; done) | (simp; omega) | omega) _ | refine Below.setCell ?_ (by first | (simp; done) | (simp; omega) | omega) _ | refine Below.drew ?_ | refine Below.drewN ?_ _))
  have z0 : w.heap.size + 1 + 1 ≤ ((w.alloc (.cells #[.slice a N.ends.length c, .slice ai N.ids.length ci, .slice ap N.inputs.length cp] 31)).alloc (.cells #[.slice none 0 0, .slice none 0 0, .slice none 0 0] 31)).heap.size := by simp
  rw [World.size_alloc] at BR
  clear hs h1
  go_enter Try.func35, Try.ntmps35
  go_wp2_with fail
  generalize (w.alloc (.cells #[.slice a N.ends.length c, .slice ai N.ids.length ci, .slice ap N.inputs.length cp] 31)).alloc (.cells #[.slice none 0 0, .slice none 0 0, .slice none 0 0] 31) = w0 at *
  refine (isNetwork_any _ N _ B (HV.out.below (b0.mono hB)).rd (Nat.le_trans hB b0.size) HS.out).mono ?_
  rintro e w1 ⟨rfl, bel1⟩
  replace BA := BA.new bel1
  replace BR := BR.new bel1
  have z1 := bel1.size
  have bb := b0.trans (bel1.mono b0.size)
  clear b0 bel1
  cases hn : netB N with
  | false =>
    have HF := Lib.hid (wiOk_f0 (l := l) hn)
    clear hn
    have e0 := BR.cell 0 _ rfl
    have e1 := BR.cell 1 _ rfl
    have e2 := BR.cell 2 _ rfl
    have f0 := BR.frozen 0
    have f1 := BR.frozen 1
    have f2 := BR.frozen 2
    go_wp2_with fail
    clear e0 e1 e2 f0 f1 f2
    generalize hW : World.setCell _ _ _ = W
    have B6 : Bx W (w.heap.size + 1) 31 #[.slice none 0 0, .slice none 0 0, .slice none 0 0] := by rw [← hW]; exact ((BR.set 0 _).set 1 _).set 2 _
    have fr6 : Fr (fun k => k = w.heap.size + 1) w1 W := by rw [← hW]; exact fr3 _ _ _ _ _
    clear hW
    have z6 := fr6.size
    have d0 := B6.cell 0 _ rfl
    have d1 := B6.cell 1 _ rfl
    have d2 := B6.cell 2 _ rfl
    refine bodyPost_ret (v := .tuple #[.agg #[.slice none 0 0, .slice none 0 0, .slice none 0 0], .bool false]) (by simp [results, Try.results35, go_sem, d0, d1, d2]) rfl ?_
    rw [wiR_f HF.out, id HF.out]
    exact ⟨_, rfl, NetAt.nilN _ _ _, bb.trans (fr6.below (fun k h1 h2 hc => by omega) bb.size)⟩
  | true =>
    have HN := Lib.hid (wiOk_t (l := l) hn)
    clear hn
    have c0 := BA.cell 0 _ rfl
    have c1 := BA.cell 1 _ rfl
    have c2 := BA.cell 2 _ rfl
    go_wp2_with fail
    refine (idsOk_any al capl l N.ends.length w1 w.heap.size (Rd.below ha bb) bb.size hlen hl).mono ?_
    rintro e w2 ⟨rfl, bel2⟩
    replace BA := BA.new bel2
    replace BR := BR.new bel2
    have z2 := bel2.size
    replace bb := bb.trans (bel2.mono bb.size)
    clear c0 c1 c2 bel2
    cases hn : idsB l N.ends.length with
    | false =>
      have HF := Lib.hid (HN.out.trans hn)
      clear hn
      have e0 := BR.cell 0 _ rfl
      have e1 := BR.cell 1 _ rfl
      have e2 := BR.cell 2 _ rfl
      have f0 := BR.frozen 0
      have f1 := BR.frozen 1
      have f2 := BR.frozen 2
      go_wp2_with fail
      clear e0 e1 e2 f0 f1 f2
      generalize hW : World.setCell _ _ _ = W
      have B6 : Bx W (w.heap.size + 1) 31 #[.slice none 0 0, .slice none 0 0, .slice none 0 0] := by rw [← hW]; exact ((BR.set 0 _).set 1 _).set 2 _
      have fr6 : Fr (fun k => k = w.heap.size + 1) w2 W := by rw [← hW]; exact fr3 _ _ _ _ _
      clear hW
      have z6 := fr6.size
      have d0 := B6.cell 0 _ rfl
      have d1 := B6.cell 1 _ rfl
      have d2 := B6.cell 2 _ rfl
      refine bodyPost_ret (v := .tuple #[.agg #[.slice none 0 0, .slice none 0 0, .slice none 0 0], .bool false]) (by simp [results, Try.results35, go_sem, d0, d1, d2]) rfl ?_
      rw [wiR_f HF.out, id HF.out]
      exact ⟨_, rfl, NetAt.nilN _ _ _, bb.trans (fr6.below (fun k h1 h2 hc => by omega) bb.size)⟩
    | true =>
      have HT := Lib.hid (HN.out.trans hn)
      clear hn
      have c0 := BA.cell 0 _ rfl
      have c1 := BA.cell 1 _ rfl
      have c2 := BA.cell 2 _ rfl
      go_wp2_with fail
      refine (copyNetwork_any _ N _ B (HV.out.below (bb.mono hB)) (Nat.le_trans hB bb.size) HS.out).mono ?_
      rintro e w4 ⟨x4, rfl, own4, bel4⟩
      obtain ⟨a4, c4, ai4, ci4, ap4, cp4, rfl, own4⟩ := own4.shape
      replace BR := BR.new bel4
      have z4 := bel4.size
      replace bb := bb.trans (bel4.mono bb.size)
      clear c0 c1 c2 bel4 BA
      go_upto_region 4 with fail
      have BO := Bx.made w4 31 #[.slice a4 N.ends.length c4, .slice ai4 N.ids.length ci4, .slice ap4 N.inputs.length cp4]
      have b5 : Below w4.heap.size w4 (w4.alloc (.cells #[.slice a4 N.ends.length c4, .slice ai4 N.ids.length ci4, .slice ap4 N.inputs.length cp4] 31)) := (by repeat (first | exact Below.refl _ _ | assumption | refine Below.alloc ?_ (by first | (simp; done) | (simp; omega) | omega) _ | refine Below.setCell ?_ (by first | (simp; done) | (simp; omega) | omega) _ | refine Below.drew ?_ | refine Below.drewN ?_ _))
      replace own4 := own4.new b5
      replace BR := BR.new b5
      replace bb := bb.trans (b5.mono bb.size)
      have z5 := b5.size
      generalize w4.alloc (.cells #[.slice a4 N.ends.length c4, .slice ai4 N.ids.length ci4, .slice ap4 N.inputs.length cp4] 31) = w5 at *
      obtain ⟨b, hb⟩ : ∃ b, b = w4.heap.size := ⟨_, rfl⟩
      rw [← hb] at BO ⊢
      have zb : w4.heap.size ≤ b := by omega
      clear hb b5
      obtain ⟨aq, cq, vs, aiq, ciq, apq, cpq, hvq, hE, owni, ownp, hdis⟩ := own4
      simp only [Value.agg.injEq, Array.mk.injEq, List.cons.injEq, Value.slice.injEq, true_and, and_true] at hvq
      obtain ⟨⟨rfl, rfl⟩, ⟨rfl, rfl⟩, rfl, rfl⟩ := hvq
      go_wp2_with fail
      refine (cloneI_any al capl l w5 w.heap.size (Rd.below ha bb) hlen).mono ?_
      rintro e w6 ⟨aa, ca, rfl, owna, bel6⟩
      replace BO := BO.new bel6
      replace BR := BR.new bel6
      replace hE := RowsAt.new hE bel6
      replace owni := Ow.new owni bel6
      replace ownp := Ow.new ownp bel6
      have z6 := bel6.size
      replace bb := bb.trans (bel6.mono bb.size)
      clear bel6
      have q0 := BO.cell 0 _ rfl
      have q1 := BO.cell 1 _ rfl
      have q2 := BO.cell 2 _ rfl
      have f0 := BO.frozen 0
      have f1 := BO.frozen 1
      have f2 := BO.frozen 2
      go_upto_region 5 with fail
      clear q0 q1 q2 f0 f1 f2
      have fr8 := fr_set w6 b 1 (.slice aa l.length ca)
      replace hE := RowsAt.wide (hi' := (w6.setCell ⟨b, 1, none⟩ (.slice aa l.length ca)).heap.size) (RowsAt.frB hE fr8 (fun k hk hc => BO.ne_row hE.1 (by decide) (hc ▸ hk)) (fun j hj k hk hc => BO.ne_row (hE.2.1 j hj) (by decide) (hc ▸ hk))) (Nat.le_refl _) (by rw [size_set]; omega)
      have hdA := disj_new owni owna (by omega)
      have hdB := disj_new owna ownp (by omega)
      replace owni := Ow.wide (hi' := (w6.setCell ⟨b, 1, none⟩ (.slice aa l.length ca)).heap.size) (Ow.frB owni fr8 (fun k hk hc => BO.ne_row owni (by decide) (hc ▸ hk))) (Nat.le_refl _) (by rw [size_set]; omega)
      replace ownp := Ow.wide (hi' := (w6.setCell ⟨b, 1, none⟩ (.slice aa l.length ca)).heap.size) (Ow.frB ownp fr8 (fun k hk hc => BO.ne_row ownp (by decide) (hc ▸ hk))) (Nat.le_refl _) (by rw [size_set]; omega)
      replace owna := Ow.wide (hi' := (w6.setCell ⟨b, 1, none⟩ (.slice aa l.length ca)).heap.size) (lo' := w2.heap.size) (Ow.frB owna fr8 (fun k hk hc => BO.ne_row owna (by decide) (hc ▸ hk))) (by omega) (by rw [size_set]; omega)
      replace BO := BO.set 1 (.slice aa l.length ca)
      replace BR := BR.fr fr8 (by omega)
      replace bb := bb.trans (fr8.below (B := w.heap.size) (fun k h1 h2 hc => by omega) bb.size)
      have z8 := fr8.size
      generalize w6.setCell ⟨b, 1, none⟩ (.slice aa l.length ca) = w8 at *
      clear fr8
      have q0 := BO.cell 0 _ rfl
      have q1 := BO.cell 1 _ rfl
      have q2 := BO.cell 2 _ rfl
      have e0 := BR.cell 0 _ rfl
      have e1 := BR.cell 1 _ rfl
      have e2 := BR.cell 2 _ rfl
      have f0 := BR.frozen 0
      have f1 := BR.frozen 1
      have f2 := BR.frozen 2
      go_wp2_with fail
      clear q0 q1 q2 e0 e1 e2 f0 f1 f2
      generalize hW : World.setCell _ _ _ = W
      have B6 : Bx W (w.heap.size + 1) 31 #[.slice a4 N.ends.length c4, .slice aa l.length ca, .slice ap4 N.inputs.length cp4] := by rw [← hW]; exact ((BR.set 0 _).set 1 _).set 2 _
      have fr6 : Fr (fun k => k = w.heap.size + 1) w8 W := by rw [← hW]; exact fr3 _ _ _ _ _
      clear hW
      have z6 := fr6.size
      have d0 := B6.cell 0 _ rfl
      have d1 := B6.cell 1 _ rfl
      have d2 := B6.cell 2 _ rfl
      refine bodyPost_ret (v := .tuple #[.agg #[.slice a4 N.ends.length c4, .slice aa l.length ca, .slice ap4 N.inputs.length cp4], .bool true]) (by simp [results, Try.results35, go_sem, d0, d1, d2]) rfl ?_
      rw [wiR, HT.out]
      have own8 : NetAt w8 w2.heap.size w8.heap.size (.agg #[.slice a4 N.ends.length c4, .slice aa l.length ca, .slice ap4 N.inputs.length cp4]) (wiN N l) := ⟨_, _, vs, _, _, _, _, rfl, hE, owna, ownp, hdB⟩
      exact ⟨_, rfl, (own8.frBx BR fr6).wide (lo' := w.heap.size) (hi' := W.heap.size) (by omega) (by omega), bb.trans (fr6.below (fun k h1 h2 hc => by omega) bb.size)⟩
/-- the network with other inputs -/
def wpN (N : Net) (l : List Int) : Net := { N with inputs := l }
def wpOk (N : Net) (l : List Int) : Bool := netB N && inpB l N.ends.length
def wpR (N : Net) (l : List Int) : Net := ifN (wpOk N l) (wpN N l)
theorem wpOk_f0 {N : Net} {l : List Int} (h : netB N = false) : wpOk N l = false := by rw [wpOk, h]; rfl
theorem wpOk_t {N : Net} {l : List Int} (h : netB N = true) : wpOk N l = inpB l N.ends.length := by rw [wpOk, h]; rfl
theorem wpR_f {N : Net} {l : List Int} (h : wpOk N l = false) : wpR N l = nilN := by rw [wpR, h]; rfl
theorem wpOk_net {N : Net} {l : List Int} (h : netB N = true) : netB (wpN N l) = wpOk N l := by
  rw [wpOk_t h]
  unfold netB at h ⊢
  simp only [Bool.and_eq_true] at h
  obtain ⟨⟨⟨h1, h2⟩, h3⟩, h4⟩ := h
  show (inR (N.ends.length : Int) 1 40 && idsB N.ids N.ends.length && inpB l N.ends.length && rowsB N.ends) = _
  rw [h1, h2, h4]
  simp
theorem wpOk_le {N : Net} {l : List Int} (h : wpOk N l = true) : l.length ≤ 40 ∧ netB N = true := by
  rw [wpOk, Bool.and_eq_true] at h
  have h1 := netB_small h.1
  obtain ⟨h0, h2⟩ := h
  have h3 : l.length = 0 ∨ l.length = N.ends.length := (by unfold inpB at h2; rw [Bool.and_eq_true] at h2; exact .inr (of_decide_eq_true h2.1))
  exact ⟨by omega, h0⟩
theorem wpR_sm {N : Net} {l : List Int} : NetSmall (wpR N l) := ifN_small fun h => by
  have h1 := wpOk_le h
  have h2 := netB_small h1.2
  unfold NetSmall wpN
  show N.ends.length + Total N.ends + N.ids.length + l.length ≤ 1048576
  omega
theorem wpN_fit {N : Net} {l : List Int} (h : NetSmall N) (hl : l.length ≤ 1048576) : NetFit (wpN N l) := by
  have hr := h.row
  unfold NetSmall at h
  exact ⟨show N.ends.length ≤ _ by omega, show N.ids.length ≤ _ by omega, show l.length ≤ _ by omega, hr⟩
set_option maxRecDepth 100000 in
set_option maxHeartbeats 800000 in
theorem withInputsS_any (V : Value) (N : Net) (al : Option Addr) (capl : Nat) (l : List Int) (w : World) (B : Nat) (hv : NetIn w B V N) (hB : B ≤ w.heap.size) (ha : RdI w w.heap.size al l) (hcl : l.length ≤ capl) (hs : NetSmall N) (hlen : l.length ≤ 1048576) :
    Calls Try.prog 37 #[V, .slice al l.length capl] w (PostN (wpR N l) (wpOk N l) w) := by
  have HV := Lib.hid hv
  have HS := Lib.hid hs
  obtain ⟨a, c, vs, ai, ci, ap, cp, rfl, h1, _⟩ := hv
  have hl : N.ends.length ≤ 1048576 := by unfold NetSmall at hs; omega
  have BA := (Bx.made w 31 #[.slice a N.ends.length c, .slice ai N.ids.length ci, .slice ap N.inputs.length cp]).alloc (.cells #[.slice none 0 0, .slice none 0 0, .slice none 0 0] 31)
  have BR := Bx.made (w.alloc (.cells #[.slice a N.ends.length c, .slice ai N.ids.length ci, .slice ap N.inputs.length cp] 31)) 31 #[.slice none 0 0, .slice none 0 0, .slice none 0 0]
  have b0 : Below w.heap.size w ((w.alloc (.cells #[.slice a N.ends.length c, .slice ai N.ids.length ci, .slice ap N.inputs.length cp] 31)).alloc (.cells #[.slice none 0 0, .slice none 0 0, .slice none 0 0] 31)) := (by repeat (first | exact Below.refl _ _ | assumption | refine Below.alloc ?_ (by first | (simp; done) | (simp; omega) | omega) _ | refine Below.setCell ?_ (by first | (simp; done) | (simp; omega) | omega) _ | refine Below.drew ?_ | refine Below.drewN ?_ _))
  have z0 : w.heap.size + 1 + 1 ≤ ((w.alloc (.cells #[.slice a N.ends.length c, .slice ai N.ids.length ci, .slice ap N.inputs.length cp] 31)).alloc (.cells #[.slice none 0 0, .slice none 0 0, .slice none 0 0] 31)).heap.size := by simp
  rw [World.size_alloc] at BR
  clear hs h1
  go_enter Try.func37, Try.ntmps37
  go_wp2_with fail
  generalize (w.alloc (.cells #[.slice a N.ends.length c, .slice ai N.ids.length ci, .slice ap N.inputs.length cp] 31)).alloc (.cells #[.slice none 0 0, .slice none 0 0, .slice none 0 0] 31) = w0 at *
  refine (neGood_any _ N _ B (HV.out.below (b0.mono hB)) (Nat.le_trans hB b0.size) HS.out).mono ?_
  rintro e w1 ⟨rfl, bel1⟩
  replace BA := BA.new bel1
  replace BR := BR.new bel1
  have z1 := bel1.size
  have bb := b0.trans (bel1.mono b0.size)
  clear b0 bel1
  cases hn : netB N with
  | false =>
    have HF := Lib.hid (wpOk_f0 (l := l) hn)
    clear hn
    have e0 := BR.cell 0 _ rfl
    have e1 := BR.cell 1 _ rfl
    have e2 := BR.cell 2 _ rfl
    have f0 := BR.frozen 0
    have f1 := BR.frozen 1
    have f2 := BR.frozen 2
    go_wp2_with fail
    clear e0 e1 e2 f0 f1 f2
    generalize hW : World.setCell _ _ _ = W
    have B6 : Bx W (w.heap.size + 1) 31 #[.slice none 0 0, .slice none 0 0, .slice none 0 0] := by rw [← hW]; exact ((BR.set 0 _).set 1 _).set 2 _
    have fr6 : Fr (fun k => k = w.heap.size + 1) w1 W := by rw [← hW]; exact fr3 _ _ _ _ _
    clear hW
    have z6 := fr6.size
    have d0 := B6.cell 0 _ rfl
    have d1 := B6.cell 1 _ rfl
    have d2 := B6.cell 2 _ rfl
    refine bodyPost_ret (v := .tuple #[.agg #[.slice none 0 0, .slice none 0 0, .slice none 0 0], .bool false]) (by simp [results, Try.results37, go_sem, d0, d1, d2]) rfl ?_
    rw [wpR_f HF.out, id HF.out]
    exact ⟨_, rfl, NetAt.nilN _ _ _, bb.trans (fr6.below (fun k h1 h2 hc => by omega) bb.size)⟩
  | true =>
    have HT := Lib.hid hn
    clear hn
    have c0 := BA.cell 0 _ rfl
    have c1 := BA.cell 1 _ rfl
    have c2 := BA.cell 2 _ rfl
    go_wp2_with fail
    refine (neOwn_any _ N _ B (HV.out.below (bb.mono hB)) (Nat.le_trans hB bb.size) HS.out).mono ?_
    rintro e w4 ⟨x4, rfl, own4, bel4⟩
    obtain ⟨a4, c4, ai4, ci4, ap4, cp4, rfl, own4⟩ := own4.shape
    replace BR := BR.new bel4
    have z4 := bel4.size
    replace bb := bb.trans (bel4.mono bb.size)
    clear c0 c1 c2 bel4 BA
    go_upto_region 4 with fail
    have BO := Bx.made w4 31 #[.slice a4 N.ends.length c4, .slice ai4 N.ids.length ci4, .slice ap4 N.inputs.length cp4]
    have b5 : Below w4.heap.size w4 (w4.alloc (.cells #[.slice a4 N.ends.length c4, .slice ai4 N.ids.length ci4, .slice ap4 N.inputs.length cp4] 31)) := (by repeat (first | exact Below.refl _ _ | assumption | refine Below.alloc ?_ (by first | (simp; done) | (simp; omega) | omega) _ | refine Below.setCell ?_ (by first | (simp; done) | (simp; omega) | omega) _ | refine Below.drew ?_ | refine Below.drewN ?_ _))
    replace own4 := own4.new b5
    replace BR := BR.new b5
    replace bb := bb.trans (b5.mono bb.size)
    have z5 := b5.size
    generalize w4.alloc (.cells #[.slice a4 N.ends.length c4, .slice ai4 N.ids.length ci4, .slice ap4 N.inputs.length cp4] 31) = w5 at *
    obtain ⟨b, hb⟩ : ∃ b, b = w4.heap.size := ⟨_, rfl⟩
    rw [← hb] at BO ⊢
    have zb : w4.heap.size ≤ b := by omega
    clear hb b5
    obtain ⟨aq, cq, vs, aiq, ciq, apq, cpq, hvq, hE, owni, ownp, hdis⟩ := own4
    simp only [Value.agg.injEq, Array.mk.injEq, List.cons.injEq, Value.slice.injEq, true_and, and_true] at hvq
    obtain ⟨⟨rfl, rfl⟩, ⟨rfl, rfl⟩, rfl, rfl⟩ := hvq
    go_wp2_with fail
    refine (l1Own_any al capl l w5 w.heap.size (Rd.below ha bb) bb.size hlen).mono ?_
    rintro e w6 ⟨aa, ca, rfl, owna, bel6⟩
    replace BO := BO.new bel6
    replace BR := BR.new bel6
    replace hE := RowsAt.new hE bel6
    replace owni := Ow.new owni bel6
    replace ownp := Ow.new ownp bel6
    have z6 := bel6.size
    replace bb := bb.trans (bel6.mono bb.size)
    clear bel6
    have q0 := BO.cell 0 _ rfl
    have q1 := BO.cell 1 _ rfl
    have q2 := BO.cell 2 _ rfl
    have f0 := BO.frozen 0
    have f1 := BO.frozen 1
    have f2 := BO.frozen 2
    go_upto_region 5 with fail
    clear q0 q1 q2 f0 f1 f2
    have fr8 := fr_set w6 b 2 (.slice aa l.length ca)
    replace hE := RowsAt.wide (hi' := (w6.setCell ⟨b, 2, none⟩ (.slice aa l.length ca)).heap.size) (RowsAt.frB hE fr8 (fun k hk hc => BO.ne_row hE.1 (by decide) (hc ▸ hk)) (fun j hj k hk hc => BO.ne_row (hE.2.1 j hj) (by decide) (hc ▸ hk))) (Nat.le_refl _) (by rw [size_set]; omega)
    have hdA := disj_new owni owna (by omega)
    have hdB := disj_new owna ownp (by omega)
    replace owni := Ow.wide (hi' := (w6.setCell ⟨b, 2, none⟩ (.slice aa l.length ca)).heap.size) (Ow.frB owni fr8 (fun k hk hc => BO.ne_row owni (by decide) (hc ▸ hk))) (Nat.le_refl _) (by rw [size_set]; omega)
    replace ownp := Ow.wide (hi' := (w6.setCell ⟨b, 2, none⟩ (.slice aa l.length ca)).heap.size) (Ow.frB ownp fr8 (fun k hk hc => BO.ne_row ownp (by decide) (hc ▸ hk))) (Nat.le_refl _) (by rw [size_set]; omega)
    replace owna := Ow.wide (hi' := (w6.setCell ⟨b, 2, none⟩ (.slice aa l.length ca)).heap.size) (lo' := w1.heap.size) (Ow.frB owna fr8 (fun k hk hc => BO.ne_row owna (by decide) (hc ▸ hk))) (by omega) (by rw [size_set]; omega)
    replace BO := BO.set 2 (.slice aa l.length ca)
    replace BR := BR.fr fr8 (by omega)
    replace bb := bb.trans (fr8.below (B := w.heap.size) (fun k h1 h2 hc => by omega) bb.size)
    have z8 := fr8.size
    generalize w6.setCell ⟨b, 2, none⟩ (.slice aa l.length ca) = w8 at *
    clear fr8
    have own8 : NetAt w8 w1.heap.size w8.heap.size (.agg #[.slice a4 N.ends.length c4, .slice ai4 N.ids.length ci4, .slice aa l.length ca]) (wpN N l) := ⟨_, _, vs, _, _, _, _, rfl, hE, owni, owna, hdA⟩
    have q0 := BO.cell 0 _ rfl
    have q1 := BO.cell 1 _ rfl
    have q2 := BO.cell 2 _ rfl
    clear hE owni ownp owna BO
    go_wp2_with fail
    clear q0 q1 q2
    refine (neIfF_any _ (wpN N l) _ _ _ own8 (Nat.le_refl _) (by omega) (wpN_fit HS.out hlen)).mono ?_
    rintro e w9 ⟨x9, rfl, own9, bel9⟩
    replace BR := BR.new bel9
    replace bb := bb.trans (bel9.mono bb.size)
    have z9 := bel9.size
    clear bel9 own8
    obtain ⟨ax, cx, aix, cix, apx, cpx, rfl, own9⟩ := own9.shape
    generalize hRR : ifN (netB (wpN N l)) (wpN N l) = RR at *
    generalize hOO : netB (wpN N l) = oo at *
    have HRR := Lib.hid hRR
    have HOO := Lib.hid hOO
    clear hRR hOO
    have e0 := BR.cell 0 _ rfl
    have e1 := BR.cell 1 _ rfl
    have e2 := BR.cell 2 _ rfl
    have f0 := BR.frozen 0
    have f1 := BR.frozen 1
    have f2 := BR.frozen 2
    go_wp2_with fail
    clear e0 e1 e2 f0 f1 f2
    generalize hW : World.setCell _ _ _ = W
    have B6 : Bx W (w.heap.size + 1) 31 #[.slice ax RR.ends.length cx, .slice aix RR.ids.length cix, .slice apx RR.inputs.length cpx] := by rw [← hW]; exact ((BR.set 0 _).set 1 _).set 2 _
    have fr6 : Fr (fun k => k = w.heap.size + 1) w9 W := by rw [← hW]; exact fr3 _ _ _ _ _
    clear hW
    have z6 := fr6.size
    have d0 := B6.cell 0 _ rfl
    have d1 := B6.cell 1 _ rfl
    have d2 := B6.cell 2 _ rfl
    refine bodyPost_ret (v := .tuple #[.agg #[.slice ax RR.ends.length cx, .slice aix RR.ids.length cix, .slice apx RR.inputs.length cpx], .bool oo]) (by simp [results, Try.results37, go_sem, d0, d1, d2]) rfl ?_
    rw [wpR, ← wpOk_net HT.out, HOO.out, HRR.out]
    exact ⟨_, rfl, (own9.frBx BR fr6).wide (lo' := w.heap.size) (hi' := W.heap.size) (by omega) (by omega), bb.trans (fr6.below (fun k h1 h2 hc => by omega) bb.size)⟩
set_option maxRecDepth 100000 in
set_option maxHeartbeats 800000 in
theorem withInputs_any (V : Value) (N : Net) (al : Option Addr) (capl : Nat) (l : List Int) (w : World) (B : Nat) (hv : NetIn w B V N) (hB : B ≤ w.heap.size) (ha : RdI w w.heap.size al l) (hcl : l.length ≤ capl) (hs : NetSmall N) (hlen : l.length ≤ 1048576) :
    Calls Try.prog 38 #[V, .slice al l.length capl] w (PostN (wpR N l) (wpOk N l) w) := by
  have HV := Lib.hid hv
  have HS := Lib.hid hs
  obtain ⟨a, c, vs, ai, ci, ap, cp, rfl, h1, _⟩ := hv
  have hl : N.ends.length ≤ 1048576 := by unfold NetSmall at hs; omega
  have BA := (Bx.made w 31 #[.slice a N.ends.length c, .slice ai N.ids.length ci, .slice ap N.inputs.length cp]).alloc (.cells #[.slice none 0 0, .slice none 0 0, .slice none 0 0] 31)
  have BR := Bx.made (w.alloc (.cells #[.slice a N.ends.length c, .slice ai N.ids.length ci, .slice ap N.inputs.length cp] 31)) 31 #[.slice none 0 0, .slice none 0 0, .slice none 0 0]
  have b0 : Below w.heap.size w ((w.alloc (.cells #[.slice a N.ends.length c, .slice ai N.ids.length ci, .slice ap N.inputs.length cp] 31)).alloc (.cells #[.slice none 0 0, .slice none 0 0, .slice none 0 0] 31)) := (by repeat (first | exact Below.refl _ _ | assumption | refine Below.alloc ?_ (by first | (simp; done) | (simp; omega) | omega) _ | refine Below.setCell ?_ (by first | (simp; done) | (simp; omega) | omega) _ | refine Below.drew ?_ | refine Below.drewN ?_ _))
  have z0 : w.heap.size + 1 + 1 ≤ ((w.alloc (.cells #[.slice a N.ends.length c, .slice ai N.ids.length ci, .slice ap N.inputs.length cp] 31)).alloc (.cells #[.slice none 0 0, .slice none 0 0, .slice none 0 0] 31)).heap.size := by simp
  rw [World.size_alloc] at BR
  clear hs h1
  go_enter Try.func38, Try.ntmps38
  go_wp2_with fail
  generalize (w.alloc (.cells #[.slice a N.ends.length c, .slice ai N.ids.length ci, .slice ap N.inputs.length cp] 31)).alloc (.cells #[.slice none 0 0, .slice none 0 0, .slice none 0 0] 31) = w0 at *
  refine (isNetwork_any _ N _ B (HV.out.below (b0.mono hB)).rd (Nat.le_trans hB b0.size) HS.out).mono ?_
  rintro e w1 ⟨rfl, bel1⟩
  replace BA := BA.new bel1
  replace BR := BR.new bel1
  have z1 := bel1.size
  have bb := b0.trans (bel1.mono b0.size)
  clear b0 bel1
  cases hn : netB N with
  | false =>
    have HF := Lib.hid (wpOk_f0 (l := l) hn)
    clear hn
    have e0 := BR.cell 0 _ rfl
    have e1 := BR.cell 1 _ rfl
    have e2 := BR.cell 2 _ rfl
    have f0 := BR.frozen 0
    have f1 := BR.frozen 1
    have f2 := BR.frozen 2
    go_wp2_with fail
    clear e0 e1 e2 f0 f1 f2
    generalize hW : World.setCell _ _ _ = W
    have B6 : Bx W (w.heap.size + 1) 31 #[.slice none 0 0, .slice none 0 0, .slice none 0 0] := by rw [← hW]; exact ((BR.set 0 _).set 1 _).set 2 _
    have fr6 : Fr (fun k => k = w.heap.size + 1) w1 W := by rw [← hW]; exact fr3 _ _ _ _ _
    clear hW
    have z6 := fr6.size
    have d0 := B6.cell 0 _ rfl
    have d1 := B6.cell 1 _ rfl
    have d2 := B6.cell 2 _ rfl
    refine bodyPost_ret (v := .tuple #[.agg #[.slice none 0 0, .slice none 0 0, .slice none 0 0], .bool false]) (by simp [results, Try.results38, go_sem, d0, d1, d2]) rfl ?_
    rw [wpR_f HF.out, id HF.out]
    exact ⟨_, rfl, NetAt.nilN _ _ _, bb.trans (fr6.below (fun k h1 h2 hc => by omega) bb.size)⟩
  | true =>
    have HN := Lib.hid (wpOk_t (l := l) hn)
    clear hn
    have c0 := BA.cell 0 _ rfl
    have c1 := BA.cell 1 _ rfl
    have c2 := BA.cell 2 _ rfl
    go_wp2_with fail
    refine (inputsOk_any al capl l N.ends.length w1 w.heap.size (Rd.below ha bb) bb.size hlen hl).mono ?_
    rintro e w2 ⟨rfl, bel2⟩
    replace BA := BA.new bel2
    replace BR := BR.new bel2
    have z2 := bel2.size
    replace bb := bb.trans (bel2.mono bb.size)
    clear c0 c1 c2 bel2
    cases hn : inpB l N.ends.length with
    | false =>
      have HF := Lib.hid (HN.out.trans hn)
      clear hn
      have e0 := BR.cell 0 _ rfl
      have e1 := BR.cell 1 _ rfl
      have e2 := BR.cell 2 _ rfl
      have f0 := BR.frozen 0
      have f1 := BR.frozen 1
      have f2 := BR.frozen 2
      go_wp2_with fail
      clear e0 e1 e2 f0 f1 f2
      generalize hW : World.setCell _ _ _ = W
      have B6 : Bx W (w.heap.size + 1) 31 #[.slice none 0 0, .slice none 0 0, .slice none 0 0] := by rw [← hW]; exact ((BR.set 0 _).set 1 _).set 2 _
      have fr6 : Fr (fun k => k = w.heap.size + 1) w2 W := by rw [← hW]; exact fr3 _ _ _ _ _
      clear hW
      have z6 := fr6.size
      have d0 := B6.cell 0 _ rfl
      have d1 := B6.cell 1 _ rfl
      have d2 := B6.cell 2 _ rfl
      refine bodyPost_ret (v := .tuple #[.agg #[.slice none 0 0, .slice none 0 0, .slice none 0 0], .bool false]) (by simp [results, Try.results38, go_sem, d0, d1, d2]) rfl ?_
      rw [wpR_f HF.out, id HF.out]
      exact ⟨_, rfl, NetAt.nilN _ _ _, bb.trans (fr6.below (fun k h1 h2 hc => by omega) bb.size)⟩
    | true =>
      have HT := Lib.hid (HN.out.trans hn)
      clear hn
      have c0 := BA.cell 0 _ rfl
      have c1 := BA.cell 1 _ rfl
      have c2 := BA.cell 2 _ rfl
      go_wp2_with fail
      refine (copyNetwork_any _ N _ B (HV.out.below (bb.mono hB)) (Nat.le_trans hB bb.size) HS.out).mono ?_
      rintro e w4 ⟨x4, rfl, own4, bel4⟩
      obtain ⟨a4, c4, ai4, ci4, ap4, cp4, rfl, own4⟩ := own4.shape
      replace BR := BR.new bel4
      have z4 := bel4.size
      replace bb := bb.trans (bel4.mono bb.size)
      clear c0 c1 c2 bel4 BA
      go_upto_region 4 with fail
      have BO := Bx.made w4 31 #[.slice a4 N.ends.length c4, .slice ai4 N.ids.length ci4, .slice ap4 N.inputs.length cp4]
      have b5 : Below w4.heap.size w4 (w4.alloc (.cells #[.slice a4 N.ends.length c4, .slice ai4 N.ids.length ci4, .slice ap4 N.inputs.length cp4] 31)) := (by repeat (first | exact Below.refl _ _ | assumption | refine Below.alloc ?_ (by first | (simp; done) | (simp; omega) | omega) _ | refine Below.setCell ?_ (by first | (simp; done) | (simp; omega) | omega) _ | refine Below.drew ?_ | refine Below.drewN ?_ _))
      replace own4 := own4.new b5
      replace BR := BR.new b5
      replace bb := bb.trans (b5.mono bb.size)
      have z5 := b5.size
      generalize w4.alloc (.cells #[.slice a4 N.ends.length c4, .slice ai4 N.ids.length ci4, .slice ap4 N.inputs.length cp4] 31) = w5 at *
      obtain ⟨b, hb⟩ : ∃ b, b = w4.heap.size := ⟨_, rfl⟩
      rw [← hb] at BO ⊢
      have zb : w4.heap.size ≤ b := by omega
      clear hb b5
      obtain ⟨aq, cq, vs, aiq, ciq, apq, cpq, hvq, hE, owni, ownp, hdis⟩ := own4
      simp only [Value.agg.injEq, Array.mk.injEq, List.cons.injEq, Value.slice.injEq, true_and, and_true] at hvq
      obtain ⟨⟨rfl, rfl⟩, ⟨rfl, rfl⟩, rfl, rfl⟩ := hvq
      go_wp2_with fail
      refine (cloneI_any al capl l w5 w.heap.size (Rd.below ha bb) hlen).mono ?_
      rintro e w6 ⟨aa, ca, rfl, owna, bel6⟩
      replace BO := BO.new bel6
      replace BR := BR.new bel6
      replace hE := RowsAt.new hE bel6
      replace owni := Ow.new owni bel6
      replace ownp := Ow.new ownp bel6
      have z6 := bel6.size
      replace bb := bb.trans (bel6.mono bb.size)
      clear bel6
      have q0 := BO.cell 0 _ rfl
      have q1 := BO.cell 1 _ rfl
      have q2 := BO.cell 2 _ rfl
      have f0 := BO.frozen 0
      have f1 := BO.frozen 1
      have f2 := BO.frozen 2
      go_upto_region 5 with fail
      clear q0 q1 q2 f0 f1 f2
      have fr8 := fr_set w6 b 2 (.slice aa l.length ca)
      replace hE := RowsAt.wide (hi' := (w6.setCell ⟨b, 2, none⟩ (.slice aa l.length ca)).heap.size) (RowsAt.frB hE fr8 (fun k hk hc => BO.ne_row hE.1 (by decide) (hc ▸ hk)) (fun j hj k hk hc => BO.ne_row (hE.2.1 j hj) (by decide) (hc ▸ hk))) (Nat.le_refl _) (by rw [size_set]; omega)
      have hdA := disj_new owni owna (by omega)
      have hdB := disj_new owna ownp (by omega)
      replace owni := Ow.wide (hi' := (w6.setCell ⟨b, 2, none⟩ (.slice aa l.length ca)).heap.size) (Ow.frB owni fr8 (fun k hk hc => BO.ne_row owni (by decide) (hc ▸ hk))) (Nat.le_refl _) (by rw [size_set]; omega)
      replace ownp := Ow.wide (hi' := (w6.setCell ⟨b, 2, none⟩ (.slice aa l.length ca)).heap.size) (Ow.frB ownp fr8 (fun k hk hc => BO.ne_row ownp (by decide) (hc ▸ hk))) (Nat.le_refl _) (by rw [size_set]; omega)
      replace owna := Ow.wide (hi' := (w6.setCell ⟨b, 2, none⟩ (.slice aa l.length ca)).heap.size) (lo' := w2.heap.size) (Ow.frB owna fr8 (fun k hk hc => BO.ne_row owna (by decide) (hc ▸ hk))) (by omega) (by rw [size_set]; omega)
      replace BO := BO.set 2 (.slice aa l.length ca)
      replace BR := BR.fr fr8 (by omega)
      replace bb := bb.trans (fr8.below (B := w.heap.size) (fun k h1 h2 hc => by omega) bb.size)
      have z8 := fr8.size
      generalize w6.setCell ⟨b, 2, none⟩ (.slice aa l.length ca) = w8 at *
      clear fr8
      have q0 := BO.cell 0 _ rfl
      have q1 := BO.cell 1 _ rfl
      have q2 := BO.cell 2 _ rfl
      have e0 := BR.cell 0 _ rfl
      have e1 := BR.cell 1 _ rfl
      have e2 := BR.cell 2 _ rfl
      have f0 := BR.frozen 0
      have f1 := BR.frozen 1
      have f2 := BR.frozen 2
      go_wp2_with fail
      clear q0 q1 q2 e0 e1 e2 f0 f1 f2
      generalize hW : World.setCell _ _ _ = W
      have B6 : Bx W (w.heap.size + 1) 31 #[.slice a4 N.ends.length c4, .slice ai4 N.ids.length ci4, .slice aa l.length ca] := by rw [← hW]; exact ((BR.set 0 _).set 1 _).set 2 _
      have fr6 : Fr (fun k => k = w.heap.size + 1) w8 W := by rw [← hW]; exact fr3 _ _ _ _ _
      clear hW
      have z6 := fr6.size
      have d0 := B6.cell 0 _ rfl
      have d1 := B6.cell 1 _ rfl
      have d2 := B6.cell 2 _ rfl
      refine bodyPost_ret (v := .tuple #[.agg #[.slice a4 N.ends.length c4, .slice ai4 N.ids.length ci4, .slice aa l.length ca], .bool true]) (by simp [results, Try.results38, go_sem, d0, d1, d2]) rfl ?_
      rw [wpR, HT.out]
      have own8 : NetAt w8 w2.heap.size w8.heap.size (.agg #[.slice a4 N.ends.length c4, .slice ai4 N.ids.length ci4, .slice aa l.length ca]) (wpN N l) := ⟨_, _, vs, _, _, _, _, rfl, hE, owni, owna, hdA⟩
      exact ⟨_, rfl, (own8.frBx BR fr6).wide (lo' := w.heap.size) (hi' := W.heap.size) (by omega) (by omega), bb.trans (fr6.below (fun k h1 h2 hc => by omega) bb.size)⟩
end Go.Proofs.Ytpfjglheinomiaa
