/- AddEdge. -/
import Derived.Test.YtpfjglheinomiaaPath
import Derived.Test.YtpfjglheinomiaaCopy
import Derived.Test.YtpfjglheinomiaaNear
import Derived.Test.YtpfjglheinomiaaSz
namespace Go.Proofs.Ytpfjglheinomiaa
open Go.RowKit
set_option linter.unusedVariables false
set_option linter.unusedSimpArgs false



def aeB (N : Net) (v u : Int) : Bool := netB N && hasN N.ends v && hasN N.ends u
def aeJ (N : Net) (v u : Int) : Net := joinN N v.toNat u.toNat
def aeOk (N : Net) (v u : Int) : Bool := aeB N v u && netB (aeJ N v u)
def aeR (N : Net) (v u : Int) : Net := ifN (aeOk N v u) (aeJ N v u)
theorem total_le {α : Type} (rows : List (List α)) (m : Nat) (h : ∀ j, j < rows.length → (rowOf rows j).length ≤ m) : Total rows ≤ m * rows.length := by
  induction rows with
  | nil => exact Nat.zero_le _
  | cons x xs ih =>
    have h0 := h 0 (by simp)
    have h1 := ih fun j hj => h (j + 1) (by simpa using hj)
    have e0 : rowOf (x :: xs) 0 = x := rfl
    rw [e0] at h0
    unfold Total at *
    simp only [List.map_cons, List.sum_cons, List.length_cons]
    rw [Nat.mul_add]
    omega
/-- a network is small -/
theorem netB_small {N : Net} (h : netB N = true) : N.ends.length ≤ 40 ∧ 1 ≤ N.ends.length ∧ Total N.ends ≤ 240 ∧ N.ids.length ≤ 40 ∧ N.inputs.length = N.ends.length := by
  unfold netB at h
  simp only [Bool.and_eq_true] at h
  obtain ⟨⟨⟨h1, h2⟩, h3⟩, h4⟩ := h
  have h5 := inR_iff.1 h1
  have h6 : Total N.ends ≤ 6 * N.ends.length := total_le _ _ fun j hj => (of_decide_eq_true (of_decide_eq_true h4 j hj)).1
  unfold inpB at h3
  rw [Bool.and_eq_true] at h3
  have h7 := of_decide_eq_true h3.1
  have h8 : N.ids.length = 0 ∨ N.ids.length = N.ends.length := (of_decide_eq_true h2).2.2
  exact ⟨by omega, by omega, by omega, by omega, h7⟩
theorem joinN_small {N : Net} {v u : Nat} (h : netB N = true) (hv : v < N.ends.length) (hu : u < N.ends.length) : NetSmall (joinN N v u) := by
  have h1 := netB_small h
  have h2 := joinN_length N v u
  have h3 : Total (joinN N v u).ends = Total N.ends + 2 := total_joinR _ _ _ hv hu
  have h4 : (joinN N v u).ids = N.ids := rfl
  have h5 : (joinN N v u).inputs = N.inputs := rfl
  unfold NetSmall
  rw [h2, h3, h4, h5]
  omega
theorem aeB_n {N : Net} {v u : Int} (h : netB N = true) (h1 : hasN N.ends v = true) : aeB N v u = hasN N.ends u := by rw [aeB, h, h1]; rfl
theorem aeB_f0 {N : Net} {v u : Int} (h : netB N = false) : aeB N v u = false := by rw [aeB, h]; rfl
theorem aeB_f1 {N : Net} {v u : Int} (h : hasN N.ends v = false) : aeB N v u = false := by rw [aeB, h, Bool.and_false]; rfl
theorem aeOk_f {N : Net} {v u : Int} (h : aeB N v u = false) : aeOk N v u = false := by rw [aeOk, h]; rfl
theorem aeR_f {N : Net} {v u : Int} (h : aeB N v u = false) : aeR N v u = nilN := by rw [aeR, aeOk_f h]; rfl
theorem aeOk_t {N : Net} {v u : Int} (h : aeB N v u = true) : aeOk N v u = netB (aeJ N v u) := by rw [aeOk, h]; rfl
theorem aeR_t {N : Net} {v u : Int} (h : aeB N v u = true) : aeR N v u = ifN (netB (aeJ N v u)) (aeJ N v u) := by rw [aeR, aeOk_t h]
theorem aeR_sm {N : Net} {v u : Int} : NetSmall (aeR N v u) := ifN_small fun hk => by
  rw [aeOk, Bool.and_eq_true] at hk
  obtain ⟨h1, _⟩ := hk
  unfold aeB at h1
  simp only [Bool.and_eq_true] at h1
  obtain ⟨⟨h1, h2⟩, h3⟩ := h1
  obtain ⟨p, rfl, hp⟩ := hasN_nat h2
  obtain ⟨q, rfl, hq⟩ := hasN_nat h3
  exact joinN_small h1 (by simpa using hp) (by simpa using hq)
theorem NBx.of {w : World} {lo hi b : Nat} {N : Net} {a ai ap : Option Addr} {c ci cp : Nat} (hb : Bx w b 31 #[.slice a N.ends.length c, .slice ai N.ids.length ci, .slice ap N.inputs.length cp]) (h : NetAt w lo hi (.agg #[.slice a N.ends.length c, .slice ai N.ids.length ci, .slice ap N.inputs.length cp]) N) (hh : hi ≤ w.heap.size) : NBx w lo b N := by
  obtain ⟨a', c', vs, ai', ci', ap', cp', hv, h1, h2, h3, h4⟩ := h.wide (Nat.le_refl _) hh
  simp only [Value.agg.injEq, Array.mk.injEq, List.cons.injEq, Value.slice.injEq, true_and, and_true] at hv
  obtain ⟨⟨rfl, rfl⟩, ⟨rfl, rfl⟩, rfl, rfl⟩ := hv
  exact ⟨_, _, vs, _, _, _, _, hb, h1, h2, h3, h4⟩
set_option maxRecDepth 100000 in
set_option maxHeartbeats 800000 in
theorem addEdgeS_any (V : Value) (N : Net) (v u : Int) (w : World) (B : Nat) (hv : NetIn w B V N) (hB : B ≤ w.heap.size) (hs : NetSmall N) :
    Calls Try.prog 47 #[V, .int .i64 v, .int .i64 u] w (PostN (aeR N v u) (aeOk N v u) w) := by
  have HV := Lib.hid hv
  have HS := Lib.hid hs
  obtain ⟨a, c, vs, ai, ci, ap, cp, rfl, h1, _⟩ := hv
  have hl : N.ends.length ≤ 1048576 := by unfold NetSmall at hs; omega
  have BA := (Bx.made w 31 #[.slice a N.ends.length c, .slice ai N.ids.length ci, .slice ap N.inputs.length cp]).alloc (.cells #[.slice none 0 0, .slice none 0 0, .slice none 0 0] 31)
  have BR := Bx.made (w.alloc (.cells #[.slice a N.ends.length c, .slice ai N.ids.length ci, .slice ap N.inputs.length cp] 31)) 31 #[.slice none 0 0, .slice none 0 0, .slice none 0 0]
  have b0 : Below w.heap.size w ((w.alloc (.cells #[.slice a N.ends.length c, .slice ai N.ids.length ci, .slice ap N.inputs.length cp] 31)).alloc (.cells #[.slice none 0 0, .slice none 0 0, .slice none 0 0] 31)) := (by repeat (first | exact Below.refl _ _ | assumption | refine Below.alloc ?_ (by first | (simp; done) | (simp; omega) | omega) _ | refine Below.setCell ?_ (by first | (simp; done) | (simp; omega) | omega) _ | refine Below.drew ?_ | refine Below.drewN ?_ _))
  have z0 : w.heap.size + 1 + 1 ≤ ((w.alloc (.cells #[.slice a N.ends.length c, .slice ai N.ids.length ci, .slice ap N.inputs.length cp] 31)).alloc (.cells #[.slice none 0 0, .slice none 0 0, .slice none 0 0] 31)).heap.size := by simp
  rw [World.size_alloc] at BR
  clear hs h1
  go_enter Try.func47, Try.ntmps47
  go_wp2_with fail
  generalize (w.alloc (.cells #[.slice a N.ends.length c, .slice ai N.ids.length ci, .slice ap N.inputs.length cp] 31)).alloc (.cells #[.slice none 0 0, .slice none 0 0, .slice none 0 0] 31) = w0 at *
  refine (neNode_any _ N _ _ B (HV.out.below (b0.mono hB)) (Nat.le_trans hB b0.size) HS.out).mono ?_
  rintro e w1 ⟨rfl, bel1⟩
  replace BA := BA.new bel1
  replace BR := BR.new bel1
  have z1 := bel1.size
  have bb := b0.trans (bel1.mono b0.size)
  clear b0 bel1
  cases hn : ndB N v with
  | false =>
    have HF := Lib.hid (show aeB N v u = false by
      unfold ndB at hn
      unfold aeB
      rw [hn]; rfl)
    clear hn
    have e0 := BR.cell 0 _ rfl
    have e1 := BR.cell 1 _ rfl
    have e2 := BR.cell 2 _ rfl
    have f0 := BR.frozen 0
    have f1 := BR.frozen 1
    have f2 := BR.frozen 2
    go_wp2_with fail
    clear e0 e1 e2 f0 f1 f2
    generalize hW : World.setCell _ _ _ = W
    have B6 : Bx W (w.heap.size + 1) 31 #[.slice none 0 0, .slice none 0 0, .slice none 0 0] := by rw [← hW]; exact ((BR.set 0 _).set 1 _).set 2 _
    have fr6 : Fr (fun k => k = w.heap.size + 1) w1 W := by rw [← hW]; exact fr3 _ _ _ _ _
    clear hW
    have z6 := fr6.size
    have d0 := B6.cell 0 _ rfl
    have d1 := B6.cell 1 _ rfl
    have d2 := B6.cell 2 _ rfl
    refine bodyPost_ret (v := .tuple #[.agg #[.slice none 0 0, .slice none 0 0, .slice none 0 0], .bool false]) (by simp [results, Try.results47, go_sem, d0, d1, d2]) rfl ?_
    rw [aeR_f HF.out, aeOk_f HF.out]
    exact ⟨_, rfl, NetAt.nilN _ _ _, bb.trans (fr6.below (fun k h1 h2 hc => by omega) bb.size)⟩
  | true =>
    have HNB := Lib.hid (show netB N = true ∧ hasN N.ends v = true by rw [ndB, Bool.and_eq_true] at hn; exact hn)
    clear hn
    have c0 := BA.cell 0 _ rfl
    have c1 := BA.cell 1 _ rfl
    have c2 := BA.cell 2 _ rfl
    go_wp2_with fail
    refine (l1In_any _ _ _ _).mono ?_
    rintro e w' ⟨rfl, rfl⟩
    clear c0 c1 c2
    have HU := Lib.hid (show hasN N.ends u = inR u 0 ((N.ends.length : Int) - 1) from rfl)
    rw [← HU.out]
    cases hu : hasN N.ends u with
    | false =>
      have HF := Lib.hid ((aeB_n HNB.out.1 HNB.out.2).trans hu)
      clear hu
      have e0 := BR.cell 0 _ rfl
      have e1 := BR.cell 1 _ rfl
      have e2 := BR.cell 2 _ rfl
      have f0 := BR.frozen 0
      have f1 := BR.frozen 1
      have f2 := BR.frozen 2
      go_wp2_with fail
      clear e0 e1 e2 f0 f1 f2
      generalize hW : World.setCell _ _ _ = W
      have B6 : Bx W (w.heap.size + 1) 31 #[.slice none 0 0, .slice none 0 0, .slice none 0 0] := by rw [← hW]; exact ((BR.set 0 _).set 1 _).set 2 _
      have fr6 : Fr (fun k => k = w.heap.size + 1) w1 W := by rw [← hW]; exact fr3 _ _ _ _ _
      clear hW
      have z6 := fr6.size
      have d0 := B6.cell 0 _ rfl
      have d1 := B6.cell 1 _ rfl
      have d2 := B6.cell 2 _ rfl
      refine bodyPost_ret (v := .tuple #[.agg #[.slice none 0 0, .slice none 0 0, .slice none 0 0], .bool false]) (by simp [results, Try.results47, go_sem, d0, d1, d2]) rfl ?_
      rw [aeR_f HF.out, aeOk_f HF.out]
      exact ⟨_, rfl, NetAt.nilN _ _ _, bb.trans (fr6.below (fun k h1 h2 hc => by omega) bb.size)⟩
    | true =>
      have HT := Lib.hid ((aeB_n HNB.out.1 HNB.out.2).trans hu)
      obtain ⟨p, rfl, hp⟩ := hasN_nat HNB.out.2
      obtain ⟨q, rfl, hq⟩ := hasN_nat hu
      have HSJ := Lib.hid (joinN_small (v := p) (u := q) HNB.out.1 hp hq)
      clear hu
      have c0 := BA.cell 0 _ rfl
      have c1 := BA.cell 1 _ rfl
      have c2 := BA.cell 2 _ rfl
      go_wp2_with fail
      refine (neJoin_any _ N p q _ B (HV.out.below (bb.mono hB)) (Nat.le_trans hB bb.size) HS.out hp hq).mono ?_
      rintro e w2 ⟨x2, rfl, own2, bel2⟩
      replace BR := BR.new bel2
      replace bb := bb.trans (bel2.mono bb.size)
      have z2 := bel2.size
      clear c0 c1 c2 bel2 BA
      go_wp2_with fail
      refine (neIf_any _ (joinN N p q) _ _ _ own2 (Nat.le_refl _) z2 HSJ.out).mono ?_
      rintro e w3 ⟨x3, rfl, own3, bel3⟩
      replace BR := BR.new bel3
      replace bb := bb.trans (bel3.mono bb.size)
      have z3 := bel3.size
      clear bel3 own2
      obtain ⟨ax, cx, aix, cix, apx, cpx, rfl, own3⟩ := own3.shape
      generalize hRR : ifN (netB (joinN N p q)) (joinN N p q) = RR at *
      generalize hOO : netB (joinN N p q) = oo at *
      have HRR := Lib.hid hRR
      have HOO := Lib.hid hOO
      clear hRR hOO
      have e0 := BR.cell 0 _ rfl
      have e1 := BR.cell 1 _ rfl
      have e2 := BR.cell 2 _ rfl
      have f0 := BR.frozen 0
      have f1 := BR.frozen 1
      have f2 := BR.frozen 2
      go_wp2_with fail
      clear e0 e1 e2 f0 f1 f2
      generalize hW : World.setCell _ _ _ = W
      have B6 : Bx W (w.heap.size + 1) 31 #[.slice ax RR.ends.length cx, .slice aix RR.ids.length cix, .slice apx RR.inputs.length cpx] := by rw [← hW]; exact ((BR.set 0 _).set 1 _).set 2 _
      have fr6 : Fr (fun k => k = w.heap.size + 1) w3 W := by rw [← hW]; exact fr3 _ _ _ _ _
      clear hW
      have z6 := fr6.size
      have d0 := B6.cell 0 _ rfl
      have d1 := B6.cell 1 _ rfl
      have d2 := B6.cell 2 _ rfl
      refine bodyPost_ret (v := .tuple #[.agg #[.slice ax RR.ends.length cx, .slice aix RR.ids.length cix, .slice apx RR.inputs.length cpx], .bool oo]) (by simp [results, Try.results47, go_sem, d0, d1, d2]) rfl ?_
      rw [aeR_t HT.out, aeOk_t HT.out, show aeJ N (p : Int) (q : Int) = joinN N p q from rfl, HOO.out, HRR.out]
      exact ⟨_, rfl, (own3.frBx BR fr6).wide (lo' := w.heap.size) (hi' := W.heap.size) (by omega) (by omega), bb.trans (fr6.below (fun k h1 h2 hc => by omega) bb.size)⟩
set_option maxRecDepth 100000 in
set_option maxHeartbeats 800000 in
theorem addEdge_any (V : Value) (N : Net) (v u : Int) (w : World) (B : Nat) (hv : NetIn w B V N) (hB : B ≤ w.heap.size) (hs : NetSmall N) :
    Calls Try.prog 48 #[V, .int .i64 v, .int .i64 u] w (PostN (aeR N v u) (aeOk N v u) w) := by
  have HV := Lib.hid hv
  have HS := Lib.hid hs
  obtain ⟨a, c, vs, ai, ci, ap, cp, rfl, h1, _⟩ := hv
  have hl : N.ends.length ≤ 1048576 := by unfold NetSmall at hs; omega
  have BA := (Bx.made w 31 #[.slice a N.ends.length c, .slice ai N.ids.length ci, .slice ap N.inputs.length cp]).alloc (.cells #[.slice none 0 0, .slice none 0 0, .slice none 0 0] 31)
  have BR := Bx.made (w.alloc (.cells #[.slice a N.ends.length c, .slice ai N.ids.length ci, .slice ap N.inputs.length cp] 31)) 31 #[.slice none 0 0, .slice none 0 0, .slice none 0 0]
  have b0 : Below w.heap.size w ((w.alloc (.cells #[.slice a N.ends.length c, .slice ai N.ids.length ci, .slice ap N.inputs.length cp] 31)).alloc (.cells #[.slice none 0 0, .slice none 0 0, .slice none 0 0] 31)) := (by repeat (first | exact Below.refl _ _ | assumption | refine Below.alloc ?_ (by first | (simp; done) | (simp; omega) | omega) _ | refine Below.setCell ?_ (by first | (simp; done) | (simp; omega) | omega) _ | refine Below.drew ?_ | refine Below.drewN ?_ _))
  have z0 : w.heap.size + 1 + 1 ≤ ((w.alloc (.cells #[.slice a N.ends.length c, .slice ai N.ids.length ci, .slice ap N.inputs.length cp] 31)).alloc (.cells #[.slice none 0 0, .slice none 0 0, .slice none 0 0] 31)).heap.size := by simp
  rw [World.size_alloc] at BR
  clear hs h1
  go_enter Try.func48, Try.ntmps48
  go_wp2_with fail
  generalize (w.alloc (.cells #[.slice a N.ends.length c, .slice ai N.ids.length ci, .slice ap N.inputs.length cp] 31)).alloc (.cells #[.slice none 0 0, .slice none 0 0, .slice none 0 0] 31) = w0 at *
  refine (isNetwork_any _ N _ B (HV.out.below (b0.mono hB)).rd (Nat.le_trans hB b0.size) HS.out).mono ?_
  rintro e w1 ⟨rfl, bel1⟩
  replace BA := BA.new bel1
  replace BR := BR.new bel1
  have z1 := bel1.size
  have bb := b0.trans (bel1.mono b0.size)
  clear b0 bel1
  cases hn : netB N with
  | false =>
    have HF := Lib.hid (aeB_f0 (v := v) (u := u) hn)
    clear hn
    have e0 := BR.cell 0 _ rfl
    have e1 := BR.cell 1 _ rfl
    have e2 := BR.cell 2 _ rfl
    have f0 := BR.frozen 0
    have f1 := BR.frozen 1
    have f2 := BR.frozen 2
    go_wp2_with fail
    clear e0 e1 e2 f0 f1 f2
    generalize hW : World.setCell _ _ _ = W
    have B6 : Bx W (w.heap.size + 1) 31 #[.slice none 0 0, .slice none 0 0, .slice none 0 0] := by rw [← hW]; exact ((BR.set 0 _).set 1 _).set 2 _
    have fr6 : Fr (fun k => k = w.heap.size + 1) w1 W := by rw [← hW]; exact fr3 _ _ _ _ _
    clear hW
    have z6 := fr6.size
    have d0 := B6.cell 0 _ rfl
    have d1 := B6.cell 1 _ rfl
    have d2 := B6.cell 2 _ rfl
    refine bodyPost_ret (v := .tuple #[.agg #[.slice none 0 0, .slice none 0 0, .slice none 0 0], .bool false]) (by simp [results, Try.results48, go_sem, d0, d1, d2]) rfl ?_
    rw [aeR_f HF.out, aeOk_f HF.out]
    exact ⟨_, rfl, NetAt.nilN _ _ _, bb.trans (fr6.below (fun k h1 h2 hc => by omega) bb.size)⟩
  | true =>
    have HN := Lib.hid hn
    clear hn
    have c0 := BA.cell 0 _ rfl
    have c1 := BA.cell 1 _ rfl
    have c2 := BA.cell 2 _ rfl
    go_wp2_with fail
    refine (hasNode_any a ai ap N.ends c _ ci _ cp v _ hl).mono ?_
    rintro e w2 ⟨rfl, bel2⟩
    replace BA := BA.new bel2
    replace BR := BR.new bel2
    have z2 := bel2.size
    replace bb := bb.trans (bel2.mono bb.size)
    clear c0 c1 c2 bel2
    cases hn : hasN N.ends v with
    | false =>
      have HF := Lib.hid (aeB_f1 (u := u) hn)
      clear hn
      have e0 := BR.cell 0 _ rfl
      have e1 := BR.cell 1 _ rfl
      have e2 := BR.cell 2 _ rfl
      have f0 := BR.frozen 0
      have f1 := BR.frozen 1
      have f2 := BR.frozen 2
      go_wp2_with fail
      clear e0 e1 e2 f0 f1 f2
      generalize hW : World.setCell _ _ _ = W
      have B6 : Bx W (w.heap.size + 1) 31 #[.slice none 0 0, .slice none 0 0, .slice none 0 0] := by rw [← hW]; exact ((BR.set 0 _).set 1 _).set 2 _
      have fr6 : Fr (fun k => k = w.heap.size + 1) w2 W := by rw [← hW]; exact fr3 _ _ _ _ _
      clear hW
      have z6 := fr6.size
      have d0 := B6.cell 0 _ rfl
      have d1 := B6.cell 1 _ rfl
      have d2 := B6.cell 2 _ rfl
      refine bodyPost_ret (v := .tuple #[.agg #[.slice none 0 0, .slice none 0 0, .slice none 0 0], .bool false]) (by simp [results, Try.results48, go_sem, d0, d1, d2]) rfl ?_
      rw [aeR_f HF.out, aeOk_f HF.out]
      exact ⟨_, rfl, NetAt.nilN _ _ _, bb.trans (fr6.below (fun k h1 h2 hc => by omega) bb.size)⟩
    | true =>
      have HN1 := Lib.hid hn
      clear hn
      have c0 := BA.cell 0 _ rfl
      have c1 := BA.cell 1 _ rfl
      have c2 := BA.cell 2 _ rfl
      go_wp2_with fail
      refine (hasNode_any a ai ap N.ends c _ ci _ cp u _ hl).mono ?_
      rintro e w3 ⟨rfl, bel3⟩
      replace BA := BA.new bel3
      replace BR := BR.new bel3
      have z3 := bel3.size
      replace bb := bb.trans (bel3.mono bb.size)
      clear c0 c1 c2 bel3
      cases hn : hasN N.ends u with
      | false =>
        have HF := Lib.hid ((aeB_n HN.out HN1.out).trans hn)
        clear hn
        have e0 := BR.cell 0 _ rfl
        have e1 := BR.cell 1 _ rfl
        have e2 := BR.cell 2 _ rfl
        have f0 := BR.frozen 0
        have f1 := BR.frozen 1
        have f2 := BR.frozen 2
        go_wp2_with fail
        clear e0 e1 e2 f0 f1 f2
        generalize hW : World.setCell _ _ _ = W
        have B6 : Bx W (w.heap.size + 1) 31 #[.slice none 0 0, .slice none 0 0, .slice none 0 0] := by rw [← hW]; exact ((BR.set 0 _).set 1 _).set 2 _
        have fr6 : Fr (fun k => k = w.heap.size + 1) w3 W := by rw [← hW]; exact fr3 _ _ _ _ _
        clear hW
        have z6 := fr6.size
        have d0 := B6.cell 0 _ rfl
        have d1 := B6.cell 1 _ rfl
        have d2 := B6.cell 2 _ rfl
        refine bodyPost_ret (v := .tuple #[.agg #[.slice none 0 0, .slice none 0 0, .slice none 0 0], .bool false]) (by simp [results, Try.results48, go_sem, d0, d1, d2]) rfl ?_
        rw [aeR_f HF.out, aeOk_f HF.out]
        exact ⟨_, rfl, NetAt.nilN _ _ _, bb.trans (fr6.below (fun k h1 h2 hc => by omega) bb.size)⟩
      | true =>
        have HT := Lib.hid ((aeB_n HN.out HN1.out).trans hn)
        obtain ⟨p, rfl, hp⟩ := hasN_nat HN1.out
        obtain ⟨q, rfl, hq⟩ := hasN_nat hn
        have HSJ := Lib.hid (joinN_small (v := p) (u := q) HN.out hp hq)
        clear hn
        have c0 := BA.cell 0 _ rfl
        have c1 := BA.cell 1 _ rfl
        have c2 := BA.cell 2 _ rfl
        go_wp2_with fail
        refine (copyNetwork_any _ N _ B (HV.out.below (bb.mono hB)) (Nat.le_trans hB bb.size) HS.out).mono ?_
        rintro e w4 ⟨x4, rfl, own4, bel4⟩
        obtain ⟨a4, c4, ai4, ci4, ap4, cp4, rfl, own4⟩ := own4.shape
        replace BR := BR.new bel4
        have z4 := bel4.size
        replace bb := bb.trans (bel4.mono bb.size)
        clear c0 c1 c2 bel4 BA
        go_upto_region 4 with fail
        have BO := Bx.made w4 31 #[.slice a4 N.ends.length c4, .slice ai4 N.ids.length ci4, .slice ap4 N.inputs.length cp4]
        have b5 : Below w4.heap.size w4 (w4.alloc (.cells #[.slice a4 N.ends.length c4, .slice ai4 N.ids.length ci4, .slice ap4 N.inputs.length cp4] 31)) := (by repeat (first | exact Below.refl _ _ | assumption | refine Below.alloc ?_ (by first | (simp; done) | (simp; omega) | omega) _ | refine Below.setCell ?_ (by first | (simp; done) | (simp; omega) | omega) _ | refine Below.drew ?_ | refine Below.drewN ?_ _))
        replace own4 := own4.new b5
        replace BR := BR.new b5
        replace bb := bb.trans (b5.mono bb.size)
        have z5 := b5.size
        generalize w4.alloc (.cells #[.slice a4 N.ends.length c4, .slice ai4 N.ids.length ci4, .slice ap4 N.inputs.length cp4] 31) = w5 at *
        obtain ⟨b, hb⟩ : ∃ b, b = w4.heap.size := ⟨_, rfl⟩
        rw [← hb] at BO ⊢
        clear hb b5
        have hNB : NBx w5 w3.heap.size b N := NBx.of BO own4 z5
        clear BO own4
        go_wp2_with fail
        refine (connectN_any w5 hNB hp hq (by omega) HS.out).mono ?_
        rintro e w6 ⟨rfl, hNB6, fr6'⟩
        replace BR := BR.fr fr6' (by omega)
        have z6' := fr6'.size
        replace bb := bb.trans (fr6'.below (B := w.heap.size) (fun k h1 h2 hc => by omega) bb.size)
        clear hNB fr6'
        obtain ⟨ax, cx, vx, aix, cix, apx, cpx, BO, hE, owni, ownp, hdis⟩ := hNB6
        have own6 : NetAt w6 w3.heap.size w6.heap.size _ (joinN N p q) := ⟨ax, cx, vx, aix, cix, apx, cpx, rfl, hE, owni, ownp, hdis⟩
        have q0 := BO.cell 0 _ rfl
        have q1 := BO.cell 1 _ rfl
        have q2 := BO.cell 2 _ rfl
        clear hE owni ownp hdis BO
        go_wp2_with fail
        clear q0 q1 q2
        refine (network_any _ (joinN N p q) _ _ _ own6 (Nat.le_refl _) (by omega) HSJ.out).mono ?_
        rintro e w7 ⟨x7, rfl, own7, bel7⟩
        replace BR := BR.new bel7
        replace bb := bb.trans (bel7.mono bb.size)
        have z7 := bel7.size
        clear bel7 own6
        obtain ⟨ax, cx, aix, cix, apx, cpx, rfl, own7⟩ := own7.shape
        generalize hRR : ifN (netB (joinN N p q)) (joinN N p q) = RR at *
        generalize hOO : netB (joinN N p q) = oo at *
        have HRR := Lib.hid hRR
        have HOO := Lib.hid hOO
        clear hRR hOO
        have e0 := BR.cell 0 _ rfl
        have e1 := BR.cell 1 _ rfl
        have e2 := BR.cell 2 _ rfl
        have f0 := BR.frozen 0
        have f1 := BR.frozen 1
        have f2 := BR.frozen 2
        go_wp2_with fail
        clear e0 e1 e2 f0 f1 f2
        generalize hW : World.setCell _ _ _ = W
        have B6 : Bx W (w.heap.size + 1) 31 #[.slice ax RR.ends.length cx, .slice aix RR.ids.length cix, .slice apx RR.inputs.length cpx] := by rw [← hW]; exact ((BR.set 0 _).set 1 _).set 2 _
        have fr6 : Fr (fun k => k = w.heap.size + 1) w7 W := by rw [← hW]; exact fr3 _ _ _ _ _
        clear hW
        have z6 := fr6.size
        have d0 := B6.cell 0 _ rfl
        have d1 := B6.cell 1 _ rfl
        have d2 := B6.cell 2 _ rfl
        refine bodyPost_ret (v := .tuple #[.agg #[.slice ax RR.ends.length cx, .slice aix RR.ids.length cix, .slice apx RR.inputs.length cpx], .bool oo]) (by simp [results, Try.results48, go_sem, d0, d1, d2]) rfl ?_
        rw [aeR_t HT.out, aeOk_t HT.out, show aeJ N (p : Int) (q : Int) = joinN N p q from rfl, HOO.out, HRR.out]
        exact ⟨_, rfl, (own7.frBx BR fr6).wide (lo' := w.heap.size) (hi' := W.heap.size) (by omega) (by omega), bb.trans (fr6.below (fun k h1 h2 hc => by omega) bb.size)⟩
set_option maxHeartbeats 800000 in
theorem FnExactAddEdge_walk (v : Value) (N : Net) (p q : Int) (w : World) (hv : NetRd w w.heap.size v N) (hm : NetLens N) (hp0 : -9223372036854775808 ≤ p) (hp1 : p ≤ 9223372036854775807) (hq0 : -9223372036854775808 ≤ q) (hq1 : q ≤ 9223372036854775807) :
    Calls Try.prog 13 #[v, .int .i64 p, .int .i64 q] w fun e w' => e = .returned (.bool true) ∧ Below w.heap.size w w' := by
  have HV := Lib.hid hv
  obtain ⟨a, c, vs, ai, ci, ap, cp, rfl, h1, h2, h3⟩ := hv
  clear h1 h2 h3
  have BA := Bx.made w 25 #[.slice a N.ends.length c, .slice ai N.ids.length ci, .slice ap N.inputs.length cp]
  have b0 : Below w.heap.size w (w.alloc (.cells #[.slice a N.ends.length c, .slice ai N.ids.length ci, .slice ap N.inputs.length cp] 25)) := (by repeat (first | exact Below.refl _ _ | assumption | refine Below.alloc ?_ (by first | (simp; done) | (simp; omega) | omega) _ | refine Below.setCell ?_ (by first | (simp; done) | (simp; omega) | omega) _ | refine Below.drew ?_ | refine Below.drewN ?_ _))
  by_cases hsm : netSz N ≤ 1048576
  case neg =>
    go_enter Try.func13, Try.ntmps13
    go_wp2_with fail
    refine (szNetwork_any _ N _ _ (HV.out.below b0) b0.size hm).mono ?_
    rintro e w1 ⟨rfl, bel1⟩
    rw [szL_no hsm]
    go_wp2_with fail
    go_ret
    exact ⟨rfl, b0.trans (bel1.mono b0.size)⟩
  have hS : NetSmall N := hsm
  have HSM := Lib.hid hsm
  clear hsm
  go_enter Try.func13, Try.ntmps13
  go_wp2_with fail
  refine (szNetwork_any _ N _ _ (HV.out.below b0) b0.size hm).mono ?_
  rintro e w1 ⟨rfl, bel1⟩
  rw [szL_yes HSM.out]
  replace BA := BA.new bel1
  have b1 := b0.trans (bel1.mono b0.size)
  have z1 := b1.size
  clear b0 bel1
  have hnn : ¬ (((1048576 - netSz N : Nat) : Int) < 0) := by omega
  have cA0 := BA.cell 0 _ rfl
  have cA1 := BA.cell 1 _ rfl
  have cA2 := BA.cell 2 _ rfl
  go_wp2_with fail
  clear cA0 cA1 cA2
  refine (toNetwork_any _ N _ _ (HV.out.below b1) z1 hS).mono ?_
  rintro e w2 ⟨v2, rfl, own2, bel2⟩
  replace BA := BA.new bel2
  have b2 := b1.trans (bel2.mono z1)
  have z2 := b2.size
  have z12 := bel2.size
  clear b1 bel2
  go_wp2_with fail
  have HS : Hid (∀ V X B, NetIn X B V N → B ≤ X.heap.size → Calls Try.prog 47 #[V, .int .i64 p, .int .i64 q] X (PostN (aeR N p q) (aeOk N p q) X)) := Lib.hid fun V X B h1 h2 => addEdgeS_any V N p q X B h1 h2 hS
  have HI : Hid (∀ V X B, NetIn X B V N → B ≤ X.heap.size → Calls Try.prog 48 #[V, .int .i64 p, .int .i64 q] X (PostN (aeR N p q) (aeOk N p q) X)) := Lib.hid fun V X B h1 h2 => addEdge_any V N p q X B h1 h2 hS
  have hR : NetSmall (aeR N p q) := aeR_sm
  generalize aeR N p q = R at *
  generalize aeOk N p q = ok at *
  refine (HS.out v2 _ _ own2.in_ (Nat.le_refl _)).mono ?_
  rintro e wS ⟨vw, rfl, ownw, bel3⟩
  obtain ⟨aw, cw, aiw, ciw, apw, cpw, rfl, ownw⟩ := ownw.shape
  have lA : w.heap.size < w2.heap.size := BA.lt
  have z23 := bel3.size
  clear own2 HS
  replace BA := BA.new bel3
  have b3 := b2.trans (bel3.mono z2)
  clear b2 bel3
  have BW := Bx.made wS 31 #[.slice aw R.ends.length cw, .slice aiw R.ids.length ciw, .slice apw R.inputs.length cpw]
  have bxS : Below wS.heap.size wS (wS.alloc (.cells #[.slice aw R.ends.length cw, .slice aiw R.ids.length ciw, .slice apw R.inputs.length cpw] 31)) := (by repeat (first | exact Below.refl _ _ | assumption | refine Below.alloc ?_ (by first | (simp; done) | (simp; omega) | omega) _ | refine Below.setCell ?_ (by first | (simp; done) | (simp; omega) | omega) _ | refine Below.drew ?_ | refine Below.drewN ?_ _))
  replace BA := BA.new bxS
  have cA0 := BA.cell 0 _ rfl
  have cA1 := BA.cell 1 _ rfl
  have cA2 := BA.cell 2 _ rfl
  go_wp2_with fail
  clear cA0 cA1 cA2
  replace ownw := ownw.new bxS
  replace b3 := b3.trans (bxS.mono b3.size)
  have zS3 : wS.heap.size + 1 ≤ (wS.alloc (.cells #[.slice aw R.ends.length cw, .slice aiw R.ids.length ciw, .slice apw R.inputs.length cpw] 31)).heap.size := by simp
  generalize wS.alloc (.cells #[.slice aw R.ends.length cw, .slice aiw R.ids.length ciw, .slice apw R.inputs.length cpw] 31) = w3 at *
  clear bxS
  have z3 := b3.size
  refine (toNetwork_any _ N _ _ (HV.out.below b3) z3 hS).mono ?_
  rintro e w4 ⟨v4, rfl, own4, bel4⟩
  replace BA := BA.new bel4
  have b4 := b3.trans (bel4.mono z3)
  have z4 := b4.size
  have z34 := bel4.size
  clear b3
  obtain ⟨a4, c4, vs4, ai4, ci4, ap4, cp4, he4, hn4⟩ : ∃ a c vs ai ci ap cp, v4 = .agg #[.slice a N.ends.length c, .slice ai N.ids.length ci, .slice ap N.inputs.length cp] ∧ NetAt w4 w3.heap.size w4.heap.size (.agg #[.slice a N.ends.length c, .slice ai N.ids.length ci, .slice ap N.inputs.length cp]) N := by
    obtain ⟨a, c, vs, ai, ci, ap, cp, hv, _⟩ := id own4
    exact ⟨a, c, vs, ai, ci, ap, cp, hv, hv ▸ own4⟩
  subst he4
  clear own4
  go_wp2_with fail
  have BX := Bx.made w4 31 #[.slice a4 N.ends.length c4, .slice ai4 N.ids.length ci4, .slice ap4 N.inputs.length cp4]
  have b4' : Below w4.heap.size w4 (w4.alloc (.cells #[.slice a4 N.ends.length c4, .slice ai4 N.ids.length ci4, .slice ap4 N.inputs.length cp4] 31)) := (by repeat (first | exact Below.refl _ _ | assumption | refine Below.alloc ?_ (by first | (simp; done) | (simp; omega) | omega) _ | refine Below.setCell ?_ (by first | (simp; done) | (simp; omega) | omega) _ | refine Below.drew ?_ | refine Below.drewN ?_ _))
  replace BA := BA.new b4'
  replace hn4 := hn4.new b4'
  have b5 := b4.trans (b4'.mono z4)
  have z5 := b5.size
  have z45 := b4'.size
  clear b4
  replace ownw := (ownw.new bel4).new b4'
  replace BW := (BW.new bel4).new b4'
  clear bel4 b4'
  refine (HI.out _ _ _ hn4.in_ z45).mono ?_
  rintro e wI ⟨vg, rfl, owng, bel5⟩
  obtain ⟨ag, cg, aig, cig, apg, cpg, rfl, owng⟩ := owng.shape
  simp only [World.size_alloc] at owng
  have zg : w4.heap.size + 1 ≤ wI.heap.size := by have := bel5.size; simpa using this
  replace ownw := ownw.new bel5
  replace BA := BA.new bel5
  replace BX := BX.new bel5
  replace BW := BW.new bel5
  replace hn4 := hn4.new bel5
  have b6 := b5.trans (bel5.mono z5)
  clear b5 bel5 z5 z45
  have BG := Bx.made wI 31 #[.slice ag R.ends.length cg, .slice aig R.ids.length cig, .slice apg R.inputs.length cpg]
  have bxI : Below wI.heap.size wI (wI.alloc (.cells #[.slice ag R.ends.length cg, .slice aig R.ids.length cig, .slice apg R.inputs.length cpg] 31)) := (by repeat (first | exact Below.refl _ _ | assumption | refine Below.alloc ?_ (by first | (simp; done) | (simp; omega) | omega) _ | refine Below.setCell ?_ (by first | (simp; done) | (simp; omega) | omega) _ | refine Below.drew ?_ | refine Below.drewN ?_ _))
  replace BW := BW.new bxI
  have cW0 := BW.cell 0 _ rfl
  have cW1 := BW.cell 1 _ rfl
  have cW2 := BW.cell 2 _ rfl
  have hbb : (ok != ok) = false := by simp
  go_wp2_with fail
  clear cW0 cW1 cW2
  replace BA := BA.new bxI
  replace BX := BX.new bxI
  replace hn4 := hn4.new bxI
  replace ownw := ownw.new bxI
  replace owng := owng.new bxI
  have b6' := b6.trans (bxI.mono b6.size)
  have zI5 : wI.heap.size + 1 ≤ (wI.alloc (.cells #[.slice ag R.ends.length cg, .slice aig R.ids.length cig, .slice apg R.inputs.length cpg] 31)).heap.size := by simp
  generalize wI.alloc (.cells #[.slice ag R.ends.length cg, .slice aig R.ids.length cig, .slice apg R.inputs.length cpg] 31) = w5 at *
  clear bxI b6
  have z6 := b6'.size
  refine (eqNetwork_any _ _ R _ _ _ _ _ owng ownw (by omega) (by omega) hR).mono ?_
  rintro e w6 ⟨rfl, bel6⟩
  replace ownw := ownw.new bel6
  replace owng := owng.new bel6
  replace BA := BA.new bel6
  replace BX := BX.new bel6
  replace BW := BW.new bel6
  replace BG := BG.new bel6
  replace hn4 := hn4.new bel6
  have b7 := b6'.trans (bel6.mono z6)
  have z7 := b7.size
  have z67 := bel6.size
  clear b6' bel6
  go_wp2_with fail
  have HS : Hid (∀ X, Below w6.heap.size w6 X → X.cell? ⟨w.heap.size, 0, none⟩ = some (.slice a N.ends.length c) ∧ X.cell? ⟨w.heap.size, 1, none⟩ = some (.slice ai N.ids.length ci) ∧ X.cell? ⟨w.heap.size, 2, none⟩ = some (.slice ap N.inputs.length cp) ∧ X.cell? ⟨w4.heap.size, 0, none⟩ = some (.slice a4 N.ends.length c4) ∧ X.cell? ⟨w4.heap.size, 1, none⟩ = some (.slice ai4 N.ids.length ci4) ∧ X.cell? ⟨w4.heap.size, 2, none⟩ = some (.slice ap4 N.inputs.length cp4) ∧ Below w6.heap.size w6 X) :=
    fun X bX => ⟨(BA.new bX).cell 0 _ rfl, (BA.new bX).cell 1 _ rfl, (BA.new bX).cell 2 _ rfl, (BX.new bX).cell 0 _ rfl, (BX.new bX).cell 1 _ rfl, (BX.new bX).cell 2 _ rfl, bX⟩
  have HT : Hid (∀ X, Below w6.heap.size w6 X → Calls Try.prog 17 #[.agg #[.slice a N.ends.length c, .slice ai N.ids.length ci, .slice ap N.inputs.length cp]] X fun e w' => ∃ v', e = .returned v' ∧ NetAt w' X.heap.size w'.heap.size v' N ∧ Below w6.heap.size w6 w') :=
    fun X bX => (toNetwork_any _ N _ _ (HV.out.below (b7.trans (bX.mono z7))) (Nat.le_trans z7 bX.size) hS).mono fun e w' ⟨v', h1, h2, h3⟩ => ⟨v', h1, h2, bX.trans (h3.mono bX.size)⟩
  have HE : Hid (∀ X v6 lo, Below w6.heap.size w6 X → NetAt X lo X.heap.size v6 N → Calls Try.prog 20 #[.agg #[.slice a4 N.ends.length c4, .slice ai4 N.ids.length ci4, .slice ap4 N.inputs.length cp4], v6] X fun e w' => e = .returned (.bool true) ∧ Below w6.heap.size w6 w') :=
    fun X v6 lo bX hX => (eqNetwork_any _ _ N _ _ _ _ _ (hn4.new bX) hX (by have := bX.size; omega) (Nat.le_refl _) hS).mono fun e w' ⟨h1, h2⟩ => ⟨h1, bX.trans (h2.mono bX.size)⟩
  have bd : Below w6.heap.size w6 w6.drew := (Below.refl _ _).drew
  go_region_held3 (fun X => X.cell? ⟨w.heap.size, 0, none⟩ = some (.slice a N.ends.length c) ∧ X.cell? ⟨w.heap.size, 1, none⟩ = some (.slice ai N.ids.length ci) ∧ X.cell? ⟨w.heap.size, 2, none⟩ = some (.slice ap N.inputs.length cp) ∧ X.cell? ⟨w4.heap.size, 0, none⟩ = some (.slice a4 N.ends.length c4) ∧ X.cell? ⟨w4.heap.size, 1, none⟩ = some (.slice ai4 N.ids.length ci4) ∧ X.cell? ⟨w4.heap.size, 2, none⟩ = some (.slice ap4 N.inputs.length cp4) ∧ Below w6.heap.size w6 X) (exact HS.out _ (by assumption)) (first | (go_at_call 17; refine (HT.out _ (by first | assumption | (go_split_ands; assumption))).mono ?_; rintro e w7 ⟨v7, rfl, own7, bel7⟩) | (go_at_call 20; refine (HE.out _ _ _ (by assumption) (by assumption)).mono ?_; rintro e w8 ⟨rfl, bel8⟩))
  all_goals
    clear HS HT HE bd
    have y8 := bel8.size
    replace BA := BA.new bel8
    replace BX := BX.new bel8
    replace BW := BW.new bel8
    replace BG := BG.new bel8
    replace hn4 := hn4.new bel8
    replace ownw := ownw.new bel8
    replace owng := owng.new bel8
    have b8 := b7.trans (bel8.mono z7)
    clear b7 bel8
    have cX0 := BX.cell 0 _ rfl
    have cX1 := BX.cell 1 _ rfl
    have cX2 := BX.cell 2 _ rfl
    go_wp2_with fail
    clear cX0 cX1 cX2
    refine (markNetwork_any _ N 1 _ _ _ hn4 (by omega) hS (by omega)).mono ?_
    rintro e w9 ⟨rfl, hn9, fr9⟩
    clear hn9 hn4 BX
    have z89 := fr9.size
    replace BA := BA.fr fr9 (by omega)
    replace BW := BW.fr fr9 (by omega)
    replace BG := BG.fr fr9 (by omega)
    replace ownw := ownw.fr fr9 (fun k h1 h2 hc => by omega)
    replace owng := owng.fr fr9 (fun k h1 h2 hc => by omega)
    have b9 := b8.trans (fr9.below (B := w.heap.size) (fun k h1 h2 hc => by omega) (by omega))
    have z9 := b9.size
    clear b8 fr9
    have d9 : decide (((1 + netTot N : Nat) : Int) < 0) = false := decide_eq_false (by omega)
    have cG0 := BG.cell 0 _ rfl
    have cG1 := BG.cell 1 _ rfl
    have cG2 := BG.cell 2 _ rfl
    have cW0 := BW.cell 0 _ rfl
    have cW1 := BW.cell 1 _ rfl
    have cW2 := BW.cell 2 _ rfl
    go_wp2_with fail
    clear cG0 cG1 cG2 cW0 cW1 cW2
    refine (eqNetwork_any _ _ R _ _ _ _ _ owng ownw (by omega) (by omega) hR).mono ?_
    rintro e w10 ⟨rfl, bel10⟩
    replace ownw := ownw.new bel10
    replace owng := owng.new bel10
    replace BA := BA.new bel10
    replace BW := BW.new bel10
    replace BG := BG.new bel10
    have b10 := b9.trans (bel10.mono z9)
    have z10 := b10.size
    have y10 := bel10.size
    clear b9 bel10
    have cG0 := BG.cell 0 _ rfl
    have cG1 := BG.cell 1 _ rfl
    have cG2 := BG.cell 2 _ rfl
    go_wp2_with fail
    clear cG0 cG1 cG2
    refine (markNetwork_any _ R 1 _ _ _ owng (by omega) hR (by omega)).mono ?_
    rintro e w11 ⟨rfl, owngm, fr11⟩
    replace BA := BA.fr fr11 (by omega)
    replace BW := BW.fr fr11 (by omega)
    replace BG := BG.fr fr11 (by omega)
    replace ownw := ownw.fr fr11 (fun k h1 h2 hc => by omega)
    have b11 := b10.trans (fr11.below (B := w.heap.size) (fun k h1 h2 hc => by omega) (by omega))
    have z11 := b11.size
    have y11 := fr11.size
    clear b10 fr11 owng
    have cG0 := BG.cell 0 _ rfl
    have cG1 := BG.cell 1 _ rfl
    have cG2 := BG.cell 2 _ rfl
    go_wp2_with fail
    clear cG0 cG1 cG2
    refine (heldNetwork_any _ R 1 _ _ _ owngm (by omega) hR (by omega)).mono ?_
    rintro e w12 ⟨rfl, bel12⟩
    replace BA := BA.new bel12
    replace BW := BW.new bel12
    replace BG := BG.new bel12
    replace ownw := ownw.new bel12
    replace owngm := owngm.new bel12
    have b12 := b11.trans (bel12.mono z11)
    have z12' := b12.size
    have y12 := bel12.size
    clear b11 bel12
    have cA0 := BA.cell 0 _ rfl
    have cA1 := BA.cell 1 _ rfl
    have cA2 := BA.cell 2 _ rfl
    have hlt : ¬ (((1 + netTot R : Nat) : Int) < 0) := by omega
    go_wp2_with fail
    clear cA0 cA1 cA2 BA
    refine (toNetwork_any _ N _ _ (HV.out.below b12) z12' hS).mono ?_
    rintro e w13 ⟨v13, rfl, own13, bel13⟩
    replace BW := BW.new bel13
    replace BG := BG.new bel13
    replace ownw := ownw.new bel13
    replace owngm := owngm.new bel13
    have b13 := b12.trans (bel13.mono z12')
    have z13 := b13.size
    have y13 := bel13.size
    clear b12 bel13
    go_wp2_with fail
    refine (HI.out _ _ _ own13.in_ (Nat.le_refl _)).mono ?_
    rintro e wH ⟨vh, rfl, ownh, bel14⟩
    obtain ⟨ah, chh, aih, cih, aph, cph, rfl, ownh⟩ := ownh.shape
    replace BW := BW.new bel14
    replace BG := BG.new bel14
    replace ownw := ownw.new bel14
    replace owngm := owngm.new bel14
    have b14 := b13.trans (bel14.mono z13)
    have y14 := bel14.size
    clear b13 bel14 own13
    have bxH : Below wH.heap.size wH (wH.alloc (.cells #[.slice ah R.ends.length chh, .slice aih R.ids.length cih, .slice aph R.inputs.length cph] 31)) := (by repeat (first | exact Below.refl _ _ | assumption | refine Below.alloc ?_ (by first | (simp; done) | (simp; omega) | omega) _ | refine Below.setCell ?_ (by first | (simp; done) | (simp; omega) | omega) _ | refine Below.drew ?_ | refine Below.drewN ?_ _))
    replace BW := BW.new bxH
    replace BG := BG.new bxH
    have cW0 := BW.cell 0 _ rfl
    have cW1 := BW.cell 1 _ rfl
    have cW2 := BW.cell 2 _ rfl
    go_wp2_with fail
    clear cW0 cW1 cW2
    replace ownw := ownw.new bxH
    replace owngm := owngm.new bxH
    replace ownh := ownh.new bxH
    have b14' := b14.trans (bxH.mono b14.size)
    have zxH := bxH.size
    generalize wH.alloc (.cells #[.slice ah R.ends.length chh, .slice aih R.ids.length cih, .slice aph R.inputs.length cph] 31) = w14 at *
    clear bxH b14
    have z14 := b14'.size
    refine (eqNetwork_any _ _ R _ _ _ _ _ ownh ownw (by omega) (by omega) hR).mono ?_
    rintro e w15 ⟨rfl, bel15⟩
    replace owngm := owngm.new bel15
    replace BG := BG.new bel15
    have b15 := b14'.trans (bel15.mono z14)
    have z15 := b15.size
    have y15 := bel15.size
    clear b14' bel15 ownh ownw BW
    have cG0 := BG.cell 0 _ rfl
    have cG1 := BG.cell 1 _ rfl
    have cG2 := BG.cell 2 _ rfl
    go_wp2_with fail
    clear cG0 cG1 cG2
    refine (heldNetwork_any _ R 1 _ _ _ owngm (by omega) hR (by omega)).mono ?_
    rintro e w16 ⟨rfl, bel16⟩
    go_wp2_with fail
    go_ret
    exact ⟨rfl, b15.trans (bel16.mono z15)⟩
end Go.Proofs.Ytpfjglheinomiaa
