/- RenumberNodes: impl's and spec's functions. -/
import Derived.Test.YtabpimhkjgojhaaRen
namespace Go.Proofs.Ytabpimhkjgojhaa
open Go.RowKit
set_option linter.unusedVariables false
set_option linter.unusedSimpArgs false


set_option maxRecDepth 100000 in
set_option maxHeartbeats 800000 in
theorem renS_any (V : Value) (N : Net) (al : Option Addr) (capl : Nat) (l : List Int) (w : World) (B : Nat) (hv : NetIn w B V N) (hB : B ≤ w.heap.size) (ha : RdI w w.heap.size al l) (hcl : l.length ≤ capl) (hs : NetSmall N) (hlen : l.length ≤ 1048576) :
    Calls Try.prog 31 #[V, .slice al l.length capl] w (PostN (rnR N l) (rnB N l) w) := by
  have HV := Lib.hid hv
  have HS := Lib.hid hs
  obtain ⟨a, c, vs, ai, ci, ap, cp, rfl, h1, _⟩ := hv
  have hl : N.ends.length ≤ 1048576 := by unfold NetSmall at hs; omega
  have BA := (Bx.made w 25 #[.slice a N.ends.length c, .slice ai N.ids.length ci, .slice ap N.inputs.length cp]).alloc (.cells #[.slice none 0 0, .slice none 0 0, .slice none 0 0] 25)
  have BR := Bx.made (w.alloc (.cells #[.slice a N.ends.length c, .slice ai N.ids.length ci, .slice ap N.inputs.length cp] 25)) 25 #[.slice none 0 0, .slice none 0 0, .slice none 0 0]
  have b0 : Below w.heap.size w ((w.alloc (.cells #[.slice a N.ends.length c, .slice ai N.ids.length ci, .slice ap N.inputs.length cp] 25)).alloc (.cells #[.slice none 0 0, .slice none 0 0, .slice none 0 0] 25)) := (by repeat (first | exact Below.refl _ _ | assumption | refine Below.alloc ?_ (by first | (simp; done) | (simp; omega) | omega) _ | refine Below.setCell ?_ (by first | (simp; done) | (simp; omega) | omega) _ | refine Below.drew ?_ | refine Below.drewN ?_ _))
  have z0 : w.heap.size + 1 + 1 ≤ ((w.alloc (.cells #[.slice a N.ends.length c, .slice ai N.ids.length ci, .slice ap N.inputs.length cp] 25)).alloc (.cells #[.slice none 0 0, .slice none 0 0, .slice none 0 0] 25)).heap.size := by simp
  rw [World.size_alloc] at BR
  clear hs h1
  go_enter Try.func31, Try.ntmps31
  go_wp2_with fail
  generalize (w.alloc (.cells #[.slice a N.ends.length c, .slice ai N.ids.length ci, .slice ap N.inputs.length cp] 25)).alloc (.cells #[.slice none 0 0, .slice none 0 0, .slice none 0 0] 25) = w0 at *
  refine (neGood_any _ N _ B (HV.out.below (b0.mono hB)) (Nat.le_trans hB b0.size) HS.out).mono ?_
  rintro e w1 ⟨rfl, bel1⟩
  replace BA := BA.new bel1
  replace BR := BR.new bel1
  have z1 := bel1.size
  have bb := b0.trans (bel1.mono b0.size)
  clear b0 bel1
  cases hn : netB N with
  | false =>
    have HF := Lib.hid (rnB_f0 (l := l) hn)
    clear hn
    have e0 := BR.cell 0 _ rfl
    have e1 := BR.cell 1 _ rfl
    have e2 := BR.cell 2 _ rfl
    have f0 := BR.frozen 0
    have f1 := BR.frozen 1
    have f2 := BR.frozen 2
    go_wp2_with fail
    clear e0 e1 e2 f0 f1 f2
    generalize hW : World.setCell _ _ _ = W
    have B6 : Bx W (w.heap.size + 1) 25 #[.slice none 0 0, .slice none 0 0, .slice none 0 0] := by rw [← hW]; exact ((BR.set 0 _).set 1 _).set 2 _
    have fr6 : Fr (fun k => k = w.heap.size + 1) w1 W := by rw [← hW]; exact fr3 _ _ _ _ _
    clear hW
    have z6 := fr6.size
    have d0 := B6.cell 0 _ rfl
    have d1 := B6.cell 1 _ rfl
    have d2 := B6.cell 2 _ rfl
    refine bodyPost_ret (v := .tuple #[.agg #[.slice none 0 0, .slice none 0 0, .slice none 0 0], .bool false]) (by simp [results, Try.results31, go_sem, d0, d1, d2]) rfl ?_
    rw [rnR_f HF.out, id HF.out]
    exact ⟨_, rfl, NetAt.nilN _ _ _, bb.trans (fr6.below (fun k h1 h2 hc => by omega) bb.size)⟩
  | true =>
    have HN := Lib.hid hn
    have HT := Lib.hid (rnB_t (l := l) hn)
    have hl40 : N.ends.length ≤ 40 := (netB_small hn).1
    clear hn
    have c0 := BA.cell 0 _ rfl
    have c1 := BA.cell 1 _ rfl
    have c2 := BA.cell 2 _ rfl
    go_wp2_with fail
    refine (nePerm_any al capl l N.ends.length w1 w.heap.size (Rd.below ha bb) hlen (by omega) hcl).mono ?_
    rintro e w2 ⟨rfl, hq⟩
    have bel2 : Below w1.heap.size w1 w2 := Qt.below hq _
    clear hq
    replace BA := BA.new bel2
    replace BR := BR.new bel2
    have z2 := bel2.size
    replace bb := bb.trans (bel2.mono bb.size)
    clear c0 c1 c2 bel2
    cases hn : permB l N.ends.length with
    | false =>
      have HF := Lib.hid (HT.out.trans hn)
      clear hn
      have e0 := BR.cell 0 _ rfl
      have e1 := BR.cell 1 _ rfl
      have e2 := BR.cell 2 _ rfl
      have f0 := BR.frozen 0
      have f1 := BR.frozen 1
      have f2 := BR.frozen 2
      go_wp2_with fail
      clear e0 e1 e2 f0 f1 f2
      generalize hW : World.setCell _ _ _ = W
      have B6 : Bx W (w.heap.size + 1) 25 #[.slice none 0 0, .slice none 0 0, .slice none 0 0] := by rw [← hW]; exact ((BR.set 0 _).set 1 _).set 2 _
      have fr6 : Fr (fun k => k = w.heap.size + 1) w2 W := by rw [← hW]; exact fr3 _ _ _ _ _
      clear hW
      have z6 := fr6.size
      have d0 := B6.cell 0 _ rfl
      have d1 := B6.cell 1 _ rfl
      have d2 := B6.cell 2 _ rfl
      refine bodyPost_ret (v := .tuple #[.agg #[.slice none 0 0, .slice none 0 0, .slice none 0 0], .bool false]) (by simp [results, Try.results31, go_sem, d0, d1, d2]) rfl ?_
      rw [rnR_f HF.out, id HF.out]
      exact ⟨_, rfl, NetAt.nilN _ _ _, bb.trans (fr6.below (fun k h1 h2 hc => by omega) bb.size)⟩
    | true =>
      have HP := Lib.hid hn
      have HB := Lib.hid (HT.out.trans hn)
      clear hn
      have c0 := BA.cell 0 _ rfl
      have c1 := BA.cell 1 _ rfl
      have c2 := BA.cell 2 _ rfl
      go_wp2_with fail
      refine (neRenumber_any _ N al capl l _ B w.heap.size (HV.out.below (bb.mono hB)) (Nat.le_trans hB bb.size) (Rd.below ha bb) bb.size HS.out HN.out HP.out).mono ?_
      rintro e w3 ⟨x3, rfl, own3, bel3⟩
      replace BR := BR.new bel3
      replace bb := bb.trans (bel3.mono bb.size)
      have z3 := bel3.size
      clear bel3 BA c0 c1 c2
      obtain ⟨ax, cx, aix, cix, apx, cpx, rfl, own3⟩ := own3.shape
      have HRR := Lib.hid (show rnR N l = rnN N l by rw [rnR, HB.out]; rfl)
      generalize rnN N l = RR at *
      have e0 := BR.cell 0 _ rfl
      have e1 := BR.cell 1 _ rfl
      have e2 := BR.cell 2 _ rfl
      have f0 := BR.frozen 0
      have f1 := BR.frozen 1
      have f2 := BR.frozen 2
      go_wp2_with fail
      clear e0 e1 e2 f0 f1 f2
      generalize hW : World.setCell _ _ _ = W
      have B6 : Bx W (w.heap.size + 1) 25 #[.slice ax RR.ends.length cx, .slice aix RR.ids.length cix, .slice apx RR.inputs.length cpx] := by rw [← hW]; exact ((BR.set 0 _).set 1 _).set 2 _
      have fr6 : Fr (fun k => k = w.heap.size + 1) w3 W := by rw [← hW]; exact fr3 _ _ _ _ _
      clear hW
      have z6 := fr6.size
      have d0 := B6.cell 0 _ rfl
      have d1 := B6.cell 1 _ rfl
      have d2 := B6.cell 2 _ rfl
      refine bodyPost_ret (v := .tuple #[.agg #[.slice ax RR.ends.length cx, .slice aix RR.ids.length cix, .slice apx RR.inputs.length cpx], .bool true]) (by simp [results, Try.results31, go_sem, d0, d1, d2]) rfl ?_
      rw [HRR.out, HB.out]
      exact ⟨_, rfl, (own3.frBx BR fr6).wide (lo' := w.heap.size) (hi' := W.heap.size) (by omega) (by omega), bb.trans (fr6.below (fun k h1 h2 hc => by omega) bb.size)⟩
set_option maxRecDepth 100000 in
set_option maxHeartbeats 800000 in
theorem ren_any (V : Value) (N : Net) (al : Option Addr) (capl : Nat) (l : List Int) (w : World) (B : Nat) (hv : NetIn w B V N) (hB : B ≤ w.heap.size) (ha : RdI w w.heap.size al l) (hcl : l.length ≤ capl) (hs : NetSmall N) (hlen : l.length ≤ 1048576) :
    Calls Try.prog 32 #[V, .slice al l.length capl] w (PostN (rnR N l) (rnB N l) w) := by
  have HV := Lib.hid hv
  have HS := Lib.hid hs
  obtain ⟨a, c, vs, ai, ci, ap, cp, rfl, h1, _⟩ := hv
  have hl : N.ends.length ≤ 1048576 := by unfold NetSmall at hs; omega
  have BA := (Bx.made w 25 #[.slice a N.ends.length c, .slice ai N.ids.length ci, .slice ap N.inputs.length cp]).alloc (.cells #[.slice none 0 0, .slice none 0 0, .slice none 0 0] 25)
  have BR := Bx.made (w.alloc (.cells #[.slice a N.ends.length c, .slice ai N.ids.length ci, .slice ap N.inputs.length cp] 25)) 25 #[.slice none 0 0, .slice none 0 0, .slice none 0 0]
  have b0 : Below w.heap.size w ((w.alloc (.cells #[.slice a N.ends.length c, .slice ai N.ids.length ci, .slice ap N.inputs.length cp] 25)).alloc (.cells #[.slice none 0 0, .slice none 0 0, .slice none 0 0] 25)) := (by repeat (first | exact Below.refl _ _ | assumption | refine Below.alloc ?_ (by first | (simp; done) | (simp; omega) | omega) _ | refine Below.setCell ?_ (by first | (simp; done) | (simp; omega) | omega) _ | refine Below.drew ?_ | refine Below.drewN ?_ _))
  have z0 : w.heap.size + 1 + 1 ≤ ((w.alloc (.cells #[.slice a N.ends.length c, .slice ai N.ids.length ci, .slice ap N.inputs.length cp] 25)).alloc (.cells #[.slice none 0 0, .slice none 0 0, .slice none 0 0] 25)).heap.size := by simp
  rw [World.size_alloc] at BR
  clear hs h1
  go_enter Try.func32, Try.ntmps32
  go_wp2_with fail
  generalize (w.alloc (.cells #[.slice a N.ends.length c, .slice ai N.ids.length ci, .slice ap N.inputs.length cp] 25)).alloc (.cells #[.slice none 0 0, .slice none 0 0, .slice none 0 0] 25) = w0 at *
  refine (isNetwork_any _ N _ B (HV.out.below (b0.mono hB)).rd (Nat.le_trans hB b0.size) HS.out).mono ?_
  rintro e w1 ⟨rfl, bel1⟩
  replace BA := BA.new bel1
  replace BR := BR.new bel1
  have z1 := bel1.size
  have bb := b0.trans (bel1.mono b0.size)
  clear b0 bel1
  cases hn : netB N with
  | false =>
    have HF := Lib.hid (rnB_f0 (l := l) hn)
    clear hn
    have e0 := BR.cell 0 _ rfl
    have e1 := BR.cell 1 _ rfl
    have e2 := BR.cell 2 _ rfl
    have f0 := BR.frozen 0
    have f1 := BR.frozen 1
    have f2 := BR.frozen 2
    go_wp2_with fail
    clear e0 e1 e2 f0 f1 f2
    generalize hW : World.setCell _ _ _ = W
    have B6 : Bx W (w.heap.size + 1) 25 #[.slice none 0 0, .slice none 0 0, .slice none 0 0] := by rw [← hW]; exact ((BR.set 0 _).set 1 _).set 2 _
    have fr6 : Fr (fun k => k = w.heap.size + 1) w1 W := by rw [← hW]; exact fr3 _ _ _ _ _
    clear hW
    have z6 := fr6.size
    have d0 := B6.cell 0 _ rfl
    have d1 := B6.cell 1 _ rfl
    have d2 := B6.cell 2 _ rfl
    refine bodyPost_ret (v := .tuple #[.agg #[.slice none 0 0, .slice none 0 0, .slice none 0 0], .bool false]) (by simp [results, Try.results32, go_sem, d0, d1, d2]) rfl ?_
    rw [rnR_f HF.out, id HF.out]
    exact ⟨_, rfl, NetAt.nilN _ _ _, bb.trans (fr6.below (fun k h1 h2 hc => by omega) bb.size)⟩
  | true =>
    have HN := Lib.hid hn
    have HT := Lib.hid (rnB_t (l := l) hn)
    have hl40 : N.ends.length ≤ 40 := (netB_small hn).1
    clear hn
    have c0 := BA.cell 0 _ rfl
    have c1 := BA.cell 1 _ rfl
    have c2 := BA.cell 2 _ rfl
    go_wp2_with fail
    refine (isPermutation_any al capl l N.ends.length w1 w.heap.size (Rd.below ha bb) bb.size hlen (by omega)).mono ?_
    rintro e w2 ⟨rfl, bel2⟩
    replace BA := BA.new bel2
    replace BR := BR.new bel2
    have z2 := bel2.size
    replace bb := bb.trans (bel2.mono bb.size)
    clear c0 c1 c2 bel2
    cases hn : permB l N.ends.length with
    | false =>
      have HF := Lib.hid (HT.out.trans hn)
      clear hn
      have e0 := BR.cell 0 _ rfl
      have e1 := BR.cell 1 _ rfl
      have e2 := BR.cell 2 _ rfl
      have f0 := BR.frozen 0
      have f1 := BR.frozen 1
      have f2 := BR.frozen 2
      go_wp2_with fail
      clear e0 e1 e2 f0 f1 f2
      generalize hW : World.setCell _ _ _ = W
      have B6 : Bx W (w.heap.size + 1) 25 #[.slice none 0 0, .slice none 0 0, .slice none 0 0] := by rw [← hW]; exact ((BR.set 0 _).set 1 _).set 2 _
      have fr6 : Fr (fun k => k = w.heap.size + 1) w2 W := by rw [← hW]; exact fr3 _ _ _ _ _
      clear hW
      have z6 := fr6.size
      have d0 := B6.cell 0 _ rfl
      have d1 := B6.cell 1 _ rfl
      have d2 := B6.cell 2 _ rfl
      refine bodyPost_ret (v := .tuple #[.agg #[.slice none 0 0, .slice none 0 0, .slice none 0 0], .bool false]) (by simp [results, Try.results32, go_sem, d0, d1, d2]) rfl ?_
      rw [rnR_f HF.out, id HF.out]
      exact ⟨_, rfl, NetAt.nilN _ _ _, bb.trans (fr6.below (fun k h1 h2 hc => by omega) bb.size)⟩
    | true =>
      have HP := Lib.hid hn
      have HB := Lib.hid (HT.out.trans hn)
      clear hn
      have c0 := BA.cell 0 _ rfl
      have c1 := BA.cell 1 _ rfl
      have c2 := BA.cell 2 _ rfl
      go_wp2_with fail
      refine (renumber_any _ N al capl l _ B w.heap.size (HV.out.below (bb.mono hB)) (Nat.le_trans hB bb.size) (Rd.below ha bb) bb.size HS.out HN.out HP.out).mono ?_
      rintro e w3 ⟨x3, rfl, own3, bel3⟩
      replace BR := BR.new bel3
      replace bb := bb.trans (bel3.mono bb.size)
      have z3 := bel3.size
      clear bel3 BA c0 c1 c2
      obtain ⟨ax, cx, aix, cix, apx, cpx, rfl, own3⟩ := own3.shape
      have HRR := Lib.hid (show rnR N l = rnN N l by rw [rnR, HB.out]; rfl)
      generalize rnN N l = RR at *
      have e0 := BR.cell 0 _ rfl
      have e1 := BR.cell 1 _ rfl
      have e2 := BR.cell 2 _ rfl
      have f0 := BR.frozen 0
      have f1 := BR.frozen 1
      have f2 := BR.frozen 2
      go_wp2_with fail
      clear e0 e1 e2 f0 f1 f2
      generalize hW : World.setCell _ _ _ = W
      have B6 : Bx W (w.heap.size + 1) 25 #[.slice ax RR.ends.length cx, .slice aix RR.ids.length cix, .slice apx RR.inputs.length cpx] := by rw [← hW]; exact ((BR.set 0 _).set 1 _).set 2 _
      have fr6 : Fr (fun k => k = w.heap.size + 1) w3 W := by rw [← hW]; exact fr3 _ _ _ _ _
      clear hW
      have z6 := fr6.size
      have d0 := B6.cell 0 _ rfl
      have d1 := B6.cell 1 _ rfl
      have d2 := B6.cell 2 _ rfl
      refine bodyPost_ret (v := .tuple #[.agg #[.slice ax RR.ends.length cx, .slice aix RR.ids.length cix, .slice apx RR.inputs.length cpx], .bool true]) (by simp [results, Try.results32, go_sem, d0, d1, d2]) rfl ?_
      rw [HRR.out, HB.out]
      exact ⟨_, rfl, (own3.frBx BR fr6).wide (lo' := w.heap.size) (hi' := W.heap.size) (by omega) (by omega), bb.trans (fr6.below (fun k h1 h2 hc => by omega) bb.size)⟩
end Go.Proofs.Ytabpimhkjgojhaa
