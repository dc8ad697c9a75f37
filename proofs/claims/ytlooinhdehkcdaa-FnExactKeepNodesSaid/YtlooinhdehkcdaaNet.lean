/- Networks in memory, and the laws' own functions on them. -/
import Derived.Test.YtlooinhdehkcdaaEndM
import Derived.Test.YtlooinhdehkcdaaRise
namespace Go.Proofs.Ytlooinhdehkcdaa
open Go.RowKit
set_option linter.unusedVariables false
structure Net where
  ends : List (List (Int × Int))
  ids : List Int
  inputs : List Int
/-- a network whose rows are the call's own, in blocks from lo on and below hi -/
def NetAt (w : World) (lo hi : Nat) (v : Value) (N : Net) : Prop :=
  ∃ a c vs ai ci ap cp, v = .agg #[.slice a N.ends.length c, .slice ai N.ids.length ci, .slice ap N.inputs.length cp] ∧
    RowsE w lo hi a c N.ends vs ∧ OwI w lo hi ai ci N.ids ∧ OwI w lo hi ap cp N.inputs ∧ (blk ai ci = none ∨ blk ai ci ≠ blk ap cp)
section
variable {w w' : World} {lo hi lo' hi' : Nat} {v : Value} {N : Net} {C : Nat → Prop}
theorem NetAt.fr (h : NetAt w lo hi v N) (hf : Fr C w w') (hc : ∀ k, lo ≤ k → k < hi → ¬ C k) : NetAt w' lo hi v N := by
  obtain ⟨a, c, vs, ai, ci, ap, cp, hv, h1, h2, h3, h4⟩ := h
  exact ⟨a, c, vs, ai, ci, ap, cp, hv, RowsAt.fr h1 hf hc, Ow.fr h2 hf hc, Ow.fr h3 hf hc, h4⟩
theorem NetAt.new (h : NetAt w lo hi v N) (hf : Below w.heap.size w w') : NetAt w' lo hi v N := by
  obtain ⟨a, c, vs, ai, ci, ap, cp, hv, h1, h2, h3, h4⟩ := h
  exact ⟨a, c, vs, ai, ci, ap, cp, hv, RowsAt.new h1 hf, Ow.new h2 hf, Ow.new h3 hf, h4⟩
theorem NetAt.wide (h : NetAt w lo hi v N) (h1 : lo' ≤ lo) (h2 : hi ≤ hi') : NetAt w lo' hi' v N := by
  obtain ⟨a, c, vs, ai, ci, ap, cp, hv, k1, k2, k3, k4⟩ := h
  exact ⟨a, c, vs, ai, ci, ap, cp, hv, RowsAt.wide k1 h1 h2, Ow.wide k2 h1 h2, Ow.wide k3 h1 h2, k4⟩
end
/-- the sizes that the laws bound -/
def NetSmall (N : Net) : Prop := N.ends.length + Total N.ends + N.ids.length + N.inputs.length ≤ 1048576
theorem NetSmall.row {N : Net} (h : NetSmall N) (j : Nat) (hj : j < N.ends.length) : (rowOf N.ends j).length ≤ 1048576 := by
  have := row_le_total N.ends j hj
  unfold NetSmall at h
  omega
/-- a network that came in -/
def NetRd (w : World) (B : Nat) (v : Value) (N : Net) : Prop :=
  ∃ a c vs ai ci ap cp, v = .agg #[.slice a N.ends.length c, .slice ai N.ids.length ci, .slice ap N.inputs.length cp] ∧ RdEE w B a N.ends vs ∧ RdI w B ai N.ids ∧ RdI w B ap N.inputs
theorem NetRd.below {w w' : World} {B : Nat} {v : Value} {N : Net} (h : NetRd w B v N) (hb : Below B w w') : NetRd w' B v N := by
  obtain ⟨a, c, vs, ai, ci, ap, cp, hv, h1, h2, h3⟩ := h
  exact ⟨a, c, vs, ai, ci, ap, cp, hv, h1.below hb, Rd.below h2 hb, Rd.below h3 hb⟩
theorem RdEE.alloc {w : World} {B : Nat} {a : Option Addr} {rows : List (List (Int × Int))} {vs : Nat → Option Addr × Nat} (h : RdEE w B a rows vs) (hB : B ≤ w.heap.size) (o : Obj) : RdEE (w.alloc o) B a rows vs :=
  h.below ((Below.refl _ _).alloc hB _)
/-- what a callee that makes memory leaves: old cells and old marks read as before -/
theorem bcell {W w1 : World} (hb : Below W.heap.size W w1) : (∀ b o, b < W.heap.size → w1.cell? ⟨b, o, none⟩ = W.cell? ⟨b, o, none⟩) ∧ (∀ b o, b < W.heap.size → w1.frozen? ⟨b, o, none⟩ = W.frozen? ⟨b, o, none⟩) :=
  ⟨fun b o h => hb.cell (p := ⟨b, o, none⟩) h, fun b o h => hb.frozen (p := ⟨b, o, none⟩) h⟩
set_option maxHeartbeats 400000 in
theorem toNetwork_any (v : Value) (N : Net) (w : World) (B : Nat) (hv : NetRd w B v N) (hB : B ≤ w.heap.size) (hs : NetSmall N) :
    Calls Try.prog 12 #[v] w fun e w' => ∃ v', e = .returned v' ∧ NetAt w' w.heap.size w'.heap.size v' N ∧ Below w.heap.size w w' := by
  obtain ⟨a, c, vs, ai, ci, ap, cp, rfl, h1, h2, h3⟩ := hv
  have hrow := hs.row
  have HROW := Lib.hid hrow
  unfold NetSmall at hs
  clear hrow
  go_enter Try.func12, Try.ntmps12
  go_wp2_with fail
  have BA := Bx.made w 25 #[.slice a N.ends.length c, .slice ai N.ids.length ci, .slice ap N.inputs.length cp]
  have BR := Bx.made (w.alloc (.cells #[.slice a N.ends.length c, .slice ai N.ids.length ci, .slice ap N.inputs.length cp] 25)) 29 #[.slice none 0 0, .slice none 0 0, .slice none 0 0]
  have BO := Bx.made ((w.alloc (.cells #[.slice a N.ends.length c, .slice ai N.ids.length ci, .slice ap N.inputs.length cp] 25)).alloc (.cells #[.slice none 0 0, .slice none 0 0, .slice none 0 0] 29)) 29 #[.slice none 0 0, .slice none 0 0, .slice none 0 0]
  replace BA := (BA.alloc (.cells #[.slice none 0 0, .slice none 0 0, .slice none 0 0] 29)).alloc (.cells #[.slice none 0 0, .slice none 0 0, .slice none 0 0] 29)
  replace BR := BR.alloc (.cells #[.slice none 0 0, .slice none 0 0, .slice none 0 0] 29)
  have b0 : Below w.heap.size w (((w.alloc (.cells #[.slice a N.ends.length c, .slice ai N.ids.length ci, .slice ap N.inputs.length cp] 25)).alloc (.cells #[.slice none 0 0, .slice none 0 0, .slice none 0 0] 29)).alloc (.cells #[.slice none 0 0, .slice none 0 0, .slice none 0 0] 29)) := (by repeat (first | exact Below.refl _ _ | assumption | refine Below.alloc ?_ (by first | (simp; done) | (simp; omega) | omega) _ | refine Below.setCell ?_ (by first | (simp; done) | (simp; omega) | omega) _ | refine Below.drew ?_ | refine Below.drewN ?_ _))
  simp only [World.size_alloc] at BR BO
  refine (toEndSS_any _ _ N.ends vs _ B (h1.below (b0.mono hB)) (by simp; omega) (by omega) HROW.out).mono ?_
  rintro e w1 ⟨vs1, rfl, own1, bel1⟩
  replace BA := BA.new bel1
  replace BR := BR.new bel1
  replace BO := BO.new bel1
  have z1 : w.heap.size + 1 + 1 + 1 ≤ w1.heap.size := by have := bel1.size; simpa using this
  simp only [World.size_alloc] at own1
  have b1 : Below w.heap.size w w1 := b0.trans (bel1.mono (by simp; omega))
  clear b0 bel1
  have cA := BA.cell 1 _ rfl
  have cO := BO.cell 0 _ rfl
  have fO := BO.frozen 0
  go_wp2_with fail
  clear cA cO fO
  have b1' := b1.setCell (p := ⟨w.heap.size + 1 + 1, 0, none⟩) (by simp; omega) (Value.slice (some ⟨w.heap.size + 1 + 1 + 1, 0, none⟩) N.ends.length N.ends.length)
  refine (toIntS_any _ _ N.ids _ B (h2.below (b1'.mono hB)) (by rw [size_set]; omega) (by omega)).mono ?_
  rintro e w2 ⟨rfl, own2, bel2⟩
  replace own1 := RowsAt.new (RowsAt.fr own1 (fr_set w1 (w.heap.size + 1 + 1) 0 _) (fun k h1 h2 hc => by omega)) bel2
  replace BA := (BA.far (p := ⟨w.heap.size + 1 + 1, 0, none⟩) (by simp; omega) _).new bel2
  replace BR := (BR.far (p := ⟨w.heap.size + 1 + 1, 0, none⟩) (by simp) _).new bel2
  replace BO := (BO.set 0 _).new bel2
  have z2 : w1.heap.size ≤ w2.heap.size := by have := bel2.size; rwa [size_set] at this
  have b2 := b1'.trans (bel2.mono (by rw [size_set]; omega))
  simp only [size_set] at own2
  clear b1 b1' bel2
  have cA := BA.cell 2 _ rfl
  have cO := BO.cell 1 _ rfl
  have fO := BO.frozen 1
  go_wp2_with fail
  clear cA cO fO
  have b2' := b2.setCell (p := ⟨w.heap.size + 1 + 1, 1, none⟩) (by simp; omega) (Value.slice (some ⟨w1.heap.size, 0, none⟩) N.ids.length N.ids.length)
  refine (toIntS_any _ _ N.inputs _ B (h3.below (b2'.mono hB)) (by rw [size_set]; omega) (by omega)).mono ?_
  rintro e w3 ⟨rfl, own3, bel3⟩
  replace own1 := RowsAt.new (RowsAt.fr own1 (fr_set w2 (w.heap.size + 1 + 1) 1 _) (fun k h1 h2 hc => by omega)) bel3
  replace own2 := Ow.new (Ow.fr own2 (fr_set w2 (w.heap.size + 1 + 1) 1 _) (fun k h1 h2 hc => by omega)) bel3
  replace BR := (BR.far (p := ⟨w.heap.size + 1 + 1, 1, none⟩) (by simp) _).new bel3
  replace BO := (BO.set 1 _).new bel3
  have z3 : w2.heap.size ≤ w3.heap.size := by have := bel3.size; rwa [size_set] at this
  have b3 := b2'.trans (bel3.mono (by rw [size_set]; omega))
  simp only [size_set] at own3
  clear b2 b2' bel3 BA
  have cO0 := BO.cell 0 _ rfl
  have cO1 := BO.cell 1 _ rfl
  have cO2 := BO.cell 2 _ rfl
  have fO := BO.frozen 2
  have cR0 := BR.cell 0 _ rfl
  have cR1 := BR.cell 1 _ rfl
  have cR2 := BR.cell 2 _ rfl
  have fR0 := BR.frozen 0
  have fR1 := BR.frozen 1
  have fR2 := BR.frozen 2
  go_wp2_with fail
  refine bodyPost_ret (v := .agg #[.slice (some ⟨w.heap.size + 1 + 1 + 1, 0, none⟩) N.ends.length N.ends.length, .slice (some ⟨w1.heap.size, 0, none⟩) N.ids.length N.ids.length, .slice (some ⟨w2.heap.size, 0, none⟩) N.inputs.length N.inputs.length]) (by simp [results, Try.results12, go_sem, cR0, cR1, cR2]) rfl ?_
  generalize hW : World.setCell _ _ _ = W4
  have fr4 : Fr (fun k => k = w.heap.size + 1 ∨ k = w.heap.size + 1 + 1) w3 W4 := by
    rw [← hW]
    repeat (first | exact Fr.refl _ _ | refine Fr.setCell ?_ (.inl (.inl rfl)) _ | refine Fr.setCell ?_ (.inl (.inr rfl)) _)
  have z4 := fr4.size
  clear hW
  refine ⟨_, rfl, ⟨_, _, vs1, _, _, _, _, rfl, ?_, ?_, ?_, ?_⟩, ?_⟩
  · exact RowsAt.wide (RowsAt.fr own1 fr4 (fun k h1 h2 hc => by omega)) (by omega) (by omega)
  · exact Ow.wide (Ow.fr own2 fr4 (fun k h1 h2 hc => by omega)) (by omega) (by omega)
  · exact Ow.wide (Ow.fr own3 fr4 (fun k h1 h2 hc => by omega)) (by omega) (by omega)
  · cases hb : blk (some ⟨w1.heap.size, 0, none⟩) N.ids.length with
    | none => exact .inl rfl
    | some x =>
      refine .inr fun he => ?_
      have h5 := Ow.blk_in own2 hb
      have h6 := Ow.blk_in own3 he.symm
      omega
  · exact b3.trans (fr4.below (fun k h1 h2 hc => by omega) (by omega))
set_option maxHeartbeats 400000 in
theorem eqNetwork_any (v v' : Value) (N : Net) (w : World) (lo hi lo' hi' : Nat) (hv : NetAt w lo hi v N) (hv' : NetAt w lo' hi' v' N) (hh : hi ≤ w.heap.size) (hh' : hi' ≤ w.heap.size) (hs : NetSmall N) :
    Calls Try.prog 14 #[v, v'] w fun e w' => e = .returned (.bool true) ∧ Below w.heap.size w w' := by
  obtain ⟨a, c, vs, ai, ci, ap, cp, rfl, h1, h2, h3, _⟩ := hv
  obtain ⟨a', c', vs', ai', ci', ap', cp', rfl, h1', h2', h3', _⟩ := hv'
  have HROW := Lib.hid hs.row
  unfold NetSmall at hs
  go_enter Try.func14, Try.ntmps14
  go_wp2_with fail
  have BA := Bx.made w 29 #[.slice a N.ends.length c, .slice ai N.ids.length ci, .slice ap N.inputs.length cp]
  have BB := Bx.made (w.alloc (.cells #[.slice a N.ends.length c, .slice ai N.ids.length ci, .slice ap N.inputs.length cp] 29)) 29 #[.slice a' N.ends.length c', .slice ai' N.ids.length ci', .slice ap' N.inputs.length cp']
  replace BA := BA.alloc (.cells #[.slice a' N.ends.length c', .slice ai' N.ids.length ci', .slice ap' N.inputs.length cp'] 29)
  have b0 : Below w.heap.size w ((w.alloc (.cells #[.slice a N.ends.length c, .slice ai N.ids.length ci, .slice ap N.inputs.length cp] 29)).alloc (.cells #[.slice a' N.ends.length c', .slice ai' N.ids.length ci', .slice ap' N.inputs.length cp'] 29)) := (by repeat (first | exact Below.refl _ _ | assumption | refine Below.alloc ?_ (by first | (simp; done) | (simp; omega) | omega) _ | refine Below.setCell ?_ (by first | (simp; done) | (simp; omega) | omega) _ | refine Below.drew ?_ | refine Below.drewN ?_ _))
  simp only [World.size_alloc] at BB
  refine (eqEndSS_any _ _ _ _ N.ends N.ends vs vs' _ lo hi lo' hi' (RowsAt.new h1 b0) (RowsAt.new h1' b0) (by simp; omega) (by simp; omega) (by omega) HROW.out rfl).mono ?_
  rintro e w1 ⟨rfl, bel1⟩
  have b1 : Below w.heap.size w w1 := b0.trans (bel1.mono (by simp; omega))
  replace BA := BA.new bel1
  replace BB := BB.new bel1
  clear b0 bel1
  have cA := BA.cell 1 _ rfl
  have cB := BB.cell 1 _ rfl
  go_wp2_with fail
  clear cA cB
  refine (eqIntS_any _ _ _ _ N.ids N.ids _ _ _ (Ow.new h2 b1).rd (Ow.new h2' b1).rd (by omega) (by omega)).mono ?_
  rintro e w2 ⟨rfl, q2⟩
  have q2' : Qt w1 w2 := q2
  replace BA := BA.qt q2'
  replace BB := BB.qt q2'
  have b2 := b1.trans (q2'.below _)
  clear q2 q2' b1
  rw [decide_eq_true rfl]
  have cA := BA.cell 2 _ rfl
  have cB := BB.cell 2 _ rfl
  go_wp2_with fail
  clear cA cB
  refine (eqIntS_any _ _ _ _ N.inputs N.inputs _ _ _ (Ow.new h3 b2).rd (Ow.new h3' b2).rd (by omega) (by omega)).mono ?_
  rintro e w3 ⟨rfl, q3⟩
  have q3' : Qt w2 w3 := q3
  rw [decide_eq_true rfl]
  go_wp2_with fail
  go_ret
  exact ⟨rfl, b2.trans (q3'.below _)⟩
def markN (k : Nat) (N : Net) : Net := { ends := marks fromE 2 k N.ends, ids := from_ (k + 2 * Total N.ends) N.ids.length, inputs := from_ (k + 2 * Total N.ends + N.ids.length) N.inputs.length }
def netTot (N : Net) : Nat := 2 * Total N.ends + N.ids.length + N.inputs.length
set_option maxHeartbeats 400000 in
theorem markNetwork_any (v : Value) (N : Net) (k : Nat) (w : World) (lo hi : Nat) (hv : NetAt w lo hi v N) (hh : hi ≤ w.heap.size) (hs : NetSmall N) (hk : k ≤ 100000000) :
    Calls Try.prog 15 #[v, .int .i64 k] w fun e w' => e = .returned (.int .i64 (k + netTot N : Nat)) ∧ NetAt w' lo hi v (markN k N) ∧ Fr (fun b => lo ≤ b ∧ b < hi) w w' := by
  obtain ⟨a, c, vs, ai, ci, ap, cp, rfl, h1, h2, h3, h4⟩ := hv
  unfold NetSmall at hs
  go_enter Try.func15, Try.ntmps15
  go_wp2_with fail
  have BA := Bx.made w 29 #[.slice a N.ends.length c, .slice ai N.ids.length ci, .slice ap N.inputs.length cp]
  have b0 : Below w.heap.size w (w.alloc (.cells #[.slice a N.ends.length c, .slice ai N.ids.length ci, .slice ap N.inputs.length cp] 29)) := (by repeat (first | exact Below.refl _ _ | assumption | refine Below.alloc ?_ (by first | (simp; done) | (simp; omega) | omega) _ | refine Below.setCell ?_ (by first | (simp; done) | (simp; omega) | omega) _ | refine Below.drew ?_ | refine Below.drewN ?_ _))
  refine (markEndSS_any _ _ N.ends vs k _ lo hi (RowsAt.new h1 b0) (by omega) (by omega)).mono ?_
  rintro e w1 ⟨rfl, r1, fr1⟩
  replace h2 := Ow.new h2 b0
  replace h3 := Ow.new h3 b0
  replace h1 := RowsAt.new h1 b0
  have hne2 : ∀ k, blk ai ci = some k → ¬ ∃ j, j < N.ends.length ∧ blk (vs j).1 (vs j).2 = some k := by
    rintro k hk ⟨j, hj, hb⟩
    exact ne_of_or ((h1.2.1 j hj).ne_of_type h2 (by decide)) hb hk
  have hne3 : ∀ k, blk ap cp = some k → ¬ ∃ j, j < N.ends.length ∧ blk (vs j).1 (vs j).2 = some k := by
    rintro k hk ⟨j, hj, hb⟩
    exact ne_of_or ((h1.2.1 j hj).ne_of_type h3 (by decide)) hb hk
  replace h2 := Ow.frB h2 fr1 hne2
  replace h3 := Ow.frB h3 fr1 hne3
  have f1 : Fr (fun b => lo ≤ b ∧ b < hi) w w1 := (Fr.of_new b0).trans (fr1.mono fun b _ ⟨j, hj, hb⟩ => (h1.2.1 j hj).blk_in hb)
  replace BA := BA.fr fr1 (by rintro ⟨j, hj, hb⟩; have := ((h1.2.1 j hj).blk_in hb).2; omega)
  clear fr1 hne2 hne3 h1 b0
  have cA := BA.cell 1 _ rfl
  go_wp2_with fail
  clear cA
  refine (markIntS_any _ _ N.ids (k + 2 * Total N.ends) _ lo hi h2 (by omega)).mono ?_
  rintro e w2 ⟨rfl, o2, fr2⟩
  have r2 : RowsE w2 lo hi a c (marks fromE 2 k N.ends) vs := RowsAt.frB r1 fr2 (fun k hk => ne_of_or (r1.1.ne_of_type h2 (by decide)) hk) (fun j hj k hk => ne_of_or ((r1.2.1 j hj).ne_of_type h2 (by decide)) hk)
  replace h3 := Ow.frB h3 fr2 (fun k hk hk2 => ne_of_or h4 hk2 hk)
  replace BA := BA.fr fr2 (fun hb => by have := (h2.blk_in hb).2; omega)
  have f2 := f1.trans (fr2.mono fun b _ hb => h2.blk_in hb)
  clear f1 fr2 r1
  have cA := BA.cell 2 _ rfl
  go_wp2_with fail
  clear cA
  refine (markIntS_any _ _ N.inputs (k + 2 * Total N.ends + N.ids.length) _ lo hi h3 (by omega)).mono ?_
  rintro e w3 ⟨rfl, o3, fr3⟩
  have r3 : RowsE w3 lo hi a c (marks fromE 2 k N.ends) vs := RowsAt.frB r2 fr3 (fun k hk => ne_of_or (r2.1.ne_of_type h3 (by decide)) hk) (fun j hj k hk => ne_of_or ((r2.2.1 j hj).ne_of_type h3 (by decide)) hk)
  replace o2 := Ow.frB o2 fr3 (fun k hk => ne_of_or h4 hk)
  have f3 := f2.trans (fr3.mono fun b _ hb => h3.blk_in hb)
  go_wp2_with fail
  go_ret
  refine ⟨ret_int (by unfold netTot; omega), ⟨a, c, vs, ai, ci, ap, cp, ?_, r3, o2, o3, h4⟩, f3⟩
  show _ = Value.agg #[.slice a (marks fromE 2 k N.ends).length c, .slice ai (from_ (k + 2 * Total N.ends) N.ids.length).length ci, .slice ap (from_ (k + 2 * Total N.ends + N.ids.length) N.inputs.length).length cp]
  rw [from_length, from_length, marks, mkTo_length]
set_option maxHeartbeats 400000 in
theorem heldNetwork_any (v : Value) (N : Net) (k : Nat) (w : World) (lo hi : Nat) (hv : NetAt w lo hi v (markN k N)) (hh : hi ≤ w.heap.size) (hs : NetSmall N) (hk : k ≤ 100000000) :
    Calls Try.prog 16 #[v, .int .i64 k] w fun e w' => e = .returned (.int .i64 (k + netTot N : Nat)) ∧ Below w.heap.size w w' := by
  obtain ⟨a, c, vs, ai, ci, ap, cp, rfl, h1, h2, h3, _⟩ := hv
  have e1 : (markN k N).ends.length = N.ends.length := mkTo_length ..
  have e2 : (markN k N).ids.length = N.ids.length := from_length ..
  have e3 : (markN k N).inputs.length = N.inputs.length := from_length ..
  rw [e1, e2, e3]
  clear e1 e2 e3
  unfold NetSmall at hs
  go_enter Try.func16, Try.ntmps16
  go_wp2_with fail
  have BA := Bx.made w 29 #[.slice a N.ends.length c, .slice ai N.ids.length ci, .slice ap N.inputs.length cp]
  have b0 : Below w.heap.size w (w.alloc (.cells #[.slice a N.ends.length c, .slice ai N.ids.length ci, .slice ap N.inputs.length cp] 29)) := (by repeat (first | exact Below.refl _ _ | assumption | refine Below.alloc ?_ (by first | (simp; done) | (simp; omega) | omega) _ | refine Below.setCell ?_ (by first | (simp; done) | (simp; omega) | omega) _ | refine Below.drew ?_ | refine Below.drewN ?_ _))
  refine (heldEndSS_any _ _ N.ends vs k _ lo hi (RowsAt.new h1 b0) (by omega) (by omega)).mono ?_
  rintro e w1 ⟨rfl, q1⟩
  have q1' : Qt (w.alloc (.cells #[.slice a N.ends.length c, .slice ai N.ids.length ci, .slice ap N.inputs.length cp] 29)) w1 := q1
  replace BA := BA.qt q1'
  have b1 := b0.trans (q1'.below _)
  have d1 : decide (((k + 2 * Total N.ends : Nat) : Int) < 0) = false := decide_eq_false (by omega)
  clear q1 q1' b0
  have cA := BA.cell 1 _ rfl
  go_wp2_with fail
  clear cA
  refine (heldIntS_any _ _ N.ids.length (k + 2 * Total N.ends) _ _ (Ow.new h2 b1).rd (by omega)).mono ?_
  rintro e w2 ⟨rfl, q2⟩
  have q2' : Qt w1 w2 := q2
  replace BA := BA.qt q2'
  have b2 := b1.trans (q2'.below _)
  have d2 : decide (((k + 2 * Total N.ends + N.ids.length : Nat) : Int) < 0) = false := decide_eq_false (by omega)
  clear q2 q2' b1
  have cA := BA.cell 2 _ rfl
  go_wp2_with fail
  clear cA
  refine (heldIntS_any _ _ N.inputs.length (k + 2 * Total N.ends + N.ids.length) _ _ (Ow.new h3 b2).rd (by omega)).mono ?_
  rintro e w3 ⟨rfl, q3⟩
  have q3' : Qt w2 w3 := q3
  have b3 := b2.trans (q3'.below _)
  have d3 : decide (((k + 2 * Total N.ends + N.ids.length + N.inputs.length : Nat) : Int) < 0) = false := decide_eq_false (by omega)
  go_wp2_with fail
  go_ret
  exact ⟨ret_int (by unfold netTot; omega), b3⟩
end Go.Proofs.Ytlooinhdehkcdaa
