/- Rows of rows of ints that come in: read, copied, sized, opened. -/
import Derived.Test.YtmjmgggfmccjmaaDoorSz
import Derived.Test.YtmjmgggfmccjmaaDoorOpenN
namespace Go.Proofs.YtmjmgggfmccjmaaDoor
open Go.ChangeShapes Go.WideShapes Go.ChangeAt Go.RowKit Go.Deep Go.Joins
set_option linter.unusedVariables false
theorem ints_info : (Tryd.prog.info? 23).map (fun i => (i.zero, i.size, i.bytes)) = some (some (.slice none 0 0), 1, 24) := by kernel_rfl
/-- rows of ends that came in -/
def RdII (w : World) (B : Nat) (a : Option Addr) (rows : List (List Int)) (vs : Nat → Option Addr × Nat) : Prop :=
  Rd w B a rows.length (fun j => .slice (vs j).1 (rowOf rows j).length (vs j).2) ∧ ∀ j, j < rows.length → RdI w B (vs j).1 (rowOf rows j)
theorem RdII.below {w w' : World} {B : Nat} {a : Option Addr} {rows : List (List Int)} {vs : Nat → Option Addr × Nat} (h : RdII w B a rows vs) (hb : Below B w w') : RdII w' B a rows vs :=
  ⟨h.1.below hb, fun j hj => (h.2 j hj).below hb⟩
/-- rows of which the first j are there -/
def RowsTI (w : World) (lo : Nat) (rows : List (List Int)) (vs : Nat → Option Addr × Nat) (j : Nat) : Prop :=
  (∃ F, w.rowIs lo 23 rows.length F ∧ ∀ x, x < j → F x = .slice (vs x).1 (rowOf rows x).length (vs x).2) ∧
  (∀ x, x < j → Ow w lo w.heap.size 3 1 (vs x).1 (rowOf rows x).length (vs x).2 (cellI (rowOf rows x))) ∧
  (∀ x y, x < j → y < j → x ≠ y → blk (vs x).1 (vs x).2 = none ∨ blk (vs x).1 (vs x).2 ≠ blk (vs y).1 (vs y).2)
theorem RowsTI.new {w w' : World} {lo : Nat} {rows : List (List Int)} {vs : Nat → Option Addr × Nat} {j : Nat} (h : RowsTI w lo rows vs j) (hb : Below w.heap.size w w') : RowsTI w' lo rows vs j := by
  obtain ⟨⟨F, hr, hF⟩, h2, h3⟩ := h
  exact ⟨⟨F, hr.of_block (hb.block lo hr.lt), hF⟩, fun x hx => ((h2 x hx).new hb).top, h3⟩
theorem RowsTI.all {w : World} {lo : Nat} {rows : List (List Int)} {vs : Nat → Option Addr × Nat} (h : RowsTI w lo rows vs rows.length) (hl : rows.length ≤ maxLen) : RowsI w lo w.heap.size (some ⟨lo, 0, none⟩) rows.length rows vs := by
  obtain ⟨⟨F, hr, hF⟩, h2, h3⟩ := h
  exact ⟨⟨Nat.le_refl _, hl, fun _ => ⟨lo, F, rfl, Nat.le_refl _, hr.lt, by rw [Nat.mul_one]; exact hr, fun x hx => hF x (by omega)⟩⟩, h2, h3⟩
/-- one row more, in new blocks, its slice stored -/
theorem RowsTI.step {w w' : World} {lo : Nat} {rows : List (List Int)} {vs : Nat → Option Addr × Nat} {j : Nat} {b : Option Addr} {cb : Nat} (h : RowsTI w lo rows vs j) (hb : Below w.heap.size w w') (hr : Ow w' w.heap.size w'.heap.size 3 1 b (rowOf rows j).length cb (cellI (rowOf rows j))) :
    RowsTI (w'.setCell ⟨lo, j, none⟩ (.slice b (rowOf rows j).length cb)) lo rows (setv vs j (b, cb)) (j + 1) := by
  have hlt : lo < w.heap.size := by obtain ⟨⟨F, hr, hF⟩, _⟩ := h; exact hr.lt
  have hsz := hb.size
  have h2' := h.new hb
  obtain ⟨_, h2, _⟩ := h
  obtain ⟨⟨F, hrow, hF⟩, h3, h4⟩ := h2'
  have far : ∀ {x : Option Addr} {c lo2 hi2 n2 : Nat} {f2 : Nat → Value}, Ow w' lo2 hi2 3 1 x n2 c f2 → Ow (w'.setCell ⟨lo, j, none⟩ (.slice b (rowOf rows j).length cb)) lo2 hi2 3 1 x n2 c f2 := by
    intro x c lo2 hi2 n2 f2 ho
    refine ho.keep fun k _ _ _ hk => Below.heap_setCell _ _ _ _ ?_
    rintro rfl
    -- the outer block bears another type
    obtain ⟨hc, y, rfl, hy⟩ := blk_some hk
    obtain ⟨g1, F1, e1, _, _, ⟨c1, hr1, _⟩, _⟩ := ho.2.2 hc
    obtain ⟨c2, hr2, _⟩ := hrow
    injection e1 with e1
    subst e1
    simp only at hy
    subst hy
    rw [hr1] at hr2
    injection hr2 with hr2
    injection hr2 with _ hr2
    exact absurd hr2 (by decide)
  have hszs : (w'.setCell ⟨lo, j, none⟩ (.slice b (rowOf rows j).length cb)).heap.size = w'.heap.size := by simp [World.setCell]
  refine ⟨⟨_, hrow.set j _, fun x hx => ?_⟩, fun x hx => ?_, fun x y hx hy hne => ?_⟩
  · by_cases e1 : x = j
    · subst e1; rw [if_pos rfl, setv_same]
    · rw [if_neg e1, setv_ne _ _ _ e1]; exact hF x (by omega)
  · by_cases e1 : x = j
    · subst e1; rw [setv_same]; exact (far (hr.wide (by omega) (by omega)))
    · rw [setv_ne _ _ _ e1, hszs]; exact far (h3 x (by omega))
  · have sep : ∀ x, x < j → blk (vs x).1 (vs x).2 = none ∨ blk (vs x).1 (vs x).2 ≠ blk b cb := by
      intro x hx
      cases hk : blk (vs x).1 (vs x).2 with
      | none => exact .inl rfl
      | some k =>
        refine .inr fun he => ?_
        have h5 := (h2 x hx).blk_in hk
        have h6 := hr.blk_in he.symm
        omega
    by_cases e1 : x = j
    · have e2 : y ≠ j := by omega
      subst e1
      rw [setv_same, setv_ne _ _ _ e2]
      cases hk : blk b cb with
      | none => exact .inl rfl
      | some k =>
        refine .inr fun he => ?_
        rcases sep y (by omega) with h7 | h7
        · rw [h7] at he; cases he
        · exact h7 (he.symm.trans hk.symm)
    · by_cases e2 : y = j
      · subst e2; rw [setv_same, setv_ne _ _ _ e1]; exact sep x (by omega)
      · rw [setv_ne _ _ _ e1, setv_ne _ _ _ e2]; exact h4 x y (by omega) (by omega) hne
set_option maxHeartbeats 400000 in
theorem toIntSS_any (a : Option Addr) (cap : Nat) (rows : List (List Int)) (vs : Nat → Option Addr × Nat) (w : World) (B : Nat) (ha : RdII w B a rows vs) (hB : B ≤ w.heap.size) (hl : rows.length ≤ 1048576) (hl2 : ∀ j, j < rows.length → (rowOf rows j).length ≤ 1048576) :
    Calls Tryd.prog 24 #[.slice a rows.length cap] w fun e w' => ∃ vs', e = .returned (.slice (some ⟨w.heap.size, 0, none⟩) rows.length rows.length) ∧ RowsI w' w.heap.size w'.heap.size (some ⟨w.heap.size, 0, none⟩) rows.length rows vs' ∧ Below w.heap.size w w' := by
  obtain ⟨D, hD⟩ : ∃ D, D = w.heap.size := ⟨_, rfl⟩
  have HD := Lib.hid hD
  have HL2 := Lib.hid hl2
  rw [← hD]
  clear hD hl2
  go_enter Tryd.func24, Tryd.ntmps24
  go_wp2_with (at_make; refine wpList_mk _ rfl _ _ _ rfl 23 (.slice none 0 0) 24 Tryd.underlying35 ints_info rfl .i64 .i64 _ _ rows.length rfl rfl rfl rfl (by omega) (by omega) ?_; intro w1 hrow hsz hbel; rw [← HD.out] at hrow hbel hsz ⊢)
  go_loopw [4] (fun i wr => ∃ j : Nat, ∃ vs', j ≤ rows.length ∧ i = .int .i64 j ∧ RowsTI wr D rows vs' j ∧ Below D w wr) (fun i _ => rows.length - (intOf i).toNat)
  case atStart => exact ⟨0, fun _ => (none, 0), Nat.zero_le _, rfl, ⟨⟨_, hrow, fun x hx => absurd hx (by omega)⟩, fun x hx => absurd hx (by omega), fun x y hx => absurd hx (by omega)⟩, hbel⟩
  case round =>
    obtain ⟨j, vs', hj, rfl, hto, hbel1⟩ := hrel
    clear hrow hbel
    by_cases hlt : j < rows.length
    · obtain ⟨g, off, rfl, hg, hc0⟩ := Rd.at ha.1 hlt
      have hgD : g < D := by have := HD.out; omega
      have hBD : B ≤ D := by have := HD.out; omega
      have hc1 := (hbel1.cell (p := ⟨g, off + j, none⟩) hgD).trans hc0
      have hrd : RdI wr B (vs j).1 (rowOf rows j) := (ha.2 j hlt).below (hbel1.mono hBD)
      have hDw : D ≤ wr.heap.size := by obtain ⟨⟨F, hr, _⟩, _⟩ := hto; exact Nat.le_of_lt hr.lt
      clear hc0
      go_wp2_with fail
      refine (toIntS_any _ _ (rowOf rows j) _ B hrd (by omega) (Nat.le_trans (HL2.out j hlt) (by decide))).mono ?_
      rintro e w2 ⟨rfl, own2, bel2⟩
      have hst := hto.step bel2 own2
      obtain ⟨⟨F, hr, _⟩, _⟩ := hto.new bel2
      have hcA := hr.cell (i := j) hlt
      have hfA := hr.frozen j
      obtain ⟨u, hu⟩ : ∃ u, F j = u := ⟨_, rfl⟩
      rw [hu] at hcA
      clear hu hc1 hr
      go_wp2_with fail
      go_roundw
      case rel => exact ⟨j + 1, _, by omega, by go_num, hst, (hbel1.trans (bel2.mono hDw)).setCell (Nat.le_refl _) _⟩
      case measure => simp [intOf]; omega
    · obtain rfl : j = rows.length := by omega
      go_wp2_with fail
      go_ret
      exact ⟨vs', rfl, hto.all (by unfold maxLen; omega), hbel1⟩
set_option maxHeartbeats 400000 in
theorem szIntSS_any (a : Option Addr) (cap : Nat) (rows : List (List Int)) (vs : Nat → Option Addr × Nat) (left : Nat) (w : World) (B : Nat) (ha : RdII w B a rows vs) (hm : rows.length ≤ 9223372036854775807) (hm2 : ∀ j, j < rows.length → (rowOf rows j).length ≤ 9223372036854775807) (hl : left ≤ 1048576) :
    Calls Tryd.prog 22 #[.slice a rows.length cap, .int .i64 left] w fun e w' => e = .returned (.int .i64 (szL (rows.length + Total rows) left)) ∧ w = w' := by
  have HM2 := Lib.hid hm2
  clear hm2
  by_cases h0 : rows.length ≤ left
  · have hd : decide ((left : Int) - (rows.length : Int) < 0) = false := decide_eq_false (by omega)
    go_enter Tryd.func22, Tryd.ntmps22
    go_wp2_with fail
    go_loop [1, 5] (fun q i => ∃ j : Nat, j ≤ rows.length ∧ i = .int .i64 j ∧ rows.length + Total (rows.take j) ≤ left ∧ q = .int .i64 (left - (rows.length + Total (rows.take j)) : Nat)) (fun _ i => rows.length - (intOf i).toNat)
    case atStart =>
      have e0 : Total (rows.take 0) = 0 := rfl
      exact ⟨0, Nat.zero_le _, rfl, by omega, by rw [e0]; congr 1; omega⟩
    case round =>
      obtain ⟨j, hj, rfl, hle, rfl⟩ := hrel
      by_cases hlt : j < rows.length
      · obtain ⟨g, off, rfl, _, hc1⟩ := Rd.at ha.1 hlt
        have HT := Lib.hid (total_take rows j hlt)
        have hml := HM2.out j hlt
        obtain ⟨lf, hlf⟩ : ∃ lf, lf = left - (rows.length + Total (rows.take j)) := ⟨_, rfl⟩
        rw [← hlf]
        have HLF := Lib.hid hlf
        have hlf2 : lf ≤ 1048576 := by omega
        clear hlf
        by_cases hr : (rowOf rows j).length ≤ lf
        · have HS := Lib.hid (szL_yes hr)
          have hd2 : decide (((lf - (rowOf rows j).length : Nat) : Int) < 0) = false := decide_eq_false (by omega)
          go_wp2_with fail
          refine (szIntS_any _ (rowOf rows j).length _ lf _ hml hlf2).mono ?_
          rintro e w1 ⟨rfl, rfl⟩
          rw [HS.out]
          go_wp2_with fail
          go_round
          case rel => exact ⟨j + 1, by omega, by go_num, by rw [HT.out]; have := HLF.out; omega, by rw [HT.out]; congr 1; have := HLF.out; omega⟩
          case measure => simp [intOf]; omega
        · have HS := Lib.hid (szL_no hr)
          have HR : Hid (szL (rows.length + Total rows) left = -1) := szL_no (by
            have h1 := total_take_le rows (j + 1)
            have := HT.out
            have := HLF.out
            omega)
          go_wp2_with fail
          refine (szIntS_any _ (rowOf rows j).length _ lf _ hml hlf2).mono ?_
          rintro e w1 ⟨rfl, rfl⟩
          rw [HS.out]
          go_wp2_with fail
          go_ret
          exact ⟨ret_int (by rw [HR.out]), rfl⟩
      · obtain rfl : j = rows.length := by omega
        rw [List.take_length] at hle
        have HR := Lib.hid (szL_yes hle)
        go_wp2_with fail
        go_ret
        exact ⟨ret_int (by rw [HR.out]), rfl⟩
  · have hd : decide ((left : Int) - (rows.length : Int) < 0) = true := decide_eq_true (by omega)
    have HR : Hid (szL (rows.length + Total rows) left = -1) := szL_no (by omega)
    go_enter Tryd.func22, Tryd.ntmps22
    go_wp2_with fail
    go_ret
    exact ⟨ret_int (by rw [HR.out]), rfl⟩
section
variable {H : Type} {enc : TypeId × Value → H} {W : World} {held : Bool}
theorem open_intSS {fuel : Nat} {V : Value} {x : DataW H × List MemPlace} (h : DataW.trod enc Tryd.prog W 0 (fun _ => true) held fuel 35 [V] = some x) :
    ∃ (a : Option Addr) (cap : Nat) (rows : List (List Int)) (vs : Nat → Option Addr × Nat), V = .slice a rows.length cap ∧ RdII W W.heap.size a rows vs ∧ rows.length ≤ maxLen ∧ ∀ j, j < rows.length → (rowOf rows j).length ≤ maxLen := by
  rcases open_slice1 Tryd.underlying35 (by kernel_rfl) h with ⟨hcs, _⟩ | ⟨a, len, cap, m, n, V1, D, Pl, hcs, _, hl, hm, hmm, _, hc⟩
  · injection hcs with hcs _
    exact ⟨none, 0, [], fun _ => (none, 0), hcs, ⟨Rd.empty, fun j hj => absurd hj (by simp)⟩, by simp [maxLen], fun j hj => absurd hj (by simp)⟩
  · injection hcs with hcs _
    have hmm' : m = cap := by simpa using hmm
    subst hmm'
    obtain ⟨f, hf⟩ := choose_lt (α := (Option Addr × Nat) × List Int) (p := fun i q => W.cell? (a.add i) = some (.slice q.1.1 q.2.length q.1.2) ∧ RdI W W.heap.size q.1.1 q.2 ∧ q.2.length ≤ maxLen) (fun i hi => by
      obtain ⟨c0, t0⟩ := hc i hi
      obtain ⟨a9, c9, ys, e, r, _, l⟩ := open_intS t0
      exact ⟨((a9, c9), ys), by rw [c0, e], r, l⟩)
    have hlen : ((List.range len).map fun i => (f i).2).length = len := by simp
    have hrow : ∀ i, i < len → rowOf ((List.range len).map fun i => (f i).2) i = (f i).2 := fun i hi => by
      unfold rowOf; simp [List.getD, hi]
    refine ⟨some a, m, (List.range len).map fun i => (f i).2, fun i => (f i).1, by rw [hlen]; exact hcs, ⟨fun hn => ?_, fun j hj => ?_⟩, by rw [hlen]; omega, fun j hj => ?_⟩
    · rw [hlen] at hn
      obtain ⟨b, off, spot⟩ := a
      have h0 := (hf 0 (by omega)).1
      have hspot : spot = none := by simpa [Addr.add] using World.cell?_spot h0
      subst hspot
      refine ⟨b, off, rfl, by simpa [Addr.add] using World.block_lt_of_cell? W _ h0, fun j hj => ?_⟩
      rw [hlen] at hj
      have := (hf j (by omega)).1
      rw [Addr.add_lit] at this
      rw [this]
      show _ = some (Value.slice (f j).1.1 (rowOf ((List.range len).map fun i => (f i).2) j).length (f j).1.2)
      rw [hrow j hj]
    · rw [hlen] at hj
      rw [hrow j hj]
      exact (hf j (by omega)).2.1
    · rw [hlen] at hj
      rw [hrow j hj]
      exact (hf j (by omega)).2.2
end
end Go.Proofs.YtmjmgggfmccjmaaDoor
