/- Ends and rows of ends: contracts of the laws' own functions. -/
import Derived.Test.YtlooinhdehkcdaaNest
import Derived.StillTailTactics
import Derived.Deep.RegionWith
namespace Go.Proofs.Ytlooinhdehkcdaa
open Go.RowKit
set_option linter.unusedVariables false
def nthE (es : List (Int × Int)) (j : Nat) : Int × Int := es.getD j (0, 0)
theorem nthE_eq_getElem (es : List (Int × Int)) (j : Nat) (h : j < es.length) : nthE es j = es[j] := by
  unfold nthE; rw [List.getD_eq_getElem?_getD, List.getElem?_eq_getElem h]; rfl
theorem nthE_mem (es : List (Int × Int)) (j : Nat) (h : j < es.length) : nthE es j ∈ es := by
  rw [nthE_eq_getElem es j h]; exact List.getElem_mem h
theorem nthE_append_left (xs ys : List (Int × Int)) (j : Nat) (h : j < xs.length) : nthE (xs ++ ys) j = nthE xs j := by
  unfold nthE; rw [List.getD_eq_getElem?_getD, List.getD_eq_getElem?_getD, List.getElem?_append_left h]
theorem nthE_append_right (xs ys : List (Int × Int)) (j : Nat) (h : xs.length ≤ j) : nthE (xs ++ ys) j = nthE ys (j - xs.length) := by
  unfold nthE; rw [List.getD_eq_getElem?_getD, List.getD_eq_getElem?_getD, List.getElem?_append_right h]
theorem ends_ext {xs ys : List (Int × Int)} (hl : xs.length = ys.length) (h : ∀ j, j < xs.length → nthE xs j = nthE ys j) : xs = ys := by
  apply List.ext_getElem hl
  intro j h1 h2
  have := h j h1
  rwa [nthE_eq_getElem _ _ h1, nthE_eq_getElem _ _ h2] at this
theorem takeE_snoc (es : List (Int × Int)) (k : Nat) (h : k < es.length) : es.take (k + 1) = es.take k ++ [nthE es k] := by
  rw [List.take_succ_eq_append_getElem h, nthE_eq_getElem _ _ h]
/-- how ends lie in cells -/
def cellE (es : List (Int × Int)) (x : Nat) : Value := .int .i64 (if x % 2 = 0 then (nthE es (x / 2)).1 else (nthE es (x / 2)).2)
theorem cellE_fst (es : List (Int × Int)) (j : Nat) : cellE es (j * 2) = .int .i64 (nthE es j).1 := by
  unfold cellE; rw [if_pos (by omega), show j * 2 / 2 = j by omega]
theorem cellE_snd (es : List (Int × Int)) (j : Nat) : cellE es (j * 2 + 1) = .int .i64 (nthE es j).2 := by
  unfold cellE; rw [if_neg (by omega), show (j * 2 + 1) / 2 = j by omega]
/-- ends that are read: 2 cells each -/
def RdE (w : World) (B : Nat) (a : Option Addr) (es : List (Int × Int)) : Prop := Rd w B a (es.length * 2) (cellE es)
theorem RdE.at {w : World} {B : Nat} {a : Option Addr} {es : List (Int × Int)} (h : RdE w B a es) {j : Nat} (hj : j < es.length) :
    ∃ g off, a = some ⟨g, off, none⟩ ∧ g < B ∧ w.cell? ⟨g, off + j * 2, none⟩ = some (.int .i64 (nthE es j).1) ∧ w.cell? ⟨g, off + j * 2 + 1, none⟩ = some (.int .i64 (nthE es j).2) := by
  obtain ⟨g, off, ha, hg, hc⟩ := h (by omega)
  refine ⟨g, off, ha, hg, ?_, ?_⟩
  · rw [hc (j * 2) (by omega), cellE_fst]
  · rw [Nat.add_assoc, hc (j * 2 + 1) (by omega), cellE_snd]
theorem Ow.rdE {w : World} {lo hi : Nat} {e : TypeId} {a : Option Addr} {cap : Nat} {es : List (Int × Int)} (h : Ow w lo hi e 2 a es.length cap (cellE es)) : RdE w hi a es := fun hn => by
  obtain ⟨g1, g2, h3⟩ := h
  obtain ⟨g, F, ha, hl, hh, hr, hf⟩ := h3 (by omega)
  exact ⟨g, 0, ha, hh, fun j hj => by rw [Nat.zero_add, hr.cell (by omega), hf j (by omega)]⟩
theorem toEnd_any (x y : Int) (w : World) : Calls Try.prog 91 #[.agg #[.int .i64 x, .int .i64 y]] w fun e w' => e = .returned (.agg #[.int .i64 x, .int .i64 y]) ∧ Below w.heap.size w w' := by
  go_enter Try.func91, Try.ntmps91
  go_wp2_with fail
  exact bodyPost_ret (v := .agg #[.int .i64 x, .int .i64 y]) (by simp [results, Try.results91, go_sem]) rfl ⟨rfl, (by repeat (first | exact Below.refl _ _ | assumption | refine Below.alloc ?_ (by first | (simp; done) | (simp; omega) | omega) _ | refine Below.setCell ?_ (by first | (simp; done) | (simp; omega) | omega) _ | refine Below.drew ?_ | refine Below.drewN ?_ _))⟩
theorem eqEnd_any (x y x' y' : Int) (w : World) : Calls Try.prog 96 #[.agg #[.int .i64 x, .int .i64 y], .agg #[.int .i64 x', .int .i64 y']] w fun e w' => e = .returned (.bool (decide (x = x' ∧ y = y'))) ∧ Below w.heap.size w w' := by
  by_cases h1 : x = x'
  · subst h1
    by_cases h2 : y = y'
    · subst h2
      go_enter Try.func96, Try.ntmps96
      go_wp2_with fail
      go_ret
      exact ⟨ret_bool (by simp), (by repeat (first | exact Below.refl _ _ | assumption | refine Below.alloc ?_ (by first | (simp; done) | (simp; omega) | omega) _ | refine Below.setCell ?_ (by first | (simp; done) | (simp; omega) | omega) _ | refine Below.drew ?_ | refine Below.drewN ?_ _))⟩
    · have hn : (y != y') = true := by simp [h2]
      have H := Lib.hid h2
      clear h2
      go_enter Try.func96, Try.ntmps96
      go_wp2_with fail
      go_ret
      exact ⟨ret_bool (by simp [H.out]), (by repeat (first | exact Below.refl _ _ | assumption | refine Below.alloc ?_ (by first | (simp; done) | (simp; omega) | omega) _ | refine Below.setCell ?_ (by first | (simp; done) | (simp; omega) | omega) _ | refine Below.drew ?_ | refine Below.drewN ?_ _))⟩
  · have hn : (x != x') = true := by simp [h1]
    have H := Lib.hid h1
    clear h1
    go_enter Try.func96, Try.ntmps96
    go_wp2_with fail
    go_ret
    exact ⟨ret_bool (by simp [H.out]), (by repeat (first | exact Below.refl _ _ | assumption | refine Below.alloc ?_ (by first | (simp; done) | (simp; omega) | omega) _ | refine Below.setCell ?_ (by first | (simp; done) | (simp; omega) | omega) _ | refine Below.drew ?_ | refine Below.drewN ?_ _))⟩
theorem end_info : (Try.prog.info? 62).map (fun i => (i.zero, i.size, i.bytes)) = some (some (.agg #[.int .i64 0, .int .i64 0]), 2, 16) := by kernel_rfl
theorem ends_info : (Try.prog.info? 60).map (fun i => (i.zero, i.size, i.bytes)) = some (some (.slice none 0 0), 1, 24) := by kernel_rfl
theorem end_zero : ∀ j, j < 2 → (Value.agg #[.int .i64 0, .int .i64 0]).cells[j]! = .int .i64 0 := by
  intro j hj
  match j, hj with
  | 0, _ => rfl
  | 1, _ => rfl
set_option maxHeartbeats 400000 in
theorem toEndS_any (a : Option Addr) (cap : Nat) (es : List (Int × Int)) (w : World) (B : Nat) (ha : RdE w B a es) (hB : B ≤ w.heap.size) (hl : es.length ≤ 1048576) :
    Calls Try.prog 73 #[.slice a es.length cap] w fun e w' => e = .returned (.slice (some ⟨w.heap.size, 0, none⟩) es.length es.length) ∧ Ow w' w.heap.size w'.heap.size 62 2 (some ⟨w.heap.size, 0, none⟩) es.length es.length (cellE es) ∧ Below w.heap.size w w' := by
  obtain ⟨D, hD⟩ : ∃ D, D = w.heap.size := ⟨_, rfl⟩
  have HD := Lib.hid hD
  rw [← hD]
  clear hD
  go_enter Try.func73, Try.ntmps73
  go_wp2_with (at_make; refine wpList_mkN _ rfl _ _ _ rfl 62 (.agg #[.int .i64 0, .int .i64 0]) 2 16 Try.underlying60 end_info (.int .i64 0) rfl end_zero (by decide) .i64 .i64 _ _ es.length rfl rfl rfl rfl (by omega) (by omega) ?_; intro w1 hrow hsz hbel; rw [← HD.out] at hrow hbel hsz ⊢)
  go_loopw [4] (fun i wr => ∃ j : Nat, j ≤ es.length ∧ i = .int .i64 j ∧ (∃ F, wr.rowIs D 62 (es.length * 2) F ∧ ∀ x, x < j * 2 → F x = cellE es x) ∧ Below D w wr) (fun i _ => es.length - (intOf i).toNat)
  case atStart => exact ⟨0, Nat.zero_le _, rfl, ⟨_, hrow, fun x hx => absurd hx (by omega)⟩, hbel⟩
  case round =>
    obtain ⟨j, hj, rfl, ⟨F1, hrow1, hF1⟩, hbel1⟩ := hrel
    have HF1 := Lib.hid hF1
    clear hF1 hrow hbel
    by_cases hlt : j < es.length
    · obtain ⟨g, off, rfl, hg, hc0, hc0'⟩ := ha.at hlt
      have hgD : g < D := by have := HD.out; omega
      have hc1 := (hbel1.cell (p := ⟨g, off + j * 2, none⟩) hgD).trans hc0
      have hc2 := (hbel1.cell (p := ⟨g, off + j * 2 + 1, none⟩) hgD).trans hc0'
      clear hc0 hc0'
      go_wp2_with fail
      refine (toEnd_any _ _ _).mono ?_
      rintro e w2 ⟨rfl, bel2⟩
      replace hbel1 := hbel1.trans (bel2.mono (Nat.le_of_lt hrow1.lt))
      replace hrow1 := hrow1.of_block (bel2.block D hrow1.lt)
      have hcA := hrow1.cell (i := j * 2) (by omega)
      have hfA := hrow1.frozen (j * 2)
      have hcB := hrow1.cell (i := j * 2 + 1) (by omega)
      have hfB := hrow1.frozen (j * 2 + 1)
      obtain ⟨u, hu⟩ : ∃ u, F1 (j * 2) = u := ⟨_, rfl⟩
      obtain ⟨u', hu'⟩ : ∃ u, F1 (j * 2 + 1) = u := ⟨_, rfl⟩
      rw [hu] at hcA
      rw [hu'] at hcB
      clear hu hu' hc1 hc2
      go_wp2_with fail
      go_roundw
      case rel =>
        refine ⟨j + 1, by omega, by go_num, ⟨_, (hrow1.set (j * 2) _).set (j * 2 + 1) _, fun x hx => ?_⟩, (hbel1.setCell (Nat.le_refl _) _).setCell (Nat.le_refl _) _⟩
        by_cases e1 : x = j * 2 + 1
        · subst e1; rw [if_pos rfl, cellE_snd]
        · rw [if_neg e1]
          by_cases e2 : x = j * 2
          · subst e2; rw [if_pos rfl, cellE_fst]
          · rw [if_neg e2]; exact HF1.out x (by omega)
      case measure => simp [intOf]; omega
    · obtain rfl : j = es.length := by omega
      go_wp2_with fail
      go_ret
      exact ⟨rfl, ⟨Nat.le_refl _, by unfold maxLen; omega, fun _ => ⟨D, F1, rfl, Nat.le_refl _, hrow1.lt, hrow1, fun x hx => HF1.out x hx⟩⟩, hbel1⟩
def RowsE (w : World) (lo hi : Nat) (a : Option Addr) (cap : Nat) (rows : List (List (Int × Int))) (vs : Nat → Option Addr × Nat) : Prop := RowsAt cellE 2 60 62 w lo hi a cap rows vs
/-- rows of ends that came in -/
def RdEE (w : World) (B : Nat) (a : Option Addr) (rows : List (List (Int × Int))) (vs : Nat → Option Addr × Nat) : Prop :=
  Rd w B a rows.length (fun j => .slice (vs j).1 (rowOf rows j).length (vs j).2) ∧ ∀ j, j < rows.length → RdE w B (vs j).1 (rowOf rows j)
theorem RdEE.below {w w' : World} {B : Nat} {a : Option Addr} {rows : List (List (Int × Int))} {vs : Nat → Option Addr × Nat} (h : RdEE w B a rows vs) (hb : Below B w w') : RdEE w' B a rows vs :=
  ⟨h.1.below hb, fun j hj => (h.2 j hj).below hb⟩
/-- rows of which the first j are there -/
def RowsTo (w : World) (lo : Nat) (rows : List (List (Int × Int))) (vs : Nat → Option Addr × Nat) (j : Nat) : Prop :=
  (∃ F, w.rowIs lo 60 rows.length F ∧ ∀ x, x < j → F x = .slice (vs x).1 (rowOf rows x).length (vs x).2) ∧
  (∀ x, x < j → Ow w lo w.heap.size 62 2 (vs x).1 (rowOf rows x).length (vs x).2 (cellE (rowOf rows x))) ∧
  (∀ x y, x < j → y < j → x ≠ y → blk (vs x).1 (vs x).2 = none ∨ blk (vs x).1 (vs x).2 ≠ blk (vs y).1 (vs y).2)
theorem RowsTo.new {w w' : World} {lo : Nat} {rows : List (List (Int × Int))} {vs : Nat → Option Addr × Nat} {j : Nat} (h : RowsTo w lo rows vs j) (hb : Below w.heap.size w w') : RowsTo w' lo rows vs j := by
  obtain ⟨⟨F, hr, hF⟩, h2, h3⟩ := h
  exact ⟨⟨F, hr.of_block (hb.block lo hr.lt), hF⟩, fun x hx => ((h2 x hx).new hb).top, h3⟩
theorem RowsTo.all {w : World} {lo : Nat} {rows : List (List (Int × Int))} {vs : Nat → Option Addr × Nat} (h : RowsTo w lo rows vs rows.length) (hl : rows.length ≤ maxLen) : RowsE w lo w.heap.size (some ⟨lo, 0, none⟩) rows.length rows vs := by
  obtain ⟨⟨F, hr, hF⟩, h2, h3⟩ := h
  exact ⟨⟨Nat.le_refl _, hl, fun _ => ⟨lo, F, rfl, Nat.le_refl _, hr.lt, by rw [Nat.mul_one]; exact hr, fun x hx => hF x (by omega)⟩⟩, h2, h3⟩
/-- one row more, in new blocks, its slice stored -/
theorem RowsTo.step {w w' : World} {lo : Nat} {rows : List (List (Int × Int))} {vs : Nat → Option Addr × Nat} {j : Nat} {b : Option Addr} {cb : Nat} (h : RowsTo w lo rows vs j) (hb : Below w.heap.size w w') (hr : Ow w' w.heap.size w'.heap.size 62 2 b (rowOf rows j).length cb (cellE (rowOf rows j))) :
    RowsTo (w'.setCell ⟨lo, j, none⟩ (.slice b (rowOf rows j).length cb)) lo rows (setv vs j (b, cb)) (j + 1) := by
  have hlt : lo < w.heap.size := by obtain ⟨⟨F, hr, hF⟩, _⟩ := h; exact hr.lt
  have hsz := hb.size
  have h2' := h.new hb
  obtain ⟨_, h2, _⟩ := h
  obtain ⟨⟨F, hrow, hF⟩, h3, h4⟩ := h2'
  have far : ∀ {x : Option Addr} {c lo2 hi2 n2 : Nat} {f2 : Nat → Value}, Ow w' lo2 hi2 62 2 x n2 c f2 → Ow (w'.setCell ⟨lo, j, none⟩ (.slice b (rowOf rows j).length cb)) lo2 hi2 62 2 x n2 c f2 := by
    intro x c lo2 hi2 n2 f2 ho
    refine ho.keep fun k _ _ _ hk => Below.heap_setCell _ _ _ _ ?_
    rintro rfl
    -- the outer block bears another type
    obtain ⟨hc, y, rfl, hy⟩ := blk_some hk
    obtain ⟨g1, F1, e1, _, _, ⟨c1, hr1, _⟩, _⟩ := ho.2.2 hc
    obtain ⟨c2, hr2, _⟩ := hrow
    injection e1 with e1
    subst e1
    simp only at hy
    subst hy
    rw [hr1] at hr2
    injection hr2 with hr2
    injection hr2 with _ hr2
    exact absurd hr2 (by decide)
  have hszs : (w'.setCell ⟨lo, j, none⟩ (.slice b (rowOf rows j).length cb)).heap.size = w'.heap.size := by simp [World.setCell]
  refine ⟨⟨_, hrow.set j _, fun x hx => ?_⟩, fun x hx => ?_, fun x y hx hy hne => ?_⟩
  · by_cases e1 : x = j
    · subst e1; rw [if_pos rfl, setv_same]
    · rw [if_neg e1, setv_ne _ _ _ e1]; exact hF x (by omega)
  · by_cases e1 : x = j
    · subst e1; rw [setv_same]; exact (far (hr.wide (by omega) (by omega)))
    · rw [setv_ne _ _ _ e1, hszs]; exact far (h3 x (by omega))
  · have sep : ∀ x, x < j → blk (vs x).1 (vs x).2 = none ∨ blk (vs x).1 (vs x).2 ≠ blk b cb := by
      intro x hx
      cases hk : blk (vs x).1 (vs x).2 with
      | none => exact .inl rfl
      | some k =>
        refine .inr fun he => ?_
        have h5 := (h2 x hx).blk_in hk
        have h6 := hr.blk_in he.symm
        omega
    by_cases e1 : x = j
    · have e2 : y ≠ j := by omega
      subst e1
      rw [setv_same, setv_ne _ _ _ e2]
      cases hk : blk b cb with
      | none => exact .inl rfl
      | some k =>
        refine .inr fun he => ?_
        rcases sep y (by omega) with h7 | h7
        · rw [h7] at he; cases he
        · exact h7 (he.symm.trans hk.symm)
    · by_cases e2 : y = j
      · subst e2; rw [setv_same, setv_ne _ _ _ e1]; exact sep x (by omega)
      · rw [setv_ne _ _ _ e1, setv_ne _ _ _ e2]; exact h4 x y (by omega) (by omega) hne
set_option maxHeartbeats 400000 in
theorem toEndSS_any (a : Option Addr) (cap : Nat) (rows : List (List (Int × Int))) (vs : Nat → Option Addr × Nat) (w : World) (B : Nat) (ha : RdEE w B a rows vs) (hB : B ≤ w.heap.size) (hl : rows.length ≤ 1048576) (hl2 : ∀ j, j < rows.length → (rowOf rows j).length ≤ 1048576) :
    Calls Try.prog 38 #[.slice a rows.length cap] w fun e w' => ∃ vs', e = .returned (.slice (some ⟨w.heap.size, 0, none⟩) rows.length rows.length) ∧ RowsE w' w.heap.size w'.heap.size (some ⟨w.heap.size, 0, none⟩) rows.length rows vs' ∧ Below w.heap.size w w' := by
  obtain ⟨D, hD⟩ : ∃ D, D = w.heap.size := ⟨_, rfl⟩
  have HD := Lib.hid hD
  have HL2 := Lib.hid hl2
  rw [← hD]
  clear hD hl2
  go_enter Try.func38, Try.ntmps38
  go_wp2_with (at_make; refine wpList_mk _ rfl _ _ _ rfl 60 (.slice none 0 0) 24 Try.underlying27 ends_info rfl .i64 .i64 _ _ rows.length rfl rfl rfl rfl (by omega) (by omega) ?_; intro w1 hrow hsz hbel; rw [← HD.out] at hrow hbel hsz ⊢)
  go_loopw [4] (fun i wr => ∃ j : Nat, ∃ vs', j ≤ rows.length ∧ i = .int .i64 j ∧ RowsTo wr D rows vs' j ∧ Below D w wr) (fun i _ => rows.length - (intOf i).toNat)
  case atStart => exact ⟨0, fun _ => (none, 0), Nat.zero_le _, rfl, ⟨⟨_, hrow, fun x hx => absurd hx (by omega)⟩, fun x hx => absurd hx (by omega), fun x y hx => absurd hx (by omega)⟩, hbel⟩
  case round =>
    obtain ⟨j, vs', hj, rfl, hto, hbel1⟩ := hrel
    clear hrow hbel
    by_cases hlt : j < rows.length
    · obtain ⟨g, off, rfl, hg, hc0⟩ := Rd.at ha.1 hlt
      have hgD : g < D := by have := HD.out; omega
      have hBD : B ≤ D := by have := HD.out; omega
      have hc1 := (hbel1.cell (p := ⟨g, off + j, none⟩) hgD).trans hc0
      have hrd : RdE wr B (vs j).1 (rowOf rows j) := (ha.2 j hlt).below (hbel1.mono hBD)
      have hDw : D ≤ wr.heap.size := by obtain ⟨⟨F, hr, _⟩, _⟩ := hto; exact Nat.le_of_lt hr.lt
      clear hc0
      go_wp2_with fail
      refine (toEndS_any _ _ (rowOf rows j) _ B hrd (by omega) (HL2.out j hlt)).mono ?_
      rintro e w2 ⟨rfl, own2, bel2⟩
      have hst := hto.step bel2 own2
      obtain ⟨⟨F, hr, _⟩, _⟩ := hto.new bel2
      have hcA := hr.cell (i := j) hlt
      have hfA := hr.frozen j
      obtain ⟨u, hu⟩ : ∃ u, F j = u := ⟨_, rfl⟩
      rw [hu] at hcA
      clear hu hc1 hr
      go_wp2_with fail
      go_roundw
      case rel => exact ⟨j + 1, _, by omega, by go_num, hst, (hbel1.trans (bel2.mono hDw)).setCell (Nat.le_refl _) _⟩
      case measure => simp [intOf]; omega
    · obtain rfl : j = rows.length := by omega
      go_wp2_with fail
      go_ret
      exact ⟨vs', rfl, hto.all (by unfold maxLen; omega), hbel1⟩
set_option maxHeartbeats 400000 in
theorem eqEndS_any (a b : Option Addr) (c d : Nat) (es fs : List (Int × Int)) (w : World) (B B' : Nat) (ha : RdE w B a es) (hb : RdE w B' b fs) (hB : B ≤ w.heap.size) (hB' : B' ≤ w.heap.size) (hx : es.length ≤ 1048576) (he : es = fs) :
    Calls Try.prog 78 #[.slice a es.length c, .slice b fs.length d] w fun e w' => e = .returned (.bool true) ∧ Below w.heap.size w w' := by
  subst he
  have hneq : ((es.length : Int) != (es.length : Int)) = false := by simp
  go_enter Try.func78, Try.ntmps78
  go_wp2_with fail
  go_loopw [5] (fun i wr => ∃ k : Nat, k ≤ es.length ∧ i = .int .i64 k ∧ Below w.heap.size w wr) (fun i _ => es.length - (intOf i).toNat)
  case atStart => exact ⟨0, Nat.zero_le _, rfl, Below.refl _ _⟩
  case round =>
    obtain ⟨k, hk, rfl, bel⟩ := hrel
    by_cases hlt : k < es.length
    · obtain ⟨g, off, rfl, _, hc1, hc2⟩ := RdE.at (Rd.below ha (bel.mono hB)) hlt
      obtain ⟨g', off', rfl, _, hc3, hc4⟩ := RdE.at (Rd.below hb (bel.mono hB')) hlt
      go_wp2_with fail
      go_region_with (go_at_call 96; refine (eqEnd_any _ _ _ _ _).mono ?_; rintro e w2 ⟨rfl, bel2⟩; rw [decide_eq_true ⟨rfl, rfl⟩])
      all_goals
        go_wp2_with fail
        go_roundw
        case rel => exact ⟨k + 1, by omega, by go_num, bel.drew.trans (bel2.mono bel.size)⟩
        case measure => simp [intOf]; omega
    · go_wp2_with fail
      go_ret
      exact ⟨rfl, bel⟩
end Go.Proofs.Ytlooinhdehkcdaa
