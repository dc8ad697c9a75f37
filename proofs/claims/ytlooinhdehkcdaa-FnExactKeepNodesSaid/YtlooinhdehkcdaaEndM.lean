/- Rows of ends: eqEndSS, markEndS, markEndSS, heldEndS, heldEndSS. -/
import Derived.Test.YtlooinhdehkcdaaEnds
namespace Go.Proofs.Ytlooinhdehkcdaa
open Go.RowKit
set_option linter.unusedVariables false
set_option maxHeartbeats 400000 in
theorem eqEndSS_any (a b : Option Addr) (c d : Nat) (xs ys : List (List (Int × Int))) (vx vy : Nat → Option Addr × Nat) (w : World) (lo hi lo' hi' : Nat) (ha : RowsE w lo hi a c xs vx) (hb : RowsE w lo' hi' b d ys vy) (hh : hi ≤ w.heap.size) (hh' : hi' ≤ w.heap.size) (hx : xs.length ≤ 1048576) (hx2 : ∀ j, j < xs.length → (rowOf xs j).length ≤ 1048576) (he : xs = ys) :
    Calls Try.prog 42 #[.slice a xs.length c, .slice b ys.length d] w fun e w' => e = .returned (.bool true) ∧ Below w.heap.size w w' := by
  subst he
  have hneq : ((xs.length : Int) != (xs.length : Int)) = false := by simp
  have HX2 := Lib.hid hx2
  clear hx2
  obtain ⟨ha1, ha2, _⟩ := ha
  obtain ⟨hb1, hb2, _⟩ := hb
  have HA2 := Lib.hid ha2
  have HB2 := Lib.hid hb2
  clear ha2 hb2
  go_enter Try.func42, Try.ntmps42
  go_wp2_with fail
  go_loopw [5] (fun i wr => ∃ k : Nat, k ≤ xs.length ∧ i = .int .i64 k ∧ Below w.heap.size w wr) (fun i _ => xs.length - (intOf i).toNat)
  case atStart => exact ⟨0, Nat.zero_le _, rfl, Below.refl _ _⟩
  case round =>
    obtain ⟨k, hk, rfl, bel⟩ := hrel
    by_cases hlt : k < xs.length
    · obtain ⟨g, off, rfl, _, hc1⟩ := Rd.at (ha1.rd.below (bel.mono hh)) hlt
      obtain ⟨g', off', rfl, _, hc2⟩ := Rd.at (hb1.rd.below (bel.mono hh')) hlt
      have r1 : RdE wr hi (vx k).1 (rowOf xs k) := (HA2.out k hlt).rdE.below (bel.mono hh)
      have r2 : RdE wr hi' (vy k).1 (rowOf xs k) := (HB2.out k hlt).rdE.below (bel.mono hh')
      have hs := bel.size
      have hl2 := HX2.out k hlt
      have HQ : Hid (Calls Try.prog 78 #[.slice (vx k).1 (rowOf xs k).length (vx k).2, .slice (vy k).1 (rowOf xs k).length (vy k).2] wr.drew fun e w' => e = .returned (.bool true) ∧ Below wr.heap.size wr.drew w') :=
        eqEndS_any _ _ _ _ (rowOf xs k) (rowOf xs k) wr.drew hi hi' r1 r2 (show hi ≤ wr.heap.size by omega) (show hi' ≤ wr.heap.size by omega) hl2 rfl
      clear r1 r2
      go_wp2_with fail
      go_region_with (go_at_call 78; refine HQ.out.mono ?_; rintro e w2 ⟨rfl, bel2⟩)
      all_goals
        go_wp2_with fail
        go_roundw
        case rel => exact ⟨k + 1, by omega, by go_num, bel.drew.trans (bel2.mono bel.size)⟩
        case measure => simp [intOf]; omega
    · go_wp2_with fail
      go_ret
      exact ⟨rfl, bel⟩
def fromE (k n : Nat) : List (Int × Int) := (List.range n).map fun j => (((k + 2 * j : Nat) : Int), ((k + 2 * j + 1 : Nat) : Int))
theorem fromE_length (k n : Nat) : (fromE k n).length = n := by simp [fromE]
theorem nthE_fromE (k n j : Nat) (h : j < n) : nthE (fromE k n) j = (((k + 2 * j : Nat) : Int), ((k + 2 * j + 1 : Nat) : Int)) := by
  rw [nthE_eq_getElem _ _ (by rw [fromE_length]; exact h)]; simp [fromE]
set_option maxHeartbeats 400000 in
theorem markEndS_any (a : Option Addr) (cap : Nat) (es : List (Int × Int)) (k : Nat) (w : World) (lo hi : Nat) (ha : Ow w lo hi 62 2 a es.length cap (cellE es)) (hl : 2 * es.length + k ≤ 4611686018427387904) :
    Calls Try.prog 79 #[.slice a es.length cap, .int .i64 k] w fun e w' => e = .returned (.int .i64 (k + 2 * es.length : Nat)) ∧ Ow w' lo hi 62 2 a (fromE k es.length).length cap (cellE (fromE k es.length)) ∧ Fr (fun b => blk a cap = some b) w w' := by
  rcases Nat.eq_zero_or_pos es.length with h0 | h0
  · have hz : es = [] := List.eq_nil_of_length_eq_zero h0
    subst hz
    go_enter Try.func79, Try.ntmps79
    go_wp2_with fail
    refine wp_loop_rounds 1 ?_; rw [rounds_succ]
    go_wp2_with fail
    go_ret
    exact ⟨by simp, ha, Fr.refl _ _⟩
  · obtain ⟨h1, h2, h3⟩ := ha
    obtain ⟨g, F, rfl, hlo, hhi, hrow, hf⟩ := h3 (by omega)
    have hcap : 0 < cap := by omega
    have hb : blk (some ⟨g, 0, none⟩) cap = some g := by rw [blk, if_neg (by omega)]; rfl
    have HB := Lib.hid hb
    clear hb h3 hf
    go_enter Try.func79, Try.ntmps79
    go_wp2_with fail
    go_loopw [1, 5] (fun q i wr => ∃ j : Nat, j ≤ es.length ∧ i = .int .i64 j ∧ q = .int .i64 (k + 2 * j : Nat) ∧ (∃ F, wr.rowIs g 62 (cap * 2) F ∧ ∀ x, x < j * 2 → F x = cellE (fromE k es.length) x) ∧ Fr (fun b => b = g) w wr) (fun _ i _ => es.length - (intOf i).toNat)
    case atStart => exact ⟨0, Nat.zero_le _, rfl, rfl, ⟨F, hrow, fun x hx => absurd hx (by omega)⟩, Fr.refl _ _⟩
    case round =>
      obtain ⟨j, hj, rfl, rfl, ⟨F1, hrow1, hF1⟩, hfr⟩ := hrel
      have HF1 := Lib.hid hF1
      clear hF1 hrow
      by_cases hlt : j < es.length
      · have hcA := hrow1.cell (i := j * 2) (by omega)
        have hfA := hrow1.frozen (j * 2)
        have hcB := hrow1.cell (i := j * 2 + 1) (by omega)
        have hfB := hrow1.frozen (j * 2 + 1)
        obtain ⟨u, hu⟩ : ∃ u, F1 (j * 2) = u := ⟨_, rfl⟩
        obtain ⟨u', hu'⟩ : ∃ u, F1 (j * 2 + 1) = u := ⟨_, rfl⟩
        rw [hu] at hcA
        rw [hu'] at hcB
        clear hu hu'
        go_wp2_with fail
        go_roundw
        case rel =>
          refine ⟨j + 1, by omega, by go_num, (by first | rfl | go_num | (congr 1; omega)), ⟨_, (hrow1.set (j * 2) _).set (j * 2 + 1) _, fun x hx => ?_⟩, (hfr.setCell (.inl rfl) _).setCell (.inl rfl) _⟩
          by_cases e1 : x = j * 2 + 1
          · subst e1; rw [if_pos rfl, cellE_snd, nthE_fromE _ _ _ hlt]; congr 1
          · rw [if_neg e1]
            by_cases e2 : x = j * 2
            · subst e2; rw [if_pos rfl, cellE_fst, nthE_fromE _ _ _ hlt]; congr 1
            · rw [if_neg e2]; exact HF1.out x (by omega)
        case measure => simp [intOf]; omega
      · obtain rfl : j = es.length := by omega
        go_wp2_with fail
        go_ret
        refine ⟨rfl, ⟨by rw [fromE_length]; omega, h2, fun _ => ⟨g, F1, rfl, hlo, hhi, hrow1, fun x hx => ?_⟩⟩, hfr.mono fun b _ e => by rw [HB.out, e]⟩
        rw [fromE_length] at hx
        exact HF1.out x hx
set_option maxHeartbeats 400000 in
theorem heldEndS_any (a : Option Addr) (cap n : Nat) (k : Nat) (w : World) (B : Nat) (ha : RdE w B a (fromE k n)) (hl : 2 * n + k ≤ 4611686018427387904) :
    Calls Try.prog 80 #[.slice a n cap, .int .i64 k] w fun e w' => e = .returned (.int .i64 (k + 2 * n : Nat)) ∧ ∃ m, w' = w.drewN m := by
  go_enter Try.func80, Try.ntmps80
  go_wp2_with fail
  go_loopw [1, 5] (fun q i wr => ∃ j : Nat, j ≤ n ∧ i = .int .i64 j ∧ q = .int .i64 (k + 2 * j : Nat) ∧ Qt w wr) (fun _ i _ => n - (intOf i).toNat)
  case atStart => exact ⟨0, Nat.zero_le _, rfl, rfl, Qt.refl _⟩
  case round =>
    obtain ⟨j, hj, rfl, rfl, hq⟩ := hrel
    by_cases hlt : j < n
    · obtain ⟨g, off, rfl, _, hc1, hc2⟩ := RdE.at (Rd.qt ha hq) (by rw [fromE_length]; exact hlt)
      simp only [nthE_fromE k n j hlt] at hc1 hc2
      go_wp2_with fail
      go_roundw
      case rel => exact ⟨j + 1, by omega, by go_num, (by first | rfl | go_num | (congr 1; omega)), hq⟩
      case measure => simp [intOf]; omega
    · obtain rfl : j = n := by omega
      go_wp2_with fail
      go_ret
      exact ⟨rfl, hq⟩
set_option maxHeartbeats 400000 in
theorem markEndSS_any (a : Option Addr) (cap : Nat) (rows : List (List (Int × Int))) (vs : Nat → Option Addr × Nat) (k : Nat) (w : World) (lo hi : Nat) (ha : RowsE w lo hi a cap rows vs) (hl : rows.length ≤ 1048576) (hl2 : 2 * Total rows + k ≤ 4611686018427387904) :
    Calls Try.prog 43 #[.slice a rows.length cap, .int .i64 k] w fun e w' => e = .returned (.int .i64 (k + 2 * Total rows : Nat)) ∧ RowsE w' lo hi a cap (marks fromE 2 k rows) vs ∧ Fr (fun b => ∃ j, j < rows.length ∧ blk (vs j).1 (vs j).2 = some b) w w' := by
  go_enter Try.func43, Try.ntmps43
  go_wp2_with fail
  go_loopw [1, 5] (fun q i wr => ∃ j : Nat, j ≤ rows.length ∧ i = .int .i64 j ∧ q = .int .i64 (k + 2 * Total (rows.take j) : Nat) ∧ RowsE wr lo hi a cap (mkTo fromE 2 k rows j) vs ∧ Fr (fun b => ∃ j, j < rows.length ∧ blk (vs j).1 (vs j).2 = some b) w wr) (fun _ i _ => rows.length - (intOf i).toNat)
  case atStart => exact ⟨0, Nat.zero_le _, rfl, rfl, by rw [mkTo_zero]; exact ha, Fr.refl _ _⟩
  case round =>
    obtain ⟨j, hj, rfl, rfl, hr, hfr⟩ := hrel
    by_cases hlt : j < rows.length
    · have hlm : j < (mkTo fromE 2 k rows j).length := by rw [mkTo_length]; exact hlt
      obtain ⟨g, off, rfl, _, hc1⟩ := Rd.at hr.1.rd hlm
      have hrow := rowOf_mkTo fromE 2 k rows j j hlt
      rw [if_neg (by omega)] at hrow
      rw [hrow] at hc1
      have hown : Ow wr lo hi 62 2 (vs j).1 (rowOf rows j).length (vs j).2 (cellE (rowOf rows j)) := by have h := hr.2.1 j hlm; rw [hrow] at h; exact h
      have HR := Lib.hid hrow
      have ht1 := total_take_le rows (j + 1)
      have HT := Lib.hid (total_take rows j hlt)
      have ht2 : Total (rows.take j) + (rowOf rows j).length ≤ Total rows := by have := HT.out; omega
      clear hrow ht1
      go_wp2_with fail
      refine (markEndS_any _ _ (rowOf rows j) (k + 2 * Total (rows.take j)) _ lo hi hown (by omega)).mono ?_
      rintro e w1 ⟨rfl, own1, fr1⟩
      go_wp2_with fail
      go_roundw
      case rel =>
        refine ⟨j + 1, by omega, by go_num, by rw [HT.out]; congr 1; omega, ?_, ?_⟩
        · rw [mkTo_succ _ _ _ _ _ hlt]
          exact hr.upd hlm (by decide) (by rw [fromE_length, HR.out]) own1 fr1
        · exact hfr.trans (fr1.mono fun b _ hb => ⟨j, hlt, hb⟩)
      case measure => simp [intOf]; omega
    · obtain rfl : j = rows.length := by omega
      go_wp2_with fail
      go_ret
      exact ⟨by rw [List.take_length]; rfl, hr, hfr⟩
set_option maxHeartbeats 400000 in
theorem heldEndSS_any (a : Option Addr) (cap : Nat) (rows : List (List (Int × Int))) (vs : Nat → Option Addr × Nat) (k : Nat) (w : World) (lo hi : Nat) (ha : RowsE w lo hi a cap (marks fromE 2 k rows) vs) (hl : rows.length ≤ 1048576) (hl2 : 2 * Total rows + k ≤ 4611686018427387904) :
    Calls Try.prog 44 #[.slice a rows.length cap, .int .i64 k] w fun e w' => e = .returned (.int .i64 (k + 2 * Total rows : Nat)) ∧ ∃ m, w' = w.drewN m := by
  have hml : (marks fromE 2 k rows).length = rows.length := mkTo_length ..
  obtain ⟨ha1, ha2, _⟩ := ha
  rw [hml] at ha1 ha2
  have HA2 := Lib.hid ha2
  clear ha2 hml
  go_enter Try.func44, Try.ntmps44
  go_wp2_with fail
  go_loopw [1, 5] (fun q i wr => ∃ j : Nat, j ≤ rows.length ∧ i = .int .i64 j ∧ q = .int .i64 (k + 2 * Total (rows.take j) : Nat) ∧ Qt w wr) (fun _ i _ => rows.length - (intOf i).toNat)
  case atStart => exact ⟨0, Nat.zero_le _, rfl, rfl, Qt.refl _⟩
  case round =>
    obtain ⟨j, hj, rfl, rfl, hq⟩ := hrel
    by_cases hlt : j < rows.length
    · obtain ⟨g, off, rfl, _, hc1⟩ := Rd.at (ha1.rd.qt hq) hlt
      have hrow : rowOf (marks fromE 2 k rows) j = fromE (k + 2 * Total (rows.take j)) (rowOf rows j).length := by
        rw [marks, rowOf_mkTo _ _ _ _ _ _ hlt, if_pos hlt]
      rw [hrow, fromE_length] at hc1
      have r1 : RdE wr hi (vs j).1 (fromE (k + 2 * Total (rows.take j)) (rowOf rows j).length) := by have h := (HA2.out j hlt).rdE.qt hq; rw [hrow] at h; exact h
      have ht1 := total_take_le rows (j + 1)
      have HT := Lib.hid (total_take rows j hlt)
      have ht2 : Total (rows.take j) + (rowOf rows j).length ≤ Total rows := by have := HT.out; omega
      clear hrow ht1
      go_wp2_with fail
      refine (heldEndS_any _ _ (rowOf rows j).length (k + 2 * Total (rows.take j)) _ hi r1 (by omega)).mono ?_
      rintro e w1 ⟨rfl, q1⟩
      have hdn : decide (((k + 2 * Total (rows.take j) + 2 * (rowOf rows j).length : Nat) : Int) < 0) = false := decide_eq_false (by omega)
      replace hq := hq.trans q1
      go_wp2_with fail
      go_roundw
      case rel => exact ⟨j + 1, by omega, by go_num, by rw [HT.out]; congr 1; omega, hq⟩
      case measure => simp [intOf]; omega
    · obtain rfl : j = rows.length := by omega
      go_wp2_with fail
      go_ret
      exact ⟨by rw [List.take_length]; rfl, hq⟩
end Go.Proofs.Ytlooinhdehkcdaa
