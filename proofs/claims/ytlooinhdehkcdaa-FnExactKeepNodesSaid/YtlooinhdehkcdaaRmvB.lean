/- RemoveEdge, KeepNodes: rows of bools; spec.neAll. -/
import Derived.Test.YtlooinhdehkcdaaRmvA
import Derived.Test.YtlooinhdehkcdaaNest
namespace Go.Proofs.Ytlooinhdehkcdaa
open Go.RowKit
set_option linter.unusedVariables false
set_option linter.unusedSimpArgs false
def nthB (l : List Bool) (j : Nat) : Bool := l.getD j false
def cellB (l : List Bool) (j : Nat) : Value := .bool (nthB l j)
def RowsB (w : World) (lo hi : Nat) (a : Option Addr) (cap : Nat) (rows : List (List Bool)) (vs : Nat → Option Addr × Nat) : Prop := RowsAt cellB 1 70 4 w lo hi a cap rows vs
def allT (rows : Rows2) : List (List Bool) := rows.map fun r => List.replicate r.length true
theorem allT_length (rows : Rows2) : (allT rows).length = rows.length := List.length_map ..
theorem allT_row {rows : Rows2} {j : Nat} (h : j < rows.length) : rowOf (allT rows) j = List.replicate (rowOf rows j).length true := by
  rw [rowOf_eq_getElem _ _ (by rw [allT_length]; exact h), rowOf_eq_getElem _ _ h]
  simp [allT]
theorem nthB_true {n j : Nat} (h : j < n) : nthB (List.replicate n true) j = true := by
  unfold nthB
  rw [List.getD_eq_getElem?_getD, List.getElem?_replicate, if_pos h]; rfl
theorem takeB_snoc {rows : List (List Bool)} {k : Nat} (h : k < rows.length) : rows.take (k + 1) = rows.take k ++ [rowOf rows k] := by
  rw [List.take_succ_eq_append_getElem h, rowOf_eq_getElem _ _ h]
/-- an own row: one cell set -/
theorem Ow.putV {w : World} {lo hi : Nat} {e : TypeId} {g n cap i : Nat} {f : Nat → Value} (u : Value) (h : Ow w lo hi e 1 (some ⟨g, 0, none⟩) n cap f) (hi' : i < n) :
    Ow (w.setCell ⟨g, i, none⟩ u) lo hi e 1 (some ⟨g, 0, none⟩) n cap (fun j => if j = i then u else f j) := by
  obtain ⟨h1, h2, h3⟩ := h
  refine ⟨h1, h2, fun hc => ?_⟩
  obtain ⟨g', F, e1, e2, e3, e4, e5⟩ := h3 hc
  obtain rfl : g = g' := by injection e1 with e1; injection e1
  refine ⟨g, _, rfl, e2, e3, e4.set i _, fun j hj => ?_⟩
  show (if j = i then u else F j) = (if j = i then u else f j)
  by_cases c1 : j = i
  · rw [if_pos c1, if_pos c1]
  · rw [if_neg c1, if_neg c1]; exact e5 j hj
/-- one row more -/
theorem rowsB_pre {wr wx : World} {D k : Nat} {a : Option Addr} {cap : Nat} {rows : List (List Bool)} {vs : Nat → Option Addr × Nat} (h : RowsB wr D wr.heap.size a cap rows vs) (hl : rows.length = k) (hb : Below wr.heap.size wr wx) (o : Obj) :
    Ow (wx.alloc o) D wx.heap.size 70 1 a k cap (fun j => .slice (vs j).1 (rowOf rows j).length (vs j).2) := by
  have h1 := (RowsAt.new h hb).1
  rw [hl] at h1
  exact Ow.wide (Ow.alloc h1 o) (Nat.le_refl _) hb.size
theorem rowsB_step {wr wx wy : World} {D k : Nat} {a : Option Addr} {cap : Nat} {rows : List (List Bool)} {vs : Nat → Option Addr × Nat} {r : List Bool} {b : Option Addr} {cb g' cap' : Nat} (h : RowsB wr D wr.heap.size a cap rows vs) (hl : rows.length = k) (hb : Below wr.heap.size wr wx) (hD : D ≤ wr.heap.size)
    (hr : Ow wx wr.heap.size wx.heap.size 4 1 b r.length cb (cellB r)) (hg : (wx.alloc (.cells #[.slice b r.length cb] 70)).grownBy wy (blk a cap))
    (ho : Ow wy D wy.heap.size 70 1 (some ⟨g', 0, none⟩) (k + 1) cap' (app (fun j => .slice (vs j).1 (rowOf rows j).length (vs j).2) (k * 1) [.slice b r.length cb])) : RowsB wy D wy.heap.size (some ⟨g', 0, none⟩) cap' (rows ++ [r]) (setv vs k (b, cb)) := by
  have bA : Below wx.heap.size wx (wx.alloc (.cells #[.slice b r.length cb] 70)) := (Below.refl _ _).alloc (Nat.le_refl _) _
  have key := RowsAt.snoc (w := wx.alloc (.cells #[.slice b r.length cb] 70)) (hi := wr.heap.size) (RowsAt.new (RowsAt.new h hb) bA) (by decide) (Ow.wide (Ow.alloc hr _) (Nat.le_refl _) bA.size) hD (Nat.le_trans hb.size bA.size) hg (by rw [hl]; exact ho)
  rw [hl] at key
  exact key
theorem bool_info : (Try.prog.info? 4).map (fun i => (i.zero, i.size, i.bytes)) = some (some (.bool false), 1, 1) := by kernel_rfl
theorem bools_info : (Try.prog.info? 70).map (fun i => (i.zero, i.size, i.bytes)) = some (some (.slice none 0 0), 1, 24) := by kernel_rfl
set_option maxRecDepth 100000 in
set_option maxHeartbeats 1600000 in
theorem neAll_any (V : Value) (N : Net) (w : World) (B : Nat) (hv : NetIn w B V N) (hB : B ≤ w.heap.size) (hs : NetSmall N) :
    Calls Try.prog 52 #[V] w fun e w' => ∃ a cap vs, e = .returned (.slice a N.ends.length cap) ∧ RowsB w' w.heap.size w'.heap.size a cap (allT N.ends) vs ∧ Below w.heap.size w w' := by
  obtain ⟨a, c, vs, ai, ci, ap, cp, rfl, h1, _⟩ := hv
  have HROW := Lib.hid hs.row
  have hl : N.ends.length ≤ 1048576 := by unfold NetSmall at hs; omega
  have b0 : Below w.heap.size w (w.alloc (.cells #[.slice a N.ends.length c, .slice ai N.ids.length ci, .slice ap N.inputs.length cp] 29)) := (by repeat (first | exact Below.refl _ _ | assumption | refine Below.alloc ?_ (by first | (simp; done) | (simp; omega) | omega) _ | refine Below.setCell ?_ (by first | (simp; done) | (simp; omega) | omega) _ | refine Below.drew ?_ | refine Below.drewN ?_ _))
  have h12 := RdEE.below h1 (b0.mono hB)
  clear h1
  go_enter Try.func52, Try.ntmps52
  go_wp2_with fail
  generalize hW : w.alloc (.cells #[.slice a N.ends.length c, .slice ai N.ids.length ci, .slice ap N.inputs.length cp] 29) = w0 at *
  have z0 := b0.size
  have hB0 : B ≤ w0.heap.size := by omega
  have HAL := Lib.hid (allT_length N.ends)
  have HAR := Lib.hid (fun j hj => allT_row (rows := N.ends) (j := j) hj)
  clear hW
  go_loopw [3, 11] (fun v i wr => ∃ k : Nat, k ≤ N.ends.length ∧ i = .int .i64 k ∧ (∃ a cap vs, v = .slice a k cap ∧ RowsB wr w0.heap.size wr.heap.size a cap ((allT N.ends).take k) vs) ∧ Below w0.heap.size w0 wr) (fun _ i _ => N.ends.length - (intOf i).toNat)
  case atStart => exact ⟨0, Nat.zero_le _, rfl, ⟨none, 0, fun _ => (none, 0), rfl, RowsAt.nil _ _ _ _ _⟩, Below.refl _ _⟩
  case round =>
    obtain ⟨k, hk, rfl, ⟨a1, cap1, v1, rfl, own1⟩, bel⟩ := hrel
    have hDw := bel.size
    by_cases hlt : k < N.ends.length
    · obtain ⟨g, off, rfl, _, hc1⟩ := Rd.at (h12.below (bel.mono hB0)).1 hlt
      have hL1 := HROW.out k hlt
      have HLK : Hid (((allT N.ends).take k).length = k) := by show _ = _; rw [List.length_take, HAL.out]; omega
      have HTS : Hid ((allT N.ends).take (k + 1) = (allT N.ends).take k ++ [List.replicate (rowOf N.ends k).length true]) := by
        show _ = _
        rw [takeB_snoc (by rw [HAL.out]; exact hlt), HAR.out k hlt]
      generalize (vs k).1 = ax at *
      generalize (vs k).2 = cx at *
      obtain ⟨d, hd⟩ : ∃ d, d = (rowOf N.ends k).length := ⟨_, rfl⟩
      rw [← hd] at hc1 hL1 HTS
      clear hd
      obtain ⟨w2, hw2⟩ : ∃ w2, w2 = wr := ⟨_, rfl⟩
      subst hw2
      obtain ⟨g2, hg2⟩ : ∃ x, x = w2.heap.size := ⟨_, rfl⟩
      have HG2 := Lib.hid hg2
      clear hg2
      go_wp2_with (at_make; refine wpList_mk _ rfl _ _ _ rfl 4 (.bool false) 1 Try.underlying70 bool_info rfl .i64 .i64 _ _ d rfl rfl rfl rfl (by omega) (by omega) ?_; intro w3 hrow hsz hbel; rw [← HG2.out] at hrow hbel hsz ⊢)
      have bel3 : Below w2.heap.size w2 w3 := by rw [← HG2.out]; exact hbel
      have ownb : Ow w3 w2.heap.size w3.heap.size 4 1 (some ⟨g2, 0, none⟩) d d (fun _ => .bool false) := Ow.of_row (by rw [Nat.mul_one]; exact hrow) (by rw [HG2.out]; exact Nat.le_refl _) (by omega) (Nat.le_refl _) (by unfold maxLen; omega) fun j _ => rfl
      have zg2 : g2 < w3.heap.size := by omega
      clear hrow hsz hbel hc1
      go_loopw [20] (fun i wx => ∃ j : Nat, j ≤ d ∧ i = .int .i64 j ∧ Ow wx w2.heap.size wx.heap.size 4 1 (some ⟨g2, 0, none⟩) d d (fun x => .bool (decide (x < j))) ∧ Below w2.heap.size w2 wx ∧ g2 < wx.heap.size) (fun i _ => d - (intOf i).toNat)
      case atStart => exact ⟨0, Nat.zero_le _, rfl, ownb.congr fun x _ => by rw [decide_eq_false (Nat.not_lt_zero _)], bel3, zg2⟩
      case round =>
        clear ownb bel3 zg2
        obtain ⟨j, hj, rfl, ownb, bel3, zg2⟩ := hrel
        have z3 := bel3.size
        by_cases hjl : j < d
        · obtain ⟨g9, F9, e9, hgl9, _, hr9, hf9⟩ := ownb.2.2 (by omega)
          obtain rfl : g2 = g9 := by injection e9 with h; injection h
          have hc := hr9.cell (i := j) (by omega)
          have hf := Ow.frozen ownb (by omega) j
          have hput := Ow.putV (.bool true) ownb hjl
          clear e9 hr9 hf9
          go_wp2_with fail
          have hfr := fr_set wr g2 j (.bool true)
          go_roundw
          case rel => exact ⟨j + 1, by omega, by go_num, Ow.wide (hput.congr fun x _ => by
            by_cases c : x = j
            · rw [if_pos c, decide_eq_true (by omega)]
            · rw [if_neg c]
              by_cases c2 : x < j
              · rw [decide_eq_true c2, decide_eq_true (by omega)]
              · rw [decide_eq_false c2, decide_eq_false (by omega)]) (Nat.le_refl _) (by rw [size_set]; exact Nat.le_refl _), bel3.trans (hfr.below (B := w2.heap.size) (fun x h1 h2 hc => by have := HG2.out; omega) z3), by rw [size_set]; exact zg2⟩
          case measure => simp [intOf]; omega
        · obtain rfl : j = d := by omega
          have ownr : Ow wr w2.heap.size wr.heap.size 4 1 (some ⟨g2, 0, none⟩) (List.replicate j true).length j (cellB (List.replicate j true)) := by
            rw [List.length_replicate]
            refine ownb.congr fun x hx => ?_
            rw [cellB, nthB_true (by omega), decide_eq_true (by omega)]
          have HRL := Lib.hid (List.length_replicate (n := j) (a := true))
          have bel4 := bel.trans (bel3.mono hDw)
          have hst := fun (wy : World) (g' cap' : Nat) h1 h2 => rowsB_step (wy := wy) (g' := g') (cap' := cap') own1 HLK.out bel3 hDw ownr h1 h2
          rw [HRL.out] at hst
          clear ownr
          go_wp2_with (at_builtin; refine wpList_app rfl _ _ _ rfl 70 (.slice none 0 0) 1 24 Try.underlying68 bools_info rfl (by decide) w0.heap.size wr.heap.size a1 k cap1 _ rfl (rowsB_pre own1 HLK.out bel3 _) ⟨wr.heap.size, 0, none⟩ 1 1 [.slice (some ⟨g2, 0, none⟩) j j] rfl rfl (cell_one_new _ _ _) (by simp [Value.oneCell']) (by decide) (by unfold maxLen; omega) (by omega) (by simp; omega) ?_; intro g' cap' w4 own4 hgr _ _)
          go_roundw
          case rel => exact ⟨k + 1, by omega, by go_num, ⟨some ⟨g', 0, none⟩, cap', _, rfl, by rw [HTS.out]; exact hst w4 g' cap' hgr own4⟩, below_app (bel4.alloc (by omega) _) (rowsB_pre own1 HLK.out bel3 _) hgr (Nat.le_refl _) (by simp; omega)⟩
          case measure => simp [intOf]; omega
    · obtain rfl : k = N.ends.length := by omega
      have HTA : Hid ((allT N.ends).take N.ends.length = allT N.ends) := by show _ = _; rw [← HAL.out]; exact List.take_length
      rw [HTA.out] at own1
      go_wp2_with fail
      go_ret
      exact ⟨a1, cap1, v1, rfl, RowsAt.wide own1 z0 (Nat.le_refl _), b0.trans (bel.mono z0)⟩
end Go.Proofs.Ytlooinhdehkcdaa
