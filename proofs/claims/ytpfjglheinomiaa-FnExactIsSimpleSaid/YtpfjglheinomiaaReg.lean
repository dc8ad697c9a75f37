/- Degrees; IsRegular. -/
import Derived.Test.YtpfjglheinomiaaNeGood
import Derived.Test.YtpfjglheinomiaaApp
namespace Go.Proofs.Ytpfjglheinomiaa
open Go.RowKit
set_option linter.unusedVariables false
set_option linter.unusedSimpArgs false
def degs (rows : Rows2) : List Int := rows.map fun r => (r.length : Int)
theorem degs_length (rows : Rows2) : (degs rows).length = rows.length := by simp [degs]
theorem degs_nth (rows : Rows2) (j : Nat) (hj : j < rows.length) : nth (degs rows) j = ((rowOf rows j).length : Int) := by
  rw [nth_eq_getElem _ _ (by rw [degs_length]; exact hj)]
  simp [degs, rowOf, List.getD, hj]
theorem degs_take (rows : Rows2) (k : Nat) (h : k < rows.length) : (degs rows).take (k + 1) = (degs rows).take k ++ [((rowOf rows k).length : Int)] := by
  rw [take_snoc_nth _ _ (by rw [degs_length]; exact h), degs_nth _ _ h]
def regB (rows : Rows2) (d : Int) : Bool := allB (degs rows) d d
theorem regB_f {rows : Rows2} {d : Int} {k : Nat} (hk : k < rows.length) (h : ((rowOf rows k).length : Int) ≠ d) : regB rows d = false := by
  refine allB_f (k := k) (by rw [degs_length]; exact hk) ?_
  rw [degs_nth _ _ hk]
  cases hi : inR ((rowOf rows k).length : Int) d d with
  | false => rfl
  | true => have := inR_iff.1 hi; omega
theorem regB_t {rows : Rows2} {d : Int} (h : ∀ j, j < rows.length → ((rowOf rows j).length : Int) = d) : regB rows d = true := by
  refine allB_t fun j hj => ?_
  rw [degs_length] at hj
  rw [degs_nth _ _ hj, h j hj]
  exact inR_iff.2 ⟨Int.le_refl _, Int.le_refl _⟩
set_option maxHeartbeats 400000 in
theorem neDegrees_any (V : Value) (N : Net) (w : World) (B : Nat) (hv : NetIn w B V N) (hB : B ≤ w.heap.size) (hs : NetSmall N) :
    Calls Try.prog 54 #[V] w fun e w' => ∃ a cap, e = .returned (.slice a (degs N.ends).length cap) ∧ OwI w' w.heap.size w'.heap.size a cap (degs N.ends) ∧ Below w.heap.size w w' := by
  obtain ⟨a, c, vs, ai, ci, ap, cp, rfl, h1, _⟩ := hv
  have HROW := Lib.hid hs.row
  have hl : N.ends.length ≤ 1048576 := by unfold NetSmall at hs; omega
  have b0 : Below w.heap.size w (w.alloc (.cells #[.slice a N.ends.length c, .slice ai N.ids.length ci, .slice ap N.inputs.length cp] 31)) := (by repeat (first | exact Below.refl _ _ | assumption | refine Below.alloc ?_ (by first | (simp; done) | (simp; omega) | omega) _ | refine Below.setCell ?_ (by first | (simp; done) | (simp; omega) | omega) _ | refine Below.drew ?_ | refine Below.drewN ?_ _))
  have h12 := RdEE.below h1 (b0.mono hB)
  clear h1
  go_enter Try.func54, Try.ntmps54
  go_wp2_with fail
  generalize hW : w.alloc (.cells #[.slice a N.ends.length c, .slice ai N.ids.length ci, .slice ap N.inputs.length cp] 31) = w0 at *
  have z0 := b0.size
  have hB0 : B ≤ w0.heap.size := by omega
  clear hW
  go_loopw [3, 9] (fun v i wr => ∃ k : Nat, k ≤ N.ends.length ∧ i = .int .i64 k ∧ (∃ a cap, v = .slice a k cap ∧ OwI wr w0.heap.size wr.heap.size a cap ((degs N.ends).take k)) ∧ Below w0.heap.size w0 wr) (fun _ i _ => N.ends.length - (intOf i).toNat)
  case atStart => exact ⟨0, Nat.zero_le _, rfl, ⟨none, 0, rfl, Ow.nil _ _ _ _ _ _ _⟩, Below.refl _ _⟩
  case round =>
    obtain ⟨k, hk, rfl, ⟨a1, cap1, rfl, own1⟩, bel⟩ := hrel
    have hDw := bel.size
    by_cases hlt : k < N.ends.length
    · obtain ⟨g, off, rfl, _, hc1⟩ := Rd.at (h12.below (bel.mono hB0)).1 hlt
      have hl2 := HROW.out k hlt
      have hlk : ((degs N.ends).take k).length = k := by rw [List.length_take, degs_length]; omega
      have HLK := Lib.hid hlk
      have HT := Lib.hid (degs_take N.ends k hlt)
      have own1' : Ow wr w0.heap.size wr.heap.size 3 1 a1 k cap1 (fun j => .int .i64 (nth ((degs N.ends).take k) j)) := by have := own1; unfold OwI at this; rwa [hlk] at this
      clear hlk
      go_wp2_with (at_builtin; refine wpList_app rfl _ _ _ rfl 3 (.int .i64 0) 1 8 Try.underlying23 int_info rfl (by decide) w0.heap.size wr.heap.size a1 k cap1 _ rfl (Ow.alloc own1' _) ⟨wr.heap.size, 0, none⟩ 1 1 [.int .i64 ((rowOf N.ends k).length : Int)] rfl rfl (cell_one_new _ _ _) (by simp [Value.oneCell']) (by decide) (by unfold maxLen; omega) (by omega) (by simp; omega) ?_; intro g' cap' w2 own2 hgr _ _)
      go_roundw
      case rel =>
        refine ⟨k + 1, by omega, by go_num, ⟨some ⟨g', 0, none⟩, cap', rfl, ?_⟩, ?_⟩
        · rw [HT.out]; apply OwI.snoc; rw [HLK.out]; exact own2
        · exact below_app (bel.alloc hDw _) (Ow.alloc own1' _) hgr (Nat.le_refl _) (by simp; omega)
      case measure => simp [intOf]; omega
    · obtain rfl : k = N.ends.length := by omega
      go_wp2_with fail
      go_ret
      have ht : (degs N.ends).take N.ends.length = degs N.ends := by rw [← degs_length]; exact List.take_length
      rw [ht] at own1
      exact ⟨a1, cap1, by rw [degs_length]; rfl, Ow.wide own1 z0 (Nat.le_refl _), b0.trans (bel.mono z0)⟩
set_option maxHeartbeats 400000 in
theorem degrees_any (V : Value) (N : Net) (w : World) (B : Nat) (hv : NetIn w B V N) (hB : B ≤ w.heap.size) (hs : NetSmall N) :
    Calls Try.prog 57 #[V] w fun e w' => ∃ a cap, e = .returned (.slice a (degs N.ends).length cap) ∧ OwI w' w.heap.size w'.heap.size a cap (degs N.ends) ∧ Below w.heap.size w w' := by
  obtain ⟨a, c, vs, ai, ci, ap, cp, rfl, h1, _⟩ := hv
  have HROW := Lib.hid hs.row
  have hl : N.ends.length ≤ 1048576 := by unfold NetSmall at hs; omega
  have b0 : Below w.heap.size w (w.alloc (.cells #[.slice a N.ends.length c, .slice ai N.ids.length ci, .slice ap N.inputs.length cp] 31)) := (by repeat (first | exact Below.refl _ _ | assumption | refine Below.alloc ?_ (by first | (simp; done) | (simp; omega) | omega) _ | refine Below.setCell ?_ (by first | (simp; done) | (simp; omega) | omega) _ | refine Below.drew ?_ | refine Below.drewN ?_ _))
  have h12 := RdEE.below h1 (b0.mono hB)
  clear h1
  go_enter Try.func57, Try.ntmps57
  go_wp2_with fail
  generalize hW : w.alloc (.cells #[.slice a N.ends.length c, .slice ai N.ids.length ci, .slice ap N.inputs.length cp] 31) = w0 at *
  have z0 := b0.size
  have hB0 : B ≤ w0.heap.size := by omega
  clear hW
  go_loopw [3, 9] (fun v i wr => ∃ k : Nat, k ≤ N.ends.length ∧ i = .int .i64 k ∧ (∃ a cap, v = .slice a k cap ∧ OwI wr w0.heap.size wr.heap.size a cap ((degs N.ends).take k)) ∧ Below w0.heap.size w0 wr) (fun _ i _ => N.ends.length - (intOf i).toNat)
  case atStart => exact ⟨0, Nat.zero_le _, rfl, ⟨none, 0, rfl, Ow.nil _ _ _ _ _ _ _⟩, Below.refl _ _⟩
  case round =>
    obtain ⟨k, hk, rfl, ⟨a1, cap1, rfl, own1⟩, bel⟩ := hrel
    have hDw := bel.size
    by_cases hlt : k < N.ends.length
    · obtain ⟨g, off, rfl, _, hc1⟩ := Rd.at (h12.below (bel.mono hB0)).1 hlt
      have hl2 := HROW.out k hlt
      have hlk : ((degs N.ends).take k).length = k := by rw [List.length_take, degs_length]; omega
      have HLK := Lib.hid hlk
      have HT := Lib.hid (degs_take N.ends k hlt)
      have own1' : Ow wr w0.heap.size wr.heap.size 3 1 a1 k cap1 (fun j => .int .i64 (nth ((degs N.ends).take k) j)) := by have := own1; unfold OwI at this; rwa [hlk] at this
      clear hlk
      go_wp2_with (at_builtin; refine wpList_app rfl _ _ _ rfl 3 (.int .i64 0) 1 8 Try.underlying23 int_info rfl (by decide) w0.heap.size wr.heap.size a1 k cap1 _ rfl (Ow.alloc own1' _) ⟨wr.heap.size, 0, none⟩ 1 1 [.int .i64 ((rowOf N.ends k).length : Int)] rfl rfl (cell_one_new _ _ _) (by simp [Value.oneCell']) (by decide) (by unfold maxLen; omega) (by omega) (by simp; omega) ?_; intro g' cap' w2 own2 hgr _ _)
      go_roundw
      case rel =>
        refine ⟨k + 1, by omega, by go_num, ⟨some ⟨g', 0, none⟩, cap', rfl, ?_⟩, ?_⟩
        · rw [HT.out]; apply OwI.snoc; rw [HLK.out]; exact own2
        · exact below_app (bel.alloc hDw _) (Ow.alloc own1' _) hgr (Nat.le_refl _) (by simp; omega)
      case measure => simp [intOf]; omega
    · obtain rfl : k = N.ends.length := by omega
      go_wp2_with fail
      go_ret
      have ht : (degs N.ends).take N.ends.length = degs N.ends := by rw [← degs_length]; exact List.take_length
      rw [ht] at own1
      exact ⟨a1, cap1, by rw [degs_length]; rfl, Ow.wide own1 z0 (Nat.le_refl _), b0.trans (bel.mono z0)⟩
/-- what DegreesOf gives -/
def dgR (N : Net) : List Int := if netB N then degs N.ends else []
theorem dgR_t {N : Net} (h : netB N = true) : dgR N = degs N.ends := by rw [dgR, h]; rfl
theorem dgR_f {N : Net} (h : netB N = false) : dgR N = [] := by rw [dgR, h]; rfl
theorem dgR_le {N : Net} (h : NetSmall N) : (dgR N).length ≤ 1048576 := by
  cases hn : netB N with
  | true => rw [dgR_t hn, degs_length]; unfold NetSmall at h; omega
  | false => rw [dgR_f hn]; exact Nat.zero_le _
set_option maxHeartbeats 400000 in
theorem degreesOf_any (V : Value) (N : Net) (w : World) (B : Nat) (hv : NetIn w B V N) (hB : B ≤ w.heap.size) (hs : NetSmall N) :
    Calls Try.prog 18 #[V] w (PostI (dgR N) (netB N) w) := by
  have HV := Lib.hid hv
  obtain ⟨a, c, vs, ai, ci, ap, cp, rfl, h1, _⟩ := hv
  have BA := Bx.made w 31 #[.slice a N.ends.length c, .slice ai N.ids.length ci, .slice ap N.inputs.length cp]
  have b0 : Below w.heap.size w (w.alloc (.cells #[.slice a N.ends.length c, .slice ai N.ids.length ci, .slice ap N.inputs.length cp] 31)) := (by repeat (first | exact Below.refl _ _ | assumption | refine Below.alloc ?_ (by first | (simp; done) | (simp; omega) | omega) _ | refine Below.setCell ?_ (by first | (simp; done) | (simp; omega) | omega) _ | refine Below.drew ?_ | refine Below.drewN ?_ _))
  go_enter Try.func18, Try.ntmps18
  go_wp2_with fail
  refine (isNetwork_any _ N _ B (HV.out.below (b0.mono hB)).rd (Nat.le_trans hB b0.size) hs).mono ?_
  rintro e w1 ⟨rfl, bel1⟩
  replace BA := BA.new bel1
  have b1 := b0.trans (bel1.mono b0.size)
  have z1 := b1.size
  clear b0 bel1
  have c0 := BA.cell 0 _ rfl
  have c1 := BA.cell 1 _ rfl
  have c2 := BA.cell 2 _ rfl
  cases hn : netB N with
  | false =>
    have HN := Lib.hid hn
    clear hn
    go_wp2_with fail
    go_ret2
    exact PostI.no (dgR_f HN.out) HN.out rfl b1
  | true =>
    have HN := Lib.hid hn
    clear hn
    go_wp2_with fail
    refine (degrees_any _ N _ B (HV.out.below (b1.mono hB)) (Nat.le_trans hB z1) hs).mono ?_
    rintro e w2 ⟨a2, cap2, rfl, own2, bel2⟩
    go_wp2_with fail
    go_ret2
    unfold PostI
    rw [dgR_t HN.out, HN.out]
    exact ⟨a2, cap2, rfl, Ow.wide own2 z1 (Nat.le_refl _), b1.trans (bel2.mono z1)⟩
set_option maxHeartbeats 400000 in
theorem degreesOfS_any (V : Value) (N : Net) (w : World) (B : Nat) (hv : NetIn w B V N) (hB : B ≤ w.heap.size) (hs : NetSmall N) :
    Calls Try.prog 16 #[V] w (PostI (dgR N) (netB N) w) := by
  have HV := Lib.hid hv
  obtain ⟨a, c, vs, ai, ci, ap, cp, rfl, h1, _⟩ := hv
  have BA := Bx.made w 31 #[.slice a N.ends.length c, .slice ai N.ids.length ci, .slice ap N.inputs.length cp]
  have b0 : Below w.heap.size w (w.alloc (.cells #[.slice a N.ends.length c, .slice ai N.ids.length ci, .slice ap N.inputs.length cp] 31)) := (by repeat (first | exact Below.refl _ _ | assumption | refine Below.alloc ?_ (by first | (simp; done) | (simp; omega) | omega) _ | refine Below.setCell ?_ (by first | (simp; done) | (simp; omega) | omega) _ | refine Below.drew ?_ | refine Below.drewN ?_ _))
  go_enter Try.func16, Try.ntmps16
  go_wp2_with fail
  refine (neGood_any _ N _ B (HV.out.below (b0.mono hB)) (Nat.le_trans hB b0.size) hs).mono ?_
  rintro e w1 ⟨rfl, bel1⟩
  replace BA := BA.new bel1
  have b1 := b0.trans (bel1.mono b0.size)
  have z1 := b1.size
  clear b0 bel1
  have c0 := BA.cell 0 _ rfl
  have c1 := BA.cell 1 _ rfl
  have c2 := BA.cell 2 _ rfl
  cases hn : netB N with
  | false =>
    have HN := Lib.hid hn
    clear hn
    go_wp2_with fail
    go_ret2
    exact PostI.no (dgR_f HN.out) HN.out rfl b1
  | true =>
    have HN := Lib.hid hn
    clear hn
    go_wp2_with fail
    refine (neDegrees_any _ N _ B (HV.out.below (b1.mono hB)) (Nat.le_trans hB z1) hs).mono ?_
    rintro e w2 ⟨a2, cap2, rfl, own2, bel2⟩
    go_wp2_with fail
    go_ret2
    unfold PostI
    rw [dgR_t HN.out, HN.out]
    exact ⟨a2, cap2, rfl, Ow.wide own2 z1 (Nat.le_refl _), b1.trans (bel2.mono z1)⟩
end Go.Proofs.Ytpfjglheinomiaa
