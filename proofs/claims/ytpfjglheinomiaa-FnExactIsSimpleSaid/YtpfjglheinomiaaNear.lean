/- NeighboursOf: contracts. -/
import Derived.Test.YtpfjglheinomiaaNeGood
import Derived.Test.YtpfjglheinomiaaApp
namespace Go.Proofs.Ytpfjglheinomiaa
open Go.RowKit
set_option linter.unusedVariables false
set_option linter.unusedSimpArgs false
/-- the nodes at the other sides of a row of ends -/
def fsts (es : List (Int × Int)) : List Int := es.map Prod.fst
theorem fsts_length (es : List (Int × Int)) : (fsts es).length = es.length := by simp [fsts]
theorem fsts_nth (es : List (Int × Int)) (j : Nat) (hj : j < es.length) : nth (fsts es) j = (nthE es j).1 := by
  rw [nth_eq_getElem _ _ (by rw [fsts_length]; exact hj)]
  simp [fsts, nthE, List.getD, hj]
theorem fsts_take (es : List (Int × Int)) (k : Nat) (h : k < es.length) : (fsts es).take (k + 1) = (fsts es).take k ++ [(nthE es k).1] := by
  rw [take_snoc_nth _ _ (by rw [fsts_length]; exact h), fsts_nth _ _ h]
def ndB (N : Net) (v : Int) : Bool := netB N && hasN N.ends v
def nrR (N : Net) (v : Int) : List Int := if ndB N v then fsts (rowOf N.ends v.toNat) else []
theorem nrR_t {N : Net} {v : Int} (h : ndB N v = true) : nrR N v = fsts (rowOf N.ends v.toNat) := by rw [nrR, h]; rfl
theorem nrR_f {N : Net} {v : Int} (h : ndB N v = false) : nrR N v = [] := by rw [nrR, h]; rfl
theorem ndB_f0 {N : Net} {v : Int} (h : netB N = false) : ndB N v = false := by rw [ndB, h]; rfl
theorem ndB_n {N : Net} {v : Int} (h : netB N = true) : ndB N v = hasN N.ends v := by rw [ndB, h]; rfl
theorem nrR_le {N : Net} {v : Int} (h : NetSmall N) : (nrR N v).length ≤ 1048576 := by
  cases hn : ndB N v with
  | false => rw [nrR_f hn]; exact Nat.zero_le _
  | true =>
    rw [nrR_t hn, fsts_length]
    rw [ndB, Bool.and_eq_true] at hn
    obtain ⟨p, rfl, hp⟩ := hasN_nat hn.2
    exact h.row _ (by simpa using hp)
set_option maxHeartbeats 400000 in
theorem neNode_any (V : Value) (N : Net) (v : Int) (w : World) (B : Nat) (hv : NetIn w B V N) (hB : B ≤ w.heap.size) (hs : NetSmall N) :
    Calls Try.prog 60 #[V, .int .i64 v] w fun e w' => e = .returned (.bool (ndB N v)) ∧ Below w.heap.size w w' := by
  have HV := Lib.hid hv
  obtain ⟨a, c, vs, ai, ci, ap, cp, rfl, h1, _⟩ := hv
  have hl : N.ends.length ≤ 1048576 := by unfold NetSmall at hs; omega
  have BA := Bx.made w 31 #[.slice a N.ends.length c, .slice ai N.ids.length ci, .slice ap N.inputs.length cp]
  have b0 : Below w.heap.size w (w.alloc (.cells #[.slice a N.ends.length c, .slice ai N.ids.length ci, .slice ap N.inputs.length cp] 31)) := (by repeat (first | exact Below.refl _ _ | assumption | refine Below.alloc ?_ (by first | (simp; done) | (simp; omega) | omega) _ | refine Below.setCell ?_ (by first | (simp; done) | (simp; omega) | omega) _ | refine Below.drew ?_ | refine Below.drewN ?_ _))
  go_enter Try.func60, Try.ntmps60
  go_wp2_with fail
  refine (neGood_any _ N _ B (HV.out.below (b0.mono hB)) (Nat.le_trans hB b0.size) hs).mono ?_
  rintro e w1 ⟨rfl, bel1⟩
  replace BA := BA.new bel1
  have b1 := b0.trans (bel1.mono b0.size)
  clear b0 bel1
  have c0 := BA.cell 0 _ rfl
  cases hn : netB N with
  | false =>
    have HN := Lib.hid hn
    clear hn
    go_wp2_with fail
    go_ret
    exact ⟨ret_bool (ndB_f0 HN.out).symm, b1⟩
  | true =>
    have HN := Lib.hid hn
    clear hn
    go_wp2_with fail
    refine (l1In_any _ _ _ _).mono ?_
    rintro e w' ⟨rfl, rfl⟩
    go_wp2_with fail
    go_ret
    exact ⟨ret_bool (ndB_n HN.out).symm, b1⟩
set_option maxHeartbeats 400000 in
theorem neNear_any (V : Value) (N : Net) (v : Nat) (w : World) (B : Nat) (hv : NetIn w B V N) (hB : B ≤ w.heap.size) (hs : NetSmall N) (hvl : v < N.ends.length) :
    Calls Try.prog 61 #[V, .int .i64 v] w fun e w' => ∃ a cap, e = .returned (.slice a (fsts (rowOf N.ends v)).length cap) ∧ OwI w' w.heap.size w'.heap.size a cap (fsts (rowOf N.ends v)) ∧ Below w.heap.size w w' := by
  obtain ⟨a, c, vs, ai, ci, ap, cp, rfl, h1, _⟩ := hv
  have hL1 := hs.row v hvl
  have hl : N.ends.length ≤ 1048576 := by unfold NetSmall at hs; omega
  have b0 : Below w.heap.size w (w.alloc (.cells #[.slice a N.ends.length c, .slice ai N.ids.length ci, .slice ap N.inputs.length cp] 31)) := (by repeat (first | exact Below.refl _ _ | assumption | refine Below.alloc ?_ (by first | (simp; done) | (simp; omega) | omega) _ | refine Below.setCell ?_ (by first | (simp; done) | (simp; omega) | omega) _ | refine Below.drew ?_ | refine Below.drewN ?_ _))
  have h12 := RdEE.below h1 (b0.mono hB)
  clear h1
  obtain ⟨g, off, rfl, _, hc1⟩ := Rd.at h12.1 hvl
  have hrow := h12.2 v hvl
  generalize (vs v).1 = ax at *
  generalize (vs v).2 = cx at *
  generalize rowOf N.ends v = es at *
  clear h12
  go_enter Try.func61, Try.ntmps61
  go_wp2_with fail
  generalize hW : w.alloc (.cells #[_, _, _] 31) = w0 at *
  have z0 := b0.size
  have hB0 : B ≤ w0.heap.size := by omega
  clear hW hc1
  have HT2 := Lib.hid hL1
  go_loopw [5, 14] (fun v i wr => ∃ k : Nat, k ≤ es.length ∧ i = .int .i64 k ∧ (∃ a cap, v = .slice a k cap ∧ OwI wr w0.heap.size wr.heap.size a cap ((fsts es).take k)) ∧ Below w0.heap.size w0 wr) (fun _ i _ => es.length - (intOf i).toNat)
  case atStart => exact ⟨0, Nat.zero_le _, rfl, ⟨none, 0, rfl, Ow.nil _ _ _ _ _ _ _⟩, Below.refl _ _⟩
  case round =>
    obtain ⟨k, hk, rfl, ⟨a1, cap1, rfl, own1⟩, bel⟩ := hrel
    have hDw := bel.size
    by_cases hlt : k < es.length
    · obtain ⟨g, off, ha9, _, hc1, hc2⟩ := RdE.at (hrow.below (bel.mono hB0)) hlt
      subst ha9
      have hlk : ((fsts es).take k).length = k := by rw [List.length_take, fsts_length]; omega
      have HLK := Lib.hid hlk
      have HT := Lib.hid (fsts_take es k hlt)
      have own1' : Ow wr w0.heap.size wr.heap.size 3 1 a1 k cap1 (fun j => .int .i64 (nth ((fsts es).take k) j)) := by have := own1; unfold OwI at this; rwa [hlk] at this
      clear hlk
      go_wp2_with (at_builtin; refine wpList_app rfl _ _ _ rfl 3 (.int .i64 0) 1 8 Try.underlying23 int_info rfl (by decide) w0.heap.size wr.heap.size a1 k cap1 _ rfl (Ow.alloc (Ow.alloc own1' _) _) ⟨wr.heap.size + 1, 0, none⟩ 1 1 [.int .i64 (nthE es k).1] rfl rfl (by have h := cell_one_new (wr.alloc (.cells #[.int .i64 (nthE es k).1, .int .i64 (nthE es k).2] 69)) (.int .i64 (nthE es k).1) 3; rw [World.size_alloc] at h; exact h) (by simp [Value.oneCell']) (by decide) (by unfold maxLen; omega) (by omega) (by simp; omega) ?_; intro g' cap' w2 own2 hgr _ _)
      go_roundw
      case rel =>
        refine ⟨k + 1, by omega, by go_num, ⟨some ⟨g', 0, none⟩, cap', rfl, ?_⟩, ?_⟩
        · rw [HT.out]; apply OwI.snoc; rw [HLK.out]; exact own2
        · exact below_app ((bel.alloc hDw _).alloc (by simp; omega) _) (Ow.alloc (Ow.alloc own1' _) _) hgr (Nat.le_refl _) (by simp; omega)
      case measure => simp [intOf]; omega
    · obtain rfl : k = es.length := by omega
      go_wp2_with fail
      go_ret
      have ht : (fsts es).take es.length = fsts es := by rw [← fsts_length]; exact List.take_length
      rw [ht] at own1
      exact ⟨a1, cap1, by rw [fsts_length]; rfl, Ow.wide own1 z0 (Nat.le_refl _), b0.trans (bel.mono z0)⟩
set_option maxHeartbeats 400000 in
theorem neighboursOfS_any (V : Value) (N : Net) (v : Int) (w : World) (B : Nat) (hv : NetIn w B V N) (hB : B ≤ w.heap.size) (hs : NetSmall N) :
    Calls Try.prog 24 #[V, .int .i64 v] w (PostI (nrR N v) (ndB N v) w) := by
  have HV := Lib.hid hv
  obtain ⟨a, c, vs, ai, ci, ap, cp, rfl, h1, _⟩ := hv
  have BA := Bx.made w 31 #[.slice a N.ends.length c, .slice ai N.ids.length ci, .slice ap N.inputs.length cp]
  have b0 : Below w.heap.size w (w.alloc (.cells #[.slice a N.ends.length c, .slice ai N.ids.length ci, .slice ap N.inputs.length cp] 31)) := (by repeat (first | exact Below.refl _ _ | assumption | refine Below.alloc ?_ (by first | (simp; done) | (simp; omega) | omega) _ | refine Below.setCell ?_ (by first | (simp; done) | (simp; omega) | omega) _ | refine Below.drew ?_ | refine Below.drewN ?_ _))
  go_enter Try.func24, Try.ntmps24
  go_wp2_with fail
  refine (neNode_any _ N _ _ B (HV.out.below (b0.mono hB)) (Nat.le_trans hB b0.size) hs).mono ?_
  rintro e w1 ⟨rfl, bel1⟩
  replace BA := BA.new bel1
  have b1 := b0.trans (bel1.mono b0.size)
  have z1 := b1.size
  clear b0 bel1
  have c0 := BA.cell 0 _ rfl
  have c1 := BA.cell 1 _ rfl
  have c2 := BA.cell 2 _ rfl
  cases hn : ndB N v with
  | false =>
    have HN := Lib.hid hn
    clear hn
    go_wp2_with fail
    go_ret2
    exact PostI.no (nrR_f HN.out) HN.out rfl b1
  | true =>
    have HN := Lib.hid hn
    obtain ⟨p, rfl, hp⟩ := hasN_nat (by rw [ndB, Bool.and_eq_true] at hn; exact hn.2)
    clear hn
    go_wp2_with fail
    refine (neNear_any _ N p _ B (HV.out.below (b1.mono hB)) (Nat.le_trans hB z1) hs hp).mono ?_
    rintro e w2 ⟨a2, cap2, rfl, own2, bel2⟩
    go_wp2_with fail
    go_ret2
    unfold PostI
    rw [nrR_t HN.out, Int.toNat_natCast, HN.out]
    exact ⟨a2, cap2, rfl, Ow.wide own2 z1 (Nat.le_refl _), b1.trans (bel2.mono z1)⟩
set_option maxHeartbeats 400000 in
theorem neighboursOf_any (V : Value) (N : Net) (v : Int) (w : World) (B : Nat) (hv : NetIn w B V N) (hB : B ≤ w.heap.size) (hs : NetSmall N) :
    Calls Try.prog 25 #[V, .int .i64 v] w (PostI (nrR N v) (ndB N v) w) := by
  have HV := Lib.hid hv
  obtain ⟨a, c, vs, ai, ci, ap, cp, rfl, h1, _⟩ := hv
  have hl : N.ends.length ≤ 1048576 := by unfold NetSmall at hs; omega
  have BA := Bx.made w 31 #[.slice a N.ends.length c, .slice ai N.ids.length ci, .slice ap N.inputs.length cp]
  have b0 : Below w.heap.size w (w.alloc (.cells #[.slice a N.ends.length c, .slice ai N.ids.length ci, .slice ap N.inputs.length cp] 31)) := (by repeat (first | exact Below.refl _ _ | assumption | refine Below.alloc ?_ (by first | (simp; done) | (simp; omega) | omega) _ | refine Below.setCell ?_ (by first | (simp; done) | (simp; omega) | omega) _ | refine Below.drew ?_ | refine Below.drewN ?_ _))
  go_enter Try.func25, Try.ntmps25
  go_wp2_with fail
  refine (isNetwork_any _ N _ B (HV.out.below (b0.mono hB)).rd (Nat.le_trans hB b0.size) hs).mono ?_
  rintro e w1 ⟨rfl, bel1⟩
  replace BA := BA.new bel1
  have b1 := b0.trans (bel1.mono b0.size)
  have z1 := b1.size
  clear b0 bel1
  have c0 := BA.cell 0 _ rfl
  have c1 := BA.cell 1 _ rfl
  have c2 := BA.cell 2 _ rfl
  cases hn : netB N with
  | false =>
    have HN := Lib.hid (ndB_f0 (v := v) hn)
    clear hn
    go_wp2_with fail
    go_ret2
    exact PostI.no (nrR_f HN.out) HN.out rfl b1
  | true =>
    have HNN := Lib.hid (ndB_n (v := v) hn)
    clear hn
    go_wp2_with fail
    refine (hasNode_any a ai ap N.ends c _ ci _ cp v _ hl).mono ?_
    rintro e w2 ⟨rfl, bel2⟩
    replace BA := BA.new bel2
    have b2 := b1.trans (bel2.mono z1)
    have z2 := b2.size
    clear b1 bel2 c0 c1 c2
    have c0 := BA.cell 0 _ rfl
    cases hn : hasN N.ends v with
    | false =>
      have HN := Lib.hid (HNN.out.trans hn)
      clear hn
      go_wp2_with fail
      go_ret2
      exact PostI.no (nrR_f HN.out) HN.out rfl b2
    | true =>
      have HN := Lib.hid (HNN.out.trans hn)
      obtain ⟨p, rfl, hp⟩ := hasN_nat hn
      clear hn
      have hL1 := hs.row p hp
      have h12 := RdEE.below h1 (b2.mono hB)
      clear h1
      obtain ⟨g, off, rfl, _, hc1⟩ := Rd.at h12.1 hp
      have hrow := h12.2 p hp
      have HR := Lib.hid (show nrR N p = fsts (rowOf N.ends p) by rw [nrR_t HN.out, Int.toNat_natCast])
      generalize (vs p).1 = ax at *
      generalize (vs p).2 = cx at *
      generalize rowOf N.ends p = es at *
      clear h12
      go_wp2_with fail
      have hB0 : B ≤ w2.heap.size := by omega
      clear hc1 c0
      have HT2 := Lib.hid hL1
      go_loopw [6, 24] (fun v i wr => ∃ k : Nat, k ≤ es.length ∧ i = .int .i64 k ∧ (∃ a cap, v = .slice a k cap ∧ OwI wr w2.heap.size wr.heap.size a cap ((fsts es).take k)) ∧ Below w2.heap.size w2 wr) (fun _ i _ => es.length - (intOf i).toNat)
      case atStart => exact ⟨0, Nat.zero_le _, rfl, ⟨none, 0, rfl, Ow.nil _ _ _ _ _ _ _⟩, Below.refl _ _⟩
      case round =>
        obtain ⟨k, hk, rfl, ⟨a1, cap1, rfl, own1⟩, bel⟩ := hrel
        have hDw := bel.size
        by_cases hlt : k < es.length
        · obtain ⟨g, off, ha9, _, hc1, hc2⟩ := RdE.at (hrow.below (bel.mono hB0)) hlt
          subst ha9
          have hlk : ((fsts es).take k).length = k := by rw [List.length_take, fsts_length]; omega
          have HLK := Lib.hid hlk
          have HT := Lib.hid (fsts_take es k hlt)
          have own1' : Ow wr w2.heap.size wr.heap.size 3 1 a1 k cap1 (fun j => .int .i64 (nth ((fsts es).take k) j)) := by have := own1; unfold OwI at this; rwa [hlk] at this
          clear hlk
          go_wp2_with (at_builtin; refine wpList_app rfl _ _ _ rfl 3 (.int .i64 0) 1 8 Try.underlying23 int_info rfl (by decide) w2.heap.size wr.heap.size a1 k cap1 _ rfl (Ow.alloc (Ow.alloc own1' _) _) ⟨wr.heap.size + 1, 0, none⟩ 1 1 [.int .i64 (nthE es k).1] rfl rfl (by have h := cell_one_new (wr.alloc (.cells #[.int .i64 (nthE es k).1, .int .i64 (nthE es k).2] 69)) (.int .i64 (nthE es k).1) 3; rw [World.size_alloc] at h; exact h) (by simp [Value.oneCell']) (by decide) (by unfold maxLen; omega) (by omega) (by simp; omega) ?_; intro g' cap' w2 own2 hgr _ _)
          go_roundw
          case rel =>
            refine ⟨k + 1, by omega, by go_num, ⟨some ⟨g', 0, none⟩, cap', rfl, ?_⟩, ?_⟩
            · rw [HT.out]; apply OwI.snoc; rw [HLK.out]; exact own2
            · exact below_app ((bel.alloc hDw _).alloc (by simp; omega) _) (Ow.alloc (Ow.alloc own1' _) _) hgr (Nat.le_refl _) (by simp; omega)
          case measure => simp [intOf]; omega
        · obtain rfl : k = es.length := by omega
          go_wp2_with fail
          go_ret2
          have ht : (fsts es).take es.length = fsts es := by rw [← fsts_length]; exact List.take_length
          rw [ht] at own1
          unfold PostI
          rw [HR.out, HN.out]
          exact ⟨a1, cap1, by rw [fsts_length]; rfl, Ow.wide own1 z2 (Nat.le_refl _), b2.trans (bel.mono z2)⟩
end Go.Proofs.Ytpfjglheinomiaa
