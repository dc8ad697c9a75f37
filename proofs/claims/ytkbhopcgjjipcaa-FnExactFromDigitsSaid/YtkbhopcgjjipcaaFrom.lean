/- FromDigits: the walks and the law. -/
import Derived.Test.YtkbhopcgjjipcaaBack
import Derived.Test.YtkbhopcgjjipcaaPoly
import Derived.RangeFuncNested
namespace Go.Proofs.Ytkbhopcgjjipcaa
open Go.RowKit Go.Shelf
set_option linter.unusedVariables false
set_option linter.unusedSimpArgs false
attribute [local go_sem] Oper.semAt_some
/-- the value behind k rounds, from the back -/
def fdv (b : Int) (zs : List Int) : Nat → Int
  | 0 => 0
  | k + 1 => fdv b zs k * b + nth zs (zs.length - 1 - k)
theorem fdv_nonneg {b : Int} {zs : List Int} (hb : 2 ≤ b) (hz : Sm zs) (k : Nat) : 0 ≤ fdv b zs k := by
  induction k with
  | zero => exact Int.le_refl 0
  | succ k ih => exact Int.add_nonneg (Int.mul_nonneg ih (by omega)) (hz _).1
theorem fdv_step {b : Int} {zs : List Int} (hb : 2 ≤ b) (hz : Sm zs) (k : Nat) : fdv b zs k ≤ fdv b zs (k + 1) := by
  have h0 := fdv_nonneg hb hz k
  have h1 : fdv b zs k * 1 ≤ fdv b zs k * b := Int.mul_le_mul_of_nonneg_left (by omega) h0
  have h2 := (hz (zs.length - 1 - k)).1
  simp only [fdv]
  omega
theorem fdv_le {b : Int} {zs : List Int} (hb : 2 ≤ b) (hz : Sm zs) {k m : Nat} (h : k ≤ m) : fdv b zs k ≤ fdv b zs m := by
  induction m with
  | zero => obtain rfl : k = 0 := by omega
            exact Int.le_refl _
  | succ m ih =>
    by_cases e : k = m + 1
    · rw [e]; exact Int.le_refl _
    · exact Int.le_trans (ih (by omega)) (fdv_step hb hz m)
def fdOk (b : Int) (l : List Int) : Bool := inR b 2 1000 && decide (l.length ≤ 60) && allB l 0 (b - 1) && decide (fdv b l l.length ≤ 1000000000000)
def fdR (b : Int) (l : List Int) : Int := if fdOk b l then fdv b l l.length else 0
def FdPost (b : Int) (l : List Int) (w : World) (e : Ending) (w' : World) : Prop := e = .returned (.tuple #[.int .i64 (fdR b l), .bool (fdOk b l)]) ∧ Below w.heap.size w w'
theorem fd_no {b : Int} {l : List Int} {w w' : World} {e : Ending} (h : fdOk b l = false) (he : e = .returned (.tuple #[.int .i64 0, .bool false])) (hb : Below w.heap.size w w') : FdPost b l w e w' :=
  ⟨by rw [fdR, h, he]; rfl, hb⟩
theorem fd_yes {b : Int} {l : List Int} {w w' : World} {e : Ending} (h : fdOk b l = true) (he : e = .returned (.tuple #[.int .i64 (fdv b l l.length), .bool true])) (hb : Below w.heap.size w w') : FdPost b l w e w' :=
  ⟨by rw [fdR, h, he]; rfl, hb⟩
set_option maxRecDepth 100000 in
set_option maxHeartbeats 2000000 in
theorem implFd_in (q : Int) (a : Option Addr) (cap : Nat) (l : List Int) (w : World) (ha : RdI w w.heap.size a l) (h1 : 2 ≤ q) (h2 : q ≤ 1000) (hl : l.length ≤ 60) (hall : allB l 0 (q - 1) = true) :
    Calls Try.prog 13 #[.int .i64 q, .slice a l.length cap] w fun e w' => ((e = .returned (.tuple #[.int .i64 (fdv q l l.length), .bool true]) ∧ fdv q l l.length ≤ 1000000000000) ∨ (e = .returned (.tuple #[.int .i64 0, .bool false]) ∧ ¬ fdv q l l.length ≤ 1000000000000)) ∧ Below w.heap.size w w' := by
  refine (callsIn_wide (n := 5)).1 ?_
  have i1 := inR_t h1 h2
  have hz := sm_of hall h2
  have hro : Fence.wide.round = none := rfl
  refine callsIn_of_wp_marks Try.func13 rfl trivial ?_ hro
  simp only [Try.ntmps13, List.size_toArray, List.length_cons, List.length_nil, Nat.reduceAdd, Nat.reduceSub, Array.replicate_succ, Array.replicate_zero, List.push_toArray, List.append_toArray, List.nil_append, List.cons_append]
  have bQ := ((Boxed.new w 3 (.int .i64 q)).alloc (.cells #[.int .i64 0] 3)).alloc (.cells #[.bool false] 4)
  have bR := (Boxed.new (w.alloc (.cells #[.int .i64 q] 3)) 3 (.int .i64 0)).alloc (.cells #[.bool false] 4)
  have bO := Boxed.new ((w.alloc (.cells #[.int .i64 q] 3)).alloc (.cells #[.int .i64 0] 3)) 4 (.bool false)
  have b0 : Below w.heap.size w (((w.alloc (.cells #[.int .i64 q] 3)).alloc (.cells #[.int .i64 0] 3)).alloc (.cells #[.bool false] 4)) := (((Below.refl _ w).alloc (Nat.le_refl _) _).alloc (by simp) _).alloc (by simp; omega) _
  have hW0 : (((w.alloc (.cells #[.int .i64 q] 3)).alloc (.cells #[.int .i64 0] 3)).alloc (.cells #[.bool false] 4)).heap.size = w.heap.size + 3 := by simp
  have HW0 := Lib.hid hW0
  clear hW0
  have ha0 := Rd.below ha b0
  simp only [World.size_alloc] at bR bO
  have cQ := bQ.cell
  have hd60 : decide (60 < (l.length : Int)) = false := decide_eq_false (by omega)
  gi_wp2_with (first
    | (refine ⟨trivial, ?_⟩; refine (backward_in _ _ trivial hro _ _ _ _).mono ?_; rintro e w' ⟨rfl, rfl⟩)
    | (refine ⟨trivial, ?_⟩; gi_at_call 15; refine (callsIn_wide.2 (within_any _ _ _ _)).mono ?_; rintro e w' ⟨rfl, rfl⟩)
    | (refine ⟨trivial, ?_⟩; gi_at_call 22; refine (callsIn_wide.2 (allWithin_any _ _ l _ _ _ _ ha0 (by simp; omega) (by omega))).mono ?_; rintro e w1 ⟨rfl, bel1⟩))
  have hs1 := bel1.size
  rw [HW0.out] at hs1
  have bQ2 : Boxed w1 w.heap.size 3 (.int .i64 q) := (bel1.block _ (by first | (simp; done) | (simp; omega))).trans bQ
  have bR2 : Boxed w1 (w.heap.size + 1) 3 (.int .i64 0) := (bel1.block _ (by simp)).trans bR
  have bO2 : Boxed w1 (w.heap.size + 1 + 1) 4 (.bool false) := (bel1.block _ (by simp)).trans bO
  have bV := Boxed.new w1 3 (.int .i64 0)
  have bS := Boxed.new (w1.alloc (.cells #[.int .i64 0] 3)) 25 (.slice a l.length cap)
  rw [World.size_alloc] at bS
  have hB1 : Below w.heap.size w w1 := b0.trans (bel1.mono (by rw [HW0.out]; omega))
  have hB2 : Below w.heap.size w ((w1.alloc (.cells #[.int .i64 0] 3)).alloc (.cells #[.slice a l.length cap] 25)) := (hB1.alloc hB1.size _).alloc (by simp; omega) _
  clear bQ bR bO b0 ha0 cQ HW0 bel1
  refine wpIn_rangeFunc_ownG hro (by decide) (gf := 31) (lb := #[.pointer (some ⟨w1.heap.size + 1, 0, none⟩)]) rfl trivial (enters_of Try.func31 (by kernel_rfl) rfl)
    (back_stops Fence.wide 4 trivial hro (by decide) (w1.heap.size + 1) w.heap.size a cap l hz hl _ (by simp; omega) bS (Rd.below ha hB2)) KB.trans (KB.put (by simp; omega) (by simp)) (Below.refl _ _) (fun _ => rfl)
    (fun pre W => (Boxed W w.heap.size 3 (.int .i64 q) ∧ Boxed W (w.heap.size + 1) 3 (.int .i64 0) ∧ Boxed W (w.heap.size + 1 + 1) 4 (.bool false) ∧ ∃ v, Boxed W w1.heap.size 3 (.int .i64 v) ∧ (0 ≤ v ∧ v ≤ 1000000000000) ∧ ∀ k, pre = bkTo l hz k → v = fdv q l k) ∧ Below w.heap.size w W)
    (fun c pre W => (c = .ret ∧ Boxed W (w.heap.size + 1) 3 (.int .i64 0) ∧ Boxed W (w.heap.size + 1 + 1) 4 (.bool false) ∧ ∀ k, pre = bkTo l hz k → ¬ fdv q l k ≤ 1000000000000) ∧ Below w.heap.size w W)
    (OwnFrom.and (Own.from (fun s A B row hs hg hr => by obtain ⟨x1, x2, x5, v, x3, x4⟩ := hs; exact ⟨boxed_own2 x1 hg hr, boxed_own2 x2 hg hr, boxed_own2 x5 hg hr, v, boxed_own2 x3 hg hr, x4⟩) _) (ownFrom_below (Nat.le_refl _) (by simp; omega)))
    (fun c => OwnFrom.and (Own.from (fun s A B row hs hg hr => by obtain ⟨x0, x1, x2, x3⟩ := hs; exact ⟨x0, boxed_own2 x1 hg hr, boxed_own2 x2 hg hr, x3⟩) _) (ownFrom_below (Nat.le_refl _) (by simp; omega)))
    ⟨⟨(bQ2.alloc _).alloc _, (bR2.alloc _).alloc _, (bO2.alloc _).alloc _, 0, bV.alloc _, ⟨by omega, by omega⟩, fun k hk' => by have := congrArg List.length hk'; rw [bkTo_length] at this; obtain rfl : k = 0 := this.symm; rfl⟩, hB2⟩
    (fun y => { tmps := #[.int .i64 q, .slice a l.length cap, .pointer (some ⟨w.heap.size, 0, none⟩), undef, .pointer (some ⟨w.heap.size + 1, 0, none⟩), .pointer (some ⟨w.heap.size + 1 + 1, 0, none⟩), .pointer (some ⟨w1.heap.size, 0, none⟩), undef, .int .i64 y.1.2, .int .i64 q, .bool true, .bool false, .bool false, .slice a l.length cap, .int .i64 l.length, .bool false, .bool false, .bool false, .slice a l.length cap, .int .i64 q, .int .i64 (q - 1), .bool true, .bool false, .bool false, .slice a l.length cap, .func (.func 31) #[] #[.pointer (some ⟨w1.heap.size + 1, 0, none⟩)], .int .i64 (y.1.1 : Int), .int .i64 y.1.2, undef, undef, undef, undef, undef, undef, undef, undef, undef], defers := [] }) ?assign ?body ?done ?stop
  case assign =>
    intro l x W K hK
    dsimp only [bkEnc]
    gi_wp2
    exact hK
  case body =>
    rintro l0 pre y W ⟨⟨x1, x2, x5, v, x3, ⟨hv0, hv1⟩, hv⟩, hB⟩ hlt
    obtain ⟨⟨j, c⟩, hc0, hc1⟩ := y
    dsimp only at hc0 hc1 ⊢
    have c1 := x1.cell
    have c2 := x2.cell
    have c3 := x3.cell
    have c5 := x5.cell
    have f3 := x3.frozen
    have f2 := x2.frozen
    have f5 := x5.frozen
    have hm0 : 0 ≤ v * q := Int.mul_nonneg hv0 (by omega)
    have hm1 : v * q ≤ 1000000000000 * 1000 := Int.mul_le_mul hv1 (by omega) (by omega) (by omega)
    have hnew : ∀ k, pre ++ [(⟨(j, c), hc0, hc1⟩ : Bk)] = bkTo l hz k → v * q + c = fdv q l k := by
      intro k hk'
      obtain ⟨k, rfl⟩ : ∃ k', k = k' + 1 := by
        cases k with
        | zero => exact absurd (congrArg List.length hk') (by simp [bkTo])
        | succ k' => exact ⟨k', rfl⟩
      rw [bkTo_succ] at hk'
      obtain ⟨e1, e2⟩ := List.append_inj' hk' rfl
      have e3 : c = nth l (l.length - 1 - k) := by simpa [bkF] using congrArg (fun z : List Bk => z.map fun y => y.1.2) e2
      rw [hv k e1, e3]; rfl
    have HN := Lib.hid hnew
    clear hnew hv
    have hBs := hB.setCell (p := ⟨w1.heap.size, 0, none⟩) (show w.heap.size ≤ w1.heap.size by omega) (.int .i64 (v * q + c))
    have x3' := x3.set (.int .i64 (v * q + c))
    have x1' := x1.other (B' := w1.heap.size) (by omega) (.int .i64 (v * q + c))
    have x2' := x2.other (B' := w1.heap.size) (by omega) (.int .i64 (v * q + c))
    have x5' := x5.other (B' := w1.heap.size) (by omega) (.int .i64 (v * q + c))
    have hkb : KB w.heap.size (w1.heap.size + 1) W (W.setCell ⟨w1.heap.size, 0, none⟩ (.int .i64 (v * q + c))) := KB.set W _ (by omega) (by omega)
    by_cases hle : v * q + c ≤ 1000000000000
    · have i3 := inR_t (show 0 ≤ v * q + c by omega) hle
      clear x1 x2 x3 x5
      gi_wp2_with (refine ⟨trivial, ?_⟩; gi_at_call 24; refine (CallsIn.inRound l0 (callsIn_wide.2 (isWhole_any _ _))).mono ?_; rintro e w' ⟨rfl, rfl⟩)
      exact ⟨(KeepsOthers.setCell _ _ _).from _, hkb, ⟨x1', x2', x5', _, x3', ⟨by omega, hle⟩, HN.out⟩, hBs⟩
    · have i3 := inR_f (n := v * q + c) (lo := 0) (hi := 1000000000000) (by omega)
      gi_wp2_with (refine ⟨trivial, ?_⟩; gi_at_call 24; refine (CallsIn.inRound l0 (callsIn_wide.2 (isWhole_any _ _))).mono ?_; rintro e w' ⟨rfl, rfl⟩)
      refine ⟨(((KeepsOthers.setCell _ _ _).trans (KeepsOthers.setCell _ _ _)).trans (KeepsOthers.setCell _ _ _)).from _, ⟨rfl, (x2'.set _).other (by omega) _, (x5'.other (by omega) _).set _, fun k hk' => by rw [← HN.out k hk']; exact hle⟩, (hBs.setCell (p := ⟨w.heap.size + 1, 0, none⟩) (show w.heap.size ≤ w.heap.size + 1 by omega) _).setCell (p := ⟨w.heap.size + 1 + 1, 0, none⟩) (show w.heap.size ≤ w.heap.size + 1 + 1 by omega) _⟩
  case done =>
    rintro D ys W hD rfl ⟨⟨x1, x2, x5, v, x3, ⟨hv0, hv1⟩, hv⟩, hB⟩ hK
    have c3 := x3.cell
    have c2 := x2.cell
    have c5 := x5.cell
    have f2 := x2.frozen
    have f5 := x5.frozen
    have hv := hv _ rfl
    have Hv := Lib.hid hv
    clear hv
    gi_wp2
    have hK' := ((KeepsOthers.setCell W ⟨w.heap.size + 1, 0, none⟩ (.int .i64 v)).trans (KeepsOthers.setCell _ ⟨w.heap.size + 1 + 1, 0, none⟩ (.bool true))).same D _ hK rfl
    refine ⟨by simp, .inl ⟨_, _, rfl, run_takeDeferred hK', ?_⟩⟩
    have d2 := (boxed_putObj (.deferred none) ((x2.set (.int .i64 v)).other (show w.heap.size + 1 ≠ w.heap.size + 1 + 1 by omega) (.bool true)) hK' rfl).cell
    have d5 := (boxed_putObj (.deferred none) ((x5.other (show w.heap.size + 1 + 1 ≠ w.heap.size + 1 by omega) (.int .i64 v)).set (.bool true)) hK' rfl).cell
    refine ⟨.tuple #[.int .i64 v, .bool true], ?_, .inl ⟨by rw [Hv.out], by rw [← Hv.out]; exact hv1⟩, ((hB.setCell (p := ⟨w.heap.size + 1, 0, none⟩) (show w.heap.size ≤ w.heap.size + 1 by omega) _).setCell (p := ⟨w.heap.size + 1 + 1, 0, none⟩) (show w.heap.size ≤ w.heap.size + 1 + 1 by omega) _).trans (belowK_b (w := w) (Nat.le_refl _) _ D _ _ (by simp at hD; omega) hK' rfl rfl)⟩
    simp [results, Try.f13, go_sem, d2, d5]
  case stop =>
    rintro D c pre W hD ⟨k, hk, hpre⟩ ⟨⟨rfl, x2, x5, hbig⟩, hB⟩ hK
    have hgt : ¬ fdv q l l.length ≤ 1000000000000 := by
      have e1 := hbig k hpre
      have e2 := fdv_le h1 hz hk
      omega
    have HG := Lib.hid hgt
    clear hgt hbig hpre
    gi_wp2
    refine ⟨by simp, .inl ⟨_, _, rfl, run_takeDeferred hK, ?_⟩⟩
    have d2 := (boxed_putObj (.deferred none) x2 hK rfl).cell
    have d5 := (boxed_putObj (.deferred none) x5 hK rfl).cell
    refine ⟨.tuple #[.int .i64 0, .bool false], ?_, .inr ⟨rfl, HG.out⟩, hB.trans (belowK_b (w := w) (Nat.le_refl _) W D _ _ (by simp at hD; omega) hK rfl rfl)⟩
    simp [results, Try.f13, go_sem, d2, d5]

/-! both -/

set_option maxHeartbeats 1000000 in
theorem specFd_any (q : Int) (a : Option Addr) (cap : Nat) (l : List Int) (w : World) (ha : RdI w w.heap.size a l) (hq0 : -9223372036854775808 ≤ q) (hl : l.length ≤ 1048576) :
    Calls Try.prog 12 #[.int .i64 q, .slice a l.length cap] w (FdPost q l w) := by
  by_cases h1 : 2 ≤ q ∧ q ≤ 1000
  · have i1 := inR_t h1.1 h1.2
    obtain ⟨h1, h2⟩ := h1
    by_cases h6 : l.length ≤ 60
    · have hd : decide (60 < (l.length : Int)) = false := decide_eq_false (by omega)
      cases hal : allB l 0 (q - 1) with
      | true =>
        have hz := sm_of hal h2
        obtain ⟨D, hD⟩ : ∃ D, D = w.heap.size := ⟨_, rfl⟩
        have HD := Lib.hid hD
        clear hD
        go_enter Try.func12, Try.ntmps12
        go_wp2_with (first | (go_at_call 14; refine (l1In_any _ _ _ _).mono ?_; rintro e w' ⟨rfl, rfl⟩) | (go_at_call 19; refine (l1All_any _ _ l _ _ _ _ ha (by omega)).mono ?_; rintro e w1 ⟨rfl, m1, h1x⟩; have bel1 : Below w.heap.size w w1 := below_of_drewN h1x; clear h1x))
        have ha1 := Rd.below ha bel1
        go_loopw [6, 7] (fun v i wr => ∃ k : Nat, k ≤ l.length ∧ i = .int .i64 ((l.length : Int) - 1 - (k : Int)) ∧ v = .int .i64 (fdv q l k) ∧ fdv q l k ≤ 1000000000000 ∧ Qt w1 wr) (fun _ i _ => (intOf i + 1).toNat)
        case atStart => exact ⟨0, Nat.zero_le _, by simp, rfl, show (0 : Int) ≤ 1000000000000 by omega, Qt.refl _⟩
        case round =>
          obtain ⟨k, hk1, rfl, rfl, hv1, hq⟩ := hrel
          have hv0 := fdv_nonneg h1 hz k
          have belq : Below w.heap.size w wr := bel1.trans (Below.mono (by obtain ⟨mm, hmm⟩ := hq; exact below_of_drewN hmm) bel1.size)
          by_cases hlt : k < l.length
          · obtain ⟨g, off, rfl, _, hc⟩ := Rd.at (Rd.qt ha1 hq) (j := l.length - 1 - k) (by omega)
            have hi : ((l.length : Int) - 1 - (k : Int)) = ((l.length - 1 - k : Nat) : Int) := by omega
            have hge : (0 : Int) ≤ ((l.length - 1 - k : Nat) : Int) := by omega
            have hlt2 : l.length - 1 - k < l.length := by omega
            have hsucc : fdv q l (k + 1) = fdv q l k * q + nth l (l.length - 1 - k) := rfl
            have hmon := fdv_le h1 hz (show k + 1 ≤ l.length by omega)
            obtain ⟨hc0, hc1⟩ := hz (l.length - 1 - k)
            have HI := Lib.hid hi
            rw [hi]
            clear hi
            generalize hm : l.length - 1 - k = m at *
            have HM := Lib.hid hm
            clear hm
            rw [hsucc] at hmon
            have HS := Lib.hid hsucc
            clear hsucc
            have HMO := Lib.hid hmon
            clear hmon
            generalize fdv q l k = v at *
            have hm0 : 0 ≤ v * q := Int.mul_nonneg hv0 (by omega)
            have hm1 : v * q ≤ 1000000000000 * 1000 := Int.mul_le_mul hv1 (by omega) (by omega) (by omega)
            generalize nth l m = c at *
            by_cases hle : v * q + c ≤ 1000000000000
            · go_wp2_with fail
              go_roundw
              case rel => exact ⟨k + 1, by omega, congrArg (Value.int .i64) (by have := HI.out; omega), by rw [HS.out], by rw [HS.out]; exact hle, hq⟩
              case measure => first | (simp [intOf]; done) | (simp [intOf]; omega)
            · have hlt3 : (1000000000000 : Int) < v * q + c := by omega
              have HLE := Lib.hid hle
              clear hle
              go_wp2_with fail
              go_ret2
              refine fd_no ?_ rfl belq
              have e1 : ¬ fdv q l l.length ≤ 1000000000000 := by have := HLE.out; have := HMO.out; omega
              simp [fdOk, e1]
          · obtain rfl : k = l.length := by omega
            have hge : ¬ (0 : Int) ≤ ((l.length : Int) - 1 - (l.length : Int)) := by omega
            have hok : fdOk q l = true := by simp [fdOk, i1, hal, hv1, h6]
            have Hok := Lib.hid hok
            clear hok
            generalize hhv : fdv q l l.length = v at *
            have HV := Lib.hid hhv
            clear hhv
            generalize ((l.length : Int) - 1 - (l.length : Int)) = iv at *
            go_wp2_with fail
            go_ret2
            exact fd_yes Hok.out (by rw [HV.out]; rfl) belq
      | false =>
        have hok : fdOk q l = false := by simp [fdOk, hal]
        have Hok := Lib.hid hok
        clear hok
        go_enter Try.func12, Try.ntmps12
        go_wp2_with (first | (go_at_call 14; refine (l1In_any _ _ _ _).mono ?_; rintro e w' ⟨rfl, rfl⟩) | (go_at_call 19; refine (l1All_any _ _ l _ _ _ _ ha (by omega)).mono ?_; rintro e w1 ⟨rfl, m1, h1x⟩; have bel1 : Below w.heap.size w w1 := below_of_drewN h1x; clear h1x))
        all_goals go_ret2
        all_goals exact fd_no Hok.out rfl (by first | exact Below.refl _ _ | exact bel1)
    · have hd : decide (60 < (l.length : Int)) = true := decide_eq_true (by omega)
      have hok : fdOk q l = false := by simp [fdOk, h6]
      have Hok := Lib.hid hok
      clear hok
      go_enter Try.func12, Try.ntmps12
      go_wp2_with (first | (go_at_call 14; refine (l1In_any _ _ _ _).mono ?_; rintro e w' ⟨rfl, rfl⟩) | (go_at_call 19; refine (l1All_any _ _ l _ _ _ _ ha (by omega)).mono ?_; rintro e w1 ⟨rfl, m1, h1x⟩; have bel1 : Below w.heap.size w w1 := below_of_drewN h1x; clear h1x))
      all_goals go_ret2
      all_goals exact fd_no Hok.out rfl (by first | exact Below.refl _ _ | exact bel1)
  · have i1 := inR_f h1
    have hok : fdOk q l = false := by simp [fdOk, i1]
    have Hok := Lib.hid hok
    clear hok h1
    go_enter Try.func12, Try.ntmps12
    go_wp2_with (first | (go_at_call 14; refine (l1In_any _ _ _ _).mono ?_; rintro e w' ⟨rfl, rfl⟩) | (go_at_call 19; refine (l1All_any _ _ l _ _ _ _ ha (by omega)).mono ?_; rintro e w1 ⟨rfl, m1, h1x⟩; have bel1 : Below w.heap.size w w1 := below_of_drewN h1x; clear h1x))
    all_goals go_ret2
    all_goals exact fd_no Hok.out rfl (by first | exact Below.refl _ _ | exact bel1)

set_option maxHeartbeats 1000000 in
theorem implFd_any (q : Int) (a : Option Addr) (cap : Nat) (l : List Int) (w : World) (ha : RdI w w.heap.size a l) (hq0 : -9223372036854775808 ≤ q) (hl : l.length ≤ 1048576) :
    Calls Try.prog 13 #[.int .i64 q, .slice a l.length cap] w (FdPost q l w) := by
  have b0 : Below w.heap.size w (((w.alloc (.cells #[.int .i64 q] 3)).alloc (.cells #[.int .i64 0] 3)).alloc (.cells #[.bool false] 4)) := (((Below.refl _ w).alloc (Nat.le_refl _) _).alloc (by simp) _).alloc (by simp; omega) _
  have ha0 := Rd.below ha b0
  have cQ := (((Boxed.new w 3 (.int .i64 q)).alloc (.cells #[.int .i64 0] 3)).alloc (.cells #[.bool false] 4)).cell
  have bR := (Boxed.new (w.alloc (.cells #[.int .i64 q] 3)) 3 (.int .i64 0)).alloc (.cells #[.bool false] 4)
  have bO := Boxed.new ((w.alloc (.cells #[.int .i64 q] 3)).alloc (.cells #[.int .i64 0] 3)) 4 (.bool false)
  simp only [World.size_alloc] at bR bO
  have cR := bR.cell
  have cO := bO.cell
  have fR := bR.frozen
  have fO := bO.frozen
  by_cases h1 : 2 ≤ q ∧ q ≤ 1000
  · have i1 := inR_t h1.1 h1.2
    obtain ⟨h1, h2⟩ := h1
    by_cases h6 : l.length ≤ 60
    · have hd : decide (60 < (l.length : Int)) = false := decide_eq_false (by omega)
      cases hal : allB l 0 (q - 1) with
      | true =>
        refine (implFd_in q a cap l w ha h1 h2 h6 hal).mono ?_
        rintro e w' ⟨⟨rfl, hle⟩ | ⟨rfl, hle⟩, hb⟩
        · exact fd_yes (by simp [fdOk, i1, hal, hle, h6]) rfl hb
        · exact fd_no (by simp [fdOk, hle]) rfl hb
      | false =>
        have hok : fdOk q l = false := by simp [fdOk, hal]
        have Hok := Lib.hid hok
        clear hok
        go_enter Try.func13, Try.ntmps13
        go_wp2_with (first | (go_at_call 15; refine (within_any _ _ _ _).mono ?_; rintro e w' ⟨rfl, rfl⟩) | (go_at_call 22; refine (allWithin_any _ _ l _ _ _ _ ha0 (by simp; omega) (by omega)).mono ?_; rintro e w1 ⟨rfl, bel1⟩; have bR2 : Boxed w1 (w.heap.size + 1) 3 (.int .i64 0) := (bel1.block _ (by simp)).trans bR; have bO2 : Boxed w1 (w.heap.size + 1 + 1) 4 (.bool false) := (bel1.block _ (by simp)).trans bO; have cR2 := bR2.cell; have cO2 := bO2.cell; have fR2 := bR2.frozen; have fO2 := bO2.frozen))
        all_goals (refine ⟨rfl, .tuple #[.int .i64 0, .bool false], ?_, fd_no Hok.out rfl ?_⟩)
        all_goals first
          | (first
             | (have d2 := ((bR2.set (.int .i64 0)).other (show w.heap.size + 1 ≠ w.heap.size + 1 + 1 by omega) (.bool false)).cell
                have d5 := ((bO2.other (show w.heap.size + 1 + 1 ≠ w.heap.size + 1 by omega) (.int .i64 0)).set (.bool false)).cell
                simp [results, Try.f13, go_sem, d2, d5]; done)
             | (have d2 := ((bR.set (.int .i64 0)).other (show w.heap.size + 1 ≠ w.heap.size + 1 + 1 by omega) (.bool false)).cell
                have d5 := ((bO.other (show w.heap.size + 1 + 1 ≠ w.heap.size + 1 by omega) (.int .i64 0)).set (.bool false)).cell
                simp [results, Try.f13, go_sem, d2, d5]; done))
          | exact ((b0.trans (bel1.mono (by simp; omega))).setCell (p := ⟨w.heap.size + 1, 0, none⟩) (show w.heap.size ≤ w.heap.size + 1 by omega) _).setCell (p := ⟨w.heap.size + 1 + 1, 0, none⟩) (show w.heap.size ≤ w.heap.size + 1 + 1 by omega) _
          | exact (b0.setCell (p := ⟨w.heap.size + 1, 0, none⟩) (show w.heap.size ≤ w.heap.size + 1 by omega) _).setCell (p := ⟨w.heap.size + 1 + 1, 0, none⟩) (show w.heap.size ≤ w.heap.size + 1 + 1 by omega) _
          | exact b0
          | exact b0.trans (bel1.mono (by simp; omega))
          | trace_state
    · have hd : decide (60 < (l.length : Int)) = true := decide_eq_true (by omega)
      have hok : fdOk q l = false := by simp [fdOk, h6]
      have Hok := Lib.hid hok
      clear hok
      go_enter Try.func13, Try.ntmps13
      go_wp2_with (first | (go_at_call 15; refine (within_any _ _ _ _).mono ?_; rintro e w' ⟨rfl, rfl⟩) | (go_at_call 22; refine (allWithin_any _ _ l _ _ _ _ ha0 (by simp; omega) (by omega)).mono ?_; rintro e w1 ⟨rfl, bel1⟩; have bR2 : Boxed w1 (w.heap.size + 1) 3 (.int .i64 0) := (bel1.block _ (by simp)).trans bR; have bO2 : Boxed w1 (w.heap.size + 1 + 1) 4 (.bool false) := (bel1.block _ (by simp)).trans bO; have cR2 := bR2.cell; have cO2 := bO2.cell; have fR2 := bR2.frozen; have fO2 := bO2.frozen))
      all_goals (refine ⟨rfl, .tuple #[.int .i64 0, .bool false], ?_, fd_no Hok.out rfl ?_⟩)
      all_goals first
        | (first
           | (have d2 := ((bR2.set (.int .i64 0)).other (show w.heap.size + 1 ≠ w.heap.size + 1 + 1 by omega) (.bool false)).cell
              have d5 := ((bO2.other (show w.heap.size + 1 + 1 ≠ w.heap.size + 1 by omega) (.int .i64 0)).set (.bool false)).cell
              simp [results, Try.f13, go_sem, d2, d5]; done)
           | (have d2 := ((bR.set (.int .i64 0)).other (show w.heap.size + 1 ≠ w.heap.size + 1 + 1 by omega) (.bool false)).cell
              have d5 := ((bO.other (show w.heap.size + 1 + 1 ≠ w.heap.size + 1 by omega) (.int .i64 0)).set (.bool false)).cell
              simp [results, Try.f13, go_sem, d2, d5]; done))
        | exact ((b0.trans (bel1.mono (by simp; omega))).setCell (p := ⟨w.heap.size + 1, 0, none⟩) (show w.heap.size ≤ w.heap.size + 1 by omega) _).setCell (p := ⟨w.heap.size + 1 + 1, 0, none⟩) (show w.heap.size ≤ w.heap.size + 1 + 1 by omega) _
        | exact (b0.setCell (p := ⟨w.heap.size + 1, 0, none⟩) (show w.heap.size ≤ w.heap.size + 1 by omega) _).setCell (p := ⟨w.heap.size + 1 + 1, 0, none⟩) (show w.heap.size ≤ w.heap.size + 1 + 1 by omega) _
        | exact b0
        | exact b0.trans (bel1.mono (by simp; omega))
        | trace_state
  · have i1 := inR_f h1
    have hok : fdOk q l = false := by simp [fdOk, i1]
    have Hok := Lib.hid hok
    clear hok h1
    go_enter Try.func13, Try.ntmps13
    go_wp2_with (first | (go_at_call 15; refine (within_any _ _ _ _).mono ?_; rintro e w' ⟨rfl, rfl⟩) | (go_at_call 22; refine (allWithin_any _ _ l _ _ _ _ ha0 (by simp; omega) (by omega)).mono ?_; rintro e w1 ⟨rfl, bel1⟩; have bR2 : Boxed w1 (w.heap.size + 1) 3 (.int .i64 0) := (bel1.block _ (by simp)).trans bR; have bO2 : Boxed w1 (w.heap.size + 1 + 1) 4 (.bool false) := (bel1.block _ (by simp)).trans bO; have cR2 := bR2.cell; have cO2 := bO2.cell; have fR2 := bR2.frozen; have fO2 := bO2.frozen))
    all_goals (refine ⟨rfl, .tuple #[.int .i64 0, .bool false], ?_, fd_no Hok.out rfl ?_⟩)
    all_goals first
      | (first
         | (have d2 := ((bR2.set (.int .i64 0)).other (show w.heap.size + 1 ≠ w.heap.size + 1 + 1 by omega) (.bool false)).cell
            have d5 := ((bO2.other (show w.heap.size + 1 + 1 ≠ w.heap.size + 1 by omega) (.int .i64 0)).set (.bool false)).cell
            simp [results, Try.f13, go_sem, d2, d5]; done)
         | (have d2 := ((bR.set (.int .i64 0)).other (show w.heap.size + 1 ≠ w.heap.size + 1 + 1 by omega) (.bool false)).cell
            have d5 := ((bO.other (show w.heap.size + 1 + 1 ≠ w.heap.size + 1 by omega) (.int .i64 0)).set (.bool false)).cell
            simp [results, Try.f13, go_sem, d2, d5]; done))
      | exact ((b0.trans (bel1.mono (by simp; omega))).setCell (p := ⟨w.heap.size + 1, 0, none⟩) (show w.heap.size ≤ w.heap.size + 1 by omega) _).setCell (p := ⟨w.heap.size + 1 + 1, 0, none⟩) (show w.heap.size ≤ w.heap.size + 1 + 1 by omega) _
      | exact (b0.setCell (p := ⟨w.heap.size + 1, 0, none⟩) (show w.heap.size ≤ w.heap.size + 1 by omega) _).setCell (p := ⟨w.heap.size + 1 + 1, 0, none⟩) (show w.heap.size ≤ w.heap.size + 1 + 1 by omega) _
      | exact b0
      | exact b0.trans (bel1.mono (by simp; omega))
      | trace_state

set_option maxHeartbeats 1000000 in
theorem FnExactFromDigits_walk (q : Int) (a : Option Addr) (cap : Nat) (l : List Int) (w : World) (hq0 : -9223372036854775808 ≤ q) (hq1 : q ≤ 9223372036854775807) (ha : RdI w w.heap.size a l) (hi : I64s l) (hm : l.length ≤ maxLen) :
    Calls Try.prog 5 #[.int .i64 q, .slice a l.length cap] w fun e w' => e = .returned (.bool true) ∧ Below w.heap.size w w' := by
  unfold maxLen at hm
  by_cases hlen : l.length ≤ 1048576
  · go_enter Try.func5, Try.ntmps5
    go_wp2_with fail
    refine (toIntS_any a cap l _ _ ha (Nat.le_refl _) (by omega)).mono ?_
    rintro e w1 ⟨rfl, own1, bel1⟩
    go_wp2_with fail
    refine (specFd_any q _ _ l _ own1.rd hq0 hlen).mono ?_
    rintro e w2 ⟨rfl, bel2⟩
    have z1 := bel1.size
    have z2 := bel2.size
    have ha2 := (ha.below bel1).below (bel2.mono z1)
    go_wp2_with fail
    refine (toIntS_any a cap l _ _ ha2 (by omega) (by omega)).mono ?_
    rintro e w3 ⟨rfl, own3, bel3⟩
    go_wp2_with fail
    refine (implFd_any q _ _ l _ own3.rd hq0 hlen).mono ?_
    rintro e w4 ⟨rfl, bel4⟩
    have z3 := bel3.size
    have z4 := bel4.size
    have ha4 := (ha2.below (bel3.mono (by omega))).below (bel4.mono (by omega))
    replace own3 := Ow.new own3 bel4
    go_wp2_with fail
    refine (toIntS_any a cap l _ _ ha4 (by omega) (by omega)).mono ?_
    rintro e w5 ⟨rfl, own5, bel5⟩
    have z5 := bel5.size
    replace own3 := Ow.new own3 bel5
    go_wp2_with fail
    refine (eqIntS_any _ _ _ _ l l _ _ _ own3.rd own5.rd (by omega) (by omega)).mono ?_
    rintro e w6 ⟨rfl, m6, h6⟩
    have bel6 : Below w5.heap.size w5 w6 := below_of_drewN h6
    clear h6
    rw [decide_eq_true rfl]
    go_wp2_with fail
    go_ret
    exact ⟨rfl, bel1.trans ((bel2.mono z1).trans ((bel3.mono (by omega)).trans ((bel4.mono (by omega)).trans ((bel5.mono (by omega)).trans (bel6.mono (by omega))))))⟩
  · go_enter Try.func5, Try.ntmps5
    go_wp2_with fail
    go_ret
    exact ⟨rfl, Below.refl _ _⟩
end Go.Proofs.Ytkbhopcgjjipcaa
