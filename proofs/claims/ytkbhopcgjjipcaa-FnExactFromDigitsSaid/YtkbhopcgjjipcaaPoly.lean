/- PolynomialAt: the walks and the law. -/
import Derived.Test.YtkbhopcgjjipcaaBack
import Derived.RangeFuncNested
namespace Go.Proofs.Ytkbhopcgjjipcaa
open Go.RowKit Go.Shelf
set_option linter.unusedVariables false
set_option linter.unusedSimpArgs false
attribute [local go_sem] Oper.semAt_some
/-- the value behind k rounds, from the back -/
def hk (q x : Int) (zs : List Int) : Nat → Int
  | 0 => 0
  | k + 1 => (hk q x zs k * x + nth zs (zs.length - 1 - k)) % q
theorem hk_in {q x : Int} {zs : List Int} (hq : 2 ≤ q) (hq' : q ≤ 1000) (hx : 0 ≤ x) (hz : Sm zs) (k : Nat) : 0 ≤ hk q x zs k ∧ hk q x zs k ≤ 999 := by
  cases k with
  | zero => exact ⟨Int.le_refl 0, show (0 : Int) ≤ 999 by omega⟩
  | succ k =>
    have h1 := Int.emod_nonneg (hk q x zs k * x + nth zs (zs.length - 1 - k)) (b := q) (by omega)
    have h2 := Int.emod_lt_of_pos (hk q x zs k * x + nth zs (zs.length - 1 - k)) (b := q) (by omega)
    simp only [hk]
    omega
theorem boxed_own2 {A B : World} {b : Nat} {t : TypeId} {v : Value} {row : Option Nat} (h : Boxed A b t v) (hg : A.grownBy B row) (hr : ∀ r, row = some r → ∃ o, A.heap[r]? = some o ∧ o.isCells = false) : Boxed B b t v :=
  h.kept hg fun e => by
    obtain ⟨o, h1, h2⟩ := hr b e.symm
    rw [show A.heap[b]? = _ from h] at h1; cases h1; cases h2
theorem boxed_putObj {A : World} {b D : Nat} {t : TypeId} {v : Value} {o : Obj} (o' : Obj) (h : Boxed A b t v) (hD : A.heap[D]? = some o) (hc : o.isCells = false) : Boxed (A.putObj D o') b t v :=
  boxed_own2 h (grownBy_putObj' A D o') fun r e => by cases e; exact ⟨o, hD, hc⟩
def polyOk (q : Int) (l : List Int) (x : Int) : Bool := inR q 2 1000 && primeI q && decide (l.length ≤ 60) && allB l 0 (q - 1) && inR x 0 (q - 1)
def polyR (q : Int) (l : List Int) (x : Int) : Int := if polyOk q l x then hk q x l l.length else 0
def PolyPost (q : Int) (l : List Int) (x : Int) (w : World) (e : Ending) (w' : World) : Prop := e = .returned (.tuple #[.int .i64 (polyR q l x), .bool (polyOk q l x)]) ∧ Below w.heap.size w w'
theorem sm_of {l : List Int} {q : Int} (h : allB l 0 (q - 1) = true) (hq : q ≤ 1000) : Sm l := fun j => by
  by_cases hj : j < l.length
  · have := allB_at h j hj; omega
  · have : nth l j = 0 := by simp [nth, List.getElem?_eq_none (Nat.le_of_not_lt hj)]
    omega
set_option maxRecDepth 100000 in
set_option maxHeartbeats 2000000 in
theorem implPoly_in (q x : Int) (a : Option Addr) (cap : Nat) (l : List Int) (w : World) (ha : RdI w w.heap.size a l) (h1 : 2 ≤ q) (h2 : q ≤ 1000) (hp : primeI q = true) (hl : l.length ≤ 60) (hall : allB l 0 (q - 1) = true) (hx : 0 ≤ x) (hx' : x ≤ q - 1) :
    Calls Try.prog 10 #[.int .i64 q, .slice a l.length cap, .int .i64 x] w fun e w' => e = .returned (.tuple #[.int .i64 (hk q x l l.length), .bool true]) ∧ Below w.heap.size w w' := by
  refine (callsIn_wide (n := 5)).1 ?_
  have i1 := inR_t h1 h2
  have i2 := inR_t hx hx'
  have hz := sm_of hall h2
  have hro : Fence.wide.round = none := rfl
  refine callsIn_of_wp_marks Try.func10 rfl trivial ?_ hro
  simp only [Try.ntmps10, List.size_toArray, List.length_cons, List.length_nil, Nat.reduceAdd, Nat.reduceSub, Array.replicate_succ, Array.replicate_zero, List.push_toArray, List.append_toArray, List.nil_append, List.cons_append]
  have bQ := Boxed.new w 3 (.int .i64 q)
  have bX := Boxed.new (w.alloc (.cells #[.int .i64 q] 3)) 3 (.int .i64 x)
  have b0 : Below w.heap.size w ((w.alloc (.cells #[.int .i64 q] 3)).alloc (.cells #[.int .i64 x] 3)) := ((Below.refl _ w).alloc (Nat.le_refl _) _).alloc (by simp) _
  have ha0 := Rd.below ha b0
  have cQ := (bQ.alloc (.cells #[.int .i64 x] 3)).cell
  have cX := bX.cell
  rw [World.size_alloc] at cX
  have hd60 : decide (60 < (l.length : Int)) = false := decide_eq_false (by omega)
  gi_wp2_with (first
    | (refine ⟨trivial, ?_⟩; refine (backward_in _ _ trivial hro _ _ _ _).mono ?_; rintro e w' ⟨rfl, rfl⟩)
    | (refine ⟨trivial, ?_⟩; gi_at_call 15; refine (callsIn_wide.2 (within_any _ _ _ _)).mono ?_; rintro e w' ⟨rfl, rfl⟩)
    | (refine ⟨trivial, ?_⟩; gi_at_call 21; refine (callsIn_wide.2 (isPrime_any _ _ (by omega) (by omega))).mono ?_; rintro e w' ⟨rfl, rfl⟩)
    | (refine ⟨trivial, ?_⟩; gi_at_call 22; refine (callsIn_wide.2 (allWithin_any _ _ l _ _ _ _ ha0 (by simp; omega) (by omega))).mono ?_; rintro e w1 ⟨rfl, bel1⟩)
    | (gi_at_call 15; refine (callsIn_wide.2 (within_any _ _ _ _)).mono ?_; rintro e w' ⟨rfl, rfl⟩)
    | (gi_at_call 21; refine (callsIn_wide.2 (isPrime_any _ _ (by omega) (by omega))).mono ?_; rintro e w' ⟨rfl, rfl⟩)
    | (gi_at_call 22; refine (callsIn_wide.2 (allWithin_any _ _ l _ _ _ _ ha0 (by simp; omega) (by omega))).mono ?_; rintro e w1 ⟨rfl, bel1⟩))
  have hs1 := bel1.size
  simp only [World.size_alloc] at hs1
  have bQ2 : Boxed w1 w.heap.size 3 (.int .i64 q) := (bel1.block _ (by simp; omega)).trans (bQ.alloc (.cells #[.int .i64 x] 3))
  have bX2 : Boxed w1 (w.heap.size + 1) 3 (.int .i64 x) := by rw [World.size_alloc] at bX; exact (bel1.block _ (by simp)).trans bX
  have bV := Boxed.new w1 3 (.int .i64 0)
  have bS := Boxed.new (w1.alloc (.cells #[.int .i64 0] 3)) 25 (.slice a l.length cap)
  rw [World.size_alloc] at bS
  have hB1 : Below w.heap.size w w1 := b0.trans (bel1.mono (by simp; omega))
  have hB2 : Below w.heap.size w ((w1.alloc (.cells #[.int .i64 0] 3)).alloc (.cells #[.slice a l.length cap] 25)) := (hB1.alloc hB1.size _).alloc (by simp; omega) _
  clear bQ bX b0 ha0 cQ cX
  refine wpIn_rangeFunc_ownG hro (by decide) (gf := 31) (lb := #[.pointer (some ⟨w1.heap.size + 1, 0, none⟩)]) rfl trivial (enters_of Try.func31 (by kernel_rfl) rfl)
    (back_stops Fence.wide 4 trivial hro (by decide) (w1.heap.size + 1) w.heap.size a cap l hz hl _ (by simp; omega) bS (Rd.below ha hB2)) KB.trans (KB.put (by simp; omega) (by simp)) (Below.refl _ _) (fun _ => rfl)
    (fun pre W => (Boxed W w.heap.size 3 (.int .i64 q) ∧ Boxed W (w.heap.size + 1) 3 (.int .i64 x) ∧ ∃ v, Boxed W w1.heap.size 3 (.int .i64 v) ∧ (0 ≤ v ∧ v ≤ 999) ∧ ∀ k, pre = bkTo l hz k → v = hk q x l k) ∧ Below w.heap.size w W)
    (fun _ _ _ => False)
    (OwnFrom.and (Own.from (fun s A B row hs hg hr => by obtain ⟨x1, x2, v, x3, x4⟩ := hs; exact ⟨boxed_own2 x1 hg hr, boxed_own2 x2 hg hr, v, boxed_own2 x3 hg hr, x4⟩) _) (ownFrom_below (Nat.le_refl _) (by simp; omega)))
    (fun c => fun _ _ _ _ hs _ _ => hs)
    ⟨⟨(bQ2.alloc _).alloc _, (bX2.alloc _).alloc _, 0, bV.alloc _, ⟨by omega, by omega⟩, fun k hk' => by have := congrArg List.length hk'; rw [bkTo_length] at this; obtain rfl : k = 0 := this.symm; rfl⟩, hB2⟩
    (fun y => { tmps := #[.int .i64 q, .slice a l.length cap, .int .i64 x, .pointer (some ⟨w.heap.size, 0, none⟩), undef, .pointer (some ⟨w.heap.size + 1, 0, none⟩), .int .i64 0, .bool false, .pointer (some ⟨w1.heap.size, 0, none⟩), undef, .int .i64 y.1.2, .int .i64 q, .bool true, .bool false, .bool false, .int .i64 q, .bool true, .bool false, .bool false, .bool false, .int .i64 x, .int .i64 q, .int .i64 (q - 1), .bool true, .bool false, .bool false, .bool false, .slice a l.length cap, .int .i64 l.length, .bool false, .bool false, .bool false, .slice a l.length cap, .int .i64 q, .int .i64 (q - 1), .bool true, .bool false, .bool false, .slice a l.length cap, .func (.func 31) #[] #[.pointer (some ⟨w1.heap.size + 1, 0, none⟩)], .int .i64 (y.1.1 : Int), .int .i64 y.1.2, undef, undef, undef, undef, undef, undef, undef, undef], defers := [] }) ?assign ?body ?done ?stop
  case assign =>
    intro l x W K hK
    dsimp only [bkEnc]
    gi_wp2
    exact hK
  case body =>
    rintro l0 pre y W ⟨⟨x1, x2, v, x3, ⟨hv0, hv1⟩, hv⟩, hB⟩ hlt
    obtain ⟨⟨j, c⟩, hc0, hc1⟩ := y
    dsimp only at hc0 hc1 ⊢
    have Hv := Lib.hid hv
    clear hv
    have c1 := x1.cell
    have c2 := x2.cell
    have c3 := x3.cell
    have f3 := x3.frozen
    have hm0 : 0 ≤ v * x := Int.mul_nonneg hv0 hx
    have hm1 : v * x ≤ 999 * 999 := Int.mul_le_mul hv1 (by omega) hx (by omega)
    have ht0 := Int.emod_nonneg (v * x + c) (b := q) (by omega)
    have ht1 := Int.emod_lt_of_pos (v * x + c) (b := q) (by omega)
    gi_wp2
    have x3' := x3.set (.int .i64 ((v * x + c) % q))
    refine ⟨(KeepsOthers.setCell _ _ _).from _, KB.set W _ (by omega) (by omega), ⟨x1.other (by omega) _, x2.other (by omega) _, _, x3', ⟨ht0, by omega⟩, fun k hk' => ?_⟩, hB.setCell (p := ⟨w1.heap.size, 0, none⟩) (show w.heap.size ≤ w1.heap.size by omega) _⟩
    obtain ⟨k, rfl⟩ : ∃ k', k = k' + 1 := by
      cases k with
      | zero => exact absurd (congrArg List.length hk') (by simp [bkTo])
      | succ k' => exact ⟨k', rfl⟩
    rw [bkTo_succ] at hk'
    obtain ⟨e1, e2⟩ := List.append_inj' hk' rfl
    have e3 : c = nth l (l.length - 1 - k) := by simpa [bkF] using congrArg (fun z : List Bk => z.map fun y => y.1.2) e2
    rw [Hv.out k e1, e3]; rfl
  case done =>
    rintro D ys W hD rfl ⟨⟨x1, x2, v, x3, ⟨hv0, hv1⟩, hv⟩, hB⟩ hK
    have c3 := x3.cell
    have Hv := Lib.hid (hv _ rfl)
    clear hv
    gi_wp2
    refine ⟨by simp, .inl ⟨_, _, rfl, run_takeDeferred hK, ?_⟩⟩
    refine ⟨.tuple #[.int .i64 v, .bool true], ?_, by rw [Hv.out], hB.trans (belowK_b (w := w) (Nat.le_refl _) W D _ _ (by simp at hD; omega) hK rfl rfl)⟩
    simp [results, Try.f10, go_sem]
  case stop =>
    rintro D c pre W _ _ h _
    exact h.elim

theorem poly_no {q x : Int} {l : List Int} {w w' : World} {e : Ending} (h : polyOk q l x = false) (he : e = .returned (.tuple #[.int .i64 0, .bool false])) (hb : Below w.heap.size w w') : PolyPost q l x w e w' :=
  ⟨by rw [polyR, h, he]; rfl, hb⟩
theorem poly_yes {q x : Int} {l : List Int} {w w' : World} {e : Ending} (h : polyOk q l x = true) (he : e = .returned (.tuple #[.int .i64 (hk q x l l.length), .bool true])) (hb : Below w.heap.size w w') : PolyPost q l x w e w' :=
  ⟨by rw [polyR, h, he]; rfl, hb⟩
set_option maxHeartbeats 400000 in
theorem nuValue_any (q x : Int) (a : Option Addr) (cap : Nat) (l : List Int) (w : World) (B : Nat) (ha : RdI w B a l) (h1 : 2 ≤ q) (h2 : q ≤ 1000) (hz : Sm l) (hl : l.length ≤ 60) (hx : 0 ≤ x) (hx' : x ≤ q - 1) :
    Calls Try.prog 20 #[.int .i64 q, .slice a l.length cap, .int .i64 x] w fun e w' => e = .returned (.int .i64 (hk q x l l.length)) ∧ ∃ m, w' = w.drewN m := by
  go_enter Try.func20, Try.ntmps20
  go_wp2_with fail
  go_loopw [7, 8] (fun v i wr => ∃ k : Nat, k ≤ l.length ∧ i = .int .i64 ((l.length : Int) - 1 - (k : Int)) ∧ v = .int .i64 (hk q x l k) ∧ Qt w wr) (fun _ i _ => (intOf i + 1).toNat)
  case atStart => exact ⟨0, Nat.zero_le _, by simp, rfl, Qt.refl _⟩
  case round =>
    obtain ⟨k, hk1, rfl, rfl, hq⟩ := hrel
    obtain ⟨hv0, hv1⟩ := hk_in h1 h2 (x := x) hx hz k
    by_cases hlt : k < l.length
    · obtain ⟨g, off, rfl, _, hc⟩ := Rd.at (Rd.qt ha hq) (j := l.length - 1 - k) (by omega)
      have hi : ((l.length : Int) - 1 - (k : Int)) = ((l.length - 1 - k : Nat) : Int) := by omega
      have hge : (0 : Int) ≤ ((l.length - 1 - k : Nat) : Int) := by omega
      have hlt2 : l.length - 1 - k < l.length := by omega
      have hsucc : hk q x l (k + 1) = (hk q x l k * x + nth l (l.length - 1 - k)) % q := rfl
      have HS := Lib.hid hsucc
      clear hsucc
      obtain ⟨hc0, hc1⟩ := hz (l.length - 1 - k)
      have HI := Lib.hid hi
      rw [hi]
      clear hi
      generalize hm : l.length - 1 - k = m at *
      have HM := Lib.hid hm
      clear hm
      generalize hk q x l k = v at *
      have hm0 : 0 ≤ v * x := Int.mul_nonneg hv0 hx
      have hm1 : v * x ≤ 999 * 999 := Int.mul_le_mul hv1 (by omega) hx (by omega)
      generalize nth l m = c at *
      have ht0 := Int.emod_nonneg (v * x + c) (b := q) (by omega)
      have ht1 := Int.emod_lt_of_pos (v * x + c) (b := q) (by omega)
      go_wp2_with fail
      go_roundw
      case rel => exact ⟨k + 1, by omega, congrArg (Value.int .i64) (by have := HI.out; omega), by rw [HS.out], hq⟩
      case measure => first | (simp [intOf]; done) | (simp [intOf]; omega)
    · obtain rfl : k = l.length := by omega
      have hge : ¬ (0 : Int) ≤ ((l.length : Int) - 1 - (l.length : Int)) := by omega
      generalize hhv : hk q x l l.length = v at *
      have HV := Lib.hid hhv
      clear hhv
      generalize ((l.length : Int) - 1 - (l.length : Int)) = iv at *
      go_wp2_with fail
      go_ret
      exact ⟨by rw [HV.out]; rfl, hq⟩
set_option maxHeartbeats 1000000 in
theorem specPoly_any (q x : Int) (a : Option Addr) (cap : Nat) (l : List Int) (w : World) (ha : RdI w w.heap.size a l) (hq0 : -9223372036854775808 ≤ q) (hl : l.length ≤ 1048576) :
    Calls Try.prog 8 #[.int .i64 q, .slice a l.length cap, .int .i64 x] w (PolyPost q l x w) := by
  by_cases h1 : 2 ≤ q ∧ q ≤ 1000
  · have i1 := inR_t h1.1 h1.2
    obtain ⟨h1, h2⟩ := h1
    cases hp : primeI q with
    | true =>
      by_cases h6 : l.length ≤ 60
      · have hd : decide (60 < (l.length : Int)) = false := decide_eq_false (by omega)
        have hd' : decide ((l.length : Int) ≤ 60) = true := decide_eq_true (by omega)
        cases hal : allB l 0 (q - 1) with
        | true =>
          by_cases h7 : 0 ≤ x ∧ x ≤ q - 1
          · have i2 := inR_t h7.1 h7.2
            have hok : polyOk q l x = true := by simp [polyOk, i1, i2, hal, hp, h6]
            have Hok := Lib.hid hok
            clear hok
            obtain ⟨hx, hx'⟩ := h7
            have hz := sm_of hal h2
            go_enter Try.func8, Try.ntmps8
            go_wp2_with (first | (go_at_call 14; refine (l1In_any _ _ _ _).mono ?_; rintro e w' ⟨rfl, rfl⟩) | (go_at_call 18; refine (nuPrime_any _ _ (by omega) (by omega)).mono ?_; rintro e w' ⟨rfl, rfl⟩) | (go_at_call 19; refine (l1All_any _ _ l _ _ _ _ ha (by omega)).mono ?_; rintro e w1 ⟨rfl, m1, h1x⟩; have bel1 : Below w.heap.size w w1 := below_of_drewN h1x; clear h1x) | (go_at_call 20; refine (nuValue_any _ _ _ _ l _ _ (Rd.below ha bel1) h1 h2 hz h6 hx hx').mono ?_; rintro e w2 ⟨rfl, m2, h2x⟩; have bel2 : Below w1.heap.size w1 w2 := below_of_drewN h2x; clear h2x))
            go_ret2
            exact poly_yes Hok.out rfl (bel1.trans (bel2.mono bel1.size))
          · have i2 := inR_f h7
            have hok : polyOk q l x = false := by simp [polyOk, i2]
            have Hok := Lib.hid hok
            clear hok h7
            go_enter Try.func8, Try.ntmps8
            go_wp2_with (first | (go_at_call 14; refine (l1In_any _ _ _ _).mono ?_; rintro e w' ⟨rfl, rfl⟩) | (go_at_call 18; refine (nuPrime_any _ _ (by omega) (by omega)).mono ?_; rintro e w' ⟨rfl, rfl⟩) | (go_at_call 19; refine (l1All_any _ _ l _ _ _ _ ha (by omega)).mono ?_; rintro e w1 ⟨rfl, m1, h1x⟩; have bel1 : Below w.heap.size w w1 := below_of_drewN h1x; clear h1x))
            all_goals go_ret2
            all_goals exact poly_no Hok.out rfl (by first | exact Below.refl _ _ | exact bel1)
        | false =>
          have hok : polyOk q l x = false := by simp [polyOk, hal]
          have Hok := Lib.hid hok
          clear hok
          go_enter Try.func8, Try.ntmps8
          go_wp2_with (first | (go_at_call 14; refine (l1In_any _ _ _ _).mono ?_; rintro e w' ⟨rfl, rfl⟩) | (go_at_call 18; refine (nuPrime_any _ _ (by omega) (by omega)).mono ?_; rintro e w' ⟨rfl, rfl⟩) | (go_at_call 19; refine (l1All_any _ _ l _ _ _ _ ha (by omega)).mono ?_; rintro e w1 ⟨rfl, m1, h1x⟩; have bel1 : Below w.heap.size w w1 := below_of_drewN h1x; clear h1x))
          all_goals go_ret2
          all_goals exact poly_no Hok.out rfl (by first | exact Below.refl _ _ | exact bel1)
      · have hd : decide (60 < (l.length : Int)) = true := decide_eq_true (by omega)
        have hd' : decide ((l.length : Int) ≤ 60) = false := decide_eq_false (by omega)
        have hok : polyOk q l x = false := by simp [polyOk, h6]
        have Hok := Lib.hid hok
        clear hok
        go_enter Try.func8, Try.ntmps8
        go_wp2_with (first | (go_at_call 14; refine (l1In_any _ _ _ _).mono ?_; rintro e w' ⟨rfl, rfl⟩) | (go_at_call 18; refine (nuPrime_any _ _ (by omega) (by omega)).mono ?_; rintro e w' ⟨rfl, rfl⟩) | (go_at_call 19; refine (l1All_any _ _ l _ _ _ _ ha (by omega)).mono ?_; rintro e w1 ⟨rfl, m1, h1x⟩; have bel1 : Below w.heap.size w w1 := below_of_drewN h1x; clear h1x))
        all_goals go_ret2
        all_goals exact poly_no Hok.out rfl (by first | exact Below.refl _ _ | exact bel1)
    | false =>
      have hok : polyOk q l x = false := by simp [polyOk, hp]
      have Hok := Lib.hid hok
      clear hok
      go_enter Try.func8, Try.ntmps8
      go_wp2_with (first | (go_at_call 14; refine (l1In_any _ _ _ _).mono ?_; rintro e w' ⟨rfl, rfl⟩) | (go_at_call 18; refine (nuPrime_any _ _ (by omega) (by omega)).mono ?_; rintro e w' ⟨rfl, rfl⟩) | (go_at_call 19; refine (l1All_any _ _ l _ _ _ _ ha (by omega)).mono ?_; rintro e w1 ⟨rfl, m1, h1x⟩; have bel1 : Below w.heap.size w w1 := below_of_drewN h1x; clear h1x))
      all_goals go_ret2
      all_goals exact poly_no Hok.out rfl (by first | exact Below.refl _ _ | exact bel1)
  · have i1 := inR_f h1
    have hok : polyOk q l x = false := by simp [polyOk, i1]
    have Hok := Lib.hid hok
    clear hok h1
    go_enter Try.func8, Try.ntmps8
    go_wp2_with (first | (go_at_call 14; refine (l1In_any _ _ _ _).mono ?_; rintro e w' ⟨rfl, rfl⟩) | (go_at_call 18; refine (nuPrime_any _ _ (by omega) (by omega)).mono ?_; rintro e w' ⟨rfl, rfl⟩) | (go_at_call 19; refine (l1All_any _ _ l _ _ _ _ ha (by omega)).mono ?_; rintro e w1 ⟨rfl, m1, h1x⟩; have bel1 : Below w.heap.size w w1 := below_of_drewN h1x; clear h1x))
    all_goals go_ret2
    all_goals exact poly_no Hok.out rfl (by first | exact Below.refl _ _ | exact bel1)
set_option maxHeartbeats 1000000 in
theorem implPoly_any (q x : Int) (a : Option Addr) (cap : Nat) (l : List Int) (w : World) (ha : RdI w w.heap.size a l) (hq0 : -9223372036854775808 ≤ q) (hl : l.length ≤ 1048576) :
    Calls Try.prog 10 #[.int .i64 q, .slice a l.length cap, .int .i64 x] w (PolyPost q l x w) := by
  have b0 : Below w.heap.size w ((w.alloc (.cells #[.int .i64 q] 3)).alloc (.cells #[.int .i64 x] 3)) := ((Below.refl _ w).alloc (Nat.le_refl _) _).alloc (by simp) _
  have ha0 := Rd.below ha b0
  have cQ := ((Boxed.new w 3 (.int .i64 q)).alloc (.cells #[.int .i64 x] 3)).cell
  have cX := (Boxed.new (w.alloc (.cells #[.int .i64 q] 3)) 3 (.int .i64 x)).cell
  rw [World.size_alloc] at cX
  by_cases h1 : 2 ≤ q ∧ q ≤ 1000
  · have i1 := inR_t h1.1 h1.2
    obtain ⟨h1, h2⟩ := h1
    cases hp : primeI q with
    | true =>
      by_cases h6 : l.length ≤ 60
      · have hd : decide (60 < (l.length : Int)) = false := decide_eq_false (by omega)
        have hd' : decide ((l.length : Int) ≤ 60) = true := decide_eq_true (by omega)
        cases hal : allB l 0 (q - 1) with
        | true =>
          by_cases h7 : 0 ≤ x ∧ x ≤ q - 1
          · have i2 := inR_t h7.1 h7.2
            have hok : polyOk q l x = true := by simp [polyOk, i1, i2, hal, hp, h6]
            have Hok := Lib.hid hok
            clear hok
            refine (implPoly_in q x a cap l w ha h1 h2 hp h6 hal h7.1 h7.2).mono ?_
            rintro e w' ⟨rfl, hb⟩
            exact poly_yes Hok.out rfl hb
          · have i2 := inR_f h7
            have hok : polyOk q l x = false := by simp [polyOk, i2]
            have Hok := Lib.hid hok
            clear hok h7
            go_enter Try.func10, Try.ntmps10
            go_wp2_with (first | (go_at_call 15; refine (within_any _ _ _ _).mono ?_; rintro e w' ⟨rfl, rfl⟩) | (go_at_call 21; refine (isPrime_any _ _ (by omega) (by omega)).mono ?_; rintro e w' ⟨rfl, rfl⟩) | (go_at_call 22; refine (allWithin_any _ _ l _ _ _ _ ha0 (by simp; omega) (by omega)).mono ?_; rintro e w1 ⟨rfl, bel1⟩))
            all_goals go_ret2
            all_goals exact poly_no Hok.out rfl (by first | exact b0 | exact b0.trans (bel1.mono (by simp; omega)))
        | false =>
          have hok : polyOk q l x = false := by simp [polyOk, hal]
          have Hok := Lib.hid hok
          clear hok
          cases i2 : inR x 0 (q - 1) with
          | true =>
            go_enter Try.func10, Try.ntmps10
            go_wp2_with (first | (go_at_call 15; refine (within_any _ _ _ _).mono ?_; rintro e w' ⟨rfl, rfl⟩) | (go_at_call 21; refine (isPrime_any _ _ (by omega) (by omega)).mono ?_; rintro e w' ⟨rfl, rfl⟩) | (go_at_call 22; refine (allWithin_any _ _ l _ _ _ _ ha0 (by simp; omega) (by omega)).mono ?_; rintro e w1 ⟨rfl, bel1⟩))
            all_goals go_ret2
            all_goals exact poly_no Hok.out rfl (by first | exact b0 | exact b0.trans (bel1.mono (by simp; omega)))
          | false =>
            go_enter Try.func10, Try.ntmps10
            go_wp2_with (first | (go_at_call 15; refine (within_any _ _ _ _).mono ?_; rintro e w' ⟨rfl, rfl⟩) | (go_at_call 21; refine (isPrime_any _ _ (by omega) (by omega)).mono ?_; rintro e w' ⟨rfl, rfl⟩) | (go_at_call 22; refine (allWithin_any _ _ l _ _ _ _ ha0 (by simp; omega) (by omega)).mono ?_; rintro e w1 ⟨rfl, bel1⟩))
            all_goals go_ret2
            all_goals exact poly_no Hok.out rfl (by first | exact b0 | exact b0.trans (bel1.mono (by simp; omega)))
      · have hd : decide (60 < (l.length : Int)) = true := decide_eq_true (by omega)
        have hd' : decide ((l.length : Int) ≤ 60) = false := decide_eq_false (by omega)
        have hok : polyOk q l x = false := by simp [polyOk, h6]
        have Hok := Lib.hid hok
        clear hok
        cases i2 : inR x 0 (q - 1) with
        | true =>
          go_enter Try.func10, Try.ntmps10
          go_wp2_with (first | (go_at_call 15; refine (within_any _ _ _ _).mono ?_; rintro e w' ⟨rfl, rfl⟩) | (go_at_call 21; refine (isPrime_any _ _ (by omega) (by omega)).mono ?_; rintro e w' ⟨rfl, rfl⟩) | (go_at_call 22; refine (allWithin_any _ _ l _ _ _ _ ha0 (by simp; omega) (by omega)).mono ?_; rintro e w1 ⟨rfl, bel1⟩))
          all_goals go_ret2
          all_goals exact poly_no Hok.out rfl (by first | exact b0 | exact b0.trans (bel1.mono (by simp; omega)))
        | false =>
          go_enter Try.func10, Try.ntmps10
          go_wp2_with (first | (go_at_call 15; refine (within_any _ _ _ _).mono ?_; rintro e w' ⟨rfl, rfl⟩) | (go_at_call 21; refine (isPrime_any _ _ (by omega) (by omega)).mono ?_; rintro e w' ⟨rfl, rfl⟩) | (go_at_call 22; refine (allWithin_any _ _ l _ _ _ _ ha0 (by simp; omega) (by omega)).mono ?_; rintro e w1 ⟨rfl, bel1⟩))
          all_goals go_ret2
          all_goals exact poly_no Hok.out rfl (by first | exact b0 | exact b0.trans (bel1.mono (by simp; omega)))
    | false =>
      have hok : polyOk q l x = false := by simp [polyOk, hp]
      have Hok := Lib.hid hok
      clear hok
      go_enter Try.func10, Try.ntmps10
      go_wp2_with (first | (go_at_call 15; refine (within_any _ _ _ _).mono ?_; rintro e w' ⟨rfl, rfl⟩) | (go_at_call 21; refine (isPrime_any _ _ (by omega) (by omega)).mono ?_; rintro e w' ⟨rfl, rfl⟩) | (go_at_call 22; refine (allWithin_any _ _ l _ _ _ _ ha0 (by simp; omega) (by omega)).mono ?_; rintro e w1 ⟨rfl, bel1⟩))
      all_goals go_ret2
      all_goals exact poly_no Hok.out rfl (by first | exact b0 | exact b0.trans (bel1.mono (by simp; omega)))
  · have i1 := inR_f h1
    have hok : polyOk q l x = false := by simp [polyOk, i1]
    have Hok := Lib.hid hok
    clear hok h1
    go_enter Try.func10, Try.ntmps10
    go_wp2_with (first | (go_at_call 15; refine (within_any _ _ _ _).mono ?_; rintro e w' ⟨rfl, rfl⟩) | (go_at_call 21; refine (isPrime_any _ _ (by omega) (by omega)).mono ?_; rintro e w' ⟨rfl, rfl⟩) | (go_at_call 22; refine (allWithin_any _ _ l _ _ _ _ ha0 (by simp; omega) (by omega)).mono ?_; rintro e w1 ⟨rfl, bel1⟩))
    all_goals go_ret2
    all_goals exact poly_no Hok.out rfl (by first | exact b0 | exact b0.trans (bel1.mono (by simp; omega)))

set_option maxHeartbeats 1000000 in
theorem FnExactPolynomialAt_walk (q : Int) (a : Option Addr) (cap : Nat) (l : List Int) (x : Int) (w : World) (hq0 : -9223372036854775808 ≤ q) (hq1 : q ≤ 9223372036854775807) (ha : RdI w w.heap.size a l) (hi : I64s l) (hm : l.length ≤ maxLen) (hx0 : -9223372036854775808 ≤ x) (hx1 : x ≤ 9223372036854775807) :
    Calls Try.prog 4 #[.int .i64 q, .slice a l.length cap, .int .i64 x] w fun e w' => e = .returned (.bool true) ∧ Below w.heap.size w w' := by
  unfold maxLen at hm
  by_cases hlen : l.length ≤ 1048576
  · go_enter Try.func4, Try.ntmps4
    go_wp2_with fail
    refine (toIntS_any a cap l _ _ ha (Nat.le_refl _) (by omega)).mono ?_
    rintro e w1 ⟨rfl, own1, bel1⟩
    go_wp2_with fail
    refine (specPoly_any q x _ _ l _ own1.rd hq0 hlen).mono ?_
    rintro e w2 ⟨rfl, bel2⟩
    have z1 := bel1.size
    have z2 := bel2.size
    have ha2 := (ha.below bel1).below (bel2.mono z1)
    go_wp2_with fail
    refine (toIntS_any a cap l _ _ ha2 (by omega) (by omega)).mono ?_
    rintro e w3 ⟨rfl, own3, bel3⟩
    go_wp2_with fail
    refine (implPoly_any q x _ _ l _ own3.rd hq0 hlen).mono ?_
    rintro e w4 ⟨rfl, bel4⟩
    have z3 := bel3.size
    have z4 := bel4.size
    have ha4 := (ha2.below (bel3.mono (by omega))).below (bel4.mono (by omega))
    replace own3 := Ow.new own3 bel4
    go_wp2_with fail
    refine (toIntS_any a cap l _ _ ha4 (by omega) (by omega)).mono ?_
    rintro e w5 ⟨rfl, own5, bel5⟩
    have z5 := bel5.size
    replace own3 := Ow.new own3 bel5
    go_wp2_with fail
    refine (eqIntS_any _ _ _ _ l l _ _ _ own3.rd own5.rd (by omega) (by omega)).mono ?_
    rintro e w6 ⟨rfl, m6, h6⟩
    have bel6 : Below w5.heap.size w5 w6 := below_of_drewN h6
    clear h6
    rw [decide_eq_true rfl]
    go_wp2_with fail
    go_ret
    exact ⟨rfl, bel1.trans ((bel2.mono z1).trans ((bel3.mono (by omega)).trans ((bel4.mono (by omega)).trans ((bel5.mono (by omega)).trans (bel6.mono (by omega))))))⟩
  · go_enter Try.func4, Try.ntmps4
    go_wp2_with fail
    go_ret
    exact ⟨rfl, Below.refl _ _⟩
end Go.Proofs.Ytkbhopcgjjipcaa
