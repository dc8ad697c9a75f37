
/- SubsetRank: contracts and the law. -/
import Derived.Test.YtckjobjmjijjdaaRise
import Derived.Test.YtckjobjmjijjdaaNumC
namespace Go.Proofs.Ytckjobjmjijjdaa
open Go.RowKit
set_option linter.unusedVariables false
/-- the inner loop: count more numbers, from y on -/
def rkStep (n : Int) (q : Int) : Nat → Int → Int → Int
  | 0, _, r => r
  | c + 1, y, r => rkStep n q c (y + 1) (wrap64 (r + chI (n - y - 1) q))
def frm (l : List Int) : Nat → Int
  | 0 => 0
  | k + 1 => nth l k + 1
def rkTo (n : Int) (l : List Int) : Nat → Int
  | 0 => 0
  | k + 1 => rkStep n ((l.length : Int) - (k : Int) - 1) (nth l k - frm l k).toNat (frm l k) (rkTo n l k)
def subOk (n : Int) (l : List Int) : Bool := inR n 0 60 && risB l 0 (n - 1)
def subRk (n : Int) (l : List Int) : Int := if subOk n l then rkTo n l l.length else 0
theorem frm_le {n : Int} {l : List Int} (h : risB l 0 (n - 1) = true) (k : Nat) (hk : k < l.length) : 0 ≤ frm l k ∧ frm l k ≤ nth l k ∧ nth l k ≤ n - 1 := by
  have h1 : Ris l 0 (n - 1) := of_decide_eq_true h
  have h2 := h1 k hk
  cases k with
  | zero => exact ⟨Int.le_refl _, h2.1, h2.2.1⟩
  | succ k =>
    have h3 := h1 k (by omega)
    have h4 := h2.2.2 (by omega)
    rw [Nat.add_sub_cancel] at h4
    exact ⟨by have := h3.1; simp only [frm]; omega, by simp only [frm]; omega, h2.2.1⟩
def SubPost (n : Int) (l : List Int) (w : World) (e : Ending) (w' : World) : Prop := e = .returned (.tuple #[.int .i64 (subRk n l), .bool (subOk n l)]) ∧ Below w.heap.size w w'
set_option maxHeartbeats 400000 in
theorem specSubsetRank_any (n : Int) (a : Option Addr) (cap : Nat) (l : List Int) (w : World) (B : Nat) (ha : RdI w B a l) (hB : B ≤ w.heap.size) (hl : l.length ≤ 1048576) :
    Calls Try.prog 15 #[.int .i64 n, .slice a l.length cap] w (SubPost n l w) := by
  obtain ⟨D, hD⟩ : ∃ D, D = w.heap.size := ⟨_, rfl⟩
  have HD := Lib.hid hD
  clear hD
  by_cases hn : 0 ≤ n ∧ n ≤ 60
  · have hin := inR_t hn.1 hn.2
    obtain ⟨h0, h1⟩ := hn
    cases hr : risB l 0 (n - 1) with
    | true =>
      have HR := Lib.hid hr
      have HO : Hid (subOk n l = true) := by show subOk n l = true; simp [subOk, hin, hr]
      go_enter Try.func15, Try.ntmps15
      go_wp2_with (first | (go_at_call 52; refine (l1In_any _ _ _ _).mono ?_; rintro e w' ⟨rfl, rfl⟩) | (go_at_call 53; refine (l1Rising_any _ _ _ _ _ _ _ ha (by omega)).mono ?_; rintro e w1 ⟨rfl, m, hm⟩; have bel0 : Below D w w1 := below_of_drewN hm; clear hm))
      go_loopw [6, 7, 23] (fun r f i wr => ∃ k : Nat, k ≤ l.length ∧ i = .int .i64 k ∧ f = .int .i64 (frm l k) ∧ r = .int .i64 (rkTo n l k) ∧ Below D w wr) (fun _ _ i _ => l.length - (intOf i).toNat)
      case atStart => exact ⟨0, Nat.zero_le _, rfl, rfl, rfl, bel0⟩
      case round =>
        obtain ⟨k, hk, rfl, rfl, rfl, bel1⟩ := hrel
        by_cases hlt : k < l.length
        · obtain ⟨g, off, rfl, hg, hc⟩ := Rd.at ha hlt
          have hc1 := (bel1.cell (p := ⟨g, off + k, none⟩) (show g < D by have := HD.out; omega)).trans hc
          have hf := frm_le HR.out k hlt
          clear hc
          have hd1 : decide ((k : Int) < (l.length : Int)) = true := decide_eq_true (by omega)
          have HS : Hid (rkTo n l (k + 1) = rkStep n ((l.length : Int) - (k : Int) - 1) (nth l k - frm l k).toNat (frm l k) (rkTo n l k)) := rfl
          go_wp2_with fail
          obtain ⟨wo, rfl⟩ : ∃ wo : World, wo = wr := ⟨_, rfl⟩
          go_loopw [6, 10] (fun r f wr => ∃ y : Int, ∃ s : Int, frm l k ≤ y ∧ y ≤ nth l k ∧ f = .int .i64 y ∧ r = .int .i64 s ∧ rkTo n l (k + 1) = rkStep n ((l.length : Int) - (k : Int) - 1) (nth l k - y).toNat y s ∧ Below D w wr) (fun _ f _ => (100 - intOf f).toNat)
          case atStart => exact ⟨_, _, Int.le_refl _, hf.2.1, rfl, rfl, rfl, bel1⟩
          case round =>
            obtain ⟨y, s, hy1, hy2, rfl, rfl, hs, bel2⟩ := hrel
            have Hs := Lib.hid hs
            clear hs
            by_cases hlt2 : y < nth l k
            · go_wp2_with (go_at_call 54; refine (nuChoose_any _ _ _ (by omega) (by omega)).mono ?_; rintro e w3 ⟨rfl, bel3⟩)
              go_roundw
              case rel =>
                refine ⟨y + 1, _, by omega, by omega, rfl, rfl, ?_, bel2.trans (bel3.mono (by have := HD.out; have := bel2.size; omega))⟩
                rw [Hs.out, show (nth l k - y).toNat = (nth l k - (y + 1)).toNat + 1 by omega]; rfl
              case measure => simp [intOf]; omega
            · obtain rfl : y = nth l k := by omega
              go_wp2_with fail
              go_roundw
              case rel => exact ⟨k + 1, by omega, by go_num, rfl, by rw [Hs.out, Int.sub_self]; rfl, bel2⟩
              case measure => simp [intOf]; omega
        · obtain rfl : k = l.length := by omega
          go_wp2_with fail
          go_ret2
          exact ⟨by rw [subRk, HO.out]; rfl, by rw [← HD.out]; exact bel1⟩
    | false =>
      have HO : Hid (subOk n l = false) := by show subOk n l = false; simp [subOk, hr]
      go_enter Try.func15, Try.ntmps15
      go_wp2_with (first | (go_at_call 52; refine (l1In_any _ _ _ _).mono ?_; rintro e w' ⟨rfl, rfl⟩) | (go_at_call 53; refine (l1Rising_any _ _ _ _ _ _ _ ha (by omega)).mono ?_; rintro e w1 ⟨rfl, m, hm⟩; have bel0 : Below w.heap.size w w1 := below_of_drewN hm; clear hm))
      go_ret2
      exact ⟨by rw [subRk, HO.out]; rfl, bel0⟩
  · have hin := inR_f hn
    clear hn
    have HO : Hid (subOk n l = false) := by show subOk n l = false; simp [subOk, hin]
    go_enter Try.func15, Try.ntmps15
    go_wp2_with (go_at_call 52; refine (l1In_any _ _ _ _).mono ?_; rintro e w' ⟨rfl, rfl⟩)
    go_ret2
    exact ⟨by rw [subRk, HO.out]; rfl, Below.refl _ _⟩
set_option maxHeartbeats 400000 in
theorem implSubsetRank_any (n : Int) (a : Option Addr) (cap : Nat) (l : List Int) (w : World) (B : Nat) (ha : RdI w B a l) (hB : B ≤ w.heap.size) (hl : l.length ≤ 1048576) :
    Calls Try.prog 17 #[.int .i64 n, .slice a l.length cap] w (SubPost n l w) := by
  obtain ⟨D, hD⟩ : ∃ D, D = w.heap.size := ⟨_, rfl⟩
  have HD := Lib.hid hD
  clear hD
  by_cases hn : 0 ≤ n ∧ n ≤ 60
  · have hin := inR_t hn.1 hn.2
    obtain ⟨h0, h1⟩ := hn
    cases hr : risB l 0 (n - 1) with
    | true =>
      have HR := Lib.hid hr
      have HO : Hid (subOk n l = true) := by show subOk n l = true; simp [subOk, hin, hr]
      go_enter Try.func17, Try.ntmps17
      go_wp2_with (first | (go_at_call 55; refine (within_any _ _ _ _).mono ?_; rintro e w' ⟨rfl, rfl⟩) | (go_at_call 56; refine (increasing_any _ _ _ _ _ _ _ ha (by omega)).mono ?_; rintro e w1 ⟨rfl, m, hm⟩; have bel0 : Below D w w1 := below_of_drewN hm; clear hm))
      go_loopw [6, 7, 22] (fun r f i wr => ∃ k : Nat, k ≤ l.length ∧ i = .int .i64 k ∧ f = .int .i64 (frm l k) ∧ r = .int .i64 (rkTo n l k) ∧ Below D w wr) (fun _ _ i _ => l.length - (intOf i).toNat)
      case atStart => exact ⟨0, Nat.zero_le _, rfl, rfl, rfl, bel0⟩
      case round =>
        obtain ⟨k, hk, rfl, rfl, rfl, bel1⟩ := hrel
        by_cases hlt : k < l.length
        · obtain ⟨g, off, rfl, hg, hc⟩ := Rd.at ha hlt
          have hc1 := (bel1.cell (p := ⟨g, off + k, none⟩) (show g < D by have := HD.out; omega)).trans hc
          have hf := frm_le HR.out k hlt
          clear hc
          have hd1 : decide ((k : Int) < (l.length : Int)) = true := decide_eq_true (by omega)
          have HS : Hid (rkTo n l (k + 1) = rkStep n ((l.length : Int) - (k : Int) - 1) (nth l k - frm l k).toNat (frm l k) (rkTo n l k)) := rfl
          go_wp2_with fail
          obtain ⟨wo, rfl⟩ : ∃ wo : World, wo = wr := ⟨_, rfl⟩
          go_loopw [6, 7] (fun r f wr => ∃ y : Int, ∃ s : Int, frm l k ≤ y ∧ y ≤ nth l k ∧ f = .int .i64 y ∧ r = .int .i64 s ∧ rkTo n l (k + 1) = rkStep n ((l.length : Int) - (k : Int) - 1) (nth l k - y).toNat y s ∧ Below D w wr) (fun _ f _ => (100 - intOf f).toNat)
          case atStart => exact ⟨_, _, Int.le_refl _, hf.2.1, rfl, rfl, rfl, bel1⟩
          case round =>
            obtain ⟨y, s, hy1, hy2, rfl, rfl, hs, bel2⟩ := hrel
            have Hs := Lib.hid hs
            clear hs
            by_cases hlt2 : y < nth l k
            · go_wp2_with (go_at_call 57; refine (binomial_any _ _ _ (by omega) (by omega)).mono ?_; rintro e w3 ⟨rfl, bel3⟩)
              go_roundw
              case rel =>
                refine ⟨y + 1, _, by omega, by omega, rfl, rfl, ?_, bel2.trans (bel3.mono (by have := HD.out; have := bel2.size; omega))⟩
                rw [Hs.out, show (nth l k - y).toNat = (nth l k - (y + 1)).toNat + 1 by omega]; rfl
              case measure => simp [intOf]; omega
            · obtain rfl : y = nth l k := by omega
              go_wp2_with fail
              go_roundw
              case rel => exact ⟨k + 1, by omega, by go_num, rfl, by rw [Hs.out, Int.sub_self]; rfl, bel2⟩
              case measure => simp [intOf]; omega
        · obtain rfl : k = l.length := by omega
          go_wp2_with fail
          go_ret2
          exact ⟨by rw [subRk, HO.out]; rfl, by rw [← HD.out]; exact bel1⟩
    | false =>
      have HO : Hid (subOk n l = false) := by show subOk n l = false; simp [subOk, hr]
      go_enter Try.func17, Try.ntmps17
      go_wp2_with (first | (go_at_call 55; refine (within_any _ _ _ _).mono ?_; rintro e w' ⟨rfl, rfl⟩) | (go_at_call 56; refine (increasing_any _ _ _ _ _ _ _ ha (by omega)).mono ?_; rintro e w1 ⟨rfl, m, hm⟩; have bel0 : Below w.heap.size w w1 := below_of_drewN hm; clear hm))
      go_ret2
      exact ⟨by rw [subRk, HO.out]; rfl, bel0⟩
  · have hin := inR_f hn
    clear hn
    have HO : Hid (subOk n l = false) := by show subOk n l = false; simp [subOk, hin]
    go_enter Try.func17, Try.ntmps17
    go_wp2_with (go_at_call 55; refine (within_any _ _ _ _).mono ?_; rintro e w' ⟨rfl, rfl⟩)
    go_ret2
    exact ⟨by rw [subRk, HO.out]; rfl, Below.refl _ _⟩
set_option maxHeartbeats 400000 in
theorem FnExactSubsetRank_walk (n : Int) (a : Option Addr) (cap : Nat) (l : List Int) (w : World) (_ : -9223372036854775808 ≤ n) (_ : n ≤ 9223372036854775807) (ha : RdI w w.heap.size a l) (hi : I64s l) (hm : l.length ≤ maxLen) :
    Calls Try.prog 3 #[.int .i64 n, .slice a l.length cap] w fun e w' => e = .returned (.bool true) ∧ Below w.heap.size w w' := by
  unfold maxLen at hm
  by_cases hlen : l.length ≤ 1048576
  · go_enter Try.func3, Try.ntmps3
    go_wp2_with fail
    refine (toIntS_any a cap l _ _ ha (Nat.le_refl _) (by omega)).mono ?_
    rintro e w1 ⟨rfl, own1, bel1⟩
    go_wp2_with fail
    refine (specSubsetRank_any n _ _ l _ _ own1.rd (by omega) (by omega)).mono ?_
    rintro e w2 ⟨rfl, bel2⟩
    have z1 := bel1.size
    have z2 := bel2.size
    have ha2 := (ha.below bel1).below (bel2.mono z1)
    go_wp2_with fail
    refine (toIntS_any a cap l _ _ ha2 (by omega) (by omega)).mono ?_
    rintro e w3 ⟨rfl, own3, bel3⟩
    go_wp2_with fail
    refine (implSubsetRank_any n _ _ l _ _ own3.rd (by omega) (by omega)).mono ?_
    rintro e w4 ⟨rfl, bel4⟩
    have z3 := bel3.size
    have z4 := bel4.size
    have ha4 := (ha2.below (bel3.mono (by omega))).below (bel4.mono (by omega))
    replace own3 := Ow.new own3 bel4
    go_wp2_with fail
    refine (toIntS_any a cap l _ _ ha4 (by omega) (by omega)).mono ?_
    rintro e w5 ⟨rfl, own5, bel5⟩
    have z5 := bel5.size
    replace own3 := Ow.new own3 bel5
    go_wp2_with fail
    refine (eqIntS_any _ _ _ _ l l _ _ _ own3.rd own5.rd (by omega) (by omega)).mono ?_
    rintro e w6 ⟨rfl, m6, h6⟩
    have bel6 : Below w5.heap.size w5 w6 := below_of_drewN h6
    clear h6
    rw [decide_eq_true rfl]
    go_wp2_with fail
    go_ret
    exact ⟨rfl, bel1.trans ((bel2.mono z1).trans ((bel3.mono (by omega)).trans ((bel4.mono (by omega)).trans ((bel5.mono (by omega)).trans (bel6.mono (by omega))))))⟩
  · go_enter Try.func3, Try.ntmps3
    go_wp2_with fail
    go_ret
    exact ⟨rfl, Below.refl _ _⟩
end Go.Proofs.Ytckjobjmjijjdaa
