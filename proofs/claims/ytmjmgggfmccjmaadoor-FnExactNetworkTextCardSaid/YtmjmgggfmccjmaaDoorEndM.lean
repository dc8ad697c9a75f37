/- Rows of ends: eqEndSS, markEndS, markEndSS, heldEndS, heldEndSS. -/
import Derived.Test.YtmjmgggfmccjmaaDoorEnds
namespace Go.Proofs.YtmjmgggfmccjmaaDoor
open Go.RowKit
set_option linter.unusedVariables false
set_option maxHeartbeats 400000 in
theorem eqEndSS_any (a b : Option Addr) (c d : Nat) (xs ys : List (List (Int × Int))) (vx vy : Nat → Option Addr × Nat) (w : World) (lo hi lo' hi' : Nat) (ha : RowsE w lo hi a c xs vx) (hb : RowsE w lo' hi' b d ys vy) (hh : hi ≤ w.heap.size) (hh' : hi' ≤ w.heap.size) (hx : xs.length ≤ 1048576) (hx2 : ∀ j, j < xs.length → (rowOf xs j).length ≤ 1048576) (he : xs = ys) :
    Calls Tryd.prog 39 #[.slice a xs.length c, .slice b ys.length d] w fun e w' => e = .returned (.bool true) ∧ Below w.heap.size w w' := by
  subst he
  have hneq : ((xs.length : Int) != (xs.length : Int)) = false := by simp
  have HX2 := Lib.hid hx2
  clear hx2
  obtain ⟨ha1, ha2, _⟩ := ha
  obtain ⟨hb1, hb2, _⟩ := hb
  have HA2 := Lib.hid ha2
  have HB2 := Lib.hid hb2
  clear ha2 hb2
  go_enter Tryd.func39, Tryd.ntmps39
  go_wp2_with fail
  go_loopw [5] (fun i wr => ∃ k : Nat, k ≤ xs.length ∧ i = .int .i64 k ∧ Below w.heap.size w wr) (fun i _ => xs.length - (intOf i).toNat)
  case atStart => exact ⟨0, Nat.zero_le _, rfl, Below.refl _ _⟩
  case round =>
    obtain ⟨k, hk, rfl, bel⟩ := hrel
    by_cases hlt : k < xs.length
    · obtain ⟨g, off, rfl, _, hc1⟩ := Rd.at (ha1.rd.below (bel.mono hh)) hlt
      obtain ⟨g', off', rfl, _, hc2⟩ := Rd.at (hb1.rd.below (bel.mono hh')) hlt
      have r1 : RdE wr hi (vx k).1 (rowOf xs k) := (HA2.out k hlt).rdE.below (bel.mono hh)
      have r2 : RdE wr hi' (vy k).1 (rowOf xs k) := (HB2.out k hlt).rdE.below (bel.mono hh')
      have hs := bel.size
      have hl2 := HX2.out k hlt
      have HQ : Hid (Calls Tryd.prog 72 #[.slice (vx k).1 (rowOf xs k).length (vx k).2, .slice (vy k).1 (rowOf xs k).length (vy k).2] wr.drew fun e w' => e = .returned (.bool true) ∧ Below wr.heap.size wr.drew w') :=
        eqEndS_any _ _ _ _ (rowOf xs k) (rowOf xs k) wr.drew hi hi' r1 r2 (show hi ≤ wr.heap.size by omega) (show hi' ≤ wr.heap.size by omega) hl2 rfl
      clear r1 r2
      go_wp2_with fail
      go_region_with (go_at_call 72; refine HQ.out.mono ?_; rintro e w2 ⟨rfl, bel2⟩)
      all_goals
        go_wp2_with fail
        go_roundw
        case rel => exact ⟨k + 1, by omega, by go_num, bel.drew.trans (bel2.mono bel.size)⟩
        case measure => simp [intOf]; omega
    · go_wp2_with fail
      go_ret
      exact ⟨rfl, bel⟩
end Go.Proofs.YtmjmgggfmccjmaaDoor
