/- RemoveEdge, KeepNodes: numbersTo; rows of bools, neAll. -/
import Derived.Test.YtlooinhdehkcdaaCutP
import Derived.Test.YtlooinhdehkcdaaView
import Derived.Test.YtlooinhdehkcdaaRep
namespace Go.Proofs.Ytlooinhdehkcdaa
open Go.RowKit
set_option linter.unusedVariables false
set_option linter.unusedSimpArgs false
/-- the numbers 0 to n - 1 -/
def numsL (n : Nat) : List Int := upF (fun v => (v : Int)) n n
theorem numsL_length (n : Nat) : (numsL n).length = n := upF_length ..
theorem numsL_nth {n j : Nat} (h : j < n) : nth (numsL n) j = (j : Int) := by rw [numsL, upF_nth _ _ _ _ h, if_pos h]
set_option maxRecDepth 100000 in
set_option maxHeartbeats 800000 in
theorem numbersTo_any (n : Nat) (w : World) (hn1 : 1 ≤ n) (hn : n ≤ 1048576) :
    Calls Try.prog 56 #[.int .i64 n] w fun e w' => ∃ g, e = .returned (.slice (some ⟨g, 0, none⟩) n n) ∧ OwI w' w.heap.size w'.heap.size (some ⟨g, 0, none⟩) n (numsL n) ∧ Below w.heap.size w w' := by
  obtain ⟨d0, hd0⟩ : ∃ d, d = w.heap.size := ⟨_, rfl⟩
  have HD := Lib.hid hd0
  rw [← hd0]
  clear hd0
  go_enter Try.func56, Try.ntmps56
  go_wp2_with (at_make; refine wpList_mk _ rfl _ _ _ rfl 3 (.int .i64 0) 8 Try.underlying23 int_info rfl .i64 .i64 _ _ n rfl rfl rfl rfl (by omega) (by omega) ?_; intro w1 hrow hsz hbel; rw [← HD.out] at hrow hbel hsz ⊢)
  have hown : OwI w1 d0 w1.heap.size (some ⟨d0, 0, none⟩) n (upF (fun v => (v : Int)) n 0) := by rw [upF_zero]; exact OwI.zeros hrow (Nat.le_refl _) (by omega) (by unfold maxLen; omega)
  have bel1 : Below d0 w w1 := hbel
  clear hrow hsz hbel
  go_loopw [9] (fun iv wr => ∃ k : Nat, k ≤ n ∧ iv = .int .i64 k ∧ OwI wr d0 wr.heap.size (some ⟨d0, 0, none⟩) n (upF (fun v => (v : Int)) n k) ∧ Below d0 w wr) (fun iv _ => n - (intOf iv).toNat)
  case atStart => exact ⟨0, Nat.zero_le _, rfl, hown, bel1⟩
  case round =>
    clear hown bel1
    obtain ⟨k, hk, rfl, hown, bel⟩ := hrel
    have zw := bel.size
    by_cases hlt : k < n
    · obtain ⟨g9, hg9, _, _, _, hc, hf⟩ := OwI.at hown (i := k) (by rw [upF_length]; exact hlt)
      obtain rfl : d0 = g9 := by injection hg9 with h; injection h
      have hput := OwI.put (k : Int) hown (by rw [upF_length]; exact hlt)
      rw [upF_set (fun v => (v : Int)) _ _ hlt] at hput
      clear hg9
      go_wp2_with fail
      have hfr := fr_set wr d0 k (.int .i64 (k : Int))
      go_roundw
      case rel => exact ⟨k + 1, by omega, by go_num, Ow.wide hput (Nat.le_refl _) (by rw [size_set]; exact Nat.le_refl _), bel.trans (hfr.below (B := d0) (fun x h1 h2 hc => by omega) (by have := HD.out; omega))⟩
      case measure => simp [intOf]; omega
    · obtain rfl : k = n := by omega
      go_wp2_with fail
      go_ret
      exact ⟨d0, rfl, hown, bel⟩
end Go.Proofs.Ytlooinhdehkcdaa
