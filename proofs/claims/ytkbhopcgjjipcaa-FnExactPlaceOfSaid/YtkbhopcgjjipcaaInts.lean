/- Contracts of the laws' own functions on []int: eqIntS, markIntS, heldIntS, toIntS. -/
import Derived.Test.YtkbhopcgjjipcaaMemB
namespace Go.Proofs.Ytkbhopcgjjipcaa
open Go.RowKit
set_option linter.unusedVariables false

theorem below_of_drewN {B m : Nat} {w w' : World} (h : w' = w.drewN m) : Below B w w' := by
  subst h; exact ⟨rfl, rfl, rfl, Nat.le_refl _, fun _ _ => rfl⟩
theorem size_of_drewN {m : Nat} {w w' : World} (h : w' = w.drewN m) : w'.heap.size = w.heap.size := by subst h; rfl
/-- what a function returns that gives a list of ints and a bool: the list in memory of its own -/
def PostI (R : List Int) (ok : Bool) (w : World) (e : Ending) (w' : World) : Prop :=
  ∃ a cap, e = .returned (.tuple #[.slice a R.length cap, .bool ok]) ∧ OwI w' w.heap.size w'.heap.size a cap R ∧ Below w.heap.size w w'
theorem PostI.no {R : List Int} {ok : Bool} {w w' : World} {e : Ending} (hr : R = []) (ho : ok = false) (he : e = .returned (.tuple #[.slice none 0 0, .bool false])) (hb : Below w.heap.size w w') : PostI R ok w e w' := by
  subst hr ho
  exact ⟨none, 0, he, Ow.nil _ _ _ _ _ _ _, hb⟩
/-- the first difference decides -/
theorem eq_of_take {xs ys : List Int} (hl : xs.length = ys.length) (h : ∀ j, j < xs.length → nth xs j = nth ys j) : true = decide (xs = ys) := by
  simp [list_ext_nth hl h]
theorem ne_at {xs ys : List Int} {k : Nat} (h : ¬ nth xs k = nth ys k) : false = decide (xs = ys) := by
  symm; apply decide_eq_false; rintro rfl; exact h rfl
set_option maxHeartbeats 400000 in
theorem eqIntS_any (a b : Option Addr) (c d : Nat) (xs ys : List Int) (w : World) (B B' : Nat) (ha : RdI w B a xs) (hb : RdI w B' b ys) (hx : xs.length ≤ 4611686018427387904) (hy : ys.length ≤ 4611686018427387904) :
    Calls Try.prog 11 #[.slice a xs.length c, .slice b ys.length d] w fun e w' => e = .returned (.bool (decide (xs = ys))) ∧ ∃ m, w' = w.drewN m := by
  by_cases hl : xs.length = ys.length
  · have HL := Lib.hid hl
    have hneq : ((xs.length : Int) != (ys.length : Int)) = false := by simp [hl]
    have hl1 : xs.length ≤ ys.length := by omega
    have hl2 : ys.length ≤ xs.length := by omega
    clear hl
    go_enter Try.func11, Try.ntmps11
    go_wp2_with fail
    go_loopw [5] (fun i wr => ∃ k : Nat, k ≤ xs.length ∧ i = .int .i64 k ∧ (∀ j, j < k → nth xs j = nth ys j) ∧ ∃ m, wr = w.drewN m) (fun i _ => xs.length - (intOf i).toNat)
    case atStart => exact ⟨0, Nat.zero_le _, rfl, fun j h => absurd h (by omega), 0, rfl⟩
    case round =>
      obtain ⟨k, hk, rfl, hall, m, rfl⟩ := hrel
      have Hall := Lib.hid hall
      clear hall
      by_cases hlt : k < xs.length
      · obtain ⟨g, off, rfl, _, hc1⟩ := Rd.at ha hlt
        obtain ⟨g', off', rfl, _, hc2⟩ := Rd.at hb (show k < ys.length by omega)
        have hlt2 : k < ys.length := by omega
        go_wp2_with fail
        go_region
        all_goals go_wp2_with fail
        · have hne : (nth xs k != nth ys k) = true := by assumption
          go_ret
          exact ⟨ret_bool (ne_at (k := k) (by simpa using hne)), m + 1, rfl⟩
        · have hne : (nth xs k != nth ys k) = false := by assumption
          have he : nth xs k = nth ys k := by simpa using hne
          clear hne
          go_roundw
          case rel =>
            refine ⟨k + 1, by omega, by go_num, fun j hj => ?_, m + 1, rfl⟩
            by_cases e : j = k
            · subst e; exact he
            · exact Hall.out j (by omega)
          case measure => simp [intOf]; omega
      · go_wp2_with fail
        go_ret
        exact ⟨ret_bool (eq_of_take HL.out fun j hj => Hall.out j (by omega)), m, rfl⟩
  · have hneq : ((xs.length : Int) != (ys.length : Int)) = true := by simp; omega
    have HL := Lib.hid hl
    clear hl
    go_enter Try.func11, Try.ntmps11
    go_wp2_with fail
    go_ret
    exact ⟨ret_bool (by symm; apply decide_eq_false; intro h; exact HL.out (by rw [h])), 0, rfl⟩
set_option maxHeartbeats 400000 in
theorem toIntS_any (a : Option Addr) (cap : Nat) (zs : List Int) (w : World) (B : Nat) (ha : RdI w B a zs) (hB : B ≤ w.heap.size) (hl : zs.length ≤ 17179869184) :
    Calls Try.prog 9 #[.slice a zs.length cap] w fun e w' => e = .returned (.slice (some ⟨w.heap.size, 0, none⟩) zs.length zs.length) ∧ OwI w' w.heap.size w'.heap.size (some ⟨w.heap.size, 0, none⟩) zs.length zs ∧ Below w.heap.size w w' := by
  obtain ⟨D, hD⟩ : ∃ D, D = w.heap.size := ⟨_, rfl⟩
  have HD := Lib.hid hD
  rw [← hD]
  clear hD
  go_enter Try.func9, Try.ntmps9
  go_wp2_with (at_make; refine wpList_mk _ rfl _ _ _ rfl 3 (.int .i64 0) 8 Try.underlying25 int_info rfl .i64 .i64 _ _ zs.length rfl rfl rfl rfl (by omega) (by omega) ?_; intro w1 hrow hsz hbel; rw [← HD.out] at hrow hbel hsz ⊢)
  go_loopw [4] (fun i wr => ∃ j : Nat, j ≤ zs.length ∧ i = .int .i64 j ∧ (∃ F, wr.rowIs D 3 zs.length F ∧ ∀ x, x < j → F x = .int .i64 (nth zs x)) ∧ Below D w wr) (fun i _ => zs.length - (intOf i).toNat)
  case atStart => exact ⟨0, Nat.zero_le _, rfl, ⟨_, hrow, fun x hx => absurd hx (by omega)⟩, hbel⟩
  case round =>
    obtain ⟨j, hj, rfl, ⟨F1, hrow1, hF1⟩, hbel1⟩ := hrel
    have HF1 := Lib.hid hF1
    clear hF1 hrow hbel
    by_cases hlt : j < zs.length
    · obtain ⟨g, off, rfl, hg, hc0⟩ := Rd.at ha hlt
      have hc1 := (hbel1.cell (p := ⟨g, off + j, none⟩) (show g < D by have := HD.out; omega)).trans hc0
      clear hc0
      have hc := hrow1.cell (i := j) (by omega)
      have hf := hrow1.frozen j
      obtain ⟨u, hu⟩ : ∃ u, F1 j = u := ⟨_, rfl⟩
      rw [hu] at hc
      clear hu
      go_wp2_with fail
      go_roundw
      case rel =>
        refine ⟨j + 1, by omega, by go_num, ⟨_, hrow1.set j _, fun x hx => ?_⟩, hbel1.setCell (Nat.le_refl _) _⟩
        by_cases e : x = j
        · subst e; simp
        · rw [if_neg e]; exact HF1.out x (by omega)
      case measure => simp [intOf]; omega
    · obtain rfl : j = zs.length := by omega
      go_wp2_with fail
      go_ret
      exact ⟨rfl, ⟨Nat.le_refl _, by unfold maxLen; omega, fun _ => ⟨D, F1, rfl, Nat.le_refl _, hrow1.lt, by rw [Nat.mul_one]; exact hrow1, fun x hx => HF1.out x (by omega)⟩⟩, hbel1⟩
end Go.Proofs.Ytkbhopcgjjipcaa
