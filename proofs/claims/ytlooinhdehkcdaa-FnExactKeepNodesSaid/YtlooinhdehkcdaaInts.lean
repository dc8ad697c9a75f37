/- Contracts of the laws' own functions on []int: eqIntS, markIntS, heldIntS, toIntS. -/
import Derived.Test.YtlooinhdehkcdaaMemB
namespace Go.Proofs.Ytlooinhdehkcdaa
open Go.RowKit
set_option linter.unusedVariables false

theorem below_of_drewN {B m : Nat} {w w' : World} (h : w' = w.drewN m) : Below B w w' := by
  subst h; exact ⟨rfl, rfl, rfl, Nat.le_refl _, fun _ _ => rfl⟩
theorem size_of_drewN {m : Nat} {w w' : World} (h : w' = w.drewN m) : w'.heap.size = w.heap.size := by subst h; rfl
/-- what a function returns that gives a list of ints and a bool: the list in memory of its own -/
def PostI (R : List Int) (ok : Bool) (w : World) (e : Ending) (w' : World) : Prop :=
  ∃ a cap, e = .returned (.tuple #[.slice a R.length cap, .bool ok]) ∧ OwI w' w.heap.size w'.heap.size a cap R ∧ Below w.heap.size w w'
theorem PostI.no {R : List Int} {ok : Bool} {w w' : World} {e : Ending} (hr : R = []) (ho : ok = false) (he : e = .returned (.tuple #[.slice none 0 0, .bool false])) (hb : Below w.heap.size w w') : PostI R ok w e w' := by
  subst hr ho
  exact ⟨none, 0, he, Ow.nil _ _ _ _ _ _ _, hb⟩
/-- the first difference decides -/
theorem eq_of_take {xs ys : List Int} (hl : xs.length = ys.length) (h : ∀ j, j < xs.length → nth xs j = nth ys j) : true = decide (xs = ys) := by
  simp [list_ext_nth hl h]
theorem ne_at {xs ys : List Int} {k : Nat} (h : ¬ nth xs k = nth ys k) : false = decide (xs = ys) := by
  symm; apply decide_eq_false; rintro rfl; exact h rfl
set_option maxHeartbeats 400000 in
theorem eqIntS_any (a b : Option Addr) (c d : Nat) (xs ys : List Int) (w : World) (B B' : Nat) (ha : RdI w B a xs) (hb : RdI w B' b ys) (hx : xs.length ≤ 4611686018427387904) (hy : ys.length ≤ 4611686018427387904) :
    Calls Try.prog 26 #[.slice a xs.length c, .slice b ys.length d] w fun e w' => e = .returned (.bool (decide (xs = ys))) ∧ ∃ m, w' = w.drewN m := by
  by_cases hl : xs.length = ys.length
  · have HL := Lib.hid hl
    have hneq : ((xs.length : Int) != (ys.length : Int)) = false := by simp [hl]
    have hl1 : xs.length ≤ ys.length := by omega
    have hl2 : ys.length ≤ xs.length := by omega
    clear hl
    go_enter Try.func26, Try.ntmps26
    go_wp2_with fail
    go_loopw [5] (fun i wr => ∃ k : Nat, k ≤ xs.length ∧ i = .int .i64 k ∧ (∀ j, j < k → nth xs j = nth ys j) ∧ ∃ m, wr = w.drewN m) (fun i _ => xs.length - (intOf i).toNat)
    case atStart => exact ⟨0, Nat.zero_le _, rfl, fun j h => absurd h (by omega), 0, rfl⟩
    case round =>
      obtain ⟨k, hk, rfl, hall, m, rfl⟩ := hrel
      have Hall := Lib.hid hall
      clear hall
      by_cases hlt : k < xs.length
      · obtain ⟨g, off, rfl, _, hc1⟩ := Rd.at ha hlt
        obtain ⟨g', off', rfl, _, hc2⟩ := Rd.at hb (show k < ys.length by omega)
        have hlt2 : k < ys.length := by omega
        go_wp2_with fail
        go_region
        all_goals go_wp2_with fail
        · have hne : (nth xs k != nth ys k) = true := by assumption
          go_ret
          exact ⟨ret_bool (ne_at (k := k) (by simpa using hne)), m + 1, rfl⟩
        · have hne : (nth xs k != nth ys k) = false := by assumption
          have he : nth xs k = nth ys k := by simpa using hne
          clear hne
          go_roundw
          case rel =>
            refine ⟨k + 1, by omega, by go_num, fun j hj => ?_, m + 1, rfl⟩
            by_cases e : j = k
            · subst e; exact he
            · exact Hall.out j (by omega)
          case measure => simp [intOf]; omega
      · go_wp2_with fail
        go_ret
        exact ⟨ret_bool (eq_of_take HL.out fun j hj => Hall.out j (by omega)), m, rfl⟩
  · have hneq : ((xs.length : Int) != (ys.length : Int)) = true := by simp; omega
    have HL := Lib.hid hl
    clear hl
    go_enter Try.func26, Try.ntmps26
    go_wp2_with fail
    go_ret
    exact ⟨ret_bool (by symm; apply decide_eq_false; intro h; exact HL.out (by rw [h])), 0, rfl⟩
/-- the numbers k, k + 1, .. -/
def from_ (k : Nat) (n : Nat) : List Int := (List.range n).map fun j => ((k + j : Nat) : Int)
theorem from_length (k n : Nat) : (from_ k n).length = n := by simp [from_]
theorem nth_from (k n j : Nat) (h : j < n) : nth (from_ k n) j = ((k + j : Nat) : Int) := by
  rw [nth_eq_getElem _ _ (by rw [from_length]; exact h)]; simp [from_]
set_option maxHeartbeats 400000 in
theorem markIntS_any (a : Option Addr) (cap : Nat) (zs : List Int) (k : Nat) (w : World) (lo hi : Nat) (ha : OwI w lo hi a cap zs) (hl : zs.length + k ≤ 4611686018427387904) :
    Calls Try.prog 27 #[.slice a zs.length cap, .int .i64 k] w fun e w' => e = .returned (.int .i64 (k + zs.length : Nat)) ∧ OwI w' lo hi a cap (from_ k zs.length) ∧ Fr (fun b => blk a cap = some b) w w' := by
  rcases Nat.eq_zero_or_pos zs.length with h0 | h0
  · have hz : zs = [] := List.eq_nil_of_length_eq_zero h0
    subst hz
    go_enter Try.func27, Try.ntmps27
    go_wp2_with fail
    refine wp_loop_rounds 1 ?_; rw [rounds_succ]
    go_wp2_with fail
    go_ret
    exact ⟨by simp, ha, Fr.refl _ _⟩
  · obtain ⟨h1, h2, h3⟩ := ha
    obtain ⟨g, F, rfl, hlo, hhi, hrow, hf⟩ := h3 (by omega)
    have hcap : 0 < cap := by omega
    have hb : blk (some ⟨g, 0, none⟩) cap = some g := by rw [blk, if_neg (by omega)]; rfl
    have HB := Lib.hid hb
    clear hb h3 hf
    rw [Nat.mul_one] at hrow
    go_enter Try.func27, Try.ntmps27
    go_wp2_with fail
    go_loopw [1, 5] (fun q i wr => ∃ j : Nat, j ≤ zs.length ∧ i = .int .i64 j ∧ q = .int .i64 (k + j : Nat) ∧ (∃ F, wr.rowIs g 3 cap F ∧ ∀ x, x < j → F x = .int .i64 (k + x : Nat)) ∧ Fr (fun b => b = g) w wr) (fun _ i _ => zs.length - (intOf i).toNat)
    case atStart => exact ⟨0, Nat.zero_le _, rfl, rfl, ⟨F, hrow, fun x hx => absurd hx (by omega)⟩, Fr.refl _ _⟩
    case round =>
      obtain ⟨j, hj, rfl, rfl, ⟨F1, hrow1, hF1⟩, hfr⟩ := hrel
      have HF1 := Lib.hid hF1
      clear hF1 hrow
      by_cases hlt : j < zs.length
      · have hc := hrow1.cell (i := j) (by omega)
        have hf := hrow1.frozen j
        obtain ⟨u, hu⟩ : ∃ u, F1 j = u := ⟨_, rfl⟩
        rw [hu] at hc
        clear hu
        go_wp2_with fail
        go_roundw
        case rel =>
          refine ⟨j + 1, by omega, by go_num, by go_num, ⟨_, hrow1.set j _, fun x hx => ?_⟩, hfr.setCell (.inl rfl) _⟩
          by_cases e : x = j
          · subst e; simp
          · rw [if_neg e]; exact HF1.out x (by omega)
        case measure => simp [intOf]; omega
      · obtain rfl : j = zs.length := by omega
        go_wp2_with fail
        go_ret
        refine ⟨rfl, ⟨by rw [from_length]; omega, h2, fun _ => ⟨g, F1, rfl, hlo, hhi, by rw [Nat.mul_one]; exact hrow1, fun x hx => ?_⟩⟩, hfr.mono fun b _ e => by rw [HB.out, e]⟩
        rw [from_length, Nat.mul_one] at hx
        rw [HF1.out x hx]; show _ = Value.int .i64 (nth (from_ k zs.length) x); rw [nth_from k _ x hx]
set_option maxHeartbeats 400000 in
theorem heldIntS_any (a : Option Addr) (cap n : Nat) (k : Nat) (w : World) (B : Nat) (ha : RdI w B a (from_ k n)) (hl : n + k ≤ 4611686018427387904) :
    Calls Try.prog 32 #[.slice a n cap, .int .i64 k] w fun e w' => e = .returned (.int .i64 (k + n : Nat)) ∧ ∃ m, w' = w.drewN m := by
  unfold RdI at ha
  rw [from_length] at ha
  go_enter Try.func32, Try.ntmps32
  go_wp2_with fail
  go_loopw [1, 5] (fun q i wr => ∃ j : Nat, j ≤ n ∧ i = .int .i64 j ∧ q = .int .i64 (k + j : Nat) ∧ ∃ m, wr = w.drewN m) (fun _ i _ => n - (intOf i).toNat)
  case atStart => exact ⟨0, Nat.zero_le _, rfl, rfl, 0, rfl⟩
  case round =>
    obtain ⟨j, hj, rfl, rfl, m, rfl⟩ := hrel
    by_cases hlt : j < n
    · obtain ⟨g, off, rfl, _, hc1⟩ := Rd.at ha hlt
      simp only [nth_from k n j hlt] at hc1
      go_wp2_with fail
      go_roundw
      case rel => exact ⟨j + 1, by omega, by go_num, by go_num, m, rfl⟩
      case measure => simp [intOf]; omega
    · obtain rfl : j = n := by omega
      go_wp2_with fail
      go_ret
      exact ⟨rfl, m, rfl⟩
set_option maxHeartbeats 400000 in
theorem toIntS_any (a : Option Addr) (cap : Nat) (zs : List Int) (w : World) (B : Nat) (ha : RdI w B a zs) (hB : B ≤ w.heap.size) (hl : zs.length ≤ 17179869184) :
    Calls Try.prog 24 #[.slice a zs.length cap] w fun e w' => e = .returned (.slice (some ⟨w.heap.size, 0, none⟩) zs.length zs.length) ∧ OwI w' w.heap.size w'.heap.size (some ⟨w.heap.size, 0, none⟩) zs.length zs ∧ Below w.heap.size w w' := by
  obtain ⟨D, hD⟩ : ∃ D, D = w.heap.size := ⟨_, rfl⟩
  have HD := Lib.hid hD
  rw [← hD]
  clear hD
  go_enter Try.func24, Try.ntmps24
  go_wp2_with (at_make; refine wpList_mk _ rfl _ _ _ rfl 3 (.int .i64 0) 8 Try.underlying23 int_info rfl .i64 .i64 _ _ zs.length rfl rfl rfl rfl (by omega) (by omega) ?_; intro w1 hrow hsz hbel; rw [← HD.out] at hrow hbel hsz ⊢)
  go_loopw [4] (fun i wr => ∃ j : Nat, j ≤ zs.length ∧ i = .int .i64 j ∧ (∃ F, wr.rowIs D 3 zs.length F ∧ ∀ x, x < j → F x = .int .i64 (nth zs x)) ∧ Below D w wr) (fun i _ => zs.length - (intOf i).toNat)
  case atStart => exact ⟨0, Nat.zero_le _, rfl, ⟨_, hrow, fun x hx => absurd hx (by omega)⟩, hbel⟩
  case round =>
    obtain ⟨j, hj, rfl, ⟨F1, hrow1, hF1⟩, hbel1⟩ := hrel
    have HF1 := Lib.hid hF1
    clear hF1 hrow hbel
    by_cases hlt : j < zs.length
    · obtain ⟨g, off, rfl, hg, hc0⟩ := Rd.at ha hlt
      have hc1 := (hbel1.cell (p := ⟨g, off + j, none⟩) (show g < D by have := HD.out; omega)).trans hc0
      clear hc0
      have hc := hrow1.cell (i := j) (by omega)
      have hf := hrow1.frozen j
      obtain ⟨u, hu⟩ : ∃ u, F1 j = u := ⟨_, rfl⟩
      rw [hu] at hc
      clear hu
      go_wp2_with fail
      go_roundw
      case rel =>
        refine ⟨j + 1, by omega, by go_num, ⟨_, hrow1.set j _, fun x hx => ?_⟩, hbel1.setCell (Nat.le_refl _) _⟩
        by_cases e : x = j
        · subst e; simp
        · rw [if_neg e]; exact HF1.out x (by omega)
      case measure => simp [intOf]; omega
    · obtain rfl : j = zs.length := by omega
      go_wp2_with fail
      go_ret
      exact ⟨rfl, ⟨Nat.le_refl _, by unfold maxLen; omega, fun _ => ⟨D, F1, rfl, Nat.le_refl _, hrow1.lt, by rw [Nat.mul_one]; exact hrow1, fun x hx => HF1.out x (by omega)⟩⟩, hbel1⟩
end Go.Proofs.Ytlooinhdehkcdaa
