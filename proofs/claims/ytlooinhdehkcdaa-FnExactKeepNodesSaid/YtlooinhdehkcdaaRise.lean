/- Contracts: increasing, l1Rising, l1All: lists of ints that are read. -/
import Derived.Test.YtlooinhdehkcdaaNumA
import Derived.Test.YtlooinhdehkcdaaInts
namespace Go.Proofs.Ytlooinhdehkcdaa
open Go.RowKit
set_option linter.unusedVariables false
def RisAt (l : List Int) (lo hi : Int) (j : Nat) : Prop := lo ≤ nth l j ∧ nth l j ≤ hi ∧ (0 < j → nth l (j - 1) < nth l j)
def Ris (l : List Int) (lo hi : Int) : Prop := ∀ j, j < l.length → RisAt l lo hi j
instance (l : List Int) (lo hi : Int) (j : Nat) : Decidable (RisAt l lo hi j) := by unfold RisAt; infer_instance
instance (l : List Int) (lo hi : Int) : Decidable (Ris l lo hi) := by unfold Ris; infer_instance
def risB (l : List Int) (lo hi : Int) : Bool := decide (Ris l lo hi)
theorem risB_t {l : List Int} {lo hi : Int} (h : ∀ j, j < l.length → RisAt l lo hi j) : true = risB l lo hi := by symm; exact decide_eq_true h
theorem risB_f {l : List Int} {lo hi : Int} {k : Nat} (hk : k < l.length) (h : ¬ RisAt l lo hi k) : false = risB l lo hi := by symm; exact decide_eq_false fun hr => h (hr k hk)

set_option maxHeartbeats 400000 in
theorem l1Rising_any (a : Option Addr) (cap : Nat) (l : List Int) (lo hi : Int) (w : World) (B : Nat) (ha : RdI w B a l) (hl : l.length ≤ 4611686018427387904) :
    Calls Try.prog 58 #[.slice a l.length cap, .int .i64 lo, .int .i64 hi] w fun e w' => e = .returned (.bool (risB l lo hi)) ∧ ∃ m, w' = w.drewN m := by
  go_enter Try.func58, Try.ntmps58
  go_wp2_with fail
  go_loopw [11] (fun i wr => ∃ k : Nat, k ≤ l.length ∧ i = .int .i64 k ∧ (∀ j, j < k → RisAt l lo hi j) ∧ ∃ m, wr = w.drewN m) (fun i _ => l.length - (intOf i).toNat)
  case atStart => exact ⟨0, Nat.zero_le _, rfl, fun j h => absurd h (by omega), 0, rfl⟩
  case round =>
    obtain ⟨k, hk, rfl, hall, m, rfl⟩ := hrel
    have Hall := Lib.hid hall
    clear hall
    by_cases hlt : k < l.length
    · obtain ⟨g, off, rfl, _, hc1⟩ := Rd.at ha hlt
      by_cases hr : RisAt l lo hi k
      · have hin := inR_t hr.1 hr.2.1
        have HR := Lib.hid hr
        clear hr
        cases k with
        | zero =>
          rw [Nat.add_zero] at hc1
          go_wp2_with (go_at_call 69; refine (l1In_any _ _ _ _).mono ?_; rintro e w' ⟨rfl, rfl⟩)
          go_roundw
          case rel => exact ⟨1, by omega, rfl, fun j hj => by rw [show j = 0 by omega]; exact HR.out, m, rfl⟩
          case measure => simp [intOf]; omega
        | succ k =>
          have hlt2 := HR.out.2.2 (by omega)
          rw [Nat.add_sub_cancel] at hlt2
          obtain ⟨g2, off2, he, _, hc2⟩ := Rd.at ha (show k < l.length by omega)
          injection he with he
          injection he with he1 he2
          subst he1 he2
          have hg1 : decide (nth l (k + 1) ≤ nth l k) = false := by simp; omega
          have hg0 : decide ((0 : Int) < (k : Int) + 1) = true := decide_eq_true (by omega)
          go_wp2_with (go_at_call 69; refine (l1In_any _ _ _ _).mono ?_; rintro e w' ⟨rfl, rfl⟩)
          go_roundw
          case rel =>
            refine ⟨k + 1 + 1, by omega, by go_num, fun j hj => ?_, m, rfl⟩
            by_cases e : j = k + 1
            · rw [e]; exact HR.out
            · exact Hall.out j (by omega)
          case measure => simp [intOf]; omega
      · have HR := Lib.hid hr
        by_cases hi' : lo ≤ nth l k ∧ nth l k ≤ hi
        · have hin := inR_t hi'.1 hi'.2
          cases k with
          | zero => exact absurd ⟨hi'.1, hi'.2, fun h => absurd h (by omega)⟩ hr
          | succ k =>
            have hge : nth l (k + 1) ≤ nth l k := by
              apply Decidable.byContradiction
              intro hc
              exact hr ⟨hi'.1, hi'.2, fun _ => by rw [Nat.add_sub_cancel]; omega⟩
            obtain ⟨g2, off2, he, _, hc2⟩ := Rd.at ha (show k < l.length by omega)
            injection he with he
            injection he with he1 he2
            subst he1 he2
            clear hi' hr
            have hg1 : decide (nth l (k + 1) ≤ nth l k) = true := by simp; omega
            have hg0 : decide ((0 : Int) < (k : Int) + 1) = true := decide_eq_true (by omega)
            go_wp2_with (go_at_call 69; refine (l1In_any _ _ _ _).mono ?_; rintro e w' ⟨rfl, rfl⟩)
            go_ret
            exact ⟨ret_bool (risB_f hlt HR.out), m, rfl⟩
        · have hin := inR_f hi'
          clear hi' hr
          go_wp2_with (go_at_call 69; refine (l1In_any _ _ _ _).mono ?_; rintro e w' ⟨rfl, rfl⟩)
          go_ret
          exact ⟨ret_bool (risB_f hlt HR.out), m, rfl⟩
    · go_wp2_with fail
      go_ret
      exact ⟨ret_bool (risB_t fun j hj => Hall.out j (by omega)), m, rfl⟩
set_option maxHeartbeats 400000 in
theorem increasing_any (a : Option Addr) (cap : Nat) (l : List Int) (lo hi : Int) (w : World) (B : Nat) (ha : RdI w B a l) (hl : l.length ≤ 4611686018427387904) :
    Calls Try.prog 60 #[.slice a l.length cap, .int .i64 lo, .int .i64 hi] w fun e w' => e = .returned (.bool (risB l lo hi)) ∧ ∃ m, w' = w.drewN m := by
  go_enter Try.func60, Try.ntmps60
  go_wp2_with fail
  go_loopw [11] (fun i wr => ∃ k : Nat, k ≤ l.length ∧ i = .int .i64 k ∧ (∀ j, j < k → RisAt l lo hi j) ∧ ∃ m, wr = w.drewN m) (fun i _ => l.length - (intOf i).toNat)
  case atStart => exact ⟨0, Nat.zero_le _, rfl, fun j h => absurd h (by omega), 0, rfl⟩
  case round =>
    obtain ⟨k, hk, rfl, hall, m, rfl⟩ := hrel
    have Hall := Lib.hid hall
    clear hall
    by_cases hlt : k < l.length
    · obtain ⟨g, off, rfl, _, hc1⟩ := Rd.at ha hlt
      by_cases hr : RisAt l lo hi k
      · have hin := inR_t hr.1 hr.2.1
        have HR := Lib.hid hr
        clear hr
        cases k with
        | zero =>
          rw [Nat.add_zero] at hc1
          go_wp2_with (go_at_call 74; refine (within_any _ _ _ _).mono ?_; rintro e w' ⟨rfl, rfl⟩)
          go_roundw
          case rel => exact ⟨1, by omega, rfl, fun j hj => by rw [show j = 0 by omega]; exact HR.out, m, rfl⟩
          case measure => simp [intOf]; omega
        | succ k =>
          have hlt2 := HR.out.2.2 (by omega)
          rw [Nat.add_sub_cancel] at hlt2
          obtain ⟨g2, off2, he, _, hc2⟩ := Rd.at ha (show k < l.length by omega)
          injection he with he
          injection he with he1 he2
          subst he1 he2
          have hg1 : decide (nth l (k + 1) ≤ nth l k) = false := by simp; omega
          have hg0 : decide ((0 : Int) < (k : Int) + 1) = true := decide_eq_true (by omega)
          go_wp2_with (go_at_call 74; refine (within_any _ _ _ _).mono ?_; rintro e w' ⟨rfl, rfl⟩)
          go_roundw
          case rel =>
            refine ⟨k + 1 + 1, by omega, by go_num, fun j hj => ?_, m, rfl⟩
            by_cases e : j = k + 1
            · rw [e]; exact HR.out
            · exact Hall.out j (by omega)
          case measure => simp [intOf]; omega
      · have HR := Lib.hid hr
        by_cases hi' : lo ≤ nth l k ∧ nth l k ≤ hi
        · have hin := inR_t hi'.1 hi'.2
          cases k with
          | zero => exact absurd ⟨hi'.1, hi'.2, fun h => absurd h (by omega)⟩ hr
          | succ k =>
            have hge : nth l (k + 1) ≤ nth l k := by
              apply Decidable.byContradiction
              intro hc
              exact hr ⟨hi'.1, hi'.2, fun _ => by rw [Nat.add_sub_cancel]; omega⟩
            obtain ⟨g2, off2, he, _, hc2⟩ := Rd.at ha (show k < l.length by omega)
            injection he with he
            injection he with he1 he2
            subst he1 he2
            clear hi' hr
            have hg1 : decide (nth l (k + 1) ≤ nth l k) = true := by simp; omega
            have hg0 : decide ((0 : Int) < (k : Int) + 1) = true := decide_eq_true (by omega)
            go_wp2_with (go_at_call 74; refine (within_any _ _ _ _).mono ?_; rintro e w' ⟨rfl, rfl⟩)
            go_ret
            exact ⟨ret_bool (risB_f hlt HR.out), m, rfl⟩
        · have hin := inR_f hi'
          clear hi' hr
          go_wp2_with (go_at_call 74; refine (within_any _ _ _ _).mono ?_; rintro e w' ⟨rfl, rfl⟩)
          go_ret
          exact ⟨ret_bool (risB_f hlt HR.out), m, rfl⟩
    · go_wp2_with fail
      go_ret
      exact ⟨ret_bool (risB_t fun j hj => Hall.out j (by omega)), m, rfl⟩
end Go.Proofs.Ytlooinhdehkcdaa
