/- GridNetwork. -/
import Derived.Test.YtdchomjdimbenaaPath
namespace Go.Proofs.Ytdchomjdimbenaa
open Go.RowKit
set_option linter.unusedVariables false
set_option linter.unusedSimpArgs false


/-- the edges of a grid with rows of b, of the first nodes -/
def gridE (a b : Nat) : Nat → List (Nat × Nat)
  | 0 => []
  | v + 1 => (gridE a b v ++ if v % b + 1 < b then [(v, v + 1)] else []) ++ if v / b + 1 < a then [(v, v + b)] else []
/-- ahead of the second edge of a node -/
def gridM (a b v : Nat) : List (Nat × Nat) := gridE a b v ++ if v % b + 1 < b then [(v, v + 1)] else []
theorem gridE_succ (a b v : Nat) : gridE a b (v + 1) = gridM a b v ++ if v / b + 1 < a then [(v, v + b)] else [] := rfl
theorem gridM_t {a b v : Nat} (h : v % b + 1 < b) : gridM a b v = gridE a b v ++ [(v, v + 1)] := by rw [gridM, if_pos h]
theorem gridM_f {a b v : Nat} (h : ¬ v % b + 1 < b) : gridM a b v = gridE a b v := by rw [gridM, if_neg h, List.append_nil]
theorem gridE_t {a b v : Nat} (h : v / b + 1 < a) : gridE a b (v + 1) = gridM a b v ++ [(v, v + b)] := by rw [gridE_succ, if_pos h]
theorem gridE_f {a b v : Nat} (h : ¬ v / b + 1 < a) : gridE a b (v + 1) = gridM a b v := by rw [gridE_succ, if_neg h, List.append_nil]
theorem grid_right {a b v : Nat} (hv : v < a * b) (h : v % b + 1 < b) : v + 1 < a * b := by
  have h1 := Nat.div_add_mod v b
  have h2 : v / b < a := Nat.div_lt_of_lt_mul (by rw [Nat.mul_comm]; exact hv)
  have h3 : b * (v / b) + b ≤ b * a := by rw [← Nat.mul_succ]; exact Nat.mul_le_mul_left _ h2
  rw [Nat.mul_comm a b]
  omega
theorem grid_down {a b v : Nat} (hv : v < a * b) (h : v / b + 1 < a) : v + b < a * b := by
  have hb : 0 < b := by
    rcases Nat.eq_zero_or_pos b with rfl | h
    · simp at hv
    · exact h
  have h1 := Nat.div_add_mod v b
  have h2 := Nat.mod_lt v hb
  have h3 : b * (v / b + 1) + b ≤ b * a := by rw [← Nat.mul_succ]; exact Nat.mul_le_mul_left _ h
  rw [Nat.mul_succ] at h3
  rw [Nat.mul_comm a b]
  omega
theorem gridE_in {a b : Nat} (v : Nat) (hv : v ≤ a * b) : EdgesIn (a * b) (gridE a b v) ∧ (v < a * b → EdgesIn (a * b) (gridM a b v)) := by
  induction v with
  | zero =>
    refine ⟨fun e he => absurd he (by simp [gridE]), fun h e he => ?_⟩
    unfold gridM at he
    rw [gridE, List.nil_append] at he
    split at he
    · next hc => rw [List.mem_singleton] at he; subst he; exact ⟨h, grid_right h hc⟩
    · cases he
  | succ v ih =>
    have h0 := (ih (by omega)).2 (by omega)
    have h1 : EdgesIn (a * b) (gridE a b (v + 1)) := fun e he => by
      rw [gridE_succ, List.mem_append] at he
      rcases he with he | he
      · exact h0 e he
      · split at he
        · next hc => rw [List.mem_singleton] at he; subst he; exact ⟨by show v < _; omega, grid_down (by omega) hc⟩
        · cases he
    refine ⟨h1, fun h e he => ?_⟩
    unfold gridM at he
    rw [List.mem_append] at he
    rcases he with he | he
    · exact h1 e he
    · split at he
      · next hc => rw [List.mem_singleton] at he; subst he; exact ⟨h, grid_right h hc⟩
      · cases he
theorem gridE_len (a b v : Nat) : (gridE a b v).length ≤ 2 * v ∧ (gridM a b v).length ≤ 2 * v + 1 := by
  have hm : ∀ v, (gridM a b v).length ≤ (gridE a b v).length + 1 := fun v => by
    unfold gridM; rw [List.length_append]; split <;> simp
  have he : ∀ v, (gridE a b v).length ≤ 2 * v := fun v => by
    induction v with
    | zero => exact Nat.le_refl _
    | succ v ih =>
      rw [gridE_succ, List.length_append]
      have := hm v
      split
      · simp; omega
      · simp; omega
  exact ⟨he v, by have := hm v; have := he v; omega⟩
def gridN (a b : Nat) : Net := joinsN (emptyN (a * b)) (gridE a b (a * b))
def sidesB (a b : Int) : Bool := inR a 1 40 && inR b 1 40 && decide (a * b ≤ 40)
def gdR (a b : Int) : Net := ifN (sidesB a b) (gridN a.toNat b.toNat)
theorem sidesB_t {a b : Int} (h : sidesB a b = true) : ∃ m n : Nat, a = m ∧ b = n ∧ 1 ≤ m ∧ 1 ≤ n ∧ m ≤ 40 ∧ n ≤ 40 ∧ m * n ≤ 40 := by
  unfold sidesB at h
  simp only [Bool.and_eq_true] at h
  obtain ⟨⟨h1, h2⟩, h3⟩ := h
  have h4 := inR_iff.1 h1
  have h5 := inR_iff.1 h2
  obtain ⟨m, rfl⟩ := Int.eq_ofNat_of_zero_le (show 0 ≤ a by omega)
  obtain ⟨n, rfl⟩ := Int.eq_ofNat_of_zero_le (show 0 ≤ b by omega)
  have h6 := of_decide_eq_true h3
  refine ⟨m, n, rfl, rfl, by omega, by omega, by omega, by omega, ?_⟩
  exact_mod_cast h6
theorem gdR_sm {a b : Int} : NetSmall (gdR a b) := ifN_small fun h => by
  obtain ⟨m, n, rfl, rfl, _, _, _, _, h7⟩ := sidesB_t h
  have := (gridE_len m n (m * n)).1
  exact joinsN_small (gridE_in (m * n) (Nat.le_refl _)).1 (by simpa using (by omega : m * n ≤ 1000)) (by simpa using (by omega : (gridE m n (m * n)).length ≤ 10000))
set_option maxHeartbeats 400000 in
theorem buSides_any (a b : Int) (w : World) (ha : -9223372036854775808 ≤ a ∧ a ≤ 9223372036854775807) (hb : -9223372036854775808 ≤ b ∧ b ≤ 9223372036854775807) : Calls Try.prog 56 #[.int .i64 a, .int .i64 b] w fun e w' => e = .returned (.bool (sidesB a b)) ∧ w = w' := by
  cases h1 : inR a 1 40 with
  | false =>
    have H := Lib.hid (show sidesB a b = false by unfold sidesB; rw [h1]; rfl)
    have H1 := Lib.hid h1
    clear h1
    go_enter Try.func56, Try.ntmps56
    go_wp2_with fail
    refine (l1In_any _ _ _ _).mono ?_
    rintro e w' ⟨rfl, rfl⟩
    rw [H1.out]
    go_wp2_with fail
    go_ret
    exact ⟨ret_bool H.out.symm, rfl⟩
  | true =>
    cases h2 : inR b 1 40 with
    | false =>
      have H := Lib.hid (show sidesB a b = false by unfold sidesB; rw [h1, h2]; rfl)
      have H1 := Lib.hid h1
      have H2 := Lib.hid h2
      clear h1 h2
      go_enter Try.func56, Try.ntmps56
      go_wp2_with fail
      refine (l1In_any _ _ _ _).mono ?_
      rintro e w' ⟨rfl, rfl⟩
      rw [H1.out]
      go_wp2_with fail
      refine (l1In_any _ _ _ _).mono ?_
      rintro e w' ⟨rfl, rfl⟩
      rw [H2.out]
      go_wp2_with fail
      go_ret
      exact ⟨ret_bool H.out.symm, rfl⟩
    | true =>
      have H := Lib.hid (show sidesB a b = decide (a * b ≤ 40) by unfold sidesB; rw [h1, h2]; rfl)
      have H1 := Lib.hid h1
      have H2 := Lib.hid h2
      have i1 := inR_iff.1 h1
      have i2 := inR_iff.1 h2
      have i3 : 0 ≤ a * b := Int.mul_nonneg (by omega) (by omega)
      have i4 : a * b ≤ 40 * 40 := Int.mul_le_mul i1.2 i2.2 (by omega) (by omega)
      clear h1 h2
      go_enter Try.func56, Try.ntmps56
      go_wp2_with fail
      refine (l1In_any _ _ _ _).mono ?_
      rintro e w' ⟨rfl, rfl⟩
      rw [H1.out]
      go_wp2_with fail
      refine (l1In_any _ _ _ _).mono ?_
      rintro e w' ⟨rfl, rfl⟩
      rw [H2.out]
      go_wp2_with fail
      go_ret
      exact ⟨ret_bool H.out.symm, rfl⟩
set_option maxHeartbeats 400000 in
theorem gridOk_any (a b : Int) (w : World) (ha : -9223372036854775808 ≤ a ∧ a ≤ 9223372036854775807) (hb : -9223372036854775808 ≤ b ∧ b ≤ 9223372036854775807) : Calls Try.prog 57 #[.int .i64 a, .int .i64 b] w fun e w' => e = .returned (.bool (sidesB a b)) ∧ w = w' := by
  cases h1 : inR a 1 40 with
  | false =>
    have H := Lib.hid (show sidesB a b = false by unfold sidesB; rw [h1]; rfl)
    have H1 := Lib.hid h1
    clear h1
    go_enter Try.func57, Try.ntmps57
    go_wp2_with fail
    refine (within_any _ _ _ _).mono ?_
    rintro e w' ⟨rfl, rfl⟩
    rw [H1.out]
    go_wp2_with fail
    go_ret
    exact ⟨ret_bool H.out.symm, rfl⟩
  | true =>
    cases h2 : inR b 1 40 with
    | false =>
      have H := Lib.hid (show sidesB a b = false by unfold sidesB; rw [h1, h2]; rfl)
      have H1 := Lib.hid h1
      have H2 := Lib.hid h2
      clear h1 h2
      go_enter Try.func57, Try.ntmps57
      go_wp2_with fail
      refine (within_any _ _ _ _).mono ?_
      rintro e w' ⟨rfl, rfl⟩
      rw [H1.out]
      go_wp2_with fail
      refine (within_any _ _ _ _).mono ?_
      rintro e w' ⟨rfl, rfl⟩
      rw [H2.out]
      go_wp2_with fail
      go_ret
      exact ⟨ret_bool H.out.symm, rfl⟩
    | true =>
      have H := Lib.hid (show sidesB a b = decide (a * b ≤ 40) by unfold sidesB; rw [h1, h2]; rfl)
      have H1 := Lib.hid h1
      have H2 := Lib.hid h2
      have i1 := inR_iff.1 h1
      have i2 := inR_iff.1 h2
      have i3 : 0 ≤ a * b := Int.mul_nonneg (by omega) (by omega)
      have i4 : a * b ≤ 40 * 40 := Int.mul_le_mul i1.2 i2.2 (by omega) (by omega)
      clear h1 h2
      go_enter Try.func57, Try.ntmps57
      go_wp2_with fail
      refine (within_any _ _ _ _).mono ?_
      rintro e w' ⟨rfl, rfl⟩
      rw [H1.out]
      go_wp2_with fail
      refine (within_any _ _ _ _).mono ?_
      rintro e w' ⟨rfl, rfl⟩
      rw [H2.out]
      go_wp2_with fail
      go_ret
      exact ⟨ret_bool H.out.symm, rfl⟩
theorem grid_mod {r n s : Nat} (h : s < n) : (r * n + s) % n = s := by rw [Nat.mul_comm, Nat.mul_add_mod, Nat.mod_eq_of_lt h]
theorem grid_div {r n s : Nat} (h : s < n) : (r * n + s) / n = r := by
  rw [Nat.mul_comm, Nat.mul_add_div (by omega), Nat.div_eq_of_lt h, Nat.add_zero]
end Go.Proofs.Ytdchomjdimbenaa
