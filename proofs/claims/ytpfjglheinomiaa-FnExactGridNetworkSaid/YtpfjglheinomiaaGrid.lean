/- GridNetwork. -/
import Derived.Test.YtpfjglheinomiaaPath
namespace Go.Proofs.Ytpfjglheinomiaa
open Go.RowKit
set_option linter.unusedVariables false
set_option linter.unusedSimpArgs false


/-- the edges of a grid with rows of b, of the first nodes -/
def gridE (a b : Nat) : Nat → List (Nat × Nat)
  | 0 => []
  | v + 1 => (gridE a b v ++ if v % b + 1 < b then [(v, v + 1)] else []) ++ if v / b + 1 < a then [(v, v + b)] else []
/-- ahead of the second edge of a node -/
def gridM (a b v : Nat) : List (Nat × Nat) := gridE a b v ++ if v % b + 1 < b then [(v, v + 1)] else []
theorem gridE_succ (a b v : Nat) : gridE a b (v + 1) = gridM a b v ++ if v / b + 1 < a then [(v, v + b)] else [] := rfl
theorem gridM_t {a b v : Nat} (h : v % b + 1 < b) : gridM a b v = gridE a b v ++ [(v, v + 1)] := by rw [gridM, if_pos h]
theorem gridM_f {a b v : Nat} (h : ¬ v % b + 1 < b) : gridM a b v = gridE a b v := by rw [gridM, if_neg h, List.append_nil]
theorem gridE_t {a b v : Nat} (h : v / b + 1 < a) : gridE a b (v + 1) = gridM a b v ++ [(v, v + b)] := by rw [gridE_succ, if_pos h]
theorem gridE_f {a b v : Nat} (h : ¬ v / b + 1 < a) : gridE a b (v + 1) = gridM a b v := by rw [gridE_succ, if_neg h, List.append_nil]
theorem grid_right {a b v : Nat} (hv : v < a * b) (h : v % b + 1 < b) : v + 1 < a * b := by
  have h1 := Nat.div_add_mod v b
  have h2 : v / b < a := Nat.div_lt_of_lt_mul (by rw [Nat.mul_comm]; exact hv)
  have h3 : b * (v / b) + b ≤ b * a := by rw [← Nat.mul_succ]; exact Nat.mul_le_mul_left _ h2
  rw [Nat.mul_comm a b]
  omega
theorem grid_down {a b v : Nat} (hv : v < a * b) (h : v / b + 1 < a) : v + b < a * b := by
  have hb : 0 < b := by
    rcases Nat.eq_zero_or_pos b with rfl | h
    · simp at hv
    · exact h
  have h1 := Nat.div_add_mod v b
  have h2 := Nat.mod_lt v hb
  have h3 : b * (v / b + 1) + b ≤ b * a := by rw [← Nat.mul_succ]; exact Nat.mul_le_mul_left _ h
  rw [Nat.mul_succ] at h3
  rw [Nat.mul_comm a b]
  omega
theorem gridE_in {a b : Nat} (v : Nat) (hv : v ≤ a * b) : EdgesIn (a * b) (gridE a b v) ∧ (v < a * b → EdgesIn (a * b) (gridM a b v)) := by
  induction v with
  | zero =>
    refine ⟨fun e he => absurd he (by simp [gridE]), fun h e he => ?_⟩
    unfold gridM at he
    rw [gridE, List.nil_append] at he
    split at he
    · next hc => rw [List.mem_singleton] at he; subst he; exact ⟨h, grid_right h hc⟩
    · cases he
  | succ v ih =>
    have h0 := (ih (by omega)).2 (by omega)
    have h1 : EdgesIn (a * b) (gridE a b (v + 1)) := fun e he => by
      rw [gridE_succ, List.mem_append] at he
      rcases he with he | he
      · exact h0 e he
      · split at he
        · next hc => rw [List.mem_singleton] at he; subst he; exact ⟨by show v < _; omega, grid_down (by omega) hc⟩
        · cases he
    refine ⟨h1, fun h e he => ?_⟩
    unfold gridM at he
    rw [List.mem_append] at he
    rcases he with he | he
    · exact h1 e he
    · split at he
      · next hc => rw [List.mem_singleton] at he; subst he; exact ⟨h, grid_right h hc⟩
      · cases he
theorem gridE_len (a b v : Nat) : (gridE a b v).length ≤ 2 * v ∧ (gridM a b v).length ≤ 2 * v + 1 := by
  have hm : ∀ v, (gridM a b v).length ≤ (gridE a b v).length + 1 := fun v => by
    unfold gridM; rw [List.length_append]; split <;> simp
  have he : ∀ v, (gridE a b v).length ≤ 2 * v := fun v => by
    induction v with
    | zero => exact Nat.le_refl _
    | succ v ih =>
      rw [gridE_succ, List.length_append]
      have := hm v
      split
      · simp; omega
      · simp; omega
  exact ⟨he v, by have := hm v; have := he v; omega⟩
def gridN (a b : Nat) : Net := joinsN (emptyN (a * b)) (gridE a b (a * b))
def sidesB (a b : Int) : Bool := inR a 1 40 && inR b 1 40 && decide (a * b ≤ 40)
def gdR (a b : Int) : Net := ifN (sidesB a b) (gridN a.toNat b.toNat)
theorem sidesB_t {a b : Int} (h : sidesB a b = true) : ∃ m n : Nat, a = m ∧ b = n ∧ 1 ≤ m ∧ 1 ≤ n ∧ m ≤ 40 ∧ n ≤ 40 ∧ m * n ≤ 40 := by
  unfold sidesB at h
  simp only [Bool.and_eq_true] at h
  obtain ⟨⟨h1, h2⟩, h3⟩ := h
  have h4 := inR_iff.1 h1
  have h5 := inR_iff.1 h2
  obtain ⟨m, rfl⟩ := Int.eq_ofNat_of_zero_le (show 0 ≤ a by omega)
  obtain ⟨n, rfl⟩ := Int.eq_ofNat_of_zero_le (show 0 ≤ b by omega)
  have h6 := of_decide_eq_true h3
  refine ⟨m, n, rfl, rfl, by omega, by omega, by omega, by omega, ?_⟩
  exact_mod_cast h6
theorem gdR_sm {a b : Int} : NetSmall (gdR a b) := ifN_small fun h => by
  obtain ⟨m, n, rfl, rfl, _, _, _, _, h7⟩ := sidesB_t h
  have := (gridE_len m n (m * n)).1
  exact joinsN_small (gridE_in (m * n) (Nat.le_refl _)).1 (by simpa using (by omega : m * n ≤ 1000)) (by simpa using (by omega : (gridE m n (m * n)).length ≤ 10000))
set_option maxHeartbeats 400000 in
theorem buSides_any (a b : Int) (w : World) (ha : -9223372036854775808 ≤ a ∧ a ≤ 9223372036854775807) (hb : -9223372036854775808 ≤ b ∧ b ≤ 9223372036854775807) : Calls Try.prog 81 #[.int .i64 a, .int .i64 b] w fun e w' => e = .returned (.bool (sidesB a b)) ∧ w = w' := by
  cases h1 : inR a 1 40 with
  | false =>
    have H := Lib.hid (show sidesB a b = false by unfold sidesB; rw [h1]; rfl)
    have H1 := Lib.hid h1
    clear h1
    go_enter Try.func81, Try.ntmps81
    go_wp2_with fail
    refine (l1In_any _ _ _ _).mono ?_
    rintro e w' ⟨rfl, rfl⟩
    rw [H1.out]
    go_wp2_with fail
    go_ret
    exact ⟨ret_bool H.out.symm, rfl⟩
  | true =>
    cases h2 : inR b 1 40 with
    | false =>
      have H := Lib.hid (show sidesB a b = false by unfold sidesB; rw [h1, h2]; rfl)
      have H1 := Lib.hid h1
      have H2 := Lib.hid h2
      clear h1 h2
      go_enter Try.func81, Try.ntmps81
      go_wp2_with fail
      refine (l1In_any _ _ _ _).mono ?_
      rintro e w' ⟨rfl, rfl⟩
      rw [H1.out]
      go_wp2_with fail
      refine (l1In_any _ _ _ _).mono ?_
      rintro e w' ⟨rfl, rfl⟩
      rw [H2.out]
      go_wp2_with fail
      go_ret
      exact ⟨ret_bool H.out.symm, rfl⟩
    | true =>
      have H := Lib.hid (show sidesB a b = decide (a * b ≤ 40) by unfold sidesB; rw [h1, h2]; rfl)
      have H1 := Lib.hid h1
      have H2 := Lib.hid h2
      have i1 := inR_iff.1 h1
      have i2 := inR_iff.1 h2
      have i3 : 0 ≤ a * b := Int.mul_nonneg (by omega) (by omega)
      have i4 : a * b ≤ 40 * 40 := Int.mul_le_mul i1.2 i2.2 (by omega) (by omega)
      clear h1 h2
      go_enter Try.func81, Try.ntmps81
      go_wp2_with fail
      refine (l1In_any _ _ _ _).mono ?_
      rintro e w' ⟨rfl, rfl⟩
      rw [H1.out]
      go_wp2_with fail
      refine (l1In_any _ _ _ _).mono ?_
      rintro e w' ⟨rfl, rfl⟩
      rw [H2.out]
      go_wp2_with fail
      go_ret
      exact ⟨ret_bool H.out.symm, rfl⟩
set_option maxHeartbeats 400000 in
theorem gridOk_any (a b : Int) (w : World) (ha : -9223372036854775808 ≤ a ∧ a ≤ 9223372036854775807) (hb : -9223372036854775808 ≤ b ∧ b ≤ 9223372036854775807) : Calls Try.prog 82 #[.int .i64 a, .int .i64 b] w fun e w' => e = .returned (.bool (sidesB a b)) ∧ w = w' := by
  cases h1 : inR a 1 40 with
  | false =>
    have H := Lib.hid (show sidesB a b = false by unfold sidesB; rw [h1]; rfl)
    have H1 := Lib.hid h1
    clear h1
    go_enter Try.func82, Try.ntmps82
    go_wp2_with fail
    refine (within_any _ _ _ _).mono ?_
    rintro e w' ⟨rfl, rfl⟩
    rw [H1.out]
    go_wp2_with fail
    go_ret
    exact ⟨ret_bool H.out.symm, rfl⟩
  | true =>
    cases h2 : inR b 1 40 with
    | false =>
      have H := Lib.hid (show sidesB a b = false by unfold sidesB; rw [h1, h2]; rfl)
      have H1 := Lib.hid h1
      have H2 := Lib.hid h2
      clear h1 h2
      go_enter Try.func82, Try.ntmps82
      go_wp2_with fail
      refine (within_any _ _ _ _).mono ?_
      rintro e w' ⟨rfl, rfl⟩
      rw [H1.out]
      go_wp2_with fail
      refine (within_any _ _ _ _).mono ?_
      rintro e w' ⟨rfl, rfl⟩
      rw [H2.out]
      go_wp2_with fail
      go_ret
      exact ⟨ret_bool H.out.symm, rfl⟩
    | true =>
      have H := Lib.hid (show sidesB a b = decide (a * b ≤ 40) by unfold sidesB; rw [h1, h2]; rfl)
      have H1 := Lib.hid h1
      have H2 := Lib.hid h2
      have i1 := inR_iff.1 h1
      have i2 := inR_iff.1 h2
      have i3 : 0 ≤ a * b := Int.mul_nonneg (by omega) (by omega)
      have i4 : a * b ≤ 40 * 40 := Int.mul_le_mul i1.2 i2.2 (by omega) (by omega)
      clear h1 h2
      go_enter Try.func82, Try.ntmps82
      go_wp2_with fail
      refine (within_any _ _ _ _).mono ?_
      rintro e w' ⟨rfl, rfl⟩
      rw [H1.out]
      go_wp2_with fail
      refine (within_any _ _ _ _).mono ?_
      rintro e w' ⟨rfl, rfl⟩
      rw [H2.out]
      go_wp2_with fail
      go_ret
      exact ⟨ret_bool H.out.symm, rfl⟩
theorem grid_mod {r n s : Nat} (h : s < n) : (r * n + s) % n = s := by rw [Nat.mul_comm, Nat.mul_add_mod, Nat.mod_eq_of_lt h]
theorem grid_div {r n s : Nat} (h : s < n) : (r * n + s) / n = r := by
  rw [Nat.mul_comm, Nat.mul_add_div (by omega), Nat.div_eq_of_lt h, Nat.add_zero]
set_option maxRecDepth 100000 in
set_option maxHeartbeats 1600000 in
theorem specGrid_any (x y : Int) (w : World) (hx : -9223372036854775808 ≤ x ∧ x ≤ 9223372036854775807) (hy : -9223372036854775808 ≤ y ∧ y ≤ 9223372036854775807) : Calls Try.prog 43 #[.int .i64 x, .int .i64 y] w (PostN (gdR x y) (sidesB x y) w) := by
  have BR := Bx.made w 31 #[.slice none 0 0, .slice none 0 0, .slice none 0 0]
  have b0 : Below w.heap.size w (w.alloc (.cells #[.slice none 0 0, .slice none 0 0, .slice none 0 0] 31)) := (by repeat (first | exact Below.refl _ _ | assumption | refine Below.alloc ?_ (by first | (simp; done) | (simp; omega) | omega) _ | refine Below.setCell ?_ (by first | (simp; done) | (simp; omega) | omega) _ | refine Below.drew ?_ | refine Below.drewN ?_ _))
  have z0 : w.heap.size + 1 ≤ (w.alloc (.cells #[.slice none 0 0, .slice none 0 0, .slice none 0 0] 31)).heap.size := by simp
  cases hk : sidesB x y with
  | false =>
    have HK := Lib.hid hk
    have HG := Lib.hid (show gdR x y = nilN by rw [gdR, hk]; rfl)
    clear hk
    go_enter Try.func43, Try.ntmps43
    go_wp2_with fail
    refine (buSides_any _ _ _ hx hy).mono ?_
    rintro e w' ⟨rfl, rfl⟩
    rw [HK.out]
    generalize w.alloc (.cells #[.slice none 0 0, .slice none 0 0, .slice none 0 0] 31) = w0 at *
    have e0 := BR.cell 0 _ rfl
    have e1 := BR.cell 1 _ rfl
    have e2 := BR.cell 2 _ rfl
    have f0 := BR.frozen 0
    have f1 := BR.frozen 1
    have f2 := BR.frozen 2
    go_wp2_with fail
    clear e0 e1 e2 f0 f1 f2
    generalize hW : World.setCell _ _ _ = W
    have B6 : Bx W (w.heap.size) 31 #[.slice none 0 0, .slice none 0 0, .slice none 0 0] := by rw [← hW]; exact ((BR.set 0 _).set 1 _).set 2 _
    have fr6 : Fr (fun k => k = w.heap.size) w0 W := by rw [← hW]; exact fr3 _ _ _ _ _
    clear hW
    have z6 := fr6.size
    have d0 := B6.cell 0 _ rfl
    have d1 := B6.cell 1 _ rfl
    have d2 := B6.cell 2 _ rfl
    refine bodyPost_ret (v := .tuple #[.agg #[.slice none 0 0, .slice none 0 0, .slice none 0 0], .bool false]) (by simp [results, Try.results43, go_sem, d0, d1, d2]) rfl ?_
    rw [HG.out]
    exact ⟨_, rfl, NetAt.nilN _ _ _, b0.trans (fr6.below (fun k h1 h2 hc => by omega) b0.size)⟩
  | true =>
    have HK := Lib.hid hk
    obtain ⟨m, n, rfl, rfl, hm1, hn1, hm2, hn2, hmn⟩ := sidesB_t hk
    have HG := Lib.hid (show gdR (m : Int) (n : Int) = gridN m n by rw [gdR, hk]; rfl)
    have i0 : (0 : Int) ≤ (m : Int) * (n : Int) := Int.mul_nonneg (by omega) (by omega)
    have i1 : (m : Int) * (n : Int) ≤ 40 := by exact_mod_cast hmn
    have HMN := Lib.hid (show ((m * n : Nat) : Int) = (m : Int) * (n : Int) from Int.natCast_mul ..)
    have HMN2 := Lib.hid hmn
    clear hk hmn
    go_enter Try.func43, Try.ntmps43
    go_wp2_with fail
    refine (buSides_any _ _ _ hx hy).mono ?_
    rintro e w' ⟨rfl, rfl⟩
    rw [HK.out]
    go_wp2_with fail
    generalize w.alloc (.cells #[.slice none 0 0, .slice none 0 0, .slice none 0 0] 31) = w0 at *
    go_loopw [6, 7] (fun e i wr => ∃ r : Nat, r ≤ m ∧ i = .int .i64 r ∧ (∃ a cap vo, e = .slice a (gridE m n (r * n)).length cap ∧ RowsI wr w0.heap.size wr.heap.size a cap (pairL (gridE m n (r * n))) vo) ∧ Below w0.heap.size w0 wr) (fun _ i _ => m - (intOf i).toNat)
    case atStart => exact ⟨0, by omega, rfl, ⟨none, 0, fun _ => (none, 0), by rw [Nat.zero_mul]; rfl, by rw [Nat.zero_mul]; exact RowsAt.nil _ _ _ _ _⟩, Below.refl _ _⟩
    case round =>
      obtain ⟨r, hr, rfl, ⟨a1, cap1, vo, rfl, own1⟩, bel⟩ := hrel
      have hDw := bel.size
      by_cases hlt : r < m
      · have j0 : (0 : Int) ≤ (r : Int) * (n : Int) := Int.mul_nonneg (by omega) (by omega)
        have HRN := Lib.hid (show r * n + n ≤ m * n by rw [← Nat.succ_mul]; exact Nat.mul_le_mul_right _ hlt)
        have j1 : (r : Int) * (n : Int) ≤ 40 := by have h1 := HRN.out; have h2 := HMN2.out; rw [← Int.natCast_mul]; omega
        have HRC := Lib.hid (show ((r * n : Nat) : Int) = (r : Int) * (n : Int) from Int.natCast_mul ..)
        go_wp2_with fail
        go_loopw [6, 8] (fun e i wr => ∃ s : Nat, s ≤ n ∧ i = .int .i64 s ∧ (∃ a cap vo, e = .slice a (gridE m n (r * n + s)).length cap ∧ RowsI wr w0.heap.size wr.heap.size a cap (pairL (gridE m n (r * n + s))) vo) ∧ Below w0.heap.size w0 wr) (fun _ i _ => n - (intOf i).toNat)
        case atStart => exact ⟨0, by omega, rfl, ⟨a1, cap1, vo, rfl, own1⟩, bel⟩
        case round =>
          obtain ⟨s, hs, rfl, ⟨a2, cap2, vo2, rfl, own2⟩, bel2⟩ := hrel
          have hDw2 := bel2.size
          by_cases hlt2 : s < n
          · have HMOD := Lib.hid (grid_mod (r := r) hlt2)
            have HDIV := Lib.hid (grid_div (r := r) hlt2)
            have HVC := Lib.hid (show ((r * n + s : Nat) : Int) = (r : Int) * (n : Int) + (s : Int) by rw [Int.natCast_add, Int.natCast_mul])
            have HVS := Lib.hid (show r * n + (s + 1) = r * n + s + 1 from rfl)
            have hv40 : r * n + s < 40 := by have h1 := HRN.out; have h2 := HMN2.out; omega
            generalize r * n + s = v at *
            have hlE := (gridE_len m n v).1
            have hlEE : (pairL (gridE m n v)).length ≤ 2 * v := by rw [pairL_length]; exact hlE
            rw [← pairL_length]
            by_cases hc1 : s + 1 < n
            · have HC1 := Lib.hid hc1
              go_upto_region 12 with (at_builtin; refine wpList_app rfl _ _ _ rfl 23 (.slice none 0 0) 1 24 Try.underlying42 ints_info4 rfl (by decide) w0.heap.size wr.heap.size a2 (pairL (gridE m n v)).length cap2 _ rfl (Ow.alloc (Ow.alloc own2.1 _) _) ⟨wr.heap.size + 1, 0, none⟩ 1 1 [.slice (some ⟨wr.heap.size, 0, none⟩) 2 2] rfl rfl (by have h := cell_one_new (wr.alloc (.cells #[.int .i64 ((r : Int) * (n : Int) + (s : Int)), .int .i64 ((r : Int) * (n : Int) + (s : Int) + 1)] 3)) (.slice (some ⟨wr.heap.size, 0, none⟩) 2 2) 23; rw [World.size_alloc] at h; exact h) (by simp [Value.oneCell']) (by decide) (by unfold maxLen; omega) (by omega) (by simp; omega) ?_; intro gm capm wm o5 hg5 _ _)
              have bx2 := (Bx.made wr 3 #[.int .i64 ((r : Int) * (n : Int) + (s : Int)), .int .i64 ((r : Int) * (n : Int) + (s : Int) + 1)]).alloc (.cells #[.slice (some ⟨wr.heap.size, 0, none⟩) 2 2] 23)
              have ownm : RowsI wm w0.heap.size wm.heap.size (some ⟨gm, 0, none⟩) capm (pairL (gridE m n v ++ [(v, v + 1)])) (setv vo2 (pairL (gridE m n v)).length (some ⟨wr.heap.size, 0, none⟩, 2)) := by
                rw [pairL_snoc, HVC.out, show ((v + 1 : Nat) : Int) = (r : Int) * (n : Int) + (s : Int) + 1 by rw [Int.natCast_add, HVC.out]; rfl]
                exact RowsAt.snoc (w := (wr.alloc (.cells #[.int .i64 ((r : Int) * (n : Int) + (s : Int)), .int .i64 ((r : Int) * (n : Int) + (s : Int) + 1)] 3)).alloc (.cells #[.slice (some ⟨wr.heap.size, 0, none⟩) 2 2] 23)) (hi := wr.heap.size) (RowsAt.new (RowsAt.new own2 ((Below.refl _ _).alloc (Nat.le_refl _) _)) ((Below.refl _ _).alloc (Nat.le_refl _) _)) (by decide) (Ow.two bx2 (Nat.le_refl _) (by simp; omega)) (by omega) (by simp; omega) hg5 o5
              have belm : Below w0.heap.size w0 wm := below_app ((bel2.alloc (by omega) _).alloc (by simp; omega) _) (Ow.alloc (Ow.alloc own2.1 _) _) hg5 (Nat.le_refl _) (by simp; omega)
              clear bx2 o5 hg5
              have hle : (pairL (gridE m n v)).length + 1 = (pairL (gridM m n v)).length := by rw [gridM_t (by rw [HMOD.out]; exact HC1.out), pairL_length, pairL_length, List.length_append]; rfl
              rw [← gridM_t (by rw [HMOD.out]; exact HC1.out)] at ownm
              rw [hle]
              generalize hvm : setv vo2 _ _ = vm at ownm
              obtain ⟨am, ham⟩ : ∃ am, am = some (⟨gm, 0, none⟩ : Addr) := ⟨_, rfl⟩
              rw [← ham] at ownm ⊢
              have zm := belm.size
              clear hle hvm ham own2
              by_cases hc2 : r + 1 < m
              · have HC2 := Lib.hid hc2
                have hlM := (gridE_len m n v).2
                have hlMM : (pairL (gridM m n v)).length ≤ 2 * v + 1 := by rw [pairL_length]; exact hlM
                go_wp2_with (at_builtin; refine wpList_app rfl _ _ _ rfl 23 (.slice none 0 0) 1 24 Try.underlying42 ints_info4 rfl (by decide) w0.heap.size wm.heap.size am (pairL (gridM m n v)).length capm _ rfl (Ow.alloc (Ow.alloc ownm.1 _) _) ⟨wm.heap.size + 1, 0, none⟩ 1 1 [.slice (some ⟨wm.heap.size, 0, none⟩) 2 2] rfl rfl (by have h := cell_one_new (wm.alloc (.cells #[.int .i64 ((r : Int) * (n : Int) + (s : Int)), .int .i64 ((r : Int) * (n : Int) + (s : Int) + (n : Int))] 3)) (.slice (some ⟨wm.heap.size, 0, none⟩) 2 2) 23; rw [World.size_alloc] at h; exact h) (by simp [Value.oneCell']) (by decide) (by unfold maxLen; omega) (by omega) (by simp; omega) ?_; intro g5 cap5 w5 o5 hg5 _ _)
                have bx2 := (Bx.made wm 3 #[.int .i64 ((r : Int) * (n : Int) + (s : Int)), .int .i64 ((r : Int) * (n : Int) + (s : Int) + (n : Int))]).alloc (.cells #[.slice (some ⟨wm.heap.size, 0, none⟩) 2 2] 23)
                have own5 : RowsI w5 w0.heap.size w5.heap.size (some ⟨g5, 0, none⟩) cap5 (pairL (gridM m n v ++ [(v, v + n)])) (setv vm (pairL (gridM m n v)).length (some ⟨wm.heap.size, 0, none⟩, 2)) := by
                  rw [pairL_snoc, HVC.out, show ((v + n : Nat) : Int) = (r : Int) * (n : Int) + (s : Int) + (n : Int) by rw [Int.natCast_add, HVC.out]]
                  exact RowsAt.snoc (w := (wm.alloc (.cells #[.int .i64 ((r : Int) * (n : Int) + (s : Int)), .int .i64 ((r : Int) * (n : Int) + (s : Int) + (n : Int))] 3)).alloc (.cells #[.slice (some ⟨wm.heap.size, 0, none⟩) 2 2] 23)) (hi := wm.heap.size) (RowsAt.new (RowsAt.new ownm ((Below.refl _ _).alloc (Nat.le_refl _) _)) ((Below.refl _ _).alloc (Nat.le_refl _) _)) (by decide) (Ow.two bx2 (Nat.le_refl _) (by simp; omega)) (by omega) (by simp; omega) hg5 o5
                have bel5 : Below w0.heap.size w0 w5 := below_app ((belm.alloc (by omega) _).alloc (by simp; omega) _) (Ow.alloc (Ow.alloc ownm.1 _) _) hg5 (Nat.le_refl _) (by simp; omega)
                clear bx2 o5 hg5
                go_roundw
                case rel => exact ⟨s + 1, by omega, by go_num, ⟨some ⟨g5, 0, none⟩, cap5, _, by rw [HVS.out, gridE_t (by rw [HDIV.out]; exact HC2.out), List.length_append, ← pairL_length]; rfl, by rw [HVS.out, gridE_t (by rw [HDIV.out]; exact HC2.out)]; exact own5⟩, bel5⟩
                case measure => simp [intOf]; omega
              · have HC2 := Lib.hid hc2
                go_wp2_with fail
                go_roundw
                case rel => exact ⟨s + 1, by omega, by go_num, ⟨am, capm, vm, by rw [HVS.out, gridE_f (by rw [HDIV.out]; exact HC2.out), ← pairL_length], by rw [HVS.out, gridE_f (by rw [HDIV.out]; exact HC2.out)]; exact ownm⟩, belm⟩
                case measure => simp [intOf]; omega
            · have HC1 := Lib.hid hc1
              go_upto_region 12 with fail
              obtain ⟨wm, hwm⟩ : ∃ wm, wm = wr := ⟨_, rfl⟩
              have hle : (pairL (gridE m n v)).length = (pairL (gridM m n v)).length := by rw [gridM_f (by rw [HMOD.out]; exact HC1.out)]
              have ownm := own2
              rw [← gridM_f (by rw [HMOD.out]; exact HC1.out)] at ownm
              rw [hle]
              clear hle own2
              subst hwm
              obtain ⟨am, ham⟩ : ∃ am, am = a2 := ⟨_, rfl⟩
              subst ham
              obtain ⟨capm, hcapm⟩ : ∃ capm, capm = cap2 := ⟨_, rfl⟩
              subst hcapm
              obtain ⟨vm, hvm⟩ : ∃ vm, vm = vo2 := ⟨_, rfl⟩
              subst hvm
              have belm := bel2
              have zm := belm.size
              by_cases hc2 : r + 1 < m
              · have HC2 := Lib.hid hc2
                have hlM := (gridE_len m n v).2
                have hlMM : (pairL (gridM m n v)).length ≤ 2 * v + 1 := by rw [pairL_length]; exact hlM
                go_wp2_with (at_builtin; refine wpList_app rfl _ _ _ rfl 23 (.slice none 0 0) 1 24 Try.underlying42 ints_info4 rfl (by decide) w0.heap.size wm.heap.size am (pairL (gridM m n v)).length capm _ rfl (Ow.alloc (Ow.alloc ownm.1 _) _) ⟨wm.heap.size + 1, 0, none⟩ 1 1 [.slice (some ⟨wm.heap.size, 0, none⟩) 2 2] rfl rfl (by have h := cell_one_new (wm.alloc (.cells #[.int .i64 ((r : Int) * (n : Int) + (s : Int)), .int .i64 ((r : Int) * (n : Int) + (s : Int) + (n : Int))] 3)) (.slice (some ⟨wm.heap.size, 0, none⟩) 2 2) 23; rw [World.size_alloc] at h; exact h) (by simp [Value.oneCell']) (by decide) (by unfold maxLen; omega) (by omega) (by simp; omega) ?_; intro g5 cap5 w5 o5 hg5 _ _)
                have bx2 := (Bx.made wm 3 #[.int .i64 ((r : Int) * (n : Int) + (s : Int)), .int .i64 ((r : Int) * (n : Int) + (s : Int) + (n : Int))]).alloc (.cells #[.slice (some ⟨wm.heap.size, 0, none⟩) 2 2] 23)
                have own5 : RowsI w5 w0.heap.size w5.heap.size (some ⟨g5, 0, none⟩) cap5 (pairL (gridM m n v ++ [(v, v + n)])) (setv vm (pairL (gridM m n v)).length (some ⟨wm.heap.size, 0, none⟩, 2)) := by
                  rw [pairL_snoc, HVC.out, show ((v + n : Nat) : Int) = (r : Int) * (n : Int) + (s : Int) + (n : Int) by rw [Int.natCast_add, HVC.out]]
                  exact RowsAt.snoc (w := (wm.alloc (.cells #[.int .i64 ((r : Int) * (n : Int) + (s : Int)), .int .i64 ((r : Int) * (n : Int) + (s : Int) + (n : Int))] 3)).alloc (.cells #[.slice (some ⟨wm.heap.size, 0, none⟩) 2 2] 23)) (hi := wm.heap.size) (RowsAt.new (RowsAt.new ownm ((Below.refl _ _).alloc (Nat.le_refl _) _)) ((Below.refl _ _).alloc (Nat.le_refl _) _)) (by decide) (Ow.two bx2 (Nat.le_refl _) (by simp; omega)) (by omega) (by simp; omega) hg5 o5
                have bel5 : Below w0.heap.size w0 w5 := below_app ((belm.alloc (by omega) _).alloc (by simp; omega) _) (Ow.alloc (Ow.alloc ownm.1 _) _) hg5 (Nat.le_refl _) (by simp; omega)
                clear bx2 o5 hg5
                go_roundw
                case rel => exact ⟨s + 1, by omega, by go_num, ⟨some ⟨g5, 0, none⟩, cap5, _, by rw [HVS.out, gridE_t (by rw [HDIV.out]; exact HC2.out), List.length_append, ← pairL_length]; rfl, by rw [HVS.out, gridE_t (by rw [HDIV.out]; exact HC2.out)]; exact own5⟩, bel5⟩
                case measure => simp [intOf]; omega
              · have HC2 := Lib.hid hc2
                go_wp2_with fail
                go_roundw
                case rel => exact ⟨s + 1, by omega, by go_num, ⟨am, capm, vm, by rw [HVS.out, gridE_f (by rw [HDIV.out]; exact HC2.out), ← pairL_length], by rw [HVS.out, gridE_f (by rw [HDIV.out]; exact HC2.out)]; exact ownm⟩, belm⟩
                case measure => simp [intOf]; omega
          · obtain rfl : s = n := by omega
            go_wp2_with fail
            go_roundw
            case rel => exact ⟨r + 1, by omega, by go_num, ⟨a2, cap2, vo2, by rw [Nat.succ_mul], by rw [Nat.succ_mul]; exact own2⟩, bel2⟩
            case measure => simp [intOf]; omega
      · obtain rfl : r = m := by omega
        have HC := Lib.hid (buMade_any (r * n) (gridE r n (r * n)) a1 cap1 vo wr w0.heap.size wr.heap.size own1 (Nat.le_refl _) (gridE_in _ (Nat.le_refl _)).1 (by have := HMN2.out; omega) (by have h1 := HMN2.out; have h2 := (gridE_len r n (r * n)).1; omega))
        rw [HMN.out] at HC
        go_wp2_with fail
        refine HC.out.mono ?_
        rintro e w4 ⟨v4, rfl, own4, bel4⟩
        obtain ⟨a4, c4, ai4, ci4, ap4, cp4, rfl, own4⟩ := own4.shape
        replace BR := (BR.new bel).new bel4
        have bb := (b0.trans (bel.mono b0.size)).trans (bel4.mono (by omega))
        have z4 := bel4.size
        have HP := Lib.hid (show gridN r n = joinsN (emptyN (r * n)) (gridE r n (r * n)) from rfl)
        clear HC own1 b0 bel4
        generalize joinsN (emptyN (r * n)) (gridE r n (r * n)) = Nk at *
        have e0 := BR.cell 0 _ rfl
        have e1 := BR.cell 1 _ rfl
        have e2 := BR.cell 2 _ rfl
        have f0 := BR.frozen 0
        have f1 := BR.frozen 1
        have f2 := BR.frozen 2
        go_wp2_with fail
        clear e0 e1 e2 f0 f1 f2
        generalize hW : World.setCell _ _ _ = W
        have B6 : Bx W (w.heap.size) 31 #[.slice a4 Nk.ends.length c4, .slice ai4 Nk.ids.length ci4, .slice ap4 Nk.inputs.length cp4] := by rw [← hW]; exact ((BR.set 0 _).set 1 _).set 2 _
        have fr6 : Fr (fun k => k = w.heap.size) w4 W := by rw [← hW]; exact fr3 _ _ _ _ _
        clear hW
        have z6 := fr6.size
        have d0 := B6.cell 0 _ rfl
        have d1 := B6.cell 1 _ rfl
        have d2 := B6.cell 2 _ rfl
        refine bodyPost_ret (v := .tuple #[.agg #[.slice a4 Nk.ends.length c4, .slice ai4 Nk.ids.length ci4, .slice ap4 Nk.inputs.length cp4], .bool true]) (by simp [results, Try.results43, go_sem, d0, d1, d2]) rfl ?_
        rw [HG.out, HP.out]
        exact ⟨_, rfl, (own4.fr fr6 (fun k h1 h2 hc => by omega)).wide (lo' := w.heap.size) (hi' := W.heap.size) (by omega) (by omega), bb.trans (fr6.below (fun k h1 h2 hc => by omega) bb.size)⟩
set_option maxRecDepth 100000 in
set_option maxHeartbeats 1600000 in
theorem implGrid_any (x y : Int) (w : World) (hx : -9223372036854775808 ≤ x ∧ x ≤ 9223372036854775807) (hy : -9223372036854775808 ≤ y ∧ y ≤ 9223372036854775807) : Calls Try.prog 44 #[.int .i64 x, .int .i64 y] w (PostN (gdR x y) (sidesB x y) w) := by
  have BR := Bx.made w 31 #[.slice none 0 0, .slice none 0 0, .slice none 0 0]
  have b0 : Below w.heap.size w (w.alloc (.cells #[.slice none 0 0, .slice none 0 0, .slice none 0 0] 31)) := (by repeat (first | exact Below.refl _ _ | assumption | refine Below.alloc ?_ (by first | (simp; done) | (simp; omega) | omega) _ | refine Below.setCell ?_ (by first | (simp; done) | (simp; omega) | omega) _ | refine Below.drew ?_ | refine Below.drewN ?_ _))
  have z0 : w.heap.size + 1 ≤ (w.alloc (.cells #[.slice none 0 0, .slice none 0 0, .slice none 0 0] 31)).heap.size := by simp
  cases hk : sidesB x y with
  | false =>
    have HK := Lib.hid hk
    have HG := Lib.hid (show gdR x y = nilN by rw [gdR, hk]; rfl)
    clear hk
    go_enter Try.func44, Try.ntmps44
    go_wp2_with fail
    refine (gridOk_any _ _ _ hx hy).mono ?_
    rintro e w' ⟨rfl, rfl⟩
    rw [HK.out]
    generalize w.alloc (.cells #[.slice none 0 0, .slice none 0 0, .slice none 0 0] 31) = w0 at *
    have e0 := BR.cell 0 _ rfl
    have e1 := BR.cell 1 _ rfl
    have e2 := BR.cell 2 _ rfl
    have f0 := BR.frozen 0
    have f1 := BR.frozen 1
    have f2 := BR.frozen 2
    go_wp2_with fail
    clear e0 e1 e2 f0 f1 f2
    generalize hW : World.setCell _ _ _ = W
    have B6 : Bx W (w.heap.size) 31 #[.slice none 0 0, .slice none 0 0, .slice none 0 0] := by rw [← hW]; exact ((BR.set 0 _).set 1 _).set 2 _
    have fr6 : Fr (fun k => k = w.heap.size) w0 W := by rw [← hW]; exact fr3 _ _ _ _ _
    clear hW
    have z6 := fr6.size
    have d0 := B6.cell 0 _ rfl
    have d1 := B6.cell 1 _ rfl
    have d2 := B6.cell 2 _ rfl
    refine bodyPost_ret (v := .tuple #[.agg #[.slice none 0 0, .slice none 0 0, .slice none 0 0], .bool false]) (by simp [results, Try.results44, go_sem, d0, d1, d2]) rfl ?_
    rw [HG.out]
    exact ⟨_, rfl, NetAt.nilN _ _ _, b0.trans (fr6.below (fun k h1 h2 hc => by omega) b0.size)⟩
  | true =>
    have HK := Lib.hid hk
    obtain ⟨m, n, rfl, rfl, hm1, hn1, hm2, hn2, hmn⟩ := sidesB_t hk
    have HG := Lib.hid (show gdR (m : Int) (n : Int) = gridN m n by rw [gdR, hk]; rfl)
    have i0 : (1 : Int) ≤ (m : Int) * (n : Int) := by have := Nat.mul_le_mul hm1 hn1; rw [← Int.natCast_mul]; omega
    have i1 : (m : Int) * (n : Int) ≤ 40 := by exact_mod_cast hmn
    have HMN := Lib.hid (show ((m * n : Nat) : Int) = (m : Int) * (n : Int) from Int.natCast_mul ..)
    clear hk
    go_enter Try.func44, Try.ntmps44
    go_wp2_with fail
    refine (gridOk_any _ _ _ hx hy).mono ?_
    rintro e w' ⟨rfl, rfl⟩
    rw [HK.out]
    generalize w.alloc (.cells #[.slice none 0 0, .slice none 0 0, .slice none 0 0] 31) = w0 at *
    go_wp2_with fail
    refine (emptyNetwork_any ((m : Int) * (n : Int)) _).mono ?_
    rw [show inR ((m : Int) * (n : Int)) 1 40 = true from inR_iff.2 ⟨i0, i1⟩, show ((m : Int) * (n : Int)).toNat = m * n by rw [← HMN.out, Int.toNat_natCast]]
    rintro e w1 ⟨v1, rfl, own1, bel1⟩
    replace own1 : NetAt w1 _ _ v1 (emptyN (m * n)) := own1
    obtain ⟨a1, c1, ai1, ci1, ap1, cp1, rfl, own1⟩ := own1.shape
    replace BR := BR.new bel1
    have z1 : w.heap.size + 1 ≤ w1.heap.size := by have := bel1.size; omega
    have b1 := b0.trans (bel1.mono b0.size)
    clear b0 bel1
    have BO := Bx.made w1 31 #[.slice a1 (emptyN (m * n)).ends.length c1, .slice ai1 (emptyN (m * n)).ids.length ci1, .slice ap1 (emptyN (m * n)).inputs.length cp1]
    have b2 : Below w1.heap.size w1 (w1.alloc (.cells #[.slice a1 (emptyN (m * n)).ends.length c1, .slice ai1 (emptyN (m * n)).ids.length ci1, .slice ap1 (emptyN (m * n)).inputs.length cp1] 31)) := (by repeat (first | exact Below.refl _ _ | assumption | refine Below.alloc ?_ (by first | (simp; done) | (simp; omega) | omega) _ | refine Below.setCell ?_ (by first | (simp; done) | (simp; omega) | omega) _ | refine Below.drew ?_ | refine Below.drewN ?_ _))
    go_upto_region 4 with fail
    have z2 : w1.heap.size + 1 ≤ (w1.alloc (.cells #[.slice a1 (emptyN (m * n)).ends.length c1, .slice ai1 (emptyN (m * n)).ids.length ci1, .slice ap1 (emptyN (m * n)).inputs.length cp1] 31)).heap.size := by simp
    generalize w1.alloc (.cells #[.slice a1 (emptyN (m * n)).ends.length c1, .slice ai1 (emptyN (m * n)).ids.length ci1, .slice ap1 (emptyN (m * n)).inputs.length cp1] 31) = w2 at *
    obtain ⟨b, hb⟩ : ∃ b, b = w1.heap.size := ⟨_, rfl⟩
    rw [← hb] at BO ⊢
    replace BR := BR.new b2
    replace own1 := (own1.new b2).wide (lo' := w.heap.size + 1) z0 b2.size
    have bb := b1.trans (b2.mono b1.size)
    have zb : w.heap.size + 1 ≤ b := by omega
    have zlo : w.heap.size + 1 ≤ w2.heap.size := by omega
    clear hb b1 b2 z2
    have hNB : NBx w2 (w.heap.size + 1) b (joinsN (emptyN (m * n)) (gridE m n 0)) := by
      obtain ⟨a, c, vs, ai, ci, ap, cp, hv, h1, h2, h3, h4⟩ := own1
      simp only [Value.agg.injEq, Array.mk.injEq, List.cons.injEq, Value.slice.injEq, true_and, and_true] at hv
      obtain ⟨⟨rfl, rfl⟩, ⟨rfl, rfl⟩, rfl, rfl⟩ := hv
      exact ⟨_, _, vs, _, _, _, _, BO, h1, h2, h3, h4⟩
    clear own1 BO
    have hEL : (emptyN (m * n)).ends.length = m * n := List.length_replicate ..
    have HEL := Lib.hid hEL
    have HGI := Lib.hid (fun v hv => gridE_in (a := m) (b := n) v hv)
    have HGS := Lib.hid (show gridN m n = joinsN (emptyN (m * n)) (gridE m n (m * n)) from rfl)
    have HRT := Lib.hid (fun v hv h => grid_right (a := m) (b := n) (v := v) hv h)
    have HDN := Lib.hid (fun v hv h => grid_down (a := m) (b := n) (v := v) hv h)
    clear hEL
    generalize m * n = K at *
    go_wp2_with fail
    go_loopw [24] (fun i wr => ∃ v : Nat, v ≤ K ∧ i = .int .i64 v ∧ NBx wr (w.heap.size + 1) b (joinsN (emptyN K) (gridE m n v)) ∧ Bx wr w.heap.size 31 #[.slice none 0 0, .slice none 0 0, .slice none 0 0] ∧ Below w.heap.size w wr ∧ w.heap.size + 1 ≤ wr.heap.size) (fun i _ => K - (intOf i).toNat)
    case atStart => exact ⟨0, by omega, rfl, hNB, BR, bb, zlo⟩
    case round =>
      clear hNB BR bb zlo
      obtain ⟨v, hv, rfl, hNB, BR, bb, zlo⟩ := hrel
      have hKI := HMN.out
      by_cases hlt : v < K
      · have hltI : (v : Int) < (m : Int) * (n : Int) := by omega
        have hmod : Int.tmod (v : Int) (n : Int) = ((v % n : Nat) : Int) := (Int.ofNat_tmod v n).symm
        have hdiv : Int.tdiv (v : Int) (n : Int) = ((v / n : Nat) : Int) := (Int.ofNat_tdiv v n).symm
        have hqe : (v : Int) / (n : Int) = ((v / n : Nat) : Int) := (Int.natCast_ediv v n).symm
        have hq0 : (0 : Int) ≤ (v : Int) / (n : Int) := by rw [hqe]; exact Int.natCast_nonneg _
        have hq1 : (v : Int) / (n : Int) ≤ 40 := by rw [hqe]; exact (Int.ofNat_le (n := 40)).2 (Nat.le_trans (Nat.div_le_self v n) (by omega))
        have hq2 : (v : Int) / (n : Int) ≤ ((v / n : Nat) : Int) := Int.le_of_eq hqe
        have hq3 : ((v / n : Nat) : Int) ≤ (v : Int) / (n : Int) := Int.le_of_eq hqe.symm
        clear hqe
        have hml : v % n < n := Nat.mod_lt _ hn1
        have hdl : v / n ≤ v := Nat.div_le_self ..
        clear hKI
        have HFE := Lib.hid (HGI.out v (by omega))
        have HLE := Lib.hid (gridE_len m n v)
        by_cases hc1 : v % n + 1 < n
        · have HC1 := Lib.hid hc1
          have HF := Lib.hid (joinsN_facts (emptyN K) (gridE m n v) (by rw [HEL.out]; exact HFE.out.1))
          have HSM := Lib.hid (joinsN_small HFE.out.1 (by omega) (by have := HLE.out.1; omega))
          have HC := Lib.hid (connectN_any (v := v) (u := v + 1) wr hNB (by rw [HF.out.1, HEL.out]; exact hlt) (by rw [HF.out.1, HEL.out]; exact HRT.out v hlt hc1) zlo HSM.out)
          rw [show ((v + 1 : Nat) : Int) = (v : Int) + 1 from by omega] at HC
          go_upto_region 8 with fail
          go_wp2_with fail
          refine HC.out.mono ?_
          rintro e wm ⟨rfl, hNBm, frm⟩
          replace BR := BR.fr frm (by omega)
          have zm := frm.size
          replace bb := bb.trans (frm.below (B := w.heap.size) (fun k h1 h2 hc => by omega) bb.size)
          have hNBM : NBx wm (w.heap.size + 1) b (joinsN (emptyN K) (gridM m n v)) := by rw [gridM_t HC1.out, joinsN_snoc]; exact hNBm
          clear HC hNB frm hNBm HF HSM
          go_upto_region 9 with fail
          have hzm : w.heap.size + 1 ≤ wm.heap.size := by omega
          by_cases hc2 : v / n + 1 < m
          · have HC2 := Lib.hid hc2
            have HF := Lib.hid (joinsN_facts (emptyN K) (gridM m n v) (by rw [HEL.out]; exact HFE.out.2 hlt))
            have HSM := Lib.hid (joinsN_small (HFE.out.2 hlt) (by omega) (by have := HLE.out.2; omega))
            have HC := Lib.hid (connectN_any (v := v) (u := v + n) wm hNBM (by rw [HF.out.1, HEL.out]; exact hlt) (by rw [HF.out.1, HEL.out]; exact HDN.out v hlt hc2) hzm HSM.out)
            rw [show ((v + n : Nat) : Int) = (v : Int) + (n : Int) from Int.natCast_add ..] at HC
            go_wp2_with fail
            refine HC.out.mono ?_
            rintro e w5 ⟨rfl, hNB5, fr5⟩
            replace BR := BR.fr fr5 (by omega)
            have z5 := fr5.size
            replace bb := bb.trans (fr5.below (B := w.heap.size) (fun k h1 h2 hc => by omega) bb.size)
            clear HC hNBM fr5
            go_wp2_with fail
            go_roundw
            case rel => exact ⟨v + 1, by omega, by go_num, by rw [gridE_t HC2.out, joinsN_snoc]; exact hNB5, BR, bb, by omega⟩
            case measure => simp [intOf]; omega
          · have HC2 := Lib.hid hc2
            go_wp2_with fail
            go_roundw
            case rel => exact ⟨v + 1, by omega, by go_num, by rw [gridE_f HC2.out]; exact hNBM, BR, bb, by omega⟩
            case measure => simp [intOf]; omega
        · have HC1 := Lib.hid hc1
          have hNBM : NBx wr (w.heap.size + 1) b (joinsN (emptyN K) (gridM m n v)) := by rw [gridM_f HC1.out]; exact hNB
          go_upto_region 9 with fail
          obtain ⟨wm, hwm⟩ : ∃ wm, wm = wr := ⟨_, rfl⟩
          subst hwm
          have zm := Nat.le_refl wm.heap.size
          clear hNB
          have hzm : w.heap.size + 1 ≤ wm.heap.size := by omega
          by_cases hc2 : v / n + 1 < m
          · have HC2 := Lib.hid hc2
            have HF := Lib.hid (joinsN_facts (emptyN K) (gridM m n v) (by rw [HEL.out]; exact HFE.out.2 hlt))
            have HSM := Lib.hid (joinsN_small (HFE.out.2 hlt) (by omega) (by have := HLE.out.2; omega))
            have HC := Lib.hid (connectN_any (v := v) (u := v + n) wm hNBM (by rw [HF.out.1, HEL.out]; exact hlt) (by rw [HF.out.1, HEL.out]; exact HDN.out v hlt hc2) hzm HSM.out)
            rw [show ((v + n : Nat) : Int) = (v : Int) + (n : Int) from Int.natCast_add ..] at HC
            go_wp2_with fail
            refine HC.out.mono ?_
            rintro e w5 ⟨rfl, hNB5, fr5⟩
            replace BR := BR.fr fr5 (by omega)
            have z5 := fr5.size
            replace bb := bb.trans (fr5.below (B := w.heap.size) (fun k h1 h2 hc => by omega) bb.size)
            clear HC hNBM fr5
            go_wp2_with fail
            go_roundw
            case rel => exact ⟨v + 1, by omega, by go_num, by rw [gridE_t HC2.out, joinsN_snoc]; exact hNB5, BR, bb, by omega⟩
            case measure => simp [intOf]; omega
          · have HC2 := Lib.hid hc2
            go_wp2_with fail
            go_roundw
            case rel => exact ⟨v + 1, by omega, by go_num, by rw [gridE_f HC2.out]; exact hNBM, BR, bb, by omega⟩
            case measure => simp [intOf]; omega
      · have HP := Lib.hid (show v = K by omega)
        rw [HP.out] at hNB
        have hge : ¬ (v : Int) < (m : Int) * (n : Int) := by omega
        clear hKI
        have HGS2 := HGS
        generalize joinsN (emptyN K) (gridE m n K) = Nk at *
        obtain ⟨ax, cx, vx, aix, cix, apx, cpx, BO, hE, owni, ownp, hdis⟩ := hNB
        have q0 := BO.cell 0 _ rfl
        have q1 := BO.cell 1 _ rfl
        have q2 := BO.cell 2 _ rfl
        have e0 := BR.cell 0 _ rfl
        have e1 := BR.cell 1 _ rfl
        have e2 := BR.cell 2 _ rfl
        have f0 := BR.frozen 0
        have f1 := BR.frozen 1
        have f2 := BR.frozen 2
        go_wp2_with fail
        clear q0 q1 q2 e0 e1 e2 f0 f1 f2
        generalize hW : World.setCell _ _ _ = W
        have B6 : Bx W (w.heap.size) 31 #[.slice ax Nk.ends.length cx, .slice aix Nk.ids.length cix, .slice apx Nk.inputs.length cpx] := by rw [← hW]; exact ((BR.set 0 _).set 1 _).set 2 _
        have fr6 : Fr (fun k => k = w.heap.size) wr W := by rw [← hW]; exact fr3 _ _ _ _ _
        clear hW
        have z6 := fr6.size
        have d0 := B6.cell 0 _ rfl
        have d1 := B6.cell 1 _ rfl
        have d2 := B6.cell 2 _ rfl
        refine bodyPost_ret (v := .tuple #[.agg #[.slice ax Nk.ends.length cx, .slice aix Nk.ids.length cix, .slice apx Nk.inputs.length cpx], .bool true]) (by simp [results, Try.results44, go_sem, d0, d1, d2]) rfl ?_
        rw [HG.out, HGS2.out]
        exact ⟨_, rfl, ⟨ax, cx, vx, aix, cix, apx, cpx, rfl, RowsAt.wide (RowsAt.fr hE fr6 (fun k h1 h2 hc => by omega)) (by omega) (by omega), Ow.wide (Ow.fr owni fr6 (fun k h1 h2 hc => by omega)) (by omega) (by omega), Ow.wide (Ow.fr ownp fr6 (fun k h1 h2 hc => by omega)) (by omega) (by omega), hdis⟩, bb.trans (fr6.below (fun k h1 h2 hc => by omega) bb.size)⟩
set_option maxRecDepth 100000 in
set_option maxHeartbeats 1000000 in
theorem FnExactGridNetwork_walk (x y : Int) (w : World) (hx0 : -9223372036854775808 ≤ x) (hx1 : x ≤ 9223372036854775807) (hy0 : -9223372036854775808 ≤ y) (hy1 : y ≤ 9223372036854775807) :
    Calls Try.prog 11 #[.int .i64 x, .int .i64 y] w fun e w' => e = .returned (.bool true) ∧ Below w.heap.size w w' := by
  have HS : Hid (∀ w, Calls Try.prog 43 #[.int .i64 x, .int .i64 y] w (PostN (gdR x y) (sidesB x y) w)) := (fun w => specGrid_any x y w ⟨hx0, hx1⟩ ⟨hy0, hy1⟩)
  have HI : Hid (∀ w, Calls Try.prog 44 #[.int .i64 x, .int .i64 y] w (PostN (gdR x y) (sidesB x y) w)) := (fun w => implGrid_any x y w ⟨hx0, hx1⟩ ⟨hy0, hy1⟩)
  have hR : NetSmall (gdR x y) := gdR_sm
  generalize gdR x y = R at *
  generalize sidesB x y = ok at *
  go_enter Try.func11, Try.ntmps11
  go_wp2_with fail
  refine (HS.out _).mono ?_
  rintro e w1 ⟨vw, rfl, ownw, bel1⟩
  obtain ⟨aw, cw, aiw, ciw, apw, cpw, rfl, ownw⟩ := ownw.shape
  have z1 := bel1.size
  have BW := Bx.made w1 31 #[.slice aw R.ends.length cw, .slice aiw R.ids.length ciw, .slice apw R.inputs.length cpw]
  have bx1 : Below w1.heap.size w1 (w1.alloc (.cells #[.slice aw R.ends.length cw, .slice aiw R.ids.length ciw, .slice apw R.inputs.length cpw] 31)) := (by repeat (first | exact Below.refl _ _ | assumption | refine Below.alloc ?_ (by first | (simp; done) | (simp; omega) | omega) _ | refine Below.setCell ?_ (by first | (simp; done) | (simp; omega) | omega) _ | refine Below.drew ?_ | refine Below.drewN ?_ _))
  go_wp2_with fail
  refine (HI.out _).mono ?_
  rintro e w2 ⟨vg, rfl, owng, bel2⟩
  obtain ⟨ag, cg, aig, cig, apg, cpg, rfl, owng⟩ := owng.shape
  simp only [World.size_alloc] at owng
  have z2 : w1.heap.size + 1 ≤ w2.heap.size := by have := bel2.size; simpa using this
  replace ownw := (ownw.new bx1).new bel2
  replace BW := BW.new bel2
  have b2 := bel1.trans ((bx1.mono z1).trans (bel2.mono (by have := bx1.size; omega)))
  clear bel1 bx1 bel2
  have BG := Bx.made w2 31 #[.slice ag R.ends.length cg, .slice aig R.ids.length cig, .slice apg R.inputs.length cpg]
  have bx2 : Below w2.heap.size w2 (w2.alloc (.cells #[.slice ag R.ends.length cg, .slice aig R.ids.length cig, .slice apg R.inputs.length cpg] 31)) := (by repeat (first | exact Below.refl _ _ | assumption | refine Below.alloc ?_ (by first | (simp; done) | (simp; omega) | omega) _ | refine Below.setCell ?_ (by first | (simp; done) | (simp; omega) | omega) _ | refine Below.drew ?_ | refine Below.drewN ?_ _))
  replace BW := BW.new bx2
  have cW0 := BW.cell 0 _ rfl
  have cW1 := BW.cell 1 _ rfl
  have cW2 := BW.cell 2 _ rfl
  go_wp2_with fail
  clear cW0 cW1 cW2
  have zx2 : w2.heap.size + 1 ≤ (w2.alloc (.cells #[.slice ag R.ends.length cg, .slice aig R.ids.length cig, .slice apg R.inputs.length cpg] 31)).heap.size := by simp
  replace ownw := ownw.new bx2
  replace owng := owng.new bx2
  have b3 := b2.trans (bx2.mono b2.size)
  have HBB : Hid ((ok != ok) = false) := by show _ = _; simp
  generalize w2.alloc (.cells #[.slice ag R.ends.length cg, .slice aig R.ids.length cig, .slice apg R.inputs.length cpg] 31) = x2 at *
  clear bx2 b2
  refine (eqNetwork_any _ _ R _ _ _ _ _ owng ownw (by omega) (by omega) hR).mono ?_
  rintro e w3 ⟨rfl, bel3⟩
  replace ownw := ownw.new bel3
  replace owng := owng.new bel3
  replace BW := BW.new bel3
  replace BG := BG.new bel3
  have z3 := bel3.size
  have b4 := b3.trans (bel3.mono b3.size)
  clear b3 bel3
  have cG0 := BG.cell 0 _ rfl
  have cG1 := BG.cell 1 _ rfl
  have cG2 := BG.cell 2 _ rfl
  have hbb := HBB.out
  go_wp2_with fail
  clear cG0 cG1 cG2
  refine (markNetwork_any _ R 1 _ _ _ owng (by omega) hR (by omega)).mono ?_
  rintro e w4 ⟨rfl, owngm, fr4⟩
  replace ownw := ownw.fr fr4 (fun k h1 h2 hc => by omega)
  replace BW := BW.fr fr4 (by omega)
  replace BG := BG.fr fr4 (by omega)
  have z4 := fr4.size
  have b5 := b4.trans (fr4.below (B := w.heap.size) (fun k h1 h2 hc => by omega) (by omega))
  clear b4 fr4 owng
  have cG0 := BG.cell 0 _ rfl
  have cG1 := BG.cell 1 _ rfl
  have cG2 := BG.cell 2 _ rfl
  go_wp2_with fail
  clear cG0 cG1 cG2
  refine (heldNetwork_any _ R 1 _ _ _ owngm (by omega) hR (by omega)).mono ?_
  rintro e w5 ⟨rfl, bel5⟩
  replace ownw := ownw.new bel5
  replace owngm := owngm.new bel5
  replace BW := BW.new bel5
  replace BG := BG.new bel5
  have z5 := bel5.size
  have b6 := b5.trans (bel5.mono b5.size)
  clear b5 bel5
  have hlt : ¬ (((1 + netTot R : Nat) : Int) < 0) := by omega
  go_wp2_with fail
  refine (HI.out _).mono ?_
  rintro e w6 ⟨vh, rfl, ownh, bel6⟩
  obtain ⟨ah, chh, aih, cih, aph, cph, rfl, ownh⟩ := ownh.shape
  replace ownw := ownw.new bel6
  replace owngm := owngm.new bel6
  replace BW := BW.new bel6
  replace BG := BG.new bel6
  have z6 := bel6.size
  have b7 := b6.trans (bel6.mono b6.size)
  clear b6 bel6
  have bx6 : Below w6.heap.size w6 (w6.alloc (.cells #[.slice ah R.ends.length chh, .slice aih R.ids.length cih, .slice aph R.inputs.length cph] 31)) := (by repeat (first | exact Below.refl _ _ | assumption | refine Below.alloc ?_ (by first | (simp; done) | (simp; omega) | omega) _ | refine Below.setCell ?_ (by first | (simp; done) | (simp; omega) | omega) _ | refine Below.drew ?_ | refine Below.drewN ?_ _))
  replace BW := BW.new bx6
  replace BG := BG.new bx6
  have cW0 := BW.cell 0 _ rfl
  have cW1 := BW.cell 1 _ rfl
  have cW2 := BW.cell 2 _ rfl
  go_wp2_with fail
  clear cW0 cW1 cW2
  replace ownw := ownw.new bx6
  replace owngm := owngm.new bx6
  replace ownh := ownh.new bx6
  have b8 := b7.trans (bx6.mono b7.size)
  have zx6 := bx6.size
  generalize w6.alloc (.cells #[.slice ah R.ends.length chh, .slice aih R.ids.length cih, .slice aph R.inputs.length cph] 31) = x6 at *
  clear bx6 b7
  refine (eqNetwork_any _ _ R _ _ _ _ _ ownh ownw (by omega) (by omega) hR).mono ?_
  rintro e w7 ⟨rfl, bel7⟩
  replace owngm := owngm.new bel7
  replace BG := BG.new bel7
  have z7 := bel7.size
  have b9 := b8.trans (bel7.mono b8.size)
  clear b8 bel7
  have cG0 := BG.cell 0 _ rfl
  have cG1 := BG.cell 1 _ rfl
  have cG2 := BG.cell 2 _ rfl
  go_wp2_with fail
  clear cG0 cG1 cG2
  refine (heldNetwork_any _ R 1 _ _ _ owngm (by omega) hR (by omega)).mono ?_
  rintro e w8 ⟨rfl, bel8⟩
  go_wp2_with fail
  go_ret
  exact ⟨rfl, b9.trans (bel8.mono b9.size)⟩
end Go.Proofs.Ytpfjglheinomiaa
