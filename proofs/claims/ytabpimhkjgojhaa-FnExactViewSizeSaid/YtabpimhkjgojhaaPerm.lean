/- Permutations: spec's nePerm, impl's isPermutation. -/
import Derived.Test.YtabpimhkjgojhaaNeGood
import Derived.Test.YtabpimhkjgojhaaEmpty
namespace Go.Proofs.Ytabpimhkjgojhaa
open Go.RowKit
set_option linter.unusedVariables false
set_option linter.unusedSimpArgs false
def permP (l : List Int) (n j : Nat) : Prop := inR (nth l j) 0 ((n : Int) - 1) = true ∧ hasB (l.take j) (nth l j) = false
instance (l : List Int) (n j : Nat) : Decidable (permP l n j) := by unfold permP; infer_instance
/-- the numbers 0 to n-1 in any order -/
def permB (l : List Int) (n : Nat) : Bool := decide (l.length = n ∧ ∀ j, j < l.length → permP l n j)
theorem permB_f0 {l : List Int} {n : Nat} (h : ¬ l.length = n) : false = permB l n := (decide_eq_false fun hh => h hh.1).symm
theorem permB_f1 {l : List Int} {n k : Nat} (hk : k < l.length) (h : ¬ permP l n k) : false = permB l n := (decide_eq_false fun hh => h (hh.2 k hk)).symm
theorem permB_t {l : List Int} {n : Nat} (h0 : l.length = n) (h : ∀ j, j < l.length → permP l n j) : true = permB l n := (decide_eq_true ⟨h0, h⟩).symm
set_option maxHeartbeats 400000 in
theorem nePerm_any (a : Option Addr) (cap : Nat) (l : List Int) (n : Nat) (w : World) (B : Nat) (ha : RdI w B a l) (hl : l.length ≤ 1048576) (hn : n ≤ 1048576) (hcap : l.length ≤ cap) :
    Calls Try.prog 70 #[.slice a l.length cap, .int .i64 n] w fun e w' => e = .returned (.bool (permB l n)) ∧ ∃ m, w' = w.drewN m := by
  go_enter Try.func70, Try.ntmps70
  go_wp2_with fail
  go_loopw [9] (fun i wr => ∃ k : Nat, k ≤ l.length ∧ i = .int .i64 k ∧ (∀ j, j < k → permP l n j) ∧ Qt w wr) (fun i _ => l.length - (intOf i).toNat)
  case atStart => exact ⟨0, Nat.zero_le _, rfl, fun j h => absurd h (by omega), Qt.refl _⟩
  case round =>
    obtain ⟨k, hk, rfl, hall, hq⟩ := hrel
    have Hall := Lib.hid hall
    clear hall
    by_cases hlt : k < l.length
    · have hrd := Rd.qt ha hq
      obtain ⟨g, off, rfl, _, hc1⟩ := Rd.at hrd hlt
      have HH : Hid (∀ C W, W = wr → Calls Try.prog 117 #[.slice (some ⟨g, off, none⟩) k C, .int .i64 (nth l k)] W fun e w' => e = .returned (.bool (hasB (l.take k) (nth l k))) ∧ ∃ m, w' = W.drewN m) := by
        rintro C W rfl
        have hlk : (l.take k).length = k := by simp; omega
        have h := l1Has_any (some ⟨g, off, none⟩) C (l.take k) (nth l k) W B (by
          unfold RdI; rw [hlk]
          exact (Rd.take hrd (by omega)).congr fun j hj => by rw [nth_take _ _ _ hj]) (by omega)
        rwa [hlk] at h
      clear hrd
      cases hin : inR (nth l k) 0 ((n : Int) - 1) with
      | true =>
        cases hh : hasB (l.take k) (nth l k) with
        | true =>
          have HX := Lib.hid hh
          rw [hh] at HH
          clear hh
          go_wp2_with (first | (go_at_call 48; refine (l1In_any _ _ _ _).mono ?_; rintro e w' ⟨rfl, rfl⟩) | (go_at_call 117; refine (HH.out _ _ rfl).mono ?_; rintro e w1 ⟨rfl, q1⟩; replace hq := hq.trans q1))
          go_ret
          exact ⟨ret_bool (permB_f1 hlt fun h => by rw [h.2] at HX; cases HX.out), hq⟩
        | false =>
          have HX : Hid (permP l n k) := ⟨hin, hh⟩
          rw [hh] at HH
          clear hh
          go_wp2_with (first | (go_at_call 48; refine (l1In_any _ _ _ _).mono ?_; rintro e w' ⟨rfl, rfl⟩) | (go_at_call 117; refine (HH.out _ _ rfl).mono ?_; rintro e w1 ⟨rfl, q1⟩; replace hq := hq.trans q1))
          go_roundw
          case rel =>
            refine ⟨k + 1, by omega, by go_num, fun j hj => ?_, hq⟩
            by_cases e : j = k
            · rw [e]; exact HX.out
            · exact Hall.out j (by omega)
          case measure => simp [intOf]; omega
      | false =>
        have HX := Lib.hid hin
        go_wp2_with (go_at_call 48; refine (l1In_any _ _ _ _).mono ?_; rintro e w' ⟨rfl, rfl⟩)
        go_ret
        exact ⟨ret_bool (permB_f1 hlt fun h => by rw [h.1] at HX; cases HX.out), hq⟩
    · have HE := Lib.hid (fun j (hj : j < l.length) => Hall.out j (by omega))
      by_cases he : l.length = n
      · have hbe : ((l.length : Int) == (n : Int)) = true := by simp [he]
        have H1 := Lib.hid he
        clear he
        go_wp2_with fail
        go_ret
        exact ⟨ret_bool (permB_t H1.out HE.out), hq⟩
      · have hbe : ((l.length : Int) == (n : Int)) = false := beq_eq_false_iff_ne.2 (by omega)
        have H1 := Lib.hid he
        clear he
        go_wp2_with fail
        go_ret
        exact ⟨ret_bool (permB_f0 H1.out), hq⟩
theorem bool_info : (Try.prog.info? 4).map (fun i => (i.zero, i.size, i.bytes)) = some (some (.bool false), 1, 1) := by kernel_rfl
theorem hasB_snoc2 {zs : List Int} {j : Nat} (hj : j < zs.length) (y : Int) : hasB (zs.take (j + 1)) y = (decide (nth zs j = y) || hasB (zs.take j) y) := by
  have e1 : hasB (zs.take (j + 1)) y = true ↔ ∃ i, i < j + 1 ∧ nth zs i = y := has_take (by omega)
  have e2 : hasB (zs.take j) y = true ↔ ∃ i, i < j ∧ nth zs i = y := has_take (by omega)
  rw [Bool.eq_iff_iff, e1, Bool.or_eq_true, e2, decide_eq_true_iff]
  constructor
  · rintro ⟨i, hi, he⟩
    by_cases h : i = j
    · subst h; exact .inl he
    · exact .inr ⟨i, by omega, he⟩
  · rintro (h | ⟨i, hi, he⟩)
    · exact ⟨j, by omega, h⟩
    · exact ⟨i, by omega, he⟩
set_option maxHeartbeats 400000 in
theorem isPermutation_any (a : Option Addr) (cap : Nat) (l : List Int) (n : Nat) (w : World) (B : Nat) (ha : RdI w B a l) (hB : B ≤ w.heap.size) (hl : l.length ≤ 1048576) (hn : n ≤ 1048576) :
    Calls Try.prog 73 #[.slice a l.length cap, .int .i64 n] w fun e w' => e = .returned (.bool (permB l n)) ∧ Below w.heap.size w w' := by
  by_cases he : l.length = n
  case neg =>
    have hbe : ((l.length : Int) != (n : Int)) = true := by simp; omega
    have H1 := Lib.hid he
    clear he
    go_enter Try.func73, Try.ntmps73
    go_wp2_with fail
    go_ret
    exact ⟨ret_bool (permB_f0 H1.out), Below.refl _ _⟩
  have hbe : ((l.length : Int) != (n : Int)) = false := by simp [he]
  have H1 := Lib.hid he
  have hl1 : l.length ≤ n := by omega
  have hl2 : n ≤ l.length := by omega
  clear he
  go_enter Try.func73, Try.ntmps73
  go_wp2_with (at_make; refine wpList_mk _ rfl _ _ _ rfl 4 (.bool false) 1 Try.underlying83 bool_info rfl .i64 .i64 _ _ n rfl rfl rfl rfl (by omega) (by omega) ?_; intro w1 hrow hsz hbel)
  obtain ⟨g0, hg0⟩ : ∃ g0, g0 = w.heap.size := ⟨_, rfl⟩
  rw [← hg0] at hrow ⊢
  have zg : w.heap.size ≤ g0 := by omega
  clear hg0
  go_loopw [16] (fun i wr => ∃ k : Nat, k ≤ l.length ∧ i = .int .i64 k ∧ (∀ j, j < k → permP l n j) ∧ wr.rowIs g0 4 n (fun x => .bool (hasB (l.take k) x)) ∧ Below w.heap.size w wr) (fun i _ => l.length - (intOf i).toNat)
  case atStart =>
    refine ⟨0, Nat.zero_le _, rfl, fun j h => absurd h (by omega), ?_, hbel⟩
    have hf : (fun x : Nat => Value.bool (hasB (l.take 0) (x : Int))) = fun _ => Value.bool false := by funext x; rw [List.take_zero]; rfl
    rw [hf]; exact hrow
  case round =>
    clear hrow hbel
    obtain ⟨k, hk, rfl, hall, hrow, bel⟩ := hrel
    have Hall := Lib.hid hall
    clear hall
    by_cases hlt : k < l.length
    · obtain ⟨g, off, rfl, _, hc1⟩ := Rd.at (Rd.below ha (bel.mono hB)) hlt
      cases hin : inR (nth l k) 0 ((n : Int) - 1) with
      | false =>
        have HX := Lib.hid hin
        clear hin
        go_wp2_with fail
        refine (within_any _ _ _ _).mono ?_
        rintro e w' ⟨rfl, rfl⟩
        rw [HX.out]
        go_wp2_with fail
        go_ret
        exact ⟨ret_bool (permB_f1 hlt fun h => by rw [h.1] at HX; cases HX.out), bel⟩
      | true =>
        have HIN := Lib.hid hin
        have h2 := inR_iff.1 hin
        obtain ⟨p, hp⟩ := Int.eq_ofNat_of_zero_le h2.1
        have hpn : p < n := by omega
        have HP := Lib.hid hp
        rw [hp] at hc1
        have hcp := hrow.cell (i := p) hpn
        have hfp := hrow.frozen p
        have HI2 := Lib.hid (show inR (p : Int) 0 ((n : Int) - 1) = true by rw [← hp]; exact hin)
        clear hin h2 hp
        cases hh : hasB (l.take k) (p : Int) with
        | true =>
          have HX := Lib.hid hh
          simp only [hh] at hcp
          clear hh
          go_wp2_with fail
          refine (within_any _ _ _ _).mono ?_
          rintro e w' ⟨rfl, rfl⟩
          rw [HI2.out]
          go_wp2_with fail
          go_ret
          exact ⟨ret_bool (permB_f1 hlt fun h => by have h9 := h.2; rw [HP.out, HX.out] at h9; cases h9), bel⟩
        | false =>
          have HX := Lib.hid hh
          simp only [hh] at hcp
          clear hh
          have hst := hrow.set p (.bool true)
          go_wp2_with fail
          refine (within_any _ _ _ _).mono ?_
          rintro e w' ⟨rfl, rfl⟩
          rw [HI2.out]
          go_wp2_with fail
          go_roundw
          case rel =>
            refine ⟨k + 1, by omega, by go_num, fun j hj => ?_, ?_, bel.setCell (p := ⟨g0, p, none⟩) zg _⟩
            · by_cases e : j = k
              · rw [e]; exact ⟨HIN.out, by rw [HP.out]; exact HX.out⟩
              · exact Hall.out j (by omega)
            · have hf : (fun x : Nat => Value.bool (hasB (l.take (k + 1)) (x : Int))) = fun x : Nat => if x = p then Value.bool true else Value.bool (hasB (l.take k) (x : Int)) := by
                funext x
                rw [hasB_snoc2 hlt, HP.out]
                by_cases e : x = p
                · subst e; simp
                · have : ¬ ((p : Int) = (x : Int)) := by omega
                  simp [e, this]
              rw [hf]; exact hst
          case measure => simp [intOf]; omega
    · go_wp2_with fail
      go_ret
      exact ⟨ret_bool (permB_t H1.out fun j hj => Hall.out j (by omega)), bel⟩
end Go.Proofs.Ytabpimhkjgojhaa
