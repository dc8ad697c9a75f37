/- Contracts: l1All, l1Has, allWithin. -/
import Derived.Test.YtlooinhdehkcdaaRise
namespace Go.Proofs.Ytlooinhdehkcdaa
open Go.RowKit
set_option linter.unusedVariables false
def AllIn (l : List Int) (lo hi : Int) : Prop := ∀ j, j < l.length → lo ≤ nth l j ∧ nth l j ≤ hi
instance (l : List Int) (lo hi : Int) : Decidable (AllIn l lo hi) := by unfold AllIn; infer_instance
def allB (l : List Int) (lo hi : Int) : Bool := decide (AllIn l lo hi)
theorem allB_t {l : List Int} {lo hi : Int} (h : ∀ j, j < l.length → inR (nth l j) lo hi = true) : allB l lo hi = true := decide_eq_true fun j hj => inR_iff.1 (h j hj)
theorem allB_f {l : List Int} {lo hi : Int} {k : Nat} (hk : k < l.length) (h : inR (nth l k) lo hi = false) : allB l lo hi = false := decide_eq_false fun ha => by
  rw [inR_t (ha k hk).1 (ha k hk).2] at h; cases h
theorem allB_at {l : List Int} {lo hi : Int} (h : allB l lo hi = true) (j : Nat) (hj : j < l.length) : lo ≤ nth l j ∧ nth l j ≤ hi := (of_decide_eq_true h : AllIn l lo hi) j hj
set_option maxHeartbeats 400000 in
theorem l1All_any (a : Option Addr) (cap : Nat) (l : List Int) (lo hi : Int) (w : World) (B : Nat) (ha : RdI w B a l) (hl : l.length ≤ 4611686018427387904) :
    Calls Try.prog 71 #[.slice a l.length cap, .int .i64 lo, .int .i64 hi] w fun e w' => e = .returned (.bool (allB l lo hi)) ∧ ∃ m, w' = w.drewN m := by
  go_enter Try.func71, Try.ntmps71
  go_wp2_with fail
  go_loopw [11] (fun i wr => ∃ k : Nat, k ≤ l.length ∧ i = .int .i64 k ∧ (∀ j, j < k → inR (nth l j) lo hi = true) ∧ Qt w wr) (fun i _ => l.length - (intOf i).toNat)
  case atStart => exact ⟨0, Nat.zero_le _, rfl, fun j h => absurd h (by omega), Qt.refl _⟩
  case round =>
    obtain ⟨k, hk, rfl, hall, hq⟩ := hrel
    have Hall := Lib.hid hall
    clear hall
    by_cases hlt : k < l.length
    · obtain ⟨g, off, rfl, _, hc1⟩ := Rd.at (Rd.qt ha hq) hlt
      cases hin : inR (nth l k) lo hi with
      | true =>
        have HI := Lib.hid hin
        go_wp2_with (go_at_call 69; refine (l1In_any _ _ _ _).mono ?_; rintro e w' ⟨rfl, rfl⟩)
        go_roundw
        case rel =>
          refine ⟨k + 1, by omega, by go_num, fun j hj => ?_, hq⟩
          by_cases e : j = k
          · rw [e]; exact HI.out
          · exact Hall.out j (by omega)
        case measure => simp [intOf]; omega
      | false =>
        have HI := Lib.hid hin
        go_wp2_with (go_at_call 69; refine (l1In_any _ _ _ _).mono ?_; rintro e w' ⟨rfl, rfl⟩)
        go_ret
        exact ⟨ret_bool (allB_f hlt HI.out).symm, hq⟩
    · go_wp2_with fail
      go_ret
      exact ⟨ret_bool (allB_t fun j hj => Hall.out j (by omega)).symm, hq⟩
def hasB (l : List Int) (x : Int) : Bool := decide (∃ j, j < l.length ∧ nth l j = x)
theorem hasB_t {l : List Int} {x : Int} {k : Nat} (hk : k < l.length) (h : nth l k = x) : true = hasB l x := by symm; exact decide_eq_true ⟨k, hk, h⟩
theorem hasB_f {l : List Int} {x : Int} (h : ∀ j, j < l.length → nth l j ≠ x) : false = hasB l x := by symm; exact decide_eq_false fun ⟨j, hj, he⟩ => h j hj he
set_option maxHeartbeats 400000 in
theorem l1Has_any (a : Option Addr) (cap : Nat) (l : List Int) (x : Int) (w : World) (B : Nat) (ha : RdI w B a l) (hl : l.length ≤ 4611686018427387904) :
    Calls Try.prog 84 #[.slice a l.length cap, .int .i64 x] w fun e w' => e = .returned (.bool (hasB l x)) ∧ ∃ m, w' = w.drewN m := by
  go_enter Try.func84, Try.ntmps84
  go_wp2_with fail
  go_loopw [9] (fun i wr => ∃ k : Nat, k ≤ l.length ∧ i = .int .i64 k ∧ (∀ j, j < k → nth l j ≠ x) ∧ Qt w wr) (fun i _ => l.length - (intOf i).toNat)
  case atStart => exact ⟨0, Nat.zero_le _, rfl, fun j h => absurd h (by omega), Qt.refl _⟩
  case round =>
    obtain ⟨k, hk, rfl, hall, hq⟩ := hrel
    have Hall := Lib.hid hall
    clear hall
    by_cases hlt : k < l.length
    · obtain ⟨g, off, rfl, _, hc1⟩ := Rd.at (Rd.qt ha hq) hlt
      by_cases he : nth l k = x
      · have hbe : (nth l k == x) = true := by simp [he]
        have HE := Lib.hid he
        clear he
        go_wp2_with fail
        go_ret
        exact ⟨ret_bool (hasB_t hlt HE.out), hq⟩
      · have hbe : (nth l k == x) = false := by simp [he]
        have HE := Lib.hid he
        clear he
        go_wp2_with fail
        go_roundw
        case rel =>
          refine ⟨k + 1, by omega, by go_num, fun j hj => ?_, hq⟩
          by_cases e : j = k
          · rw [e]; exact HE.out
          · exact Hall.out j (by omega)
        case measure => simp [intOf]; omega
    · go_wp2_with fail
      go_ret
      exact ⟨ret_bool (hasB_f fun j hj => Hall.out j (by omega)), hq⟩
/-- what IndexFunc gives for 'not within': an index from 0 on if some number is not, else -1 -/
def IdxPost (l : List Int) (lo hi : Int) (w : World) (e : Ending) (w' : World) : Prop := ∃ r : Int, e = .returned (.int .i64 r) ∧ (0 ≤ r ↔ allB l lo hi = false) ∧ Below w.heap.size w w'
set_option maxHeartbeats 400000 in
theorem outside_any (x lo hi : Int) (p q : Nat) (w : World) (hp : w.cell? ⟨p, 0, none⟩ = some (.int .i64 lo)) (hq : w.cell? ⟨q, 0, none⟩ = some (.int .i64 hi)) :
    Calls Try.prog 104 #[.int .i64 x, .pointer (some ⟨p, 0, none⟩), .pointer (some ⟨q, 0, none⟩)] w fun e w' => e = .returned (.bool (!inR x lo hi)) ∧ Qt w w' := by
  go_enter Try.func104, Try.ntmps104
  go_wp2_with (go_at_call 74; refine (within_any _ _ _ _).mono ?_; rintro e w' ⟨rfl, rfl⟩)
  go_ret
  exact ⟨rfl, Qt.refl _⟩
set_option maxHeartbeats 400000 in
theorem IndexFunc_any (a : Option Addr) (cap : Nat) (l : List Int) (lo hi : Int) (p q : Nat) (w : World) (B : Nat) (ha : RdI w B a l) (hl : l.length ≤ 4611686018427387904) (hp : w.cell? ⟨p, 0, none⟩ = some (.int .i64 lo)) (hq : w.cell? ⟨q, 0, none⟩ = some (.int .i64 hi)) :
    Calls Try.prog 116 #[.slice a l.length cap, .func (.func 104) #[] #[.pointer (some ⟨p, 0, none⟩), .pointer (some ⟨q, 0, none⟩)]] w (IdxPost l lo hi w) := by
  go_enter Try.func116, Try.ntmps116
  go_wp2_with fail
  go_loopw [8] (fun i wr => ∃ k : Nat, k ≤ l.length ∧ i = .int .i64 k ∧ (∀ j, j < k → inR (nth l j) lo hi = true) ∧ Qt w wr) (fun i _ => l.length - (intOf i).toNat)
  case atStart => exact ⟨0, Nat.zero_le _, rfl, fun j h => absurd h (by omega), Qt.refl _⟩
  case round =>
    obtain ⟨k, hk, rfl, hall, hqt⟩ := hrel
    have Hall := Lib.hid hall
    clear hall
    by_cases hlt : k < l.length
    · obtain ⟨g, off, rfl, _, hc1⟩ := Rd.at (Rd.qt ha hqt) hlt
      have hp1 := hqt.cell hp
      have hq1 := hqt.cell hq
      clear hp hq
      cases hin : inR (nth l k) lo hi with
      | true =>
        have HI := Lib.hid hin
        go_wp2_with fail
        refine (outside_any _ lo hi p q _ hp1 hq1).mono ?_
        rintro e w1 ⟨rfl, q1⟩
        replace hqt := hqt.trans q1
        go_wp2_with fail
        go_roundw
        case rel =>
          refine ⟨k + 1, by omega, by go_num, fun j hj => ?_, hqt⟩
          by_cases e : j = k
          · rw [e]; exact HI.out
          · exact Hall.out j (by omega)
        case measure => simp [intOf]; omega
      | false =>
        have HI := Lib.hid hin
        go_wp2_with fail
        refine (outside_any _ lo hi p q _ hp1 hq1).mono ?_
        rintro e w1 ⟨rfl, q1⟩
        replace hqt := hqt.trans q1
        go_wp2_with fail
        go_ret
        exact ⟨_, rfl, ⟨fun _ => allB_f hlt HI.out, fun _ => by omega⟩, hqt.below _⟩
    · go_wp2_with fail
      go_ret
      exact ⟨_, rfl, ⟨fun h => by omega, fun h => by rw [allB_t fun j hj => Hall.out j (by omega)] at h; cases h⟩, hqt.below _⟩
set_option maxHeartbeats 400000 in
theorem ContainsFunc_any (a : Option Addr) (cap : Nat) (l : List Int) (lo hi : Int) (p q : Nat) (w : World) (B : Nat) (ha : RdI w B a l) (hl : l.length ≤ 4611686018427387904) (hp : w.cell? ⟨p, 0, none⟩ = some (.int .i64 lo)) (hq : w.cell? ⟨q, 0, none⟩ = some (.int .i64 hi)) :
    Calls Try.prog 103 #[.slice a l.length cap, .func (.func 104) #[] #[.pointer (some ⟨p, 0, none⟩), .pointer (some ⟨q, 0, none⟩)]] w fun e w' => e = .returned (.bool (!allB l lo hi)) ∧ Below w.heap.size w w' := by
  go_enter Try.func103, Try.ntmps103
  go_wp2_with fail
  refine (IndexFunc_any a cap l lo hi p q _ B ha hl hp hq).mono ?_
  rintro e w1 ⟨r, rfl, hr, bel1⟩
  have HR := Lib.hid hr
  clear hr hp hq
  go_wp2_with fail
  go_ret
  refine ⟨ret_bool ?_, bel1⟩
  cases hb : allB l lo hi with
  | true =>
    have h1 : ¬ 0 ≤ r := fun h => by have := HR.out.1 h; rw [hb] at this; cases this
    simpa using h1
  | false =>
    have h1 : 0 ≤ r := HR.out.2 hb
    simpa using h1
set_option maxHeartbeats 400000 in
theorem allWithin_any (a : Option Addr) (cap : Nat) (l : List Int) (lo hi : Int) (w : World) (B : Nat) (ha : RdI w B a l) (hB : B ≤ w.heap.size) (hl : l.length ≤ 4611686018427387904) :
    Calls Try.prog 94 #[.slice a l.length cap, .int .i64 lo, .int .i64 hi] w fun e w' => e = .returned (.bool (allB l lo hi)) ∧ Below w.heap.size w w' := by
  have b0 : Below w.heap.size w ((w.alloc (.cells #[.int .i64 lo] 3)).alloc (.cells #[.int .i64 hi] 3)) := (by repeat (first | exact Below.refl _ _ | assumption | refine Below.alloc ?_ (by first | (simp; done) | (simp; omega) | omega) _ | refine Below.setCell ?_ (by first | (simp; done) | (simp; omega) | omega) _ | refine Below.drew ?_ | refine Below.drewN ?_ _))
  have hrd := ha.below (b0.mono hB)
  have c1 := ((Bx.made w 3 #[.int .i64 lo]).alloc (.cells #[.int .i64 hi] 3)).cell 0 _ rfl
  have c2 := (Bx.made (w.alloc (.cells #[.int .i64 lo] 3)) 3 #[.int .i64 hi]).cell 0 _ rfl
  rw [World.size_alloc] at c2
  have C1 := Lib.hid c1
  have C2 := Lib.hid c2
  clear c1 c2
  go_enter Try.func94, Try.ntmps94
  go_wp2_with fail
  refine (ContainsFunc_any _ _ l lo hi _ _ _ B hrd hl C1.out C2.out).mono ?_
  rintro e w1 ⟨rfl, bel1⟩
  go_wp2_with fail
  go_ret
  exact ⟨ret_bool (by simp), b0.trans (bel1.mono (by simp; omega))⟩
end Go.Proofs.Ytlooinhdehkcdaa
