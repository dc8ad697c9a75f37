/- PlaceOf: the walks and the law. -/
import Derived.Test.YtkbhopcgjjipcaaAll
import Derived.Test.YtkbhopcgjjipcaaShelf
namespace Go.Proofs.Ytkbhopcgjjipcaa
open Go.RowKit
set_option linter.unusedVariables false
set_option linter.unusedSimpArgs false
def isNl (s : ByteArray) (i : Nat) : Bool := ((s.data[i]!).toNat : Int) == 10
def lineAt (s : ByteArray) : Nat → Nat
  | 0 => 1
  | i + 1 => if isNl s i then lineAt s i + 1 else lineAt s i
def colAt (s : ByteArray) : Nat → Nat
  | 0 => 1
  | i + 1 => if isNl s i then 1 else colAt s i + 1
theorem lineAt_le (s : ByteArray) (k : Nat) : lineAt s k ≤ k + 1 := by
  induction k with
  | zero => exact Nat.le_refl _
  | succ k ih => simp only [lineAt]; split <;> omega
theorem colAt_le (s : ByteArray) (k : Nat) : colAt s k ≤ k + 1 := by
  induction k with
  | zero => exact Nat.le_refl _
  | succ k ih => simp only [colAt]; split <;> omega
theorem nl_at (s : ByteArray) (j : Nat) (h : j < s.size) : (s.data[j]! = 10) ↔ isNl s j = true := by
  simp only [isNl, beq_iff_eq]
  constructor
  · intro e; rw [e]; rfl
  · intro e; exact UInt8.toNat_inj.1 (by have : (10 : UInt8).toNat = 10 := rfl; omega)
theorem line_count (s : ByteArray) (k : Nat) (hk : k ≤ s.size) : lineAt s k = 1 + Lib.countByte (s.data.toList.take k) 10 := by
  induction k with
  | zero => simp [lineAt, Lib.countByte]
  | succ k ih =>
    have hlt : k < s.data.toList.length := by simp; omega
    have ih := ih (by omega)
    unfold Lib.countByte at ih ⊢
    rw [List.take_succ_eq_append_getElem hlt, List.count_append, lineAt, ih]
    have h2 := nl_at s k (by omega)
    have h3 : s.data.toList[k] = s.data[k]! := by rw [Array.getElem_toList, getElem!_pos]
    rw [h3]
    by_cases hb : isNl s k = true
    · rw [if_pos hb, h2.2 hb]; simp; omega
    · rw [if_neg hb]
      have : s.data[k]! ≠ 10 := fun e => hb (h2.1 e)
      rw [List.count_singleton]; simp [this]
theorem col_last (s : ByteArray) (k : Nat) : (colAt s k : Int) = (k : Int) - Lib.lastIdx s 10 k := by
  induction k with
  | zero => simp [colAt, Lib.lastIdx]
  | succ k ih =>
    simp only [colAt, Lib.lastIdx]
    by_cases hb : isNl s k = true
    · have h2 : ((s.data[k]!).toNat : Int) = 10 := by simpa [isNl] using hb
      rw [if_pos hb, if_pos h2]; omega
    · have h2 : ¬ ((s.data[k]!).toNat : Int) = 10 := by simpa [isNl] using hb
      rw [if_neg hb, if_neg h2]; omega
theorem last_extract (s : ByteArray) (k : Nat) (hk : k ≤ s.size) : Lib.lastIndexByte (s.extract 0 k) 10 = Lib.lastIdx s 10 k := by
  have hsz : (s.extract 0 k).size = k := by simp; omega
  have : ∀ j, j ≤ k → Lib.lastIdx (s.extract 0 k) 10 j = Lib.lastIdx s 10 j := by
    intro j hj
    induction j with
    | zero => rfl
    | succ j ih =>
      have e : (s.extract 0 k).data[j]! = s.data[j]! := by
        have h1 : j < (s.extract 0 k).data.size := by have := hsz; simp only [ByteArray.size] at this; omega
        have h2 : j < s.data.size := by simp only [ByteArray.size] at hk; omega
        rw [getElem!_pos (s.extract 0 k).data j h1, getElem!_pos s.data j h2]
        have e0 : (s.extract 0 k).data = s.data.extract 0 k := ByteArray.data_extract
        simp only [e0, Array.getElem_extract, Nat.zero_add]
      simp only [Lib.lastIdx, e, ih (by omega)]
  rw [Lib.lastIndexByte, hsz]; exact this k (Nat.le_refl _)
set_option maxHeartbeats 400000 in
theorem specPlace_in (s : ByteArray) (k : Nat) (w : World) (hk : k ≤ s.size) (hs : s.size ≤ 1048576) :
    Calls Try.prog 6 #[.string s, .int .i64 k] w fun e w' => e = .returned (.tuple #[.int .i64 (lineAt s k), .int .i64 (colAt s k), .bool true]) ∧ w' = w := by
  have i1 := inR_t (n := (k : Int)) (lo := 0) (hi := (s.size : Int)) (by omega) (by omega)
  go_enter Try.func6, Try.ntmps6
  go_wp2_with (go_at_call 14; refine (l1In_any _ _ _ _).mono ?_; rintro e w' ⟨rfl, rfl⟩)
  go_loop [7, 8, 9] (fun l c i => ∃ j : Nat, j ≤ k ∧ i = .int .i64 j ∧ l = .int .i64 (lineAt s j) ∧ c = .int .i64 (colAt s j)) (fun _ _ i => k - (intOf i).toNat)
  case atStart => exact ⟨0, Nat.zero_le _, rfl, rfl, rfl⟩
  case round =>
    obtain ⟨j, hj, rfl, rfl, rfl⟩ := hrel
    have b1 := lineAt_le s j
    have b2 := colAt_le s j
    by_cases hlt : j < k
    · have h3 : j < s.size := by omega
      have hnl : isNl s j = ((s[j].toNat : Int) == 10) := by
        have e : s.data[j]! = s[j] := getElem!_pos s.data j h3
        rw [isNl, e]
      have HNL := Lib.hid hnl
      clear hnl
      go_wp2_with fail
      · rename_i hb
        refine ⟨⟨j + 1, by omega, rfl, ?_, ?_⟩, by simp [intOf]; omega⟩
        · simp only [lineAt, HNL.out, hb, if_true]; rfl
        · simp only [colAt, HNL.out, hb, if_true]; rfl
      · rename_i hb
        refine ⟨⟨j + 1, by omega, rfl, ?_, ?_⟩, by simp [intOf]; omega⟩
        · simp only [lineAt, HNL.out, hb]; rfl
        · simp only [colAt, HNL.out, hb]; rfl
    · obtain rfl : j = k := by omega
      go_wp2_with fail
      go_ret3
      exact ⟨rfl, rfl⟩
set_option maxHeartbeats 400000 in
theorem implPlace_in (s : ByteArray) (k : Nat) (w : World) (hk : k ≤ s.size) (hs : s.size ≤ 1048576) :
    Calls Try.prog 7 #[.string s, .int .i64 k] w fun e w' => e = .returned (.tuple #[.int .i64 (lineAt s k), .int .i64 (colAt s k), .bool true]) ∧ Below w.heap.size w w' := by
  have i1 := inR_t (n := (k : Int)) (lo := 0) (hi := (s.size : Int)) (by omega) (by omega)
  go_enter Try.func7, Try.ntmps7
  go_wp2_with (go_at_call 15; refine (within_any _ _ _ _).mono ?_; rintro e w' ⟨rfl, rfl⟩)
  have hk0 : (0 : Int) ≤ (k : Int) := by omega
  have hk1 : (k : Int) ≤ (s.size : Int) := by omega
  go_quiet (first | (go_at_call 16; exact Calls.quiet_of_same (Try.strings_Count_one _ 10 _)) | (go_at_call 17; exact Calls.quiet_of_same (Try.strings_LastIndexByte _ 10 (by simp; omega) _)))
  have hl := line_count s k hk
  have hc := col_last s k
  have he := last_extract s k hk
  have b1 := lineAt_le s k
  have b2 := colAt_le s k
  have e1 : wrap64 (1 + (Lib.countByte (List.take k s.data.toList) 10 : Int)) = (lineAt s k : Int) := by unfold wrap64; omega
  have e2 : wrap64 ((k : Int) - Lib.lastIndexByte (s.extract 0 k) 10) = (colAt s k : Int) := by rw [he]; unfold wrap64; omega
  have E1 := Lib.hid e1
  have E2 := Lib.hid e2
  clear hl hc he e1 e2
  go_wp2_with fail
  go_ret3
  exact ⟨by rw [← E1.out, ← E2.out]; rfl, Qt.below ⟨_, rfl⟩ _⟩
def plOk (s : ByteArray) (n : Int) : Bool := inR n 0 s.size
def plL (s : ByteArray) (n : Int) : Int := if plOk s n then lineAt s n.toNat else 0
def plC (s : ByteArray) (n : Int) : Int := if plOk s n then colAt s n.toNat else 0
def PlPost (s : ByteArray) (n : Int) (w : World) (e : Ending) (w' : World) : Prop := e = .returned (.tuple #[.int .i64 (plL s n), .int .i64 (plC s n), .bool (plOk s n)]) ∧ Below w.heap.size w w'
set_option maxHeartbeats 400000 in
theorem specPlace_any (s : ByteArray) (n : Int) (w : World) (hs : s.size ≤ 1048576) : Calls Try.prog 6 #[.string s, .int .i64 n] w (PlPost s n w) := by
  by_cases h : 0 ≤ n ∧ n ≤ (s.size : Int)
  · obtain ⟨k, rfl⟩ := Int.eq_ofNat_of_zero_le h.1
    have hok : plOk s (k : Int) = true := inR_t h.1 h.2
    refine (specPlace_in s k w (by omega) hs).mono ?_
    rintro e w' ⟨rfl, hw⟩
    refine ⟨by rw [plL, plC, hok]; rfl, hw ▸ Below.refl _ _⟩
  · have i1 := inR_f h
    have hok : plOk s n = false := i1
    have Hok := Lib.hid hok
    clear hok h
    go_enter Try.func6, Try.ntmps6
    go_wp2_with (first | (go_at_call 14; refine (l1In_any _ _ _ _).mono ?_; rintro e w' ⟨rfl, rfl⟩))
    go_ret3
    exact ⟨by rw [plL, plC, Hok.out]; rfl, Below.refl _ _⟩
set_option maxHeartbeats 400000 in
theorem implPlace_any (s : ByteArray) (n : Int) (w : World) (hs : s.size ≤ 1048576) : Calls Try.prog 7 #[.string s, .int .i64 n] w (PlPost s n w) := by
  by_cases h : 0 ≤ n ∧ n ≤ (s.size : Int)
  · obtain ⟨k, rfl⟩ := Int.eq_ofNat_of_zero_le h.1
    have hok : plOk s (k : Int) = true := inR_t h.1 h.2
    refine (implPlace_in s k w (by omega) hs).mono ?_
    rintro e w' ⟨rfl, hw⟩
    refine ⟨by rw [plL, plC, hok]; rfl, hw⟩
  · have i1 := inR_f h
    have hok : plOk s n = false := i1
    have Hok := Lib.hid hok
    clear hok h
    go_enter Try.func7, Try.ntmps7
    go_wp2_with (first | (go_at_call 15; refine (within_any _ _ _ _).mono ?_; rintro e w' ⟨rfl, rfl⟩))
    go_ret3
    exact ⟨by rw [plL, plC, Hok.out]; rfl, Below.refl _ _⟩
set_option maxHeartbeats 400000 in
theorem FnExactPlaceOf_walk (s : ByteArray) (n : Int) (w : World) (hm : s.size ≤ maxLen) (hn0 : -9223372036854775808 ≤ n) (hn1 : n ≤ 9223372036854775807) :
    Calls Try.prog 3 #[.string s, .int .i64 n] w fun e w' => e = .returned (.bool true) ∧ Below w.heap.size w w' := by
  unfold maxLen at hm
  by_cases hlen : s.size ≤ 1048576
  · go_enter Try.func3, Try.ntmps3
    go_wp2_with fail
    refine (specPlace_any s n _ hlen).mono ?_
    rintro e w1 ⟨rfl, bel1⟩
    go_wp2_with fail
    refine (implPlace_any s n _ hlen).mono ?_
    rintro e w2 ⟨rfl, bel2⟩
    go_wp2_with fail
    go_ret
    exact ⟨rfl, bel1.trans (bel2.mono bel1.size)⟩
  · go_enter Try.func3, Try.ntmps3
    go_wp2_with fail
    go_ret
    exact ⟨rfl, Below.refl _ _⟩
end Go.Proofs.Ytkbhopcgjjipcaa
