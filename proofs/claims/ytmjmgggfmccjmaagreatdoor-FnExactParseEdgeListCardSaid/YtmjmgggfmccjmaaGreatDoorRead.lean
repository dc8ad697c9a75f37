/- Texts read: the walk of l1Read. -/
import Derived.Test.YtmjmgggfmccjmaaGreatDoorRdP
import Derived.Test.YtmjmgggfmccjmaaGreatDoorNumA
import Derived.Test.YtmjmgggfmccjmaaGreatDoorMemB
namespace Go.Proofs.YtmjmgggfmccjmaaGreatDoor
open Go.RowKit
set_option linter.unusedVariables false
set_option linter.unusedSimpArgs false
theorem size_list (s : ByteArray) : s.data.toList.length = s.size := (Lib.size_eq s).symm
theorem byte_list (s : ByteArray) (i : Nat) (h : i < s.size) (h' : i < s.data.toList.length) : s.data.toList[i] = s[i] := by
  rw [Array.getElem_toList]; rfl
theorem byte_at (s : ByteArray) (i : Nat) (h : i < s.size) : s.data.toList[i]? = some s[i] := by
  have hl : i < s.data.toList.length := by rw [size_list]; exact h
  rw [List.getElem?_eq_getElem hl, byte_list s i h hl]
/-! ### l1Read -/
/-- the first byte of a longer text is no zero, its length is fit -/
def rdFit (L : List UInt8) : Bool := decide (1 ≤ L.length ∧ L.length ≤ 6) && !(decide (L.head? = some 48 ∧ 1 < L.length))
theorem readL_unfit {L : List UInt8} (h : rdFit L = false) : readL L = -1 := by
  unfold readL
  rw [if_neg]
  rintro ⟨h1, h2⟩
  rw [rdFit, decide_eq_true h1, decide_eq_false h2] at h
  cases h
theorem readL_fit {L : List UInt8} (h : rdFit L = true) {v : Nat} (hv : Lib.decFrom 0 L = some v) : readL L = v := by
  unfold rdFit at h
  rw [Bool.and_eq_true] at h
  have h1 := of_decide_eq_true h.1
  have h2 := h.2
  rw [Bool.not_eq_true'] at h2
  have h2 := of_decide_eq_false h2
  unfold readL
  have hn : Lib.decNat L = some v := by
    unfold Lib.decNat
    rw [if_neg (by cases L <;> simp at h1 ⊢), hv]
  rw [if_pos ⟨h1, h2⟩, hn]
theorem head_byte (s : ByteArray) (h : 0 < s.size) : s.data.toList.head? = some s[0] := by
  have hl : 0 < s.data.toList.length := by rw [size_list]; exact h
  rw [← byte_list s 0 h hl, List.head?_eq_getElem?, List.getElem?_eq_getElem hl]
theorem digit_none {b : UInt8} (h : b.toNat < 48 ∨ 57 < b.toNat) : Lib.digitVal b = none := by unfold Lib.digitVal; rw [if_neg (by omega)]
theorem digit_some {b : UInt8} (h : 48 ≤ b.toNat) (h' : b.toNat ≤ 57) : Lib.digitVal b = some (b.toNat - 48) := by unfold Lib.digitVal; rw [if_pos ⟨h, h'⟩]
set_option maxRecDepth 100000 in
set_option maxHeartbeats 800000 in
theorem l1Read_any (s : ByteArray) (w : World) (hs : s.size ≤ 1048576) :
    Calls Tryz.prog 11 #[.string s] w fun e w' => e = .returned (.int .i64 (readL s.data.toList)) ∧ w' = w := by
  have HSL := Lib.hid (size_list s)
  by_cases hlen : 1 ≤ s.size ∧ s.size ≤ 6
  · have i1 := inR_t (n := (s.size : Int)) (lo := 1) (hi := 6) (by omega) (by omega)
    have h0 : 0 < s.size := by omega
    have HH := Lib.hid (head_byte s h0)
    have key : (((s[0].toNat : Int) == 48) = true ∧ 1 < s.size ∧ rdFit s.data.toList = false) ∨ (((s[0].toNat : Int) == 48) = false ∧ rdFit s.data.toList = true) ∨ (((s[0].toNat : Int) == 48) = true ∧ ¬ 1 < s.size ∧ rdFit s.data.toList = true) := by
      have e1 : decide (1 ≤ s.data.toList.length ∧ s.data.toList.length ≤ 6) = true := by rw [HSL.out]; exact decide_eq_true hlen
      cases hb : ((s[0].toNat : Int) == 48) with
      | false =>
        refine .inr (.inl ⟨rfl, ?_⟩)
        have : ¬ (s.data.toList.head? = some 48 ∧ 1 < s.data.toList.length) := by
          rintro ⟨h, _⟩
          rw [HH.out] at h
          injection h with h
          rw [h] at hb
          cases hb
        rw [rdFit, e1, decide_eq_false this]; rfl
      | true =>
        have hb2 : s[0] = 48 := by
          have h3 : (s[0].toNat : Int) = 48 := by simpa using hb
          exact UInt8.toNat_inj.1 (by have : (48 : UInt8).toNat = 48 := rfl; omega)
        by_cases h1 : 1 < s.size
        · refine .inl ⟨rfl, h1, ?_⟩
          rw [rdFit, e1, decide_eq_true ⟨by rw [HH.out, hb2], by rw [HSL.out]; exact h1⟩]; rfl
        · refine .inr (.inr ⟨rfl, h1, ?_⟩)
          have : ¬ (s.data.toList.head? = some 48 ∧ 1 < s.data.toList.length) := by rw [HSL.out]; exact fun h => h1 h.2
          rw [rdFit, e1, decide_eq_false this]; rfl
    rcases key with ⟨hb, h1, hf⟩ | ⟨hb, hf⟩ | ⟨hb, h1, hf⟩
    · have HU := Lib.hid (readL_unfit hf)
      clear hf
      go_enter Tryz.func11, Tryz.ntmps11
      go_wp2_with (go_at_call 10; refine (l1In_any _ _ _ _).mono ?_; rintro e w' ⟨rfl, rfl⟩)
      go_ret
      exact ⟨ret_int HU.out.symm, rfl⟩
    all_goals
      have HF := Lib.hid hf
      clear hf
      go_enter Tryz.func11, Tryz.ntmps11
      go_wp2_with (go_at_call 10; refine (l1In_any _ _ _ _).mono ?_; rintro e w' ⟨rfl, rfl⟩)
      go_loop [3, 4] (fun v iv => ∃ (i n : Nat), i ≤ s.size ∧ Lib.decFrom 0 (s.data.toList.take i) = some n ∧ n < 1000000 ∧ v = .int .i64 n ∧ iv = .int .i64 i) (fun _ iv => s.size - (intOf iv).toNat)
      case atStart => exact ⟨0, 0, Nat.zero_le _, rfl, by omega, rfl, rfl⟩
      case round =>
        obtain ⟨i, n, hi, hd, hn, rfl, rfl⟩ := hrel
        have HD := Lib.hid hd
        clear hd
        by_cases hlt : i < s.size
        · have HG := Lib.hid (byte_at s i hlt)
          by_cases c1 : s[i].toNat < 48
          · have HR : Hid (readL s.data.toList = -1) := readL_bad (List.mem_of_getElem? HG.out) (digit_none (.inl c1))
            have hd1 : decide ((s[i].toNat : Int) < 48) = true := decide_eq_true (by omega)
            clear c1
            go_wp2_with fail
            go_ret
            exact ⟨ret_int HR.out.symm, rfl⟩
          · have hd1 : decide ((s[i].toNat : Int) < 48) = false := decide_eq_false (by omega)
            by_cases c2 : 57 < s[i].toNat
            · have HR : Hid (readL s.data.toList = -1) := readL_bad (List.mem_of_getElem? HG.out) (digit_none (.inr c2))
              have hd2 : decide ((57 : Int) < (s[i].toNat : Int)) = true := decide_eq_true (by omega)
              clear c1 c2
              go_wp2_with fail
              go_ret
              exact ⟨ret_int HR.out.symm, rfl⟩
            · have hd2 : decide ((57 : Int) < (s[i].toNat : Int)) = false := decide_eq_false (by omega)
              have HT := Lib.hid (Lib.decFrom_take s.data.toList i 0 n s[i] _ HD.out HG.out (digit_some (by omega) (by omega)))
              have hlt6 := decFrom_lt _ _ _ HT.out
              have hle6 : (s.data.toList.take (i + 1)).length ≤ 6 := by rw [List.length_take]; omega
              have hpw : 10 ^ (s.data.toList.take (i + 1)).length ≤ 10 ^ 6 := Nat.pow_le_pow_right (by decide) hle6
              have hb8 : n * 10 + (s[i].toNat - 48) < 1000000 := by
                have e6 : (10 : Nat) ^ 6 = 1000000 := by decide
                omega
              have hw8 : IntKind.u8.wrap ((s[i].toNat : Int) - 48) = (s[i].toNat : Int) - 48 := by simp [IntKind.wrap, IntKind.signed, IntKind.bits]; omega
              have hw64 : IntKind.i64.wrap ((s[i].toNat : Int) - 48) = (s[i].toNat : Int) - 48 := by simp [IntKind.wrap, IntKind.signed, IntKind.bits]; omega
              clear hlt6 hle6 hpw
              go_wp2_with fail
              go_round
              case rel => exact ⟨i + 1, n * 10 + (s[i].toNat - 48), by omega, HT.out, hb8, by go_num, by go_num⟩
              case measure => simp [intOf]; omega
        · obtain rfl : i = s.size := by omega
          have HR : Hid (readL s.data.toList = n) := readL_fit HF.out (by rw [← HD.out, List.take_of_length_le (by rw [HSL.out]; exact Nat.le_refl _)])
          go_wp2_with fail
          go_ret
          exact ⟨ret_int HR.out.symm, rfl⟩
  · have i1 := inR_f (n := (s.size : Int)) (lo := 1) (hi := 6) (by omega)
    have HR : Hid (readL s.data.toList = -1) := readL_long (by rw [HSL.out]; exact hlen)
    clear hlen
    go_enter Tryz.func11, Tryz.ntmps11
    go_wp2_with (go_at_call 10; refine (l1In_any _ _ _ _).mono ?_; rintro e w' ⟨rfl, rfl⟩)
    go_ret
    exact ⟨ret_int HR.out.symm, rfl⟩
end Go.Proofs.YtmjmgggfmccjmaaGreatDoor
