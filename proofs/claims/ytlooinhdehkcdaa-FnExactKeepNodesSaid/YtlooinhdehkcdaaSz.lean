/- The sizes that the laws bound: szEndS, szEndSS, szIntS, szNetwork. -/
import Derived.Test.YtlooinhdehkcdaaNet
namespace Go.Proofs.Ytlooinhdehkcdaa
open Go.RowKit
set_option linter.unusedVariables false
def szL (n left : Nat) : Int := if n ≤ left then ((left - n : Nat) : Int) else -1
theorem szL_yes {n left : Nat} (h : n ≤ left) : szL n left = ((left - n : Nat) : Int) := if_pos h
theorem szL_no {n left : Nat} (h : ¬ n ≤ left) : szL n left = -1 := if_neg h
theorem szEndS_any (a : Option Addr) (n cap left : Nat) (w : World) (hn : n ≤ 9223372036854775807) (hl : left ≤ 1048576) :
    Calls Try.prog 68 #[.slice a n cap, .int .i64 left] w fun e w' => e = .returned (.int .i64 (szL n left)) ∧ w = w' := by
  by_cases h : n ≤ left
  · rw [szL_yes h]
    have hd : decide ((left : Int) - (n : Int) < 0) = false := decide_eq_false (by omega)
    go_enter Try.func68, Try.ntmps68
    go_wp2_with fail
    go_ret
    exact ⟨ret_int (by omega), rfl⟩
  · rw [szL_no h]
    have hd : decide ((left : Int) - (n : Int) < 0) = true := decide_eq_true (by omega)
    go_enter Try.func68, Try.ntmps68
    go_wp2_with fail
    go_ret
    exact ⟨rfl, rfl⟩
theorem szIntS_any (a : Option Addr) (n cap left : Nat) (w : World) (hn : n ≤ 9223372036854775807) (hl : left ≤ 1048576) :
    Calls Try.prog 34 #[.slice a n cap, .int .i64 left] w fun e w' => e = .returned (.int .i64 (szL n left)) ∧ w = w' := by
  by_cases h : n ≤ left
  · rw [szL_yes h]
    have hd : decide ((left : Int) - (n : Int) < 0) = false := decide_eq_false (by omega)
    go_enter Try.func34, Try.ntmps34
    go_wp2_with fail
    go_ret
    exact ⟨ret_int (by omega), rfl⟩
  · rw [szL_no h]
    have hd : decide ((left : Int) - (n : Int) < 0) = true := decide_eq_true (by omega)
    go_enter Try.func34, Try.ntmps34
    go_wp2_with fail
    go_ret
    exact ⟨rfl, rfl⟩
set_option maxHeartbeats 400000 in
theorem szEndSS_any (a : Option Addr) (cap : Nat) (rows : List (List (Int × Int))) (vs : Nat → Option Addr × Nat) (left : Nat) (w : World) (B : Nat) (ha : RdEE w B a rows vs) (hm : rows.length ≤ 9223372036854775807) (hm2 : ∀ j, j < rows.length → (rowOf rows j).length ≤ 9223372036854775807) (hl : left ≤ 1048576) :
    Calls Try.prog 33 #[.slice a rows.length cap, .int .i64 left] w fun e w' => e = .returned (.int .i64 (szL (rows.length + Total rows) left)) ∧ w = w' := by
  have HM2 := Lib.hid hm2
  clear hm2
  by_cases h0 : rows.length ≤ left
  · have hd : decide ((left : Int) - (rows.length : Int) < 0) = false := decide_eq_false (by omega)
    go_enter Try.func33, Try.ntmps33
    go_wp2_with fail
    go_loop [1, 5] (fun q i => ∃ j : Nat, j ≤ rows.length ∧ i = .int .i64 j ∧ rows.length + Total (rows.take j) ≤ left ∧ q = .int .i64 (left - (rows.length + Total (rows.take j)) : Nat)) (fun _ i => rows.length - (intOf i).toNat)
    case atStart =>
      have e0 : Total (rows.take 0) = 0 := rfl
      exact ⟨0, Nat.zero_le _, rfl, by omega, by rw [e0]; congr 1; omega⟩
    case round =>
      obtain ⟨j, hj, rfl, hle, rfl⟩ := hrel
      by_cases hlt : j < rows.length
      · obtain ⟨g, off, rfl, _, hc1⟩ := Rd.at ha.1 hlt
        have HT := Lib.hid (total_take rows j hlt)
        have hml := HM2.out j hlt
        obtain ⟨lf, hlf⟩ : ∃ lf, lf = left - (rows.length + Total (rows.take j)) := ⟨_, rfl⟩
        rw [← hlf]
        have HLF := Lib.hid hlf
        have hlf2 : lf ≤ 1048576 := by omega
        clear hlf
        by_cases hr : (rowOf rows j).length ≤ lf
        · have HS := Lib.hid (szL_yes hr)
          have hd2 : decide (((lf - (rowOf rows j).length : Nat) : Int) < 0) = false := decide_eq_false (by omega)
          go_wp2_with fail
          refine (szEndS_any _ (rowOf rows j).length _ lf _ hml hlf2).mono ?_
          rintro e w1 ⟨rfl, rfl⟩
          rw [HS.out]
          go_wp2_with fail
          go_round
          case rel => exact ⟨j + 1, by omega, by go_num, by rw [HT.out]; have := HLF.out; omega, by rw [HT.out]; congr 1; have := HLF.out; omega⟩
          case measure => simp [intOf]; omega
        · have HS := Lib.hid (szL_no hr)
          have HR : Hid (szL (rows.length + Total rows) left = -1) := szL_no (by
            have h1 := total_take_le rows (j + 1)
            have := HT.out
            have := HLF.out
            omega)
          go_wp2_with fail
          refine (szEndS_any _ (rowOf rows j).length _ lf _ hml hlf2).mono ?_
          rintro e w1 ⟨rfl, rfl⟩
          rw [HS.out]
          go_wp2_with fail
          go_ret
          exact ⟨ret_int (by rw [HR.out]), rfl⟩
      · obtain rfl : j = rows.length := by omega
        rw [List.take_length] at hle
        have HR := Lib.hid (szL_yes hle)
        go_wp2_with fail
        go_ret
        exact ⟨ret_int (by rw [HR.out]), rfl⟩
  · have hd : decide ((left : Int) - (rows.length : Int) < 0) = true := decide_eq_true (by omega)
    have HR : Hid (szL (rows.length + Total rows) left = -1) := szL_no (by omega)
    go_enter Try.func33, Try.ntmps33
    go_wp2_with fail
    go_ret
    exact ⟨ret_int (by rw [HR.out]), rfl⟩
/-- of a network that came in: no length is beyond an int's half -/
def NetLens (N : Net) : Prop := N.ends.length ≤ 9223372036854775807 ∧ (∀ j, j < N.ends.length → (rowOf N.ends j).length ≤ 9223372036854775807) ∧ N.ids.length ≤ 9223372036854775807 ∧ N.inputs.length ≤ 9223372036854775807
def netSz (N : Net) : Nat := N.ends.length + Total N.ends + N.ids.length + N.inputs.length
set_option maxHeartbeats 400000 in
theorem szNetworkL_any (left : Nat) (v : Value) (N : Net) (w : World) (B : Nat) (hv : NetRd w B v N) (hB : B ≤ w.heap.size) (hm : NetLens N) (hleft : left ≤ 1048576) :
    Calls Try.prog 10 #[v, .int .i64 (left : Int)] w fun e w' => e = .returned (.int .i64 (szL (netSz N) left)) ∧ Below w.heap.size w w' := by
  obtain ⟨a, c, vs, ai, ci, ap, cp, rfl, h1, h2, h3⟩ := hv
  obtain ⟨m1, m2, m3, m4⟩ := hm
  have HM2 := Lib.hid m2
  clear m2
  have b0 : Below w.heap.size w (w.alloc (.cells #[.slice a N.ends.length c, .slice ai N.ids.length ci, .slice ap N.inputs.length cp] 25)) := (by repeat (first | exact Below.refl _ _ | assumption | refine Below.alloc ?_ (by first | (simp; done) | (simp; omega) | omega) _ | refine Below.setCell ?_ (by first | (simp; done) | (simp; omega) | omega) _ | refine Below.drew ?_ | refine Below.drewN ?_ _))
  by_cases g1 : N.ends.length + Total N.ends ≤ left
  · have S1 := Lib.hid (szL_yes g1)
    obtain ⟨l1, hl1⟩ : ∃ l1, l1 = left - (N.ends.length + Total N.ends) := ⟨_, rfl⟩
    rw [← hl1] at S1
    have L1 := Lib.hid hl1
    have l1le : l1 ≤ 1048576 := by omega
    clear hl1
    have d1 : decide ((l1 : Int) < 0) = false := decide_eq_false (by omega)
    by_cases g2 : N.ids.length ≤ l1
    · have S2 := Lib.hid (szL_yes g2)
      obtain ⟨l2, hl2⟩ : ∃ l2, l2 = l1 - N.ids.length := ⟨_, rfl⟩
      rw [← hl2] at S2
      have L2 := Lib.hid hl2
      have l2le : l2 ≤ 1048576 := by omega
      clear hl2
      have d2 : decide ((l2 : Int) < 0) = false := decide_eq_false (by omega)
      by_cases g3 : N.inputs.length ≤ l2
      · have S3 := Lib.hid (szL_yes g3)
        have HR : Hid (szL (netSz N) left = ((l2 - N.inputs.length : Nat) : Int)) := by
          show _ = _
          have e1 := L1.out
          have e2 := L2.out
          rw [szL_yes (by unfold netSz; omega)]; unfold netSz; omega
        have d3 : decide (((l2 - N.inputs.length : Nat) : Int) < 0) = false := decide_eq_false (by omega)
        go_enter Try.func10, Try.ntmps10
        go_wp2_with fail
        refine (szEndSS_any _ _ N.ends vs left _ B (h1.below (b0.mono hB)) m1 HM2.out (by omega)).mono ?_
        rintro e w1 ⟨rfl, rfl⟩
        rw [S1.out]
        go_wp2_with fail
        refine (szIntS_any _ N.ids.length _ l1 _ m3 l1le).mono ?_
        rintro e w1 ⟨rfl, rfl⟩
        rw [S2.out]
        go_wp2_with fail
        refine (szIntS_any _ N.inputs.length _ l2 _ m4 l2le).mono ?_
        rintro e w1 ⟨rfl, rfl⟩
        rw [S3.out]
        go_wp2_with fail
        go_ret
        exact ⟨ret_int (by rw [HR.out]), b0⟩
      · have S3 := Lib.hid (szL_no g3)
        have HR : Hid (szL (netSz N) left = -1) := szL_no (by have e1 := L1.out; have e2 := L2.out; unfold netSz; omega)
        go_enter Try.func10, Try.ntmps10
        go_wp2_with fail
        refine (szEndSS_any _ _ N.ends vs left _ B (h1.below (b0.mono hB)) m1 HM2.out (by omega)).mono ?_
        rintro e w1 ⟨rfl, rfl⟩
        rw [S1.out]
        go_wp2_with fail
        refine (szIntS_any _ N.ids.length _ l1 _ m3 l1le).mono ?_
        rintro e w1 ⟨rfl, rfl⟩
        rw [S2.out]
        go_wp2_with fail
        refine (szIntS_any _ N.inputs.length _ l2 _ m4 l2le).mono ?_
        rintro e w1 ⟨rfl, rfl⟩
        rw [S3.out]
        go_wp2_with fail
        go_ret
        exact ⟨ret_int (by rw [HR.out]), b0⟩
    · have S2 := Lib.hid (szL_no g2)
      have HR : Hid (szL (netSz N) left = -1) := szL_no (by have e1 := L1.out; unfold netSz; omega)
      go_enter Try.func10, Try.ntmps10
      go_wp2_with fail
      refine (szEndSS_any _ _ N.ends vs left _ B (h1.below (b0.mono hB)) m1 HM2.out (by omega)).mono ?_
      rintro e w1 ⟨rfl, rfl⟩
      rw [S1.out]
      go_wp2_with fail
      refine (szIntS_any _ N.ids.length _ l1 _ m3 l1le).mono ?_
      rintro e w1 ⟨rfl, rfl⟩
      rw [S2.out]
      go_wp2_with fail
      go_ret
      exact ⟨ret_int (by rw [HR.out]), b0⟩
  · have S1 := Lib.hid (szL_no g1)
    have HR : Hid (szL (netSz N) left = -1) := szL_no (by unfold netSz; omega)
    go_enter Try.func10, Try.ntmps10
    go_wp2_with fail
    refine (szEndSS_any _ _ N.ends vs left _ B (h1.below (b0.mono hB)) m1 HM2.out (by omega)).mono ?_
    rintro e w1 ⟨rfl, rfl⟩
    rw [S1.out]
    go_wp2_with fail
    go_ret
    exact ⟨ret_int (by rw [HR.out]), b0⟩
theorem szNetwork_any (v : Value) (N : Net) (w : World) (B : Nat) (hv : NetRd w B v N) (hB : B ≤ w.heap.size) (hm : NetLens N) :
    Calls Try.prog 10 #[v, .int .i64 1048576] w fun e w' => e = .returned (.int .i64 (szL (netSz N) 1048576)) ∧ Below w.heap.size w w' := szNetworkL_any 1048576 v N w B hv hB hm (Nat.le_refl _)
end Go.Proofs.Ytlooinhdehkcdaa
