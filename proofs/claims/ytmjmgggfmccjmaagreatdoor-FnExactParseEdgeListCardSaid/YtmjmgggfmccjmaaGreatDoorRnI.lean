/- Texts read: readNumber's walk; a text read as an end (plain law). -/
import Derived.Test.YtmjmgggfmccjmaaGreatDoorSpl
import Derived.Test.YtmjmgggfmccjmaaGreatDoorTxtP
namespace Go.Proofs.YtmjmgggfmccjmaaGreatDoor
open Go.RowKit
set_option linter.unusedVariables false
set_option linter.unusedSimpArgs false
/-- the end that a text tells -/
def ppE (l : List UInt8) : Int × Int := match spl 46 l with
  | [a, b] => if 0 ≤ readL a ∧ 0 ≤ readL b then (readL a, readL b) else (0, 0)
  | _ => (0, 0)
theorem ppE_cut (l : List UInt8) : ppE l = if portOk l = true then (readL (Lib.cut l [46]).1, readL (Lib.cut l [46]).2.1) else (0, 0) := by
  rcases byte_cut 46 l with h | ⟨a, r, rfl, h⟩
  · rw [portOk_cut, cut_one_none h, ppE, spl_last _ _ h]; rfl
  · rw [cut_one_some h, portOk, ppE, spl_cut _ _ _ h]
    cases hs : spl 46 r with
    | nil => exact absurd hs (spl_ne _ _)
    | cons x t =>
      cases t with
      | cons y t => simp
      | nil =>
        rcases byte_cut 46 r with h2 | ⟨a2, r2, rfl, h2⟩
        · rw [spl_last _ _ h2] at hs
          injection hs with hs _
          subst hs
          simp only [Bool.and_eq_true, decide_eq_true_eq]
        · rw [spl_cut _ _ _ h2] at hs
          injection hs with _ hs
          exact absurd hs (spl_ne _ _)
theorem ppE_f {l : List UInt8} (h : portOk l = false) : ppE l = (0, 0) := by rw [ppE_cut, h]; rfl
theorem ppE_t {l : List UInt8} (h : portOk l = true) : ppE l = (readL (Lib.cut l [46]).1, readL (Lib.cut l [46]).2.1) := by rw [ppE_cut, h]; rfl
theorem spl_le (c : UInt8) : ∀ (l x : List UInt8), x ∈ spl c l → x.length ≤ l.length
  | [], x, h => by
    rw [spl] at h
    obtain rfl : x = [] := by simpa using h
    exact Nat.le_refl _
  | b :: l, x, h => by
    rw [spl] at h
    split at h
    · rcases List.mem_cons.1 h with rfl | h
      · exact Nat.zero_le _
      · have := spl_le c l x h
        rw [List.length_cons]; omega
    · split at h
      · rename_i hs
        exact absurd hs (spl_ne _ _)
      · rename_i y t hs
        rcases List.mem_cons.1 h with rfl | h
        · have := spl_le c l y (by rw [hs]; simp)
          rw [List.length_cons, List.length_cons]; omega
        · have := spl_le c l x (by rw [hs]; simp [h])
          rw [List.length_cons]; omega
/-- what readNumber returns -/
def rnV (l : List UInt8) : Int := if 0 ≤ readL l then readL l else 0
theorem rnV_t {l : List UInt8} (h : 0 ≤ readL l) : rnV l = readL l := by rw [rnV, if_pos h]
theorem rnV_no {l : List UInt8} (h : readL l = -1) : rnV l = 0 := by rw [rnV, if_neg (by omega)]
theorem rnB_no {l : List UInt8} (h : readL l = -1) : decide (0 ≤ readL l) = false := decide_eq_false (by omega)
theorem atoi_bd {l : List UInt8} {n : Int} (hl : l.length ≤ 18) (h : Lib.atoi l = some n) : -9223372036854775808 ≤ n ∧ n ≤ 9223372036854775807 := by
  cases l with
  | nil => cases h
  | cons b r =>
    have hr : r.length ≤ 18 := by simp at hl; omega
    simp only [Lib.atoi] at h
    split at h
    · rw [Option.map_eq_some_iff] at h
      obtain ⟨m, hm, rfl⟩ := h
      have := Lib.decNat_small hr hm
      omega
    · split at h
      · rw [Option.map_eq_some_iff] at h
        obtain ⟨m, hm, rfl⟩ := h
        have := Lib.decNat_small hr hm
        omega
      · rw [Option.map_eq_some_iff] at h
        obtain ⟨m, hm, rfl⟩ := h
        have := Lib.decNat_small hl hm
        omega
/-- the library's sentinel of a fault in a numeral -/
def SErr (w : World) : Prop := ∃ tp p, w.var? Tryz.prog "strconv.ErrSyntax" = some #[.iface tp p]
theorem SErr.below {w w' : World} (h : SErr w) (hb : Below w.heap.size w w') : SErr w' := by
  obtain ⟨tp, p, h⟩ := h
  refine ⟨tp, p, ?_⟩
  unfold World.var? at h ⊢
  rw [show Tryz.prog.globalNamed "strconv.ErrSyntax" = some 1 by kernel_rfl] at h ⊢
  simp only [Option.bind_some] at h ⊢
  have hlt : 1 < w.heap.size := by
    rcases Nat.lt_or_ge 1 w.heap.size with h' | h'
    · exact h'
    · rw [Array.getElem?_eq_none h'] at h; cases h
  rw [hb.block _ hlt]
  exact h
set_option maxRecDepth 100000 in
set_option maxHeartbeats 800000 in
theorem readNumber_any (s : ByteArray) (w : World) (htab : PTab w) (herr : SErr w) (hs : s.size ≤ 1048576) :
    Calls Tryz.prog 19 #[.string s] w fun e w' => e = .returned (.tuple #[.int .i64 (rnV s.data.toList), .bool (decide (0 ≤ readL s.data.toList))]) ∧ Below w.heap.size w w' := by
  have HSL := Lib.hid (size_list s)
  by_cases h1 : s.size < 1
  · have HR : Hid (readL s.data.toList = -1) := readL_long (by rw [HSL.out]; omega)
    go_enter Tryz.func19, Tryz.ntmps19
    go_wp2_with fail
    refine bodyPost_ret (v := .tuple #[.int .i64 0, .bool false]) (by simp [results, Tryz.results19, go_sem]) rfl ?_
    exact ⟨by rw [rnV_no HR.out, rnB_no HR.out], Below.refl _ _⟩
  by_cases h6 : 6 < s.size
  · have HR : Hid (readL s.data.toList = -1) := readL_long (by rw [HSL.out]; omega)
    go_enter Tryz.func19, Tryz.ntmps19
    go_wp2_with fail
    refine bodyPost_ret (v := .tuple #[.int .i64 0, .bool false]) (by simp [results, Tryz.results19, go_sem]) rfl ?_
    exact ⟨by rw [rnV_no HR.out, rnB_no HR.out], Below.refl _ _⟩
  have hl18 : s.size ≤ 18 := by omega
  have HL18 : Hid (s.data.toList.length ≤ 18) := by show _ ≤ _; rw [HSL.out]; omega
  have HTA := Lib.hid (Lib.atoiAll_short s.data.toList HL18.out)
  cases hA : Lib.atoi s.data.toList with
  | none =>
    have HR : Hid (readL s.data.toList = -1) := readL_none (fun v hv => by rw [HTA.out, hA] at hv; cases hv)
    obtain ⟨tp, p, hv⟩ := herr
    go_enter Tryz.func19, Tryz.ntmps19
    go_wp2_with fail
    refine (Tryz.strconv_Atoi_err_var s hl18 hA tp p _ hv).mono ?_
    rintro e w1 ⟨N, rfl, _, _, bel⟩
    go_wp2_with fail
    refine bodyPost_ret (v := .tuple #[.int .i64 0, .bool false]) (by simp [results, Tryz.results19, go_sem]) rfl ?_
    exact ⟨by rw [rnV_no HR.out, rnB_no HR.out], bel⟩
  | some n =>
    have hok : Lib.atoiAll s.data.toList = .ok n := by rw [HTA.out, hA]; rfl
    obtain ⟨hn0, hn1⟩ := atoi_bd HL18.out hA
    have HA := Lib.hid hA
    by_cases hneg : n < 0
    · have HR : Hid (readL s.data.toList = -1) := readL_other hok (by omega)
      clear hok hA
      go_enter Tryz.func19, Tryz.ntmps19
      go_wp2_with fail
      refine (Tryz.strconv_Atoi s n hl18 HA.out _).mono ?_
      rintro e w1 ⟨rfl, t, hw1⟩
      have bel : Below w.heap.size w w1 := by rw [hw1]; exact Lib.bytesWorld_below _ _ _
      clear hw1
      go_wp2_with fail
      refine bodyPost_ret (v := .tuple #[.int .i64 0, .bool false]) (by simp [results, Tryz.results19, go_sem]) rfl ?_
      exact ⟨by rw [rnV_no HR.out, rnB_no HR.out], bel⟩
    · by_cases heq : Lib.itoa n = s.data.toList
      · have hR : readL s.data.toList = n := readL_itoa (by omega) heq (by rw [HSL.out]; omega)
        have HR := Lib.hid hR
        have HS : Hid ((⟨(Lib.itoa n).toArray⟩ : ByteArray) = s) := by show _ = _; rw [heq]
        clear hok hA heq hR
        go_enter Tryz.func19, Tryz.ntmps19
        go_wp2_with fail
        refine (Tryz.strconv_Atoi s n hl18 HA.out _).mono ?_
        rintro e w1 ⟨rfl, t, hw1⟩
        have bel : Below w.heap.size w w1 := by rw [hw1]; exact Lib.bytesWorld_below _ _ _
        clear hw1
        go_wp2_with fail
        refine (Tryz.strconv_Itoa n hn0 hn1 _ (htab.below bel)).mono ?_
        rintro e w2 ⟨rfl, hg⟩
        have bel2 := bel.trans ((grow_below hg).mono bel.size)
        clear hg
        rw [HS.out]
        go_wp2_with fail
        refine bodyPost_ret (v := .tuple #[.int .i64 n, .bool true]) (by simp [results, Tryz.results19, go_sem]) rfl ?_
        exact ⟨by rw [rnV_t (by rw [HR.out]; omega), HR.out, decide_eq_true (by omega : 0 ≤ n)], bel2⟩
      · have HR : Hid (readL s.data.toList = -1) := readL_other hok (fun h => heq h.2)
        have hne : (⟨(Lib.itoa n).toArray⟩ : ByteArray) ≠ s := fun h => heq (by rw [← h])
        generalize htx : (⟨(Lib.itoa n).toArray⟩ : ByteArray) = tx at hne
        have HTX := Lib.hid htx
        have hnb : (tx.toList == s.toList) = false := by
          rw [Lib.toList_data, Lib.toList_data, beq_eq_false_iff_ne]
          exact fun e => hne (ByteArray.ext (Array.toList_inj.1 e))
        clear hok hA heq htx
        go_enter Tryz.func19, Tryz.ntmps19
        go_wp2_with fail
        refine (Tryz.strconv_Atoi s n hl18 HA.out _).mono ?_
        rintro e w1 ⟨rfl, t, hw1⟩
        have bel : Below w.heap.size w w1 := by rw [hw1]; exact Lib.bytesWorld_below _ _ _
        clear hw1
        go_wp2_with fail
        refine (Tryz.strconv_Itoa n hn0 hn1 _ (htab.below bel)).mono ?_
        rintro e w2 ⟨rfl, hg⟩
        have bel2 := bel.trans ((grow_below hg).mono bel.size)
        clear hg
        rw [HTX.out]
        go_wp2_with fail
        refine bodyPost_ret (v := .tuple #[.int .i64 0, .bool false]) (by simp [results, Tryz.results19, go_sem]) rfl ?_
        exact ⟨by rw [rnV_no HR.out, rnB_no HR.out], bel2⟩
end Go.Proofs.YtmjmgggfmccjmaaGreatDoor
