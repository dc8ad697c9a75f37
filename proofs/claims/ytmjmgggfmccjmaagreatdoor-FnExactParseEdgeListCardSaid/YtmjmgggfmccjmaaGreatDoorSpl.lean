/- Texts cut and read: the walks (l1Split, l1Read, readNumber). -/
import Derived.Test.YtmjmgggfmccjmaaGreatDoorStrs
import Derived.Test.YtmjmgggfmccjmaaGreatDoorRead
namespace Go.Proofs.YtmjmgggfmccjmaaGreatDoor
open Go.RowKit
set_option linter.unusedVariables false
set_option linter.unusedSimpArgs false
theorem str_info : (Tryz.prog.info? 9).map (fun i => (i.zero, i.size, i.bytes)) = some (some (.string ByteArray.empty), 1, 16) := by kernel_rfl
/-- a row's cells: one text more -/
theorem cellS_app {ls : List (List UInt8)} {k : Nat} {l : List UInt8} (hl : nthS ls k = l) : ∀ x, x < (k + 1) * 1 → app (cellS ls) (k * 1) [.string (bs l)] x = cellS ls x := by
  intro x hx
  unfold app
  by_cases e : x < k
  · rw [if_pos (by omega)]
  · rw [if_neg (by omega), show x - k * 1 = 0 by omega, show x = k by omega, cellS, hl]; rfl
theorem all_snoc {p : Nat → Prop} {k : Nat} (h : ∀ j, j < k → p j) (hk : p k) : ∀ j, j < k + 1 → p j := fun j hj => by
  by_cases e : j = k
  · rw [e]; exact hk
  · exact h j (by omega)
theorem ext_bs (s : ByteArray) (a b : Nat) : s.extract a b = bs ((s.data.toList.drop a).take (b - a)) := by
  apply ByteArray.ext
  apply Array.toList_inj.1
  rw [Lib.extract_data]; rfl
theorem ext_end (s : ByteArray) (a : Nat) : s.extract a s.size = bs (s.data.toList.drop a) := by
  rw [ext_bs]
  congr 1
  apply List.take_of_length_le
  rw [List.length_drop]
  show _ - a ≤ s.size - a
  have : s.size = s.data.toList.length := (size_list s).symm
  omega
/-- the bytes from f on, one more told -/
theorem seg_snoc {L : List UInt8} {f i : Nat} (hf : f ≤ i) (h : i < L.length) : (L.drop f).take (i + 1 - f) = (L.drop f).take (i - f) ++ [L[i]] := by
  rw [show i + 1 - f = (i - f) + 1 by omega, List.take_succ_eq_append_getElem (by rw [List.length_drop]; omega)]
  congr 2
  rw [List.getElem_drop]
  congr 1
  omega
theorem seg_cut {c : UInt8} {L : List UInt8} {f i : Nat} (hf : f ≤ i) (h : i < L.length) (hc : L[i] = c) (hno : c ∉ (L.drop f).take (i - f)) : spl c (L.drop f) = (L.drop f).take (i - f) :: spl c (L.drop (i + 1)) := by
  have e : L.drop f = (L.drop f).take (i - f) ++ c :: L.drop (i + 1) := by
    have h1 := List.take_append_drop (i - f) (L.drop f)
    rw [List.drop_drop, show f + (i - f) = i by omega, List.drop_eq_getElem_cons h, hc] at h1
    exact h1.symm
  have h2 := spl_cut c (L.drop (i + 1)) _ hno
  rw [← e] at h2
  exact h2
set_option maxRecDepth 100000 in
set_option maxHeartbeats 800000 in
theorem l1Split_any (s : ByteArray) (c : UInt8) (w : World) (hs : s.size ≤ 1048576) :
    Calls Tryz.prog 9 #[.string s, .int .u8 (c.toNat : Int)] w fun e w' => ∃ a cap, e = .returned (.slice a (spl c s.data.toList).length cap) ∧ Ow w' w.heap.size w'.heap.size 9 1 a (spl c s.data.toList).length cap (cellS (spl c s.data.toList)) ∧ Below w.heap.size w w' := by
  obtain ⟨D, hD⟩ : ∃ D, D = w.heap.size := ⟨_, rfl⟩
  have HD := Lib.hid hD
  rw [← hD]
  clear hD
  have HSL := Lib.hid (size_list s)
  go_enter Tryz.func9, Tryz.ntmps9
  go_wp2_with fail
  go_loopw [5, 6, 7] (fun v fv iv wr => ∃ (P : List (List UInt8)) (f i : Nat), i ≤ s.size ∧ f ≤ i ∧ P.length ≤ i ∧ spl c s.data.toList = P ++ spl c (s.data.toList.drop f) ∧ c ∉ (s.data.toList.drop f).take (i - f) ∧ fv = .int .i64 f ∧ iv = .int .i64 i ∧ (∃ a cap, v = .slice a P.length cap ∧ Ow wr D wr.heap.size 9 1 a P.length cap (cellS P)) ∧ Below D w wr) (fun _ _ iv _ => s.size - (intOf iv).toNat)
  case atStart => exact ⟨[], 0, 0, Nat.zero_le _, Nat.le_refl _, Nat.le_refl _, rfl, by simp, rfl, rfl, ⟨none, 0, rfl, Ow.nil _ _ _ _ _ _ _⟩, Below.refl _ _⟩
  case round =>
    obtain ⟨P, f, i, hi, hf, hP, hspl, hno, rfl, rfl, ⟨b, cb, rfl, hown⟩, hbel⟩ := hrel
    have HSP := Lib.hid hspl
    have HNO := Lib.hid hno
    clear hspl hno
    have hDw : D ≤ wr.heap.size := by have := hbel.size; have := HD.out; omega
    by_cases hlt : i < s.size
    · have hll : i < s.data.toList.length := by rw [HSL.out]; exact hlt
      have HB := Lib.hid (byte_list s i hlt hll)
      by_cases hb : s.data.toList[i] = c
      · have hb2 : (((s[i]'hlt).toNat : Int) == (c.toNat : Int)) = true := by rw [← HB.out, hb]; simp
        have HS := Lib.hid (seg_cut hf hll hb HNO.out)
        have HX := Lib.hid (ext_bs s f i)
        have hk0 : (0 : Int) ≤ (f : Int) := by omega
        have hk1 : (f : Int) ≤ (i : Int) := by omega
        have hk2 : (i : Int) ≤ (s.size : Int) := by omega
        clear hb HB hll
        go_wp2_with (at_builtin; rw [HX.out]; refine wpList_app rfl _ _ _ rfl 9 (.string ByteArray.empty) 1 16 Tryz.underlying31 str_info rfl (by decide) D wr.heap.size b P.length cb _ rfl (hown.alloc _) ⟨wr.heap.size, 0, none⟩ 1 1 [.string (bs ((s.data.toList.drop f).take (i - f)))] rfl rfl (cell_one_new _ _ _) (by simp [Value.oneCell']) (by decide) (by unfold maxLen; omega) (by omega) (by simp; omega) ?_; intro g' cap' w1 hown1 hgr _ _)
        go_roundw
        case rel =>
          refine ⟨P ++ [(s.data.toList.drop f).take (i - f)], i + 1, i + 1, by omega, Nat.le_refl _, by simp; omega, by rw [HSP.out, HS.out]; simp, by simp, by go_num, by go_num, ⟨some ⟨g', 0, none⟩, cap', by simp, OwS.snoc hown1⟩, ?_⟩
          exact below_app (hbel.alloc hDw _) (hown.alloc _) hgr (Nat.le_refl _) (by simp; omega)
        case measure => simp [intOf]; omega
      · have hb2 : (((s[i]'hlt).toNat : Int) == (c.toNat : Int)) = false := by
          rw [beq_eq_false_iff_ne]
          intro e
          rw [← HB.out] at e
          exact hb (UInt8.toNat_inj.1 (by omega))
        have HS : Hid (c ∉ (s.data.toList.drop f).take (i + 1 - f)) := by
          show _ ∉ _
          rw [seg_snoc hf hll, List.mem_append]
          rintro (h | h)
          · exact HNO.out h
          · exact hb (List.mem_singleton.1 h).symm
        clear hb HB hll
        go_wp2_with fail
        go_roundw
        case rel => exact ⟨P, f, i + 1, by omega, by omega, by omega, HSP.out, HS.out, rfl, by go_num, ⟨b, cb, rfl, hown⟩, hbel⟩
        case measure => simp [intOf]; omega
    · obtain rfl : i = s.size := by omega
      have HE : Hid (spl c s.data.toList = P ++ [s.data.toList.drop f]) := by
        show _ = _
        rw [HSP.out, spl_last]
        intro h
        refine HNO.out ?_
        rw [List.take_of_length_le (by rw [List.length_drop, HSL.out]; exact Nat.le_refl _)]
        exact h
      have HX := Lib.hid (ext_end s f)
      have hk0 : (0 : Int) ≤ (f : Int) := by omega
      have hk1 : (f : Int) ≤ (s.size : Int) := by omega
      go_wp2_with (at_builtin; rw [HX.out]; refine wpList_app rfl _ _ _ rfl 9 (.string ByteArray.empty) 1 16 Tryz.underlying31 str_info rfl (by decide) D wr.heap.size b P.length cb _ rfl (hown.alloc _) ⟨wr.heap.size, 0, none⟩ 1 1 [.string (bs (s.data.toList.drop f))] rfl rfl (cell_one_new _ _ _) (by simp [Value.oneCell']) (by decide) (by unfold maxLen; omega) (by omega) (by simp; omega) ?_; intro g' cap' w1 hown1 hgr _ _)
      go_ret
      refine ⟨some ⟨g', 0, none⟩, cap', by rw [HE.out]; simp, ?_, below_app (hbel.alloc hDw _) (hown.alloc _) hgr (Nat.le_refl _) (by simp; omega)⟩
      rw [HE.out]
      exact OwS.snoc hown1
end Go.Proofs.YtmjmgggfmccjmaaGreatDoor
