/- ParseEdgeList: the library's Split and CutSuffix; words. -/
import Derived.Test.YtmjmgggfmccjmaaGreatDoorRnI
import Derived.Test.YtmjmgggfmccjmaaGreatDoorPelQ
namespace Go.Proofs.YtmjmgggfmccjmaaGreatDoor
open Go.RowKit
set_option linter.unusedVariables false
set_option linter.unusedSimpArgs false
/-- some number stands in the library's variable that strings.Index reads -/
def MLen (w : World) : Prop := ∃ m, w.cell? ⟨0, 0, none⟩ = some (.int .i64 m)
theorem MLen.below {w w' : World} (h : MLen w) (hb : Below w.heap.size w w') : MLen w' := by
  obtain ⟨m, h⟩ := h
  exact ⟨m, (hb.cell (p := ⟨0, 0, none⟩) (World.block_lt_of_cell? w _ h)).trans h⟩
theorem bs_map_data (xs : List ByteArray) : (xs.map (fun x => x.data.toList)).map bs = xs := by
  induction xs with
  | nil => rfl
  | cons x xs ih => rw [List.map_cons, List.map_cons, ih, bs_eta]
theorem splitB_spl (c : UInt8) (s : ByteArray) : Lib.splitB ⟨#[c]⟩ 0 (Lib.countB s ⟨#[c]⟩) s = (spl c s.data.toList).map bs := by
  have h := Lib.splitB_data ⟨#[c]⟩ 0 (Lib.countB s ⟨#[c]⟩) s
  have h2 : Lib.splitK [c] 0 (Lib.countB s ⟨#[c]⟩) s.data.toList = spl c s.data.toList := splitK_one c _ s.data.toList (Nat.le_refl _)
  have h3 := h.trans h2
  rw [← h3, bs_map_data]
theorem cellI_app {L : List Int} {i : Nat} {z : Int} (h : nth L i = z) : ∀ x, x < (i + 1) * 1 → app (cellI L) (i * 1) [.int .i64 z] x = cellI L x := by
  intro x hx
  unfold app
  by_cases e : x < i
  · rw [if_pos (by omega)]
  · rw [if_neg (by omega), show x - i * 1 = 0 by omega, show x = i by omega, cellI, h]; rfl
theorem bs_test_nil {p : List UInt8} (h : p = []) : ((bs p).toList == []) = true := by rw [Lib.toList_data, h]; rfl
theorem bs_test_ne {p : List UInt8} (h : p ≠ []) : ((bs p).toList == []) = false := by rw [Lib.toList_data, beq_eq_false_iff_ne]; exact h
theorem l1SplitZ_any (s : ByteArray) (c : UInt8) (z : Int) (hz : (c.toNat : Int) = z) (w : World) (hs : s.size ≤ 1048576) :
    Calls Tryz.prog 9 #[.string s, .int .u8 z] w fun e w' => ∃ a cap, e = .returned (.slice a (spl c s.data.toList).length cap) ∧ Ow w' w.heap.size w'.heap.size 9 1 a (spl c s.data.toList).length cap (cellS (spl c s.data.toList)) ∧ Below w.heap.size w w' := by
  subst hz
  exact l1Split_any s c w hs
theorem spl_count (c : UInt8) (l : List UInt8) : (spl c l).length ≤ l.length + 1 := spl_cnt c l
theorem splitS_any (s : ByteArray) (c : UInt8) (w : World) (hml : MLen w) (hs : s.size ≤ 1048576) :
    Calls Tryz.prog 18 #[.string s, .string ⟨#[c]⟩] w fun e w' => ∃ a cap, e = .returned (.slice a (spl c s.data.toList).length cap) ∧ Ow w' w.heap.size w'.heap.size 9 1 a (spl c s.data.toList).length cap (cellS (spl c s.data.toList)) ∧ Below w.heap.size w w' := by
  obtain ⟨m, hm⟩ := hml
  have hsp := splitB_spl c s
  have h1 : 1 ≤ (⟨#[c]⟩ : ByteArray).size := Nat.le_refl _
  have hlen := Lib.splitB_all ⟨#[c]⟩ h1 0 _ s rfl
  rw [hsp, List.length_map] at hlen
  have hcnt := spl_count c s.data.toList
  have hsl := size_list s
  have key := Tryz.strings_Split s ⟨#[c]⟩ m w (by omega) hm h1
  rw [hsp, ← hlen] at key
  refine key.mono ?_
  rintro e w1 ⟨rfl, rfl⟩
  generalize spl c s.data.toList = P at *
  refine ⟨some ⟨w.heap.size, 0, none⟩, _, rfl, ?_, (Below.refl _ w).alloc (Nat.le_refl _) _⟩
  refine Ow.of_row (F := cellS P) ⟨_, heap_alloc_new w _, by simp, fun i hi => ?_⟩ (Nat.le_refl _) (by simp) (Nat.le_refl _) (by unfold maxLen; omega) fun j _ => rfl
  rw [Nat.mul_one] at hi
  rw [List.getElem?_toArray, List.map_map, List.getElem?_map, nthS_getElem? hi]
  rfl
theorem Fr.cellZ {C : Nat → Prop} {w w' : World} (h : Fr C w w') {p : Addr} (hl : p.block < w.heap.size) (hc : ¬ C p.block) : w'.cell? p = w.cell? p := by
  unfold World.cell?
  rw [h.block _ hl hc]
theorem suf_yes (a : List UInt8) : Lib.hasSuffix (a ++ [10]) [10] = true := by
  unfold Lib.hasSuffix
  rw [List.isSuffixOf_iff_suffix]
  exact List.suffix_append a [10]
theorem suf_no {L : List UInt8} (h : ∀ a, L ≠ a ++ [10]) : Lib.hasSuffix L [10] = false := by
  cases hc : Lib.hasSuffix L [10] with
  | false => rfl
  | true =>
    unfold Lib.hasSuffix at hc
    rw [List.isSuffixOf_iff_suffix] at hc
    obtain ⟨a, e⟩ := hc
    exact absurd e.symm (h a)
theorem suf_trim (a : List UInt8) : Lib.trimSuffix (a ++ [10]) [10] = a := by
  unfold Lib.trimSuffix
  rw [if_pos (suf_yes a)]
  simp
end Go.Proofs.YtmjmgggfmccjmaaGreatDoor
