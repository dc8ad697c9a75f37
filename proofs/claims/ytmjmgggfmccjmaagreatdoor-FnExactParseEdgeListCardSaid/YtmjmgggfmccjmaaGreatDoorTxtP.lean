/- PortText: the walks and the law. -/
import Derived.Test.YtmjmgggfmccjmaaGreatDoorTxtE
import Derived.Test.YtmjmgggfmccjmaaGreatDoorEnds
import Derived.Test.YtmjmgggfmccjmaaGreatDoorShelf
import Derived.Stop.LaidErr
namespace Go.Proofs.YtmjmgggfmccjmaaGreatDoor
open Go.RowKit
set_option linter.unusedVariables false
set_option linter.unusedSimpArgs false
def ptOk (x y : Int) : Bool := inR x 0 999999 && inR y 0 999999
def ptR (x y : Int) : ByteArray := if ptOk x y then endT x.toNat y.toNat else ByteArray.empty
theorem ptR_f {x y : Int} (h : ptOk x y = false) : ptR x y = ByteArray.empty := by rw [ptR, h]; rfl
theorem ptR_t {x y : Int} (h : ptOk x y = true) : ptR x y = endT x.toNat y.toNat := by rw [ptR, h]; rfl
theorem ptOk_f0 {x y : Int} (h : inR x 0 999999 = false) : ptOk x y = false := by rw [ptOk, h]; rfl
theorem ptOk_f1 {x y : Int} (h : inR y 0 999999 = false) : ptOk x y = false := by rw [ptOk, h, Bool.and_false]
theorem ptOk_t {x y : Int} (h : inR x 0 999999 = true) (h' : inR y 0 999999 = true) : ptOk x y = true := by rw [ptOk, h, h']; rfl
/-- the library's table of powers -/
def PTab (w : World) : Prop := Lib.TabIs Tryz.prog w "internal/strconv.uint64pow10" .u64 Lib.pow10Tab
theorem grow_below {w w1 : World} (h : ∃ (k : Nat) (os : Array Obj), w1 = Go.Sort.grow (w.drewN k) os) : Below w.heap.size w w1 := by
  obtain ⟨k, os, rfl⟩ := h
  refine ⟨rfl, rfl, rfl, ?_, fun j hj => ?_⟩
  · show w.heap.size ≤ (w.heap ++ os).size
    rw [Array.size_append]; omega
  · show (w.heap ++ os)[j]? = w.heap[j]?
    rw [Array.getElem?_append_left hj]
theorem itoa_any (m : Nat) (w : World) (hm : m < 1000000) (htab : PTab w) :
    Calls Tryz.prog 36 #[.int .i64 m] w fun e w' => e = .returned (.string (decB m)) ∧ Below w.heap.size w w' := by
  refine (Tryz.strconv_Itoa (m : Int) (by omega) (by omega) w htab).mono ?_
  rintro e w1 ⟨rfl, hg⟩
  exact ⟨by rw [itoaB], grow_below hg⟩
theorem PTab.below {w w' : World} (h : PTab w) (hb : Below w.heap.size w w') : PTab w' := by
  unfold PTab Lib.TabIs World.var? at h ⊢
  rw [show Tryz.prog.globalNamed "internal/strconv.uint64pow10" = some 5 by kernel_rfl] at h ⊢
  simp only [Option.bind_some] at h ⊢
  have hlt : 5 < w.heap.size := by
    rcases Nat.lt_or_ge 5 w.heap.size with h' | h'
    · exact h'
    · rw [Array.getElem?_eq_none h'] at h; cases h
  rw [hb.block _ hlt]
  exact h
/-- the table's fact from a row's list -/
theorem ptab_of {W : World} {a b : String × DataW Unit} {r : List (String × DataW Unit)} (h : laidMet Tryz.prog (a :: b :: ("internal/strconv.uint64pow10", Lib.tabData .u64 Lib.pow10Tab) :: r) W) : PTab W :=
  Lib.tabIs_of_head (g := 5) (t := 118) (e := 90) (n := 20) (by kernel_rfl) (by kernel_rfl) (by kernel_rfl) (by kernel_rfl) (by kernel_rfl) (by kernel_rfl) h.tail.tail
end Go.Proofs.YtmjmgggfmccjmaaGreatDoor
