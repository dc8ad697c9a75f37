/- Texts of numbers: l1Num, txEnd; PortText. -/
import Derived.Test.YtmjmgggfmccjmaaGreatDoorNumA
import Derived.Test.YtmjmgggfmccjmaaGreatDoorMemB
import Derived.Test.YtmjmgggfmccjmaaGreatDoorShelf
import Derived.Lib.LaidTab
import Derived.LaidMore
import Derived.Laws.Concat
import Derived.Laws.IdiomStrings
namespace Go.Proofs.YtmjmgggfmccjmaaGreatDoor
open Go.RowKit
set_option linter.unusedVariables false
set_option linter.unusedSimpArgs false
def decB (m : Nat) : ByteArray := ⟨(Lib.decDigits m).toArray⟩
def digB (k : Nat) : UInt8 := UInt8.ofNat (48 + k)
theorem decB_small {m : Nat} (h : m < 10) : decB m = ⟨#[digB m]⟩ := by rw [decB, Lib.decDigits_one h]; rfl
theorem decB_more {m : Nat} (h : ¬ m < 10) : decB m = decB (m / 10) ++ ⟨#[digB (m % 10)]⟩ := by
  rw [decB, Lib.decDigits, dif_neg h]
  apply ByteArray.ext
  simp [decB, digB]
theorem decB_size (m : Nat) : (decB m).size ≤ m + 1 := by
  induction m using Nat.strongRecOn with
  | ind m ih =>
    by_cases h : m < 10
    · rw [decB_small h]; show 1 ≤ m + 1; omega
    · have := ih (m / 10) (by omega)
      have e : (⟨#[digB (m % 10)]⟩ : ByteArray).size = 1 := rfl
      rw [decB_more h, ByteArray.size_append, e]; omega
def endT (x y : Nat) : ByteArray := decB x ++ ⟨#[46]⟩ ++ decB y
theorem itoaB (n : Nat) : (⟨(Lib.itoa (n : Int)).toArray⟩ : ByteArray) = decB n := by
  rw [Lib.itoa, if_neg (by omega)]; rfl
theorem endT_add (x y : Nat) (X : World) (hx : x < 1000000) (hy : y < 1000000) : (Op.stringOp .add (decB x ++ ⟨#[46]⟩) (decB y)).run Tryz.prog X = .ok (.string (endT x y)) X := by
  have h1 := decB_size x
  have h2 := decB_size y
  have e : (⟨#[46]⟩ : ByteArray).size = 1 := rfl
  exact run_string_add_sum X _ _ (by rw [ByteArray.size_append, e]; omega)
theorem dot_add (x : Nat) (X : World) (hx : x < 1000000) : (Op.stringOp .add (decB x) ⟨#[46]⟩).run Tryz.prog X = .ok (.string (decB x ++ ⟨#[46]⟩)) X := by
  have h1 := decB_size x
  have e : (⟨#[46]⟩ : ByteArray).size = 1 := rfl
  exact run_string_add_sum X _ _ (by rw [e]; omega)
end Go.Proofs.YtmjmgggfmccjmaaGreatDoor
