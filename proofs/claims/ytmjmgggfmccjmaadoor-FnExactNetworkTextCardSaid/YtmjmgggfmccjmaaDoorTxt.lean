/- Texts of numbers: l1Num, txEnd; PortText. -/
import Derived.Test.YtmjmgggfmccjmaaDoorNumA
import Derived.Test.YtmjmgggfmccjmaaDoorMemB
import Derived.Test.YtmjmgggfmccjmaaDoorShelf
import Derived.Lib.LaidTab
import Derived.LaidMore
import Derived.Laws.Concat
import Derived.Laws.IdiomStrings
namespace Go.Proofs.YtmjmgggfmccjmaaDoor
open Go.RowKit
set_option linter.unusedVariables false
set_option linter.unusedSimpArgs false
def decB (m : Nat) : ByteArray := ⟨(Lib.decDigits m).toArray⟩
def digB (k : Nat) : UInt8 := UInt8.ofNat (48 + k)
theorem decB_small {m : Nat} (h : m < 10) : decB m = ⟨#[digB m]⟩ := by rw [decB, Lib.decDigits_one h]; rfl
theorem decB_more {m : Nat} (h : ¬ m < 10) : decB m = decB (m / 10) ++ ⟨#[digB (m % 10)]⟩ := by
  rw [decB, Lib.decDigits, dif_neg h]
  apply ByteArray.ext
  simp [decB, digB]
theorem decB_size (m : Nat) : (decB m).size ≤ m + 1 := by
  induction m using Nat.strongRecOn with
  | ind m ih =>
    by_cases h : m < 10
    · rw [decB_small h]; show 1 ≤ m + 1; omega
    · have := ih (m / 10) (by omega)
      have e : (⟨#[digB (m % 10)]⟩ : ByteArray).size = 1 := rfl
      rw [decB_more h, ByteArray.size_append, e]; omega
theorem conv_one (X : World) (g : Nat) (b : UInt8) (c : Int) (hcb : c = (b.toNat : Int)) (hc : X.cell? ⟨g, 0, none⟩ = some (.int .u8 c)) :
    (convert 89 9 (.slice (some ⟨g, 0, none⟩) 1 1)).run Tryd.prog X = .ok (.string ⟨#[b]⟩) X := by
  refine run_convert_bytes_back X _ _ 5 ⟨g, 0, none⟩ 1 [b] Tryd.underlying89 Tryd.underlying5 Tryd.underlying9 fun j hj => ?_
  obtain rfl : j = 0 := by simpa using hj
  have e : (⟨g, 0, none⟩ : Addr).add 0 = ⟨g, 0, none⟩ := by unfold Addr.add; split <;> simp_all
  rw [e, hc, hcb]; rfl
theorem dig_byte (k : Nat) (h : k < 10) : (48 + (k : Int)) = ((digB k).toNat : Int) := by
  rw [digB]
  have : (UInt8.ofNat (48 + k)).toNat = 48 + k := by rw [UInt8.toNat_ofNat']; omega
  rw [this]; omega
set_option maxRecDepth 100000 in
set_option maxHeartbeats 1000000 in
theorem l1Num_any (m : Nat) (w : World) (hm : m < 1000000) :
    Calls Tryd.prog 65 #[.int .i64 m] w fun e w' => e = .returned (.string (decB m)) ∧ Below w.heap.size w w' := by
  induction m using Nat.strongRecOn generalizing w with
  | ind m ih =>
    have IH := Lib.hid ih
    clear ih
    by_cases hlt : m < 10
    · have hcv := conv_one (w.alloc (.cells #[.int .u8 (48 + (m : Int))] 5)) w.heap.size _ _ (dig_byte m hlt) (World.cell?_alloc_mark w _ _ _ 0)
      go_enter Tryd.func65, Tryd.ntmps65
      go_wp2_with fail
      go_ret
      exact ⟨by rw [decB_small hlt]; rfl, (Below.refl _ w).alloc (Nat.le_refl _) _⟩
    · go_enter Tryd.func65, Tryd.ntmps65
      go_wp2_with fail
      have hd : (m : Int) / 10 = ((m / 10 : Nat) : Int) := by omega
      have hr : (m : Int) % 10 = ((m % 10 : Nat) : Int) := by omega
      have hI := Lib.hid (IH.out (m / 10) (by omega))
      clear IH
      have hq : m / 10 < 1000000 := by omega
      have hr2 : m % 10 < 10 := by omega
      generalize hqq : m / 10 = q at *
      generalize hrr : m % 10 = r at *
      have HQ := Lib.hid hqq
      have HR := Lib.hid hrr
      clear hqq hrr
      have hw1 : IntKind.i64.wrap (q : Int) = (q : Int) := by simp [IntKind.wrap, IntKind.signed, IntKind.bits]; omega
      have hw2 : IntKind.u8.wrap (48 + (r : Int)) = 48 + (r : Int) := by simp [IntKind.wrap, IntKind.signed, IntKind.bits]; omega
      have hw3 : IntKind.i64.wrap (48 + (r : Int)) = 48 + (r : Int) := by simp [IntKind.wrap, IntKind.signed, IntKind.bits]; omega
      have ht : Int.tmod (m : Int) 10 = (r : Int) := by rw [Int.tmod_eq_emod_of_nonneg (by omega)]; omega
      have hcv : ∀ (X : World) (g : Nat), X.cell? ⟨g, 0, none⟩ = some (.int .u8 (48 + (r : Int))) → (convert 89 9 (.slice (some ⟨g, 0, none⟩) 1 1)).run Tryd.prog X = .ok (.string ⟨#[digB r]⟩) X := fun X g hc => conv_one X g _ _ (dig_byte r hr2) hc
      have hsz := decB_size q
      have hadd : ∀ X : World, (Op.stringOp .add (decB q) ⟨#[digB r]⟩).run Tryd.prog X = .ok (.string (decB q ++ ⟨#[digB r]⟩)) X := fun X => run_string_add_sum X _ _ (by have e : (⟨#[digB r]⟩ : ByteArray).size = 1 := rfl; rw [e]; omega)
      obtain ⟨C, hC⟩ : ∃ C, C = Obj.cells #[.int .u8 (48 + (r : Int))] 5 := ⟨_, rfl⟩
      have hA : ∀ w1, Below (w.drew.alloc (.cells #[.int .u8 (48 + (r : Int))] 5)).heap.size (w.drew.alloc (.cells #[.int .u8 (48 + (r : Int))] 5)) w1 → w1.cell? ⟨w.heap.size, 0, none⟩ = some (.int .u8 (48 + (r : Int))) := fun w1 h => (h.cell (p := ⟨w.heap.size, 0, none⟩) (by simp)).trans (World.cell?_alloc_mark w.drew _ _ _ 0)
      have hB : ∀ w1, Below (w.drew.alloc (.cells #[.int .u8 (48 + (r : Int))] 5)).drew.heap.size (w.drew.alloc (.cells #[.int .u8 (48 + (r : Int))] 5)).drew w1 → w1.cell? ⟨w.heap.size, 0, none⟩ = some (.int .u8 (48 + (r : Int))) := fun w1 h => (h.cell (p := ⟨w.heap.size, 0, none⟩) (by simp)).trans (World.cell?_alloc_mark w.drew _ _ _ 0)
      have HA := Lib.hid hA
      have HB := Lib.hid hB
      clear hA hB hC C
      go_region_with (go_at_call 65; refine (hI.out _ hq).mono ?_; rintro e w1 ⟨rfl, bel1⟩; have belw : Below w.heap.size w w1 := Below.trans (by repeat (first | exact Below.refl _ _ | assumption | refine Below.alloc ?_ (by first | (simp; done) | (simp; omega) | omega) _ | refine Below.setCell ?_ (by first | (simp; done) | (simp; omega) | omega) _ | refine Below.drew ?_ | refine Below.drewN ?_ _)) (bel1.mono (by first | (simp; done) | (simp; omega))); have szw := belw.size; first | have hcw := HA.out _ bel1 | have hcw := HB.out _ bel1 | skip)
      all_goals (go_wp2_with fail)
      all_goals go_ret
      all_goals exact ⟨by rw [decB_more hlt, HQ.out, HR.out]; rfl, (by repeat (first | exact Below.refl _ _ | assumption | refine Below.alloc ?_ (by first | (simp; done) | (simp; omega) | omega) _ | refine Below.setCell ?_ (by first | (simp; done) | (simp; omega) | omega) _ | refine Below.drew ?_ | refine Below.drewN ?_ _))⟩
/-- an end's text -/
def endT (x y : Nat) : ByteArray := decB x ++ ⟨#[46]⟩ ++ decB y
theorem itoaB (n : Nat) : (⟨(Lib.itoa (n : Int)).toArray⟩ : ByteArray) = decB n := by
  rw [Lib.itoa, if_neg (by omega)]; rfl
theorem endT_add (x y : Nat) (X : World) (hx : x < 1000000) (hy : y < 1000000) : (Op.stringOp .add (decB x ++ ⟨#[46]⟩) (decB y)).run Tryd.prog X = .ok (.string (endT x y)) X := by
  have h1 := decB_size x
  have h2 := decB_size y
  have e : (⟨#[46]⟩ : ByteArray).size = 1 := rfl
  exact run_string_add_sum X _ _ (by rw [ByteArray.size_append, e]; omega)
theorem dot_add (x : Nat) (X : World) (hx : x < 1000000) : (Op.stringOp .add (decB x) ⟨#[46]⟩).run Tryd.prog X = .ok (.string (decB x ++ ⟨#[46]⟩)) X := by
  have h1 := decB_size x
  have e : (⟨#[46]⟩ : ByteArray).size = 1 := rfl
  exact run_string_add_sum X _ _ (by rw [e]; omega)
end Go.Proofs.YtmjmgggfmccjmaaDoor
