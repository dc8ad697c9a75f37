/- A good network is small, and its ends lead back: the plain facts alone (for seats that hold no network law beside the texts). -/
import Derived.Test.YtmjmgggfmccjmaaDoorNeGood
import Derived.Test.YtmjmgggfmccjmaaDoorPlE
namespace Go.Proofs.YtmjmgggfmccjmaaDoor
open Go.RowKit
set_option linter.unusedVariables false
set_option linter.unusedSimpArgs false
theorem total_le {α : Type} (rows : List (List α)) (m : Nat) (h : ∀ j, j < rows.length → (rowOf rows j).length ≤ m) : Total rows ≤ m * rows.length := by
  induction rows with
  | nil => exact Nat.zero_le _
  | cons x xs ih =>
    have h0 := h 0 (by simp)
    have h1 := ih fun j hj => h (j + 1) (by simpa using hj)
    have e0 : rowOf (x :: xs) 0 = x := rfl
    rw [e0] at h0
    unfold Total at *
    simp only [List.map_cons, List.sum_cons, List.length_cons]
    rw [Nat.mul_add]
    omega
/-- a network is small -/
theorem netB_small {N : Net} (h : netB N = true) : N.ends.length ≤ 40 ∧ 1 ≤ N.ends.length ∧ Total N.ends ≤ 240 ∧ N.ids.length ≤ 40 ∧ N.inputs.length = N.ends.length := by
  unfold netB at h
  simp only [Bool.and_eq_true] at h
  obtain ⟨⟨⟨h1, h2⟩, h3⟩, h4⟩ := h
  have h5 := inR_iff.1 h1
  have h6 : Total N.ends ≤ 6 * N.ends.length := total_le _ _ fun j hj => (of_decide_eq_true (of_decide_eq_true h4 j hj)).1
  unfold inpB at h3
  rw [Bool.and_eq_true] at h3
  have h7 := of_decide_eq_true h3.1
  have h8 : N.ids.length = 0 ∨ N.ids.length = N.ends.length := (of_decide_eq_true h2).2.2
  exact ⟨by omega, by omega, by omega, by omega, h7⟩
/-- an end leads back -/
theorem net_back {N : Net} (h : netB N = true) {v i : Nat} (hv : v < N.ends.length) (hi : i < (rowOf N.ends v).length) :
    ∃ p q : Nat, nthE (rowOf N.ends v) i = ((p : Int), (q : Int)) ∧ p < N.ends.length ∧ q < (rowOf N.ends p).length ∧ nthE (rowOf N.ends p) q = ((v : Int), (i : Int)) := by
  unfold netB at h
  simp only [Bool.and_eq_true] at h
  obtain ⟨_, h4⟩ := h
  have h5 := (of_decide_eq_true (of_decide_eq_true h4 v hv : rowB N.ends v = true)).2 i hi
  unfold portB at h5
  generalize hE : nthE (rowOf N.ends v) i = e at h5
  obtain ⟨x, y⟩ := e
  rw [Bool.and_eq_true] at h5
  obtain ⟨p, q, rfl, rfl, hp, hq⟩ := hasP_nat h5.1
  have h6 := of_decide_eq_true h5.2
  exact ⟨p, q, rfl, hp, hq, by simpa using h6⟩
theorem net_row {N : Net} (h : netB N = true) {v : Nat} (hv : v < N.ends.length) : (rowOf N.ends v).length ≤ 6 := by
  unfold netB at h
  simp only [Bool.and_eq_true] at h
  exact (of_decide_eq_true (of_decide_eq_true h.2 v hv : rowB N.ends v = true)).1
end Go.Proofs.YtmjmgggfmccjmaaDoor
