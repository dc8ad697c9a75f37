/- AddEdge. -/
import Derived.Test.YtlooinhdehkcdaaPath
import Derived.Test.YtlooinhdehkcdaaCopy
import Derived.Test.YtlooinhdehkcdaaNear
import Derived.Test.YtlooinhdehkcdaaSz
namespace Go.Proofs.Ytlooinhdehkcdaa
open Go.RowKit
set_option linter.unusedVariables false
set_option linter.unusedSimpArgs false




def aeB (N : Net) (v u : Int) : Bool := netB N && hasN N.ends v && hasN N.ends u
def aeJ (N : Net) (v u : Int) : Net := joinN N v.toNat u.toNat
def aeOk (N : Net) (v u : Int) : Bool := aeB N v u && netB (aeJ N v u)
def aeR (N : Net) (v u : Int) : Net := ifN (aeOk N v u) (aeJ N v u)
theorem total_le {α : Type} (rows : List (List α)) (m : Nat) (h : ∀ j, j < rows.length → (rowOf rows j).length ≤ m) : Total rows ≤ m * rows.length := by
  induction rows with
  | nil => exact Nat.zero_le _
  | cons x xs ih =>
    have h0 := h 0 (by simp)
    have h1 := ih fun j hj => h (j + 1) (by simpa using hj)
    have e0 : rowOf (x :: xs) 0 = x := rfl
    rw [e0] at h0
    unfold Total at *
    simp only [List.map_cons, List.sum_cons, List.length_cons]
    rw [Nat.mul_add]
    omega
/-- a network is small -/
theorem netB_small {N : Net} (h : netB N = true) : N.ends.length ≤ 40 ∧ 1 ≤ N.ends.length ∧ Total N.ends ≤ 240 ∧ N.ids.length ≤ 40 ∧ N.inputs.length = N.ends.length := by
  unfold netB at h
  simp only [Bool.and_eq_true] at h
  obtain ⟨⟨⟨h1, h2⟩, h3⟩, h4⟩ := h
  have h5 := inR_iff.1 h1
  have h6 : Total N.ends ≤ 6 * N.ends.length := total_le _ _ fun j hj => (of_decide_eq_true (of_decide_eq_true h4 j hj)).1
  unfold inpB at h3
  rw [Bool.and_eq_true] at h3
  have h7 := of_decide_eq_true h3.1
  have h8 : N.ids.length = 0 ∨ N.ids.length = N.ends.length := (of_decide_eq_true h2).2.2
  exact ⟨by omega, by omega, by omega, by omega, h7⟩
theorem joinN_small {N : Net} {v u : Nat} (h : netB N = true) (hv : v < N.ends.length) (hu : u < N.ends.length) : NetSmall (joinN N v u) := by
  have h1 := netB_small h
  have h2 := joinN_length N v u
  have h3 : Total (joinN N v u).ends = Total N.ends + 2 := total_joinR _ _ _ hv hu
  have h4 : (joinN N v u).ids = N.ids := rfl
  have h5 : (joinN N v u).inputs = N.inputs := rfl
  unfold NetSmall
  rw [h2, h3, h4, h5]
  omega
theorem aeB_n {N : Net} {v u : Int} (h : netB N = true) (h1 : hasN N.ends v = true) : aeB N v u = hasN N.ends u := by rw [aeB, h, h1]; rfl
theorem aeB_f0 {N : Net} {v u : Int} (h : netB N = false) : aeB N v u = false := by rw [aeB, h]; rfl
theorem aeB_f1 {N : Net} {v u : Int} (h : hasN N.ends v = false) : aeB N v u = false := by rw [aeB, h, Bool.and_false]; rfl
theorem aeOk_f {N : Net} {v u : Int} (h : aeB N v u = false) : aeOk N v u = false := by rw [aeOk, h]; rfl
theorem aeR_f {N : Net} {v u : Int} (h : aeB N v u = false) : aeR N v u = nilN := by rw [aeR, aeOk_f h]; rfl
theorem aeOk_t {N : Net} {v u : Int} (h : aeB N v u = true) : aeOk N v u = netB (aeJ N v u) := by rw [aeOk, h]; rfl
theorem aeR_t {N : Net} {v u : Int} (h : aeB N v u = true) : aeR N v u = ifN (netB (aeJ N v u)) (aeJ N v u) := by rw [aeR, aeOk_t h]
theorem aeR_sm {N : Net} {v u : Int} : NetSmall (aeR N v u) := ifN_small fun hk => by
  rw [aeOk, Bool.and_eq_true] at hk
  obtain ⟨h1, _⟩ := hk
  unfold aeB at h1
  simp only [Bool.and_eq_true] at h1
  obtain ⟨⟨h1, h2⟩, h3⟩ := h1
  obtain ⟨p, rfl, hp⟩ := hasN_nat h2
  obtain ⟨q, rfl, hq⟩ := hasN_nat h3
  exact joinN_small h1 (by simpa using hp) (by simpa using hq)
theorem NBx.of {w : World} {lo hi b : Nat} {N : Net} {a ai ap : Option Addr} {c ci cp : Nat} (hb : Bx w b 29 #[.slice a N.ends.length c, .slice ai N.ids.length ci, .slice ap N.inputs.length cp]) (h : NetAt w lo hi (.agg #[.slice a N.ends.length c, .slice ai N.ids.length ci, .slice ap N.inputs.length cp]) N) (hh : hi ≤ w.heap.size) : NBx w lo b N := by
  obtain ⟨a', c', vs, ai', ci', ap', cp', hv, h1, h2, h3, h4⟩ := h.wide (Nat.le_refl _) hh
  simp only [Value.agg.injEq, Array.mk.injEq, List.cons.injEq, Value.slice.injEq, true_and, and_true] at hv
  obtain ⟨⟨rfl, rfl⟩, ⟨rfl, rfl⟩, rfl, rfl⟩ := hv
  exact ⟨_, _, vs, _, _, _, _, hb, h1, h2, h3, h4⟩
end Go.Proofs.Ytlooinhdehkcdaa
