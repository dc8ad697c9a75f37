/- WithIds, WithInputs: contracts. -/
import Derived.Test.YtlooinhdehkcdaaFit
import Derived.Test.YtlooinhdehkcdaaCopy
import Derived.Test.YtlooinhdehkcdaaAddE
namespace Go.Proofs.Ytlooinhdehkcdaa
open Go.RowKit
set_option linter.unusedVariables false
set_option linter.unusedSimpArgs false


theorem disj_new {w : World} {lo hi lo' hi' : Nat} {e e' : TypeId} {s s' n n' : Nat} {a a' : Option Addr} {c c' : Nat} {f f' : Nat → Value} (h : Ow w lo hi e s a n c f) (k : Ow w lo' hi' e' s' a' n' c' f') (hl : hi ≤ lo' ∨ hi' ≤ lo) : blk a c = none ∨ blk a c ≠ blk a' c' := by
  cases hb : blk a c with
  | none => exact .inl rfl
  | some x => exact .inr fun he => by have h5 := Ow.blk_in h hb; have h6 := Ow.blk_in k he.symm; omega
/-- the network with other ids -/
def wiN (N : Net) (l : List Int) : Net := { N with ids := l }
def wiOk (N : Net) (l : List Int) : Bool := netB N && idsB l N.ends.length
def wiR (N : Net) (l : List Int) : Net := ifN (wiOk N l) (wiN N l)
theorem wiOk_f0 {N : Net} {l : List Int} (h : netB N = false) : wiOk N l = false := by rw [wiOk, h]; rfl
theorem wiOk_t {N : Net} {l : List Int} (h : netB N = true) : wiOk N l = idsB l N.ends.length := by rw [wiOk, h]; rfl
theorem wiR_f {N : Net} {l : List Int} (h : wiOk N l = false) : wiR N l = nilN := by rw [wiR, h]; rfl
theorem wiOk_net {N : Net} {l : List Int} (h : netB N = true) : netB (wiN N l) = wiOk N l := by
  rw [wiOk_t h]
  unfold netB at h ⊢
  simp only [Bool.and_eq_true] at h
  obtain ⟨⟨⟨h1, h2⟩, h3⟩, h4⟩ := h
  show (inR (N.ends.length : Int) 1 40 && idsB l N.ends.length && inpB N.inputs N.ends.length && rowsB N.ends) = _
  rw [h1, h3, h4]
  simp
theorem wiOk_le {N : Net} {l : List Int} (h : wiOk N l = true) : l.length ≤ 40 ∧ netB N = true := by
  rw [wiOk, Bool.and_eq_true] at h
  have h1 := netB_small h.1
  obtain ⟨h0, h2⟩ := h
  have h3 : l.length = 0 ∨ l.length = N.ends.length := (of_decide_eq_true h2).2.2
  exact ⟨by omega, h0⟩
theorem wiR_sm {N : Net} {l : List Int} : NetSmall (wiR N l) := ifN_small fun h => by
  have h1 := wiOk_le h
  have h2 := netB_small h1.2
  unfold NetSmall wiN
  show N.ends.length + Total N.ends + l.length + N.inputs.length ≤ 1048576
  omega
theorem wiN_fit {N : Net} {l : List Int} (h : NetSmall N) (hl : l.length ≤ 1048576) : NetFit (wiN N l) := by
  have hr := h.row
  unfold NetSmall at h
  exact ⟨show N.ends.length ≤ _ by omega, show l.length ≤ _ by omega, show N.inputs.length ≤ _ by omega, hr⟩
/-- the network with other inputs -/
def wpN (N : Net) (l : List Int) : Net := { N with inputs := l }
def wpOk (N : Net) (l : List Int) : Bool := netB N && inpB l N.ends.length
def wpR (N : Net) (l : List Int) : Net := ifN (wpOk N l) (wpN N l)
theorem wpOk_f0 {N : Net} {l : List Int} (h : netB N = false) : wpOk N l = false := by rw [wpOk, h]; rfl
theorem wpOk_t {N : Net} {l : List Int} (h : netB N = true) : wpOk N l = inpB l N.ends.length := by rw [wpOk, h]; rfl
theorem wpR_f {N : Net} {l : List Int} (h : wpOk N l = false) : wpR N l = nilN := by rw [wpR, h]; rfl
theorem wpOk_net {N : Net} {l : List Int} (h : netB N = true) : netB (wpN N l) = wpOk N l := by
  rw [wpOk_t h]
  unfold netB at h ⊢
  simp only [Bool.and_eq_true] at h
  obtain ⟨⟨⟨h1, h2⟩, h3⟩, h4⟩ := h
  show (inR (N.ends.length : Int) 1 40 && idsB N.ids N.ends.length && inpB l N.ends.length && rowsB N.ends) = _
  rw [h1, h2, h4]
  simp
theorem wpOk_le {N : Net} {l : List Int} (h : wpOk N l = true) : l.length ≤ 40 ∧ netB N = true := by
  rw [wpOk, Bool.and_eq_true] at h
  have h1 := netB_small h.1
  obtain ⟨h0, h2⟩ := h
  have h3 : l.length = 0 ∨ l.length = N.ends.length := (by unfold inpB at h2; rw [Bool.and_eq_true] at h2; exact .inr (of_decide_eq_true h2.1))
  exact ⟨by omega, h0⟩
theorem wpR_sm {N : Net} {l : List Int} : NetSmall (wpR N l) := ifN_small fun h => by
  have h1 := wpOk_le h
  have h2 := netB_small h1.2
  unfold NetSmall wpN
  show N.ends.length + Total N.ends + N.ids.length + l.length ≤ 1048576
  omega
theorem wpN_fit {N : Net} {l : List Int} (h : NetSmall N) (hl : l.length ≤ 1048576) : NetFit (wpN N l) := by
  have hr := h.row
  unfold NetSmall at h
  exact ⟨show N.ends.length ≤ _ by omega, show N.ids.length ≤ _ by omega, show l.length ≤ _ by omega, hr⟩
end Go.Proofs.Ytlooinhdehkcdaa
