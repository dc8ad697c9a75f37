/- AddStub. -/
import Derived.Test.YtlooinhdehkcdaaAddE
namespace Go.Proofs.Ytlooinhdehkcdaa
open Go.RowKit
set_option linter.unusedVariables false
set_option linter.unusedSimpArgs false




/-- a new stub at a node -/
def stubN (N : Net) (v : Nat) : Net := { N with ends := addP N.ends v (v : Int) ((rowOf N.ends v).length : Int) }
def asJ (N : Net) (v : Int) : Net := stubN N v.toNat
def asOk (N : Net) (v : Int) : Bool := ndB N v && netB (asJ N v)
def asR (N : Net) (v : Int) : Net := ifN (asOk N v) (asJ N v)
theorem asOk_f {N : Net} {v : Int} (h : ndB N v = false) : asOk N v = false := by rw [asOk, h]; rfl
theorem asR_f {N : Net} {v : Int} (h : ndB N v = false) : asR N v = nilN := by rw [asR, asOk_f h]; rfl
theorem asOk_t {N : Net} {v : Int} (h : ndB N v = true) : asOk N v = netB (asJ N v) := by rw [asOk, h]; rfl
theorem asR_t {N : Net} {v : Int} (h : ndB N v = true) : asR N v = ifN (netB (asJ N v)) (asJ N v) := by rw [asR, asOk_t h]
theorem stubN_small {N : Net} {v : Nat} (h : netB N = true) (hv : v < N.ends.length) : NetSmall (stubN N v) := by
  have h1 := netB_small h
  have h2 : (stubN N v).ends.length = N.ends.length := addP_length ..
  have h3 : Total (stubN N v).ends = Total N.ends + 1 := total_addP _ _ _ _ hv
  have h4 : (stubN N v).ids = N.ids := rfl
  have h5 : (stubN N v).inputs = N.inputs := rfl
  unfold NetSmall
  rw [h2, h3, h4, h5]
  omega
theorem asR_sm {N : Net} {v : Int} : NetSmall (asR N v) := ifN_small fun hk => by
  rw [asOk, Bool.and_eq_true] at hk
  obtain ⟨h1, _⟩ := hk
  rw [ndB, Bool.and_eq_true] at h1
  obtain ⟨p, rfl, hp⟩ := hasN_nat h1.2
  exact stubN_small h1.1 (by simpa using hp)
end Go.Proofs.Ytlooinhdehkcdaa
