/- Contracts: hasNode, hasPort; the plain predicate of a network. -/
import Derived.Test.YtlooinhdehkcdaaIds
import Derived.Test.YtlooinhdehkcdaaNet
namespace Go.Proofs.Ytlooinhdehkcdaa
open Go.RowKit
set_option linter.unusedVariables false
abbrev Rows2 := List (List (Int × Int))
def hasN (rows : Rows2) (v : Int) : Bool := inR v 0 ((rows.length : Int) - 1)
def hasP (rows : Rows2) (v i : Int) : Bool := hasN rows v && inR i 0 (((rowOf rows v.toNat).length : Int) - 1)
def portB (rows : Rows2) (v i : Nat) : Bool :=
  hasP rows (nthE (rowOf rows v) i).1 (nthE (rowOf rows v) i).2 && decide (nthE (rowOf rows (nthE (rowOf rows v) i).1.toNat) (nthE (rowOf rows v) i).2.toNat = ((v : Int), (i : Int)))
def rowB (rows : Rows2) (v : Nat) : Bool := decide ((rowOf rows v).length ≤ 6 ∧ ∀ i, i < (rowOf rows v).length → portB rows v i = true)
def rowsB (rows : Rows2) : Bool := decide (∀ v, v < rows.length → rowB rows v = true)
def netB (N : Net) : Bool := inR (N.ends.length : Int) 1 40 && idsB N.ids N.ends.length && inpB N.inputs N.ends.length && rowsB N.ends
theorem rowB_f1 {rows : Rows2} {v : Nat} (h : ¬ (rowOf rows v).length ≤ 6) : rowB rows v = false := decide_eq_false fun hh => h hh.1
theorem rowB_f2 {rows : Rows2} {v i : Nat} (hi : i < (rowOf rows v).length) (h : portB rows v i = false) : rowB rows v = false := decide_eq_false fun hh => by rw [hh.2 i hi] at h; cases h
theorem rowB_t {rows : Rows2} {v : Nat} (h0 : (rowOf rows v).length ≤ 6) (h : ∀ i, i < (rowOf rows v).length → portB rows v i = true) : rowB rows v = true := decide_eq_true ⟨h0, h⟩
theorem rowsB_f {rows : Rows2} {v : Nat} (hv : v < rows.length) (h : rowB rows v = false) : rowsB rows = false := decide_eq_false fun hh => by rw [hh v hv] at h; cases h
theorem rowsB_t {rows : Rows2} (h : ∀ v, v < rows.length → rowB rows v = true) : rowsB rows = true := decide_eq_true h
set_option maxHeartbeats 400000 in
theorem hasNode_any (a ai ap : Option Addr) (rows : Rows2) (c ni ci np cp : Nat) (v : Int) (w : World) (hl : rows.length ≤ 1048576) :
    Calls Try.prog 83 #[.agg #[.slice a rows.length c, .slice ai ni ci, .slice ap np cp], .int .i64 v] w fun e w' => e = .returned (.bool (hasN rows v)) ∧ Below w.heap.size w w' := by
  go_enter Try.func83, Try.ntmps83
  go_wp2_with (go_at_call 74; refine (within_any _ _ _ _).mono ?_; rintro e w' ⟨rfl, rfl⟩)
  go_ret
  exact ⟨rfl, (by repeat (first | exact Below.refl _ _ | assumption | refine Below.alloc ?_ (by first | (simp; done) | (simp; omega) | omega) _ | refine Below.setCell ?_ (by first | (simp; done) | (simp; omega) | omega) _ | refine Below.drew ?_ | refine Below.drewN ?_ _))⟩
set_option maxHeartbeats 400000 in
theorem hasPort_any (a ai ap : Option Addr) (rows : Rows2) (vs : Nat → Option Addr × Nat) (c ni ci np cp : Nat) (v i : Int) (w : World) (B : Nat) (ha : RdEE w B a rows vs) (hB : B ≤ w.heap.size) (hl : rows.length ≤ 1048576) (hl2 : ∀ j, j < rows.length → (rowOf rows j).length ≤ 1048576) :
    Calls Try.prog 54 #[.agg #[.slice a rows.length c, .slice ai ni ci, .slice ap np cp], .int .i64 v, .int .i64 i] w fun e w' => e = .returned (.bool (hasP rows v i)) ∧ Below w.heap.size w w' := by
  have b0 : Below w.heap.size w (w.alloc (.cells #[.slice a rows.length c, .slice ai ni ci, .slice ap np cp] 29)) := (by repeat (first | exact Below.refl _ _ | assumption | refine Below.alloc ?_ (by first | (simp; done) | (simp; omega) | omega) _ | refine Below.setCell ?_ (by first | (simp; done) | (simp; omega) | omega) _ | refine Below.drew ?_ | refine Below.drewN ?_ _))
  have BA := Bx.made w 29 #[.slice a rows.length c, .slice ai ni ci, .slice ap np cp]
  cases hn : hasN rows v with
  | false =>
    have HR : Hid (hasP rows v i = false) := by show _ = false; rw [hasP, hn]; rfl
    go_enter Try.func54, Try.ntmps54
    go_wp2_with (go_at_call 83; refine (hasNode_any _ _ _ rows _ _ _ _ _ _ _ hl).mono ?_; rintro e w1 ⟨rfl, bel1⟩)
    go_ret
    exact ⟨ret_bool HR.out.symm, b0.trans (bel1.mono (by rw [World.size_alloc]; omega))⟩
  | true =>
    have hv := inR_iff.1 hn
    obtain ⟨v, rfl⟩ := Int.eq_ofNat_of_zero_le hv.1
    have hlt : v < rows.length := by omega
    have HR : Hid (hasP rows v i = inR i 0 (((rowOf rows v).length : Int) - 1)) := by show _ = _; rw [hasP, hn]; rfl
    have hl3 := hl2 v hlt
    have hg := ha.1
    have HL2 := Lib.hid hl2
    clear hl2
    go_enter Try.func54, Try.ntmps54
    go_wp2_with fail
    refine (hasNode_any _ _ _ rows _ _ _ _ _ _ _ hl).mono ?_
    rintro e w1 ⟨rfl, bel1⟩
    replace BA := BA.new bel1
    have cA := BA.cell 0 _ rfl
    have b1 := b0.trans (bel1.mono (by rw [World.size_alloc]; omega))
    obtain ⟨g, off, hae, hgB, hc⟩ := Rd.at (hg.below (b1.mono hB)) hlt
    subst hae
    rw [hn]
    go_wp2_with (go_at_call 74; refine (within_any _ _ _ _).mono ?_; rintro e w' ⟨rfl, rfl⟩)
    go_ret
    exact ⟨ret_bool HR.out.symm, b1⟩
end Go.Proofs.Ytlooinhdehkcdaa
