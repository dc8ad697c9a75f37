/- NeighboursOf: contracts. -/
import Derived.Test.YtabpimhkjgojhaaNeGood
import Derived.Test.YtabpimhkjgojhaaApp
namespace Go.Proofs.Ytabpimhkjgojhaa
open Go.RowKit
set_option linter.unusedVariables false
set_option linter.unusedSimpArgs false
/-- the nodes at the other sides of a row of ends -/
def fsts (es : List (Int × Int)) : List Int := es.map Prod.fst
theorem fsts_length (es : List (Int × Int)) : (fsts es).length = es.length := by simp [fsts]
theorem fsts_nth (es : List (Int × Int)) (j : Nat) (hj : j < es.length) : nth (fsts es) j = (nthE es j).1 := by
  rw [nth_eq_getElem _ _ (by rw [fsts_length]; exact hj)]
  simp [fsts, nthE, List.getD, hj]
theorem fsts_take (es : List (Int × Int)) (k : Nat) (h : k < es.length) : (fsts es).take (k + 1) = (fsts es).take k ++ [(nthE es k).1] := by
  rw [take_snoc_nth _ _ (by rw [fsts_length]; exact h), fsts_nth _ _ h]
def ndB (N : Net) (v : Int) : Bool := netB N && hasN N.ends v
def nrR (N : Net) (v : Int) : List Int := if ndB N v then fsts (rowOf N.ends v.toNat) else []
theorem nrR_t {N : Net} {v : Int} (h : ndB N v = true) : nrR N v = fsts (rowOf N.ends v.toNat) := by rw [nrR, h]; rfl
theorem nrR_f {N : Net} {v : Int} (h : ndB N v = false) : nrR N v = [] := by rw [nrR, h]; rfl
theorem ndB_f0 {N : Net} {v : Int} (h : netB N = false) : ndB N v = false := by rw [ndB, h]; rfl
theorem ndB_n {N : Net} {v : Int} (h : netB N = true) : ndB N v = hasN N.ends v := by rw [ndB, h]; rfl
theorem nrR_le {N : Net} {v : Int} (h : NetSmall N) : (nrR N v).length ≤ 1048576 := by
  cases hn : ndB N v with
  | false => rw [nrR_f hn]; exact Nat.zero_le _
  | true =>
    rw [nrR_t hn, fsts_length]
    rw [ndB, Bool.and_eq_true] at hn
    obtain ⟨p, rfl, hp⟩ := hasN_nat hn.2
    exact h.row _ (by simpa using hp)
set_option maxHeartbeats 400000 in
theorem neNode_any (V : Value) (N : Net) (v : Int) (w : World) (B : Nat) (hv : NetIn w B V N) (hB : B ≤ w.heap.size) (hs : NetSmall N) :
    Calls Try.prog 69 #[V, .int .i64 v] w fun e w' => e = .returned (.bool (ndB N v)) ∧ Below w.heap.size w w' := by
  have HV := Lib.hid hv
  obtain ⟨a, c, vs, ai, ci, ap, cp, rfl, h1, _⟩ := hv
  have hl : N.ends.length ≤ 1048576 := by unfold NetSmall at hs; omega
  have BA := Bx.made w 25 #[.slice a N.ends.length c, .slice ai N.ids.length ci, .slice ap N.inputs.length cp]
  have b0 : Below w.heap.size w (w.alloc (.cells #[.slice a N.ends.length c, .slice ai N.ids.length ci, .slice ap N.inputs.length cp] 25)) := (by repeat (first | exact Below.refl _ _ | assumption | refine Below.alloc ?_ (by first | (simp; done) | (simp; omega) | omega) _ | refine Below.setCell ?_ (by first | (simp; done) | (simp; omega) | omega) _ | refine Below.drew ?_ | refine Below.drewN ?_ _))
  go_enter Try.func69, Try.ntmps69
  go_wp2_with fail
  refine (neGood_any _ N _ B (HV.out.below (b0.mono hB)) (Nat.le_trans hB b0.size) hs).mono ?_
  rintro e w1 ⟨rfl, bel1⟩
  replace BA := BA.new bel1
  have b1 := b0.trans (bel1.mono b0.size)
  clear b0 bel1
  have c0 := BA.cell 0 _ rfl
  cases hn : netB N with
  | false =>
    have HN := Lib.hid hn
    clear hn
    go_wp2_with fail
    go_ret
    exact ⟨ret_bool (ndB_f0 HN.out).symm, b1⟩
  | true =>
    have HN := Lib.hid hn
    clear hn
    go_wp2_with fail
    refine (l1In_any _ _ _ _).mono ?_
    rintro e w' ⟨rfl, rfl⟩
    go_wp2_with fail
    go_ret
    exact ⟨ret_bool (ndB_n HN.out).symm, b1⟩
end Go.Proofs.Ytabpimhkjgojhaa
