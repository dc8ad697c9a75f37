/- Contracts and law: OtherEnd. -/
import Derived.Test.YtlooinhdehkcdaaNeGood
namespace Go.Proofs.Ytlooinhdehkcdaa
open Go.RowKit
set_option linter.unusedVariables false
set_option linter.unusedSimpArgs false
/-- valid, and the port is there -/
def npB (N : Net) (v i : Int) : Bool := netB N && hasP N.ends v i
theorem npB_f0 {N : Net} {v i : Int} (h : netB N = false) : npB N v i = false := by rw [npB, h]; rfl
theorem npB_f1 {N : Net} {v i : Int} (h : hasP N.ends v i = false) : npB N v i = false := by rw [npB, h]; simp
theorem npB_t {N : Net} {v i : Int} (h0 : netB N = true) (h : hasP N.ends v i = true) : npB N v i = true := by rw [npB, h0, h]; rfl
def oeR (N : Net) (v i : Int) : Int × Int := if npB N v i then nthE (rowOf N.ends v.toNat) i.toNat else (0, 0)
theorem oeR_no {N : Net} {v i : Int} (h : npB N v i = false) : oeR N v i = (0, 0) := by rw [oeR, h]; rfl
theorem oeR_yes {N : Net} {v i : Nat} (h : npB N v i = true) : oeR N v i = nthE (rowOf N.ends v) i := by rw [oeR, h]; rfl
def PostE (r : Int × Int) (ok : Bool) (w : World) (e : Ending) (w' : World) : Prop := e = .returned (.tuple #[.agg #[.int .i64 r.1, .int .i64 r.2], .bool ok]) ∧ Below w.heap.size w w'
theorem netB_40 {N : Net} (h : netB N = true) : N.ends.length ≤ 40 := by
  unfold netB at h
  simp only [Bool.and_eq_true] at h
  have := inR_iff.1 h.1.1.1
  omega
set_option maxHeartbeats 400000 in
theorem nePort_any (V : Value) (N : Net) (v i : Int) (w : World) (B : Nat) (hv : NetIn w B V N) (hB : B ≤ w.heap.size) (hs : NetSmall N) :
    Calls Try.prog 51 #[V, .int .i64 v, .int .i64 i] w fun e w' => e = .returned (.bool (npB N v i)) ∧ Below w.heap.size w w' := by
  have HV := Lib.hid hv
  obtain ⟨a, c, vs, ai, ci, ap, cp, rfl, h1, _⟩ := hv
  have BA := Bx.made w 29 #[.slice a N.ends.length c, .slice ai N.ids.length ci, .slice ap N.inputs.length cp]
  have b0 : Below w.heap.size w (w.alloc (.cells #[.slice a N.ends.length c, .slice ai N.ids.length ci, .slice ap N.inputs.length cp] 29)) := (by repeat (first | exact Below.refl _ _ | assumption | refine Below.alloc ?_ (by first | (simp; done) | (simp; omega) | omega) _ | refine Below.setCell ?_ (by first | (simp; done) | (simp; omega) | omega) _ | refine Below.drew ?_ | refine Below.drewN ?_ _))
  have HROW := Lib.hid hs.row
  have hl : N.ends.length ≤ 1048576 := by unfold NetSmall at hs; omega
  go_enter Try.func51, Try.ntmps51
  go_wp2_with fail
  refine (neGood_any _ N _ B (HV.out.below (b0.mono hB)) (Nat.le_trans hB b0.size) hs).mono ?_
  rintro e w1 ⟨rfl, bel1⟩
  replace BA := BA.new bel1
  have b1 := b0.trans (bel1.mono b0.size)
  have z1 := b1.size
  clear b0 bel1
  have c0 := BA.cell 0 _ rfl
  cases hn : netB N with
  | false =>
    have HX := Lib.hid (npB_f0 (v := v) (i := i) hn)
    clear hn
    go_wp2_with fail
    go_ret
    exact ⟨ret_bool HX.out.symm, b1⟩
  | true =>
    have HN := Lib.hid hn
    clear hn
    cases hp : hasN N.ends v with
    | false =>
      have HX := Lib.hid (npB_f1 (N := N) (hasP_f0 (q := i) hp))
      have HP : Hid (inR v 0 ((N.ends.length : Int) - 1) = false) := hp
      clear hp
      go_wp2_with fail
      refine (l1In_any _ _ _ _).mono ?_
      rintro e w' ⟨rfl, rfl⟩
      rw [HP.out]
      go_wp2_with fail
      go_ret
      exact ⟨ret_bool HX.out.symm, b1⟩
    | true =>
      obtain ⟨v, rfl, hlt⟩ := hasN_nat hp
      have HP : Hid (inR v 0 ((N.ends.length : Int) - 1) = true) := hp
      have HH := Lib.hid (hasP_at (q := i) hp)
      clear hp
      obtain ⟨g, off, hae, hgB, hc⟩ := Rd.at (h1.below (b1.mono hB)).1 hlt
      subst hae
      have hl2 := HROW.out v hlt
      go_wp2_with fail
      refine (l1In_any _ _ _ _).mono ?_
      rintro e w' ⟨rfl, rfl⟩
      rw [HP.out]
      go_wp2_with fail
      refine (l1In_any _ _ _ _).mono ?_
      rintro e w' ⟨rfl, rfl⟩
      go_wp2_with fail
      go_ret
      exact ⟨ret_bool (by rw [npB, HN.out, HH.out]; rfl), b1⟩
end Go.Proofs.Ytlooinhdehkcdaa
