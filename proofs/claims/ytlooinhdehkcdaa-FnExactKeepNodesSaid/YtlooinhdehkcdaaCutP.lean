/- RemoveEdge, KeepNodes: the plain law. -/
import Derived.Test.YtlooinhdehkcdaaRenP
namespace Go.Proofs.Ytlooinhdehkcdaa
open Go.RowKit
set_option linter.unusedVariables false
set_option linter.unusedSimpArgs false
/-- how many of the first i are kept -/
def rkF (p : Nat → Bool) : Nat → Nat
  | 0 => 0
  | i + 1 => rkF p i + if p i then 1 else 0
theorem rkF_le (p : Nat → Bool) (i : Nat) : rkF p i ≤ i := by
  induction i with
  | zero => exact Nat.le_refl _
  | succ i ih => rw [rkF]; split <;> omega
theorem rkF_congr {p p' : Nat → Bool} {n : Nat} (h : ∀ j, j < n → p j = p' j) : ∀ i, i ≤ n → rkF p i = rkF p' i
  | 0, _ => rfl
  | i + 1, hi => by rw [rkF, rkF, rkF_congr h i (by omega), h i (by omega)]
/-- the kept ones of the first i ends, turned by f -/
def gRow (es : List (Int × Int)) (p : Nat → Bool) (f : Int × Int → Int × Int) : Nat → List (Int × Int)
  | 0 => []
  | i + 1 => gRow es p f i ++ if p i then [f (nthE es i)] else []
theorem gRow_yes {es : List (Int × Int)} {p : Nat → Bool} {f : Int × Int → Int × Int} {i : Nat} (h : p i = true) : gRow es p f (i + 1) = gRow es p f i ++ [f (nthE es i)] := by rw [gRow, if_pos h]
theorem gRow_no {es : List (Int × Int)} {p : Nat → Bool} {f : Int × Int → Int × Int} {i : Nat} (h : p i = false) : gRow es p f (i + 1) = gRow es p f i := by rw [gRow, h]; simp
theorem gRow_len (es : List (Int × Int)) (p : Nat → Bool) (f : Int × Int → Int × Int) (i : Nat) : (gRow es p f i).length = rkF p i := by
  induction i with
  | zero => rfl
  | succ i ih => rw [gRow, rkF, List.length_append, ih]; split <;> rfl
theorem gRow_congr {es : List (Int × Int)} {p p' : Nat → Bool} {f f' : Int × Int → Int × Int} {n : Nat} (h : ∀ j, j < n → p j = p' j ∧ (p j = true → f (nthE es j) = f' (nthE es j))) : ∀ i, i ≤ n → gRow es p f i = gRow es p' f' i
  | 0, _ => rfl
  | i + 1, hi => by
    obtain ⟨h1, h2⟩ := h i (by omega)
    rw [gRow, gRow, gRow_congr h i (by omega), ← h1]
    cases hp : p i
    · simp
    · rw [if_pos rfl, if_pos rfl, h2 hp]
theorem gRow_map (es : List (Int × Int)) (p : Nat → Bool) (f g : Int × Int → Int × Int) (i : Nat) : (gRow es p f i).map g = gRow es p (fun e => g (f e)) i := by
  induction i with
  | zero => rfl
  | succ i ih => rw [gRow, gRow, List.map_append, ih]; split <;> rfl
/-- a kept end with its new number: its node by pos, its port by how many ports of that node ahead of it are kept -/
def ctE (kp : Nat → Nat → Bool) (pos : Int → Int) (e : Int × Int) : Int × Int := (pos e.1, (rkF (kp e.1.toNat) e.2.toNat : Int))
def ctRow (rows : Rows2) (kp : Nat → Nat → Bool) (pos : Int → Int) (v : Nat) : List (Int × Int) := gRow (rowOf rows v) (kp v) (ctE kp pos) (rowOf rows v).length
/-- the network of the ports that are kept -/
def cutN (N : Net) (kp : Nat → Nat → Bool) : Net := ⟨(List.range N.ends.length).map fun v => ctRow N.ends kp (fun x => x) v, N.ids, N.inputs⟩
/-- RemoveEdge: all ports but (v, i) and its other end are kept -/
def rmK (rows : Rows2) (v i : Nat) (w j : Nat) : Bool := !(decide (w = v ∧ j = i)) && !(decide (((w : Nat) : Int) = (nthE (rowOf rows v) i).1 ∧ ((j : Nat) : Int) = (nthE (rowOf rows v) i).2))
def rmOk (N : Net) (v i : Int) : Bool := netB N && hasP N.ends v i
def rmN (N : Net) (v i : Int) : Net := if rmOk N v i then cutN N (rmK N.ends v.toNat i.toNat) else ⟨[], [], []⟩
theorem rmK_back {N : Net} (h : netB N = true) {v i w j : Nat} (hv : v < N.ends.length) (hi : i < (rowOf N.ends v).length) (hw : w < N.ends.length) (hj : j < (rowOf N.ends w).length) (hk : rmK N.ends v i w j = true) :
    rmK N.ends v i (nthE (rowOf N.ends w) j).1.toNat (nthE (rowOf N.ends w) j).2.toNat = true := by
  obtain ⟨p, q, e1, hp, hq, e2⟩ := net_back h hv hi
  obtain ⟨p', q', e3, hp', hq', e4⟩ := net_back h hw hj
  unfold rmK at hk ⊢
  rw [e1] at hk ⊢
  rw [e3]
  simp only [Bool.and_eq_true, Bool.not_eq_true', decide_eq_false_iff_not, Int.toNat_natCast] at hk ⊢
  refine ⟨fun hh => ?_, fun hh => ?_⟩
  · obtain ⟨rfl, rfl⟩ := hh
    rw [e1] at e4
    exact hk.2 ⟨(congrArg Prod.fst e4).symm, (congrArg Prod.snd e4).symm⟩
  · have a1 : p' = p := by have := hh.1; omega
    have a2 : q' = q := by have := hh.2; omega
    subst a1 a2
    rw [e2] at e4
    have b1 := congrArg Prod.fst e4
    have b2 := congrArg Prod.snd e4
    simp only at b1 b2
    exact hk.1 ⟨by omega, by omega⟩
end Go.Proofs.Ytlooinhdehkcdaa
