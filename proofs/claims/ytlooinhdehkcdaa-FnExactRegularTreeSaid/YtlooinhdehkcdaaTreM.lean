/- RegularTree: words for the walks. -/
import Derived.Test.YtlooinhdehkcdaaTreP
import Derived.Test.YtlooinhdehkcdaaNBxA
import Derived.Test.YtlooinhdehkcdaaMade
import Derived.Test.YtlooinhdehkcdaaStub
namespace Go.Proofs.Ytlooinhdehkcdaa
open Go.RowKit
set_option linter.unusedVariables false
set_option linter.unusedSimpArgs false
/-- a network in a variable whose list of inputs lies in no block of S -/
def NBo (w : World) (lo b : Nat) (N : Net) (S : Nat → Prop) : Prop :=
  ∃ a c vs ai ci ap cp, Bx w b 29 #[.slice a N.ends.length c, .slice ai N.ids.length ci, .slice ap N.inputs.length cp] ∧ RowsE w lo w.heap.size a c N.ends vs ∧ OwI w lo w.heap.size ai ci N.ids ∧ OwI w lo w.heap.size ap cp N.inputs ∧ (blk ai ci = none ∨ blk ai ci ≠ blk ap cp) ∧ ∀ x, blk ap cp = some x → ¬ S x
section
variable {w w' : World} {lo b : Nat} {N : Net} {S S' : Nat → Prop}
theorem NBo.nbx (h : NBo w lo b N S) : NBx w lo b N := by
  obtain ⟨a, c, vs, ai, ci, ap, cp, h1, h2, h3, h4, h5, _⟩ := h
  exact ⟨a, c, vs, ai, ci, ap, cp, h1, h2, h3, h4, h5⟩
theorem NBo.of {ap : Option Addr} {n cp : Nat} (h : NBx w lo b N) (hc : w.cell? ⟨b, 2, none⟩ = some (.slice ap n cp)) (hS : ∀ x, blk ap cp = some x → ¬ S x) : NBo w lo b N S := by
  obtain ⟨a, c, vs, ai, ci, ap2, cp2, h1, h2, h3, h4, h5⟩ := h
  have h9 := (h1.cell 2 _ rfl).symm.trans hc
  simp only [Option.some.injEq, Value.slice.injEq] at h9
  obtain ⟨rfl, _, rfl⟩ := h9
  exact ⟨a, c, vs, ai, ci, _, _, h1, h2, h3, h4, h5, hS⟩
theorem NBo.new (h : NBo w lo b N S) (hb : Below w.heap.size w w') : NBo w' lo b N S := by
  obtain ⟨a, c, vs, ai, ci, ap, cp, hbx, hE, owni, ownp, hdis, hS⟩ := h
  exact ⟨a, c, vs, ai, ci, ap, cp, hbx.new hb, RowsAt.top (RowsAt.new hE hb), Ow.top (Ow.new owni hb), Ow.top (Ow.new ownp hb), hdis, hS⟩
theorem NBo.weak (h : NBo w lo b N S) (hs : ∀ x, S' x → S x) : NBo w lo b N S' := by
  obtain ⟨a, c, vs, ai, ci, ap, cp, hbx, hE, owni, ownp, hdis, hS⟩ := h
  exact ⟨a, c, vs, ai, ci, ap, cp, hbx, hE, owni, ownp, hdis, fun x hx hk => hS x hx (hs x hk)⟩
end
/-- the tree, a level, the next level -/
def TS (w : World) (lo b : Nat) (es : List Nat) (al : Option Addr) (cl : Nat) (lv : List Int) (an : Option Addr) (cn : Nat) (nx : List Int) : Prop :=
  NBo w lo b (treeN es) (fun x => blk al cl = some x ∨ blk an cn = some x) ∧ OwI w lo w.heap.size al cl lv ∧ OwI w lo w.heap.size an cn nx ∧ (blk an cn = none ∨ blk an cn ≠ blk al cl)
theorem TS.new {w w' : World} {lo b : Nat} {es : List Nat} {al an : Option Addr} {cl cn : Nat} {lv nx : List Int} (h : TS w lo b es al cl lv an cn nx) (hb : Below w.heap.size w w') : TS w' lo b es al cl lv an cn nx :=
  ⟨h.1.new hb, Ow.top (Ow.new h.2.1 hb), Ow.top (Ow.new h.2.2.1 hb), h.2.2.2⟩
theorem TS.next {w : World} {lo b : Nat} {es : List Nat} {al an : Option Addr} {cl cn : Nat} {lv nx : List Int} (h : TS w lo b es al cl lv an cn nx) : TS w lo b es an cn nx none 0 [] :=
  ⟨h.1.weak (fun x hx => hx.elim .inr (fun h => by cases h)), h.2.2.1, Ow.nil _ _ _ _ _ _ _, .inl rfl⟩
def lvl (s L : Nat) : List Int := (List.range L).map fun i => ((s + i : Nat) : Int)
theorem lvl_length (s L : Nat) : (lvl s L).length = L := by simp [lvl]
theorem lvl_nth (s L i : Nat) (h : i < L) : nth (lvl s L) i = ((s + i : Nat) : Int) := by
  rw [nth_eq_getElem _ _ (by rw [lvl_length]; exact h)]; simp [lvl]
theorem lvl_snoc (s L : Nat) : lvl s L ++ [((s + L : Nat) : Int)] = lvl s (L + 1) := by unfold lvl; rw [List.range_succ, List.map_append]; rfl
/-- what the outer loop's head of spec decides -/
def hdS (d p : Int) (f : Nat) (es : List Nat) (s L k : Nat) : Option (List Nat) := if (k : Int) < p ∧ 0 < L then runS d p f es s L 0 k else some es
theorem runS_hd {d p : Int} {f : Nat} {es : List Nat} {s L k : Nat} : runS d p (f + 1) es s L L k = hdS d p f es (s + L) (es.length + 1 - (s + L)) (k + 1) := by
  rw [runS, if_neg (Nat.lt_irrefl _), hdS]
  by_cases h1 : ((k + 1 : Nat) : Int) < p
  · by_cases h2 : s + L < es.length + 1
    · rw [if_pos ⟨h1, h2⟩, if_pos ⟨h1, by omega⟩]
    · rw [if_neg (fun h => h2 h.2), if_neg (fun h => h2 (by omega))]
  · rw [if_neg (fun h => h1 h.1), if_neg (fun h => h1 h.1)]
theorem rtE_hd {d p : Int} (h : rtB d p = true) : rtE d p = hdS d p 300 [] 0 1 0 := by
  unfold hdS
  by_cases hp : 0 < p
  · rw [rtE_s h hp, if_pos ⟨by simpa using hp, by omega⟩]
  · rw [rtE_0 h hp, if_neg (fun h2 => hp (by simpa using h2.1))]
def slen : Value → Nat
  | .slice _ n _ => n
  | _ => 0
theorem rtB_cases {d p : Int} (h : rtB d p = false) : d < 0 ∨ (¬ d < 0 ∧ p < 0) ∨ (¬ d < 0 ∧ ¬ p < 0 ∧ 0 < p ∧ 6 < d) := by
  unfold rtB at h
  by_cases h1 : d < 0
  · exact .inl h1
  · by_cases h2 : p < 0
    · exact .inr (.inl ⟨h1, h2⟩)
    · refine .inr (.inr ⟨h1, h2, ?_⟩)
      rw [decide_eq_true (show 0 ≤ d by omega), decide_eq_true (show 0 ≤ p by omega)] at h
      simp at h
      exact ⟨h.2, h.1⟩
theorem rtB_true {d p : Int} (h : rtB d p = true) : 0 ≤ d ∧ 0 ≤ p ∧ (d ≤ 6 ∨ p ≤ 0) := by
  unfold rtB at h
  simp only [Bool.and_eq_true, Bool.or_eq_true, decide_eq_true_eq] at h
  exact ⟨h.1.1, h.1.2, h.2⟩
end Go.Proofs.Ytlooinhdehkcdaa
