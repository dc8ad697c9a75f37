/- Results in memory of their own: lists of ints, lists of lists, and the laws' own functions on them in one form. -/
import Derived.Test.YtmjmgggfmccjmaaDoorNet
import Derived.Test.YtmjmgggfmccjmaaDoorNest
namespace Go.Proofs.YtmjmgggfmccjmaaDoor
open Go.RowKit
set_option linter.unusedVariables false
set_option linter.unusedSimpArgs false
section
variable {w w' : World} {lo hi lo' hi' : Nat} {v v' : Value} {C : Nat → Prop}
def OwnI (w : World) (lo hi : Nat) (v : Value) (R : List Int) : Prop := ∃ a cap, v = .slice a R.length cap ∧ OwI w lo hi a cap R
theorem OwnI.new {R : List Int} (h : OwnI w lo hi v R) (hb : Below w.heap.size w w') : OwnI w' lo hi v R := by
  obtain ⟨a, cap, h1, h2⟩ := h
  exact ⟨a, cap, h1, Ow.new h2 hb⟩
theorem OwnI.fr {R : List Int} (h : OwnI w lo hi v R) (hf : Fr C w w') (hc : ∀ k, lo ≤ k → k < hi → ¬ C k) : OwnI w' lo hi v R := by
  obtain ⟨a, cap, h1, h2⟩ := h
  exact ⟨a, cap, h1, Ow.fr h2 hf hc⟩
def SmI (R : List Int) : Prop := R.length ≤ 1048576
def totI (R : List Int) : Nat := R.length
def mkI (R : List Int) : List Int := from_ 1 R.length
def RetI (R : List Int) (ok : Bool) (w : World) (e : Ending) (w' : World) : Prop := ∃ v, e = .returned (.tuple #[v, .bool ok]) ∧ OwnI w' w.heap.size w'.heap.size v R ∧ Below w.heap.size w w'
theorem PostI.ret {R : List Int} {ok : Bool} {e : Ending} (h : PostI R ok w e w') : RetI R ok w e w' := by
  obtain ⟨a, cap, h1, h2, h3⟩ := h
  exact ⟨_, h1, ⟨a, cap, rfl, h2⟩, h3⟩
theorem eqI_any {R : List Int} (h : OwnI w lo hi v R) (h' : OwnI w lo' hi' v' R) (hs : SmI R) : Calls Tryd.prog 40 #[v, v'] w fun e w' => e = .returned (.bool true) ∧ Below w.heap.size w w' := by
  obtain ⟨a, cap, rfl, h2⟩ := h
  obtain ⟨a', cap', rfl, h2'⟩ := h'
  unfold SmI at hs
  refine (eqIntS_any _ _ _ _ R R _ _ _ h2.rd h2'.rd (by omega) (by omega)).mono ?_
  rintro e w1 ⟨rfl, m, h⟩
  exact ⟨by rw [decide_eq_true rfl], below_of_drewN h⟩
theorem markI_any {R : List Int} (h : OwnI w lo hi v R) (hs : SmI R) : Calls Tryd.prog 46 #[v, .int .i64 1] w fun e w' => e = .returned (.int .i64 (1 + totI R : Nat)) ∧ OwnI w' lo hi v (mkI R) ∧ Fr (fun k => lo ≤ k ∧ k < hi) w w' := by
  obtain ⟨a, cap, rfl, h2⟩ := h
  unfold SmI at hs
  refine (markIntS_any a cap R 1 _ _ _ h2 (by omega)).mono ?_
  rintro e w1 ⟨rfl, own, fr⟩
  exact ⟨rfl, ⟨a, cap, by rw [mkI, from_length], own⟩, fr.mono fun k _ hk => Ow.blk_in h2 hk⟩
theorem heldI_any {R : List Int} (h : OwnI w lo hi v (mkI R)) (hs : SmI R) : Calls Tryd.prog 47 #[v, .int .i64 1] w fun e w' => e = .returned (.int .i64 (1 + totI R : Nat)) ∧ Below w.heap.size w w' := by
  obtain ⟨a, cap, rfl, h2⟩ := h
  unfold SmI at hs
  rw [mkI, from_length]
  refine (heldIntS_any a cap R.length 1 _ _ h2.rd (by omega)).mono ?_
  rintro e w1 ⟨rfl, m, h⟩
  exact ⟨rfl, below_of_drewN h⟩
def OwnSS (w : World) (lo hi : Nat) (v : Value) (R : List (List Int)) : Prop := ∃ a cap vs, v = .slice a R.length cap ∧ RowsI w lo hi a cap R vs
theorem OwnSS.new {R : List (List Int)} (h : OwnSS w lo hi v R) (hb : Below w.heap.size w w') : OwnSS w' lo hi v R := by
  obtain ⟨a, cap, vs, h1, h2⟩ := h
  exact ⟨a, cap, vs, h1, RowsAt.new h2 hb⟩
theorem OwnSS.fr {R : List (List Int)} (h : OwnSS w lo hi v R) (hf : Fr C w w') (hc : ∀ k, lo ≤ k → k < hi → ¬ C k) : OwnSS w' lo hi v R := by
  obtain ⟨a, cap, vs, h1, h2⟩ := h
  exact ⟨a, cap, vs, h1, RowsAt.fr h2 hf hc⟩
def SmSS (R : List (List Int)) : Prop := R.length ≤ 1048576 ∧ (∀ j, j < R.length → (rowOf R j).length ≤ 1048576) ∧ Total R ≤ 4000000000
def totSS (R : List (List Int)) : Nat := Total R
def mkSS (R : List (List Int)) : List (List Int) := marks from_ 1 1 R
def RetSS (R : List (List Int)) (ok : Bool) (w : World) (e : Ending) (w' : World) : Prop := ∃ v, e = .returned (.tuple #[v, .bool ok]) ∧ OwnSS w' w.heap.size w'.heap.size v R ∧ Below w.heap.size w w'
theorem PostSS.ret {R : List (List Int)} {ok : Bool} {e : Ending} (h : PostSS R ok w e w') : RetSS R ok w e w' := by
  obtain ⟨a, cap, vs, h1, h2, h3⟩ := h
  exact ⟨_, h1, ⟨a, cap, vs, rfl, h2⟩, h3⟩
theorem eqSS_any {R : List (List Int)} (h : OwnSS w lo hi v R) (h' : OwnSS w lo' hi' v' R) (hs : SmSS R) : Calls Tryd.prog 16 #[v, v'] w fun e w' => e = .returned (.bool true) ∧ Below w.heap.size w w' := by
  obtain ⟨a, cap, vs, rfl, h2⟩ := h
  obtain ⟨a', cap', vs', rfl, h2'⟩ := h'
  refine (eqIntSS_any _ _ _ _ R R _ _ _ _ _ _ _ h2 h2' hs.1 hs.1 hs.2.1 hs.2.1 rfl).mono ?_
  rintro e w1 ⟨rfl, m, h⟩
  exact ⟨rfl, below_of_drewN h⟩
theorem markSS_any {R : List (List Int)} (h : OwnSS w lo hi v R) (hs : SmSS R) : Calls Tryd.prog 17 #[v, .int .i64 1] w fun e w' => e = .returned (.int .i64 (1 + totSS R : Nat)) ∧ OwnSS w' lo hi v (mkSS R) ∧ Fr (fun k => lo ≤ k ∧ k < hi) w w' := by
  obtain ⟨a, cap, vs, rfl, h2⟩ := h
  have h3 := hs.2.2
  refine (markIntSS_any a cap R vs 1 _ _ _ h2 hs.1 (by omega)).mono ?_
  rintro e w1 ⟨rfl, own, fr⟩
  exact ⟨rfl, ⟨a, cap, vs, by rw [mkSS, marks, mkTo_length], own⟩, fr⟩
theorem heldSS_any {R : List (List Int)} (h : OwnSS w lo hi v (mkSS R)) (hs : SmSS R) : Calls Tryd.prog 18 #[v, .int .i64 1] w fun e w' => e = .returned (.int .i64 (1 + totSS R : Nat)) ∧ Below w.heap.size w w' := by
  obtain ⟨a, cap, vs, rfl, h2⟩ := h
  have h3 := hs.2.2
  rw [mkSS, marks, mkTo_length]
  refine (heldIntSS_any a cap R vs 1 _ _ _ h2 hs.1 (by omega)).mono ?_
  rintro e w1 ⟨rfl, m, h⟩
  exact ⟨rfl, below_of_drewN h⟩
end
end Go.Proofs.YtmjmgggfmccjmaaDoor
