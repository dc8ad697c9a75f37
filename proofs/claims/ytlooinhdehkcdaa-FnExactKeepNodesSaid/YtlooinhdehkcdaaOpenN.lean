/- Networks that come in as arguments: opened. -/
import Derived.Test.YtlooinhdehkcdaaSz
import Derived.ProofKit
import Derived.OpenShut
import Derived.Deep.SlicePairs
import Derived.Lib.SmallJoins
namespace Go.Proofs.Ytlooinhdehkcdaa
open Go.ChangeShapes Go.WideShapes Go.ChangeAt Go.RowKit Go.Deep Go.Joins
set_option linter.unusedVariables false
section
variable {H : Type} {enc : TypeId × Value → H} {W : World} {held : Bool}
theorem open_intS {fuel : Nat} {V : Value} {x : DataW H × List MemPlace} (h : DataW.trod enc Try.prog W 0 (fun _ => true) held fuel 23 [V] = some x) :
    ∃ (a : Option Addr) (cap : Nat) (ys : List Int), V = .slice a ys.length cap ∧ RdI W W.heap.size a ys ∧ I64s ys ∧ ys.length ≤ maxLen := by
  have key : ∃ a len cap zs, V = .slice a len cap ∧ IsRow .i64 W a len cap zs := by
    rcases open_ints Try.underlying23 Try.underlying3 (by kernel_rfl) h with ⟨hcs, _⟩ | ⟨x, l, c, zs, hcs, _, hl, hm, hz, _, hcell, hwz⟩
    · injection hcs with hcs _
      exact ⟨none, 0, 0, [], hcs, .inl ⟨rfl, rfl, rfl, rfl⟩⟩
    · injection hcs with hcs _
      exact ⟨some x, l, c, zs, hcs, .inr ⟨_, rfl, hl, hm, by simpa using hz, hcell, hwz⟩⟩
  obtain ⟨a, len, cap, zs, hV, hr⟩ := key
  obtain ⟨ys, rfl, e, f, g⟩ := hr.rd
  exact ⟨a, cap, ys, hV, e, f, g⟩
theorem open_endS {fuel : Nat} {V : Value} {x : DataW H × List MemPlace} (h : DataW.trod enc Try.prog W 0 (fun _ => true) held fuel 83 [V] = some x) :
    ∃ q : (Option Addr × Nat) × List (Int × Int), V = .slice q.1.1 q.2.length q.1.2 ∧ RdE W W.heap.size q.1.1 q.2 ∧ q.2.length ≤ maxLen := by
  rcases open_slice_pairs Try.underlying83 Try.underlying96 (by kernel_rfl) rfl rfl (by kernel_rfl) (by kernel_rfl) h with ⟨hcs, _⟩ | ⟨a, len, cap, m, n, V0, V1, D0, D1, P0, P1, hcs, _, hl, hm, hmm, _, hc⟩
  · injection hcs with hcs _
    exact ⟨((none, 0), []), hcs, Rd.empty, by simp [maxLen]⟩
  · injection hcs with hcs _
    have hmm' : m = cap := by simpa using hmm
    subst hmm'
    obtain ⟨f, hf⟩ := choose_lt (α := Int × Int) (p := fun i z => W.cell? (a.add (i * 2)) = some (.int .i64 z.1) ∧ W.cell? (a.add (i * 2 + 1)) = some (.int .i64 z.2)) (fun i hi => by
      obtain ⟨c0, c1, t0, t1⟩ := hc i hi
      obtain ⟨n0, e0, _⟩ := DataW.trod_int Try.underlying3 t0
      obtain ⟨n1, e1, _⟩ := DataW.trod_int Try.underlying3 t1
      injection e0 with e0 _
      injection e1 with e1 _
      exact ⟨(n0, n1), by rw [c0, e0], by rw [c1, e1]⟩)
    have hlen : ((List.range len).map f).length = len := by simp
    refine ⟨((some a, m), (List.range len).map f), by rw [hlen]; exact hcs, fun hn => ?_, by rw [hlen]; omega⟩
    rw [hlen] at hn
    obtain ⟨b, off, spot⟩ := a
    have h0 := (hf 0 (by omega)).1
    have hspot : spot = none := by simpa [Addr.add] using World.cell?_spot h0
    subst hspot
    refine ⟨b, off, rfl, by simpa [Addr.add] using World.block_lt_of_cell? W _ h0, fun j hj => ?_⟩
    rw [hlen] at hj
    have hnE : ∀ i, i < len → nthE ((List.range len).map f) i = f i := fun i hi => by rw [nthE_eq_getElem _ _ (by simpa using hi)]; simp
    obtain ⟨i, rfl | rfl⟩ : ∃ i, j = i * 2 ∨ j = i * 2 + 1 := ⟨j / 2, by omega⟩
    · have := (hf i (by omega)).1
      rw [Addr.add_lit] at this
      show W.cell? ⟨b, off + i * 2, none⟩ = _
      rw [this, cellE_fst, hnE i (by omega)]
    · have := (hf i (by omega)).2
      rw [Addr.add_lit] at this
      show W.cell? ⟨b, off + (i * 2 + 1), none⟩ = _
      rw [this, cellE_snd, hnE i (by omega)]
theorem open_endSS {fuel : Nat} {V : Value} {x : DataW H × List MemPlace} (h : DataW.trod enc Try.prog W 0 (fun _ => true) held fuel 22 [V] = some x) :
    ∃ (a : Option Addr) (cap : Nat) (rows : List (List (Int × Int))) (vs : Nat → Option Addr × Nat), V = .slice a rows.length cap ∧ RdEE W W.heap.size a rows vs ∧ rows.length ≤ maxLen ∧ ∀ j, j < rows.length → (rowOf rows j).length ≤ maxLen := by
  rcases open_slice1 Try.underlying22 (by kernel_rfl) h with ⟨hcs, _⟩ | ⟨a, len, cap, m, n, V1, D, Pl, hcs, _, hl, hm, hmm, _, hc⟩
  · injection hcs with hcs _
    exact ⟨none, 0, [], fun _ => (none, 0), hcs, ⟨Rd.empty, fun j hj => absurd hj (by simp)⟩, by simp [maxLen], fun j hj => absurd hj (by simp)⟩
  · injection hcs with hcs _
    have hmm' : m = cap := by simpa using hmm
    subst hmm'
    obtain ⟨f, hf⟩ := choose_lt (α := (Option Addr × Nat) × List (Int × Int)) (p := fun i q => W.cell? (a.add i) = some (.slice q.1.1 q.2.length q.1.2) ∧ RdE W W.heap.size q.1.1 q.2 ∧ q.2.length ≤ maxLen) (fun i hi => by
      obtain ⟨c0, t0⟩ := hc i hi
      obtain ⟨q, e, r, l⟩ := open_endS t0
      exact ⟨q, by rw [c0, e], r, l⟩)
    have hlen : ((List.range len).map fun i => (f i).2).length = len := by simp
    have hrow : ∀ i, i < len → rowOf ((List.range len).map fun i => (f i).2) i = (f i).2 := fun i hi => by
      unfold rowOf; simp [List.getD, hi]
    refine ⟨some a, m, (List.range len).map fun i => (f i).2, fun i => (f i).1, by rw [hlen]; exact hcs, ⟨fun hn => ?_, fun j hj => ?_⟩, by rw [hlen]; omega, fun j hj => ?_⟩
    · rw [hlen] at hn
      obtain ⟨b, off, spot⟩ := a
      have h0 := (hf 0 (by omega)).1
      have hspot : spot = none := by simpa [Addr.add] using World.cell?_spot h0
      subst hspot
      refine ⟨b, off, rfl, by simpa [Addr.add] using World.block_lt_of_cell? W _ h0, fun j hj => ?_⟩
      rw [hlen] at hj
      have := (hf j (by omega)).1
      rw [Addr.add_lit] at this
      rw [this]
      show _ = some (Value.slice (f j).1.1 (rowOf ((List.range len).map fun i => (f i).2) j).length (f j).1.2)
      rw [hrow j hj]
    · rw [hlen] at hj
      rw [hrow j hj]
      exact (hf j (by omega)).2.1
    · rw [hlen] at hj
      rw [hrow j hj]
      exact (hf j (by omega)).2.2
set_option maxRecDepth 100000 in
theorem open_net {base : Nat} {v : Value} {d : DataW H} {p : List MemPlace} (hv : Value.okWide Try.prog W .any base 25 v) (h : DataW.Trod enc Try.prog W 0 (fun _ => true) held 25 v d p) :
    ∃ N, NetRd W W.heap.size v N ∧ NetLens N := by
  obtain ⟨v0, v1, v2, y0, y1, y2, n, rfl, _, _, t0, t1, t2⟩ := open_agg3 Try.underlying25 (by kernel_rfl) (by kernel_rfl) hv h
  obtain ⟨a, c, rows, vs, rfl, r0, l0, m0⟩ := open_endSS t0
  obtain ⟨a1, c1, ys1, rfl, r1, _, l1⟩ := open_intS t1
  obtain ⟨a2, c2, ys2, rfl, r2, _, l2⟩ := open_intS t2
  unfold maxLen at l0 m0 l1 l2
  exact ⟨⟨rows, ys1, ys2⟩, ⟨a, c, vs, a1, c1, a2, c2, rfl, r0, r1, r2⟩, by show rows.length ≤ _; omega, fun j hj => Nat.le_trans (m0 j hj) (by omega), by show ys1.length ≤ _; omega, by show ys2.length ≤ _; omega⟩
end
end Go.Proofs.Ytlooinhdehkcdaa
