/- A network in a variable: one row, one end, one input, one identifier stored. -/
import Derived.Test.YtlooinhdehkcdaaRep
import Derived.Test.YtlooinhdehkcdaaPath
namespace Go.Proofs.Ytlooinhdehkcdaa
open Go.RowKit
set_option linter.unusedVariables false
set_option linter.unusedSimpArgs false
theorem NBx.new {w w' : World} {lo b : Nat} {N : Net} (h : NBx w lo b N) (hb : Below w.heap.size w w') : NBx w' lo b N := by
  obtain ⟨a, c, vs, ai, ci, ap, cp, hbx, hE, owni, ownp, hdis⟩ := h
  exact ⟨a, c, vs, ai, ci, ap, cp, hbx.new hb, RowsAt.top (RowsAt.new hE hb), Ow.top (Ow.new owni hb), Ow.top (Ow.new ownp hb), hdis⟩
theorem NBx.lt {w : World} {lo b : Nat} {N : Net} (h : NBx w lo b N) : b < w.heap.size := by
  obtain ⟨a, c, vs, ai, ci, ap, cp, hbx, _⟩ := h
  exact hbx.lt
/-- 'n.Ends[v] = row', a new row -/
theorem NBx.setRow {w0 w : World} {lo b v cb : Nat} {N : Net} {x : Option Addr} {r : List (Int × Int)} (h : NBx w0 lo b N) (hb : Below w0.heap.size w0 w) (hv : v < N.ends.length) (hlo : lo ≤ w0.heap.size)
    (ho : Ow w w0.heap.size w.heap.size 62 2 x r.length cb (cellE r)) :
    ∃ A c u, w.cell? ⟨b, 0, none⟩ = some (.slice (some ⟨A, 0, none⟩) N.ends.length c) ∧ w.cell? ⟨A, v, none⟩ = some u ∧ w.frozen? ⟨A, v, none⟩ = false ∧ lo ≤ A ∧
      NBx (w.setCell ⟨A, v, none⟩ (.slice x r.length cb)) lo b { N with ends := N.ends.set v r } ∧ Fr (fun k => k = A) w (w.setCell ⟨A, v, none⟩ (.slice x r.length cb)) := by
  obtain ⟨a, c, vs, ai, ci, ap, cp, hbx, hE, owni, ownp, hdis⟩ := h
  replace hE := RowsAt.new hE hb
  replace owni := Ow.new owni hb
  replace ownp := Ow.new ownp hb
  replace hbx := hbx.new hb
  obtain ⟨A, hA, hA2, hA1⟩ := Ow.addr hE.1 (by omega)
  subst hA
  obtain ⟨hc, hf⟩ := RowsE.head hE hv
  obtain ⟨vs', hE', hbx', hfr⟩ := setS_mem hbx hE hv hlo hb.size ho
  have hbA : blk (some (⟨A, 0, none⟩ : Addr)) c = some A := by have := hE.1.1; rw [blk, if_neg (by omega)]; rfl
  have hne : ∀ {a2 : Option Addr} {n2 c2 : Nat} {f2 : Nat → Value}, Ow w lo w0.heap.size 3 1 a2 n2 c2 f2 → ∀ k, blk a2 c2 = some k → ¬ k = A := by
    intro a2 n2 c2 f2 h2 k hk hkA
    rcases hE.1.ne_of_type h2 (by decide) with h3 | h3
    · rw [hbA] at h3; cases h3
    · exact h3 (by rw [hbA, hk, hkA])
  have hlen : (N.ends.set v r).length = N.ends.length := List.length_set ..
  refine ⟨A, c, _, hbx.cell 0 _ rfl, hc, hf, hA1, ⟨some ⟨A, 0, none⟩, c, vs', ai, ci, ap, cp, ?_, RowsAt.top hE', Ow.top (Ow.frB owni hfr (hne owni)), Ow.top (Ow.frB ownp hfr (hne ownp)), hdis⟩, hfr⟩
  show Bx _ b _ #[.slice _ (N.ends.set v r).length c, _, _]
  rw [hlen]
  exact hbx'
/-- 'n.Ends[v][i] = End{x, y}' -/
theorem NBx.setEnd {w : World} {lo b v i : Nat} {N : Net} (x y : Int) (h : NBx w lo b N) (hv : v < N.ends.length) (hi : i < (rowOf N.ends v).length) :
    ∃ A c g cg, w.cell? ⟨b, 0, none⟩ = some (.slice (some ⟨A, 0, none⟩) N.ends.length c) ∧ w.cell? ⟨A, v, none⟩ = some (.slice (some ⟨g, 0, none⟩) (rowOf N.ends v).length cg) ∧
      w.cell? ⟨g, i * 2, none⟩ = some (.int .i64 (nthE (rowOf N.ends v) i).1) ∧ w.cell? ⟨g, i * 2 + 1, none⟩ = some (.int .i64 (nthE (rowOf N.ends v) i).2) ∧ (∀ j, w.frozen? ⟨g, j, none⟩ = false) ∧ lo ≤ g ∧
      NBx ((w.setCell ⟨g, i * 2, none⟩ (.int .i64 x)).setCell ⟨g, i * 2 + 1, none⟩ (.int .i64 y)) lo b { N with ends := N.ends.set v ((rowOf N.ends v).set i (x, y)) } ∧
      Fr (fun k => k = g) w ((w.setCell ⟨g, i * 2, none⟩ (.int .i64 x)).setCell ⟨g, i * 2 + 1, none⟩ (.int .i64 y)) := by
  obtain ⟨a, c, vs, ai, ci, ap, cp, hbx, hE, owni, ownp, hdis⟩ := h
  obtain ⟨A, hA, hA2, hA1⟩ := Ow.addr hE.1 (by omega)
  subst hA
  obtain ⟨hc, hf⟩ := RowsE.head hE hv
  obtain ⟨g, cg, hvs, hg1, hg2, k1, k2, hfz, hnb, hno, hE', hfr⟩ := setE_mem x y hE hv hi
  rw [hvs] at hc
  have hlen : (N.ends.set v ((rowOf N.ends v).set i (x, y))).length = N.ends.length := List.length_set ..
  refine ⟨A, c, g, cg, hbx.cell 0 _ rfl, hc, k1, k2, hfz, hg1, ⟨some ⟨A, 0, none⟩, c, vs, ai, ci, ap, cp, ?_, RowsAt.top hE', Ow.top (Ow.frB owni hfr (fun k hk => hno _ _ _ _ _ _ owni k hk)), Ow.top (Ow.frB ownp hfr (fun k hk => hno _ _ _ _ _ _ ownp k hk)), hdis⟩, hfr⟩
  show Bx _ b _ #[.slice _ (N.ends.set v ((rowOf N.ends v).set i (x, y))).length c, _, _]
  rw [hlen]
  exact hbx.fr hfr (hnb _ _ _ hbx (by decide))
/-- a network's list of ints: what a store into it leaves -/
theorem NBx.setInput {w : World} {lo b i : Nat} {N : Net} (z : Int) (h : NBx w lo b N) (hi : i < N.inputs.length) :
    ∃ A c, w.cell? ⟨b, 2, none⟩ = some (.slice (some ⟨A, 0, none⟩) N.inputs.length c) ∧ w.cell? ⟨A, i, none⟩ = some (.int .i64 (nth N.inputs i)) ∧ w.frozen? ⟨A, i, none⟩ = false ∧ lo ≤ A ∧
      NBx (w.setCell ⟨A, i, none⟩ (.int .i64 z)) lo b { N with inputs := N.inputs.set i z } ∧ Fr (fun k => k = A) w (w.setCell ⟨A, i, none⟩ (.int .i64 z)) := by
  obtain ⟨a, c, vs, ai, ci, ap, cp, hbx, hE, owni, ownp, hdis⟩ := h
  obtain ⟨A, rfl, hA1, hA2, hbk, hc, hf⟩ := OwI.at ownp hi
  have hfr : Fr (fun k => k = A) w (w.setCell ⟨A, i, none⟩ (.int .i64 z)) := fr_set w A i _
  have hnA : ¬ b = A := fun h => hbx.ne_row ownp (by decide) (by rw [hbk, h])
  have hlen : (N.inputs.set i z).length = N.inputs.length := List.length_set ..
  refine ⟨A, cp, hbx.cell 2 _ rfl, hc, hf, hA1, ⟨a, c, vs, ai, ci, some ⟨A, 0, none⟩, cp, ?_, RowsAt.top (RowsAt.frB hE hfr (fun k hk hkA => ?_) (fun j hj k hk hkA => ?_)), Ow.top (Ow.frB owni hfr fun k hk hkA => ?_), Ow.top (OwI.put z ownp hi), hdis⟩, hfr⟩
  · show Bx _ b _ #[_, _, .slice _ (N.inputs.set i z).length cp]
    rw [hlen]
    exact hbx.fr hfr hnA
  · rcases hE.1.ne_of_type ownp (by decide) with h3 | h3
    · rw [hk] at h3; cases h3
    · exact h3 (by rw [hbk, hk, hkA])
  · rcases (hE.2.1 j hj).ne_of_type ownp (by decide) with h3 | h3
    · rw [hk] at h3; cases h3
    · exact h3 (by rw [hbk, hk, hkA])
  · rcases hdis with h3 | h3
    · rw [hk] at h3; cases h3
    · exact h3 (by rw [hbk, hk, hkA])
theorem NBx.setId {w : World} {lo b i : Nat} {N : Net} (z : Int) (h : NBx w lo b N) (hi : i < N.ids.length) :
    ∃ A c, w.cell? ⟨b, 1, none⟩ = some (.slice (some ⟨A, 0, none⟩) N.ids.length c) ∧ w.cell? ⟨A, i, none⟩ = some (.int .i64 (nth N.ids i)) ∧ w.frozen? ⟨A, i, none⟩ = false ∧ lo ≤ A ∧
      NBx (w.setCell ⟨A, i, none⟩ (.int .i64 z)) lo b { N with ids := N.ids.set i z } ∧ Fr (fun k => k = A) w (w.setCell ⟨A, i, none⟩ (.int .i64 z)) := by
  obtain ⟨a, c, vs, ai, ci, ap, cp, hbx, hE, owni, ownp, hdis⟩ := h
  obtain ⟨A, rfl, hA1, hA2, hbk, hc, hf⟩ := OwI.at owni hi
  have hfr : Fr (fun k => k = A) w (w.setCell ⟨A, i, none⟩ (.int .i64 z)) := fr_set w A i _
  have hnA : ¬ b = A := fun h => hbx.ne_row owni (by decide) (by rw [hbk, h])
  have hlen : (N.ids.set i z).length = N.ids.length := List.length_set ..
  refine ⟨A, ci, hbx.cell 1 _ rfl, hc, hf, hA1, ⟨a, c, vs, some ⟨A, 0, none⟩, ci, ap, cp, ?_, RowsAt.top (RowsAt.frB hE hfr (fun k hk hkA => ?_) (fun j hj k hk hkA => ?_)), Ow.top (OwI.put z owni hi), Ow.top (Ow.frB ownp hfr fun k hk hkA => ?_), hdis⟩, hfr⟩
  · show Bx _ b _ #[_, .slice _ (N.ids.set i z).length ci, _]
    rw [hlen]
    exact hbx.fr hfr hnA
  · rcases hE.1.ne_of_type owni (by decide) with h3 | h3
    · rw [hk] at h3; cases h3
    · exact h3 (by rw [hbk, hk, hkA])
  · rcases (hE.2.1 j hj).ne_of_type owni (by decide) with h3 | h3
    · rw [hk] at h3; cases h3
    · exact h3 (by rw [hbk, hk, hkA])
  · rcases hdis with h3 | h3
    · rw [hbk] at h3; cases h3
    · exact h3 (by rw [hbk, hk, hkA])
/-- the network handed back: its three slices -/
theorem NBx.at_ {w : World} {lo b : Nat} {N : Net} (h : NBx w lo b N) : ∃ a c ai ci ap cp, Bx w b 29 #[.slice a N.ends.length c, .slice ai N.ids.length ci, .slice ap N.inputs.length cp] ∧ NetAt w lo w.heap.size (.agg #[.slice a N.ends.length c, .slice ai N.ids.length ci, .slice ap N.inputs.length cp]) N := by
  obtain ⟨a, c, vs, ai, ci, ap, cp, hbx, hE, owni, ownp, hdis⟩ := h
  exact ⟨a, c, ai, ci, ap, cp, hbx, a, c, vs, ai, ci, ap, cp, rfl, hE, owni, ownp, hdis⟩
end Go.Proofs.Ytlooinhdehkcdaa
