/- A network in a variable: a row, an input more; other identifiers. -/
import Derived.Test.YtlooinhdehkcdaaNBx
namespace Go.Proofs.Ytlooinhdehkcdaa
open Go.RowKit
set_option linter.unusedVariables false
set_option linter.unusedSimpArgs false
theorem Fr.cellB {C : Nat → Prop} {w w' : World} (h : Fr C w w') {p : Addr} (hp : p.block < w.heap.size) (hc : ¬ C p.block) : w'.cell? p = w.cell? p := by
  unfold World.cell?; rw [h.block _ hp hc]
/-- 'n.Ends = append(n.Ends, row)' -/
theorem NBx.addRow {w w' : World} {lo hi b c ci cp g' cap' cb : Nat} {N : Net} {a ai ap x : Option Addr} {vs : Nat → Option Addr × Nat} {r : List (Int × Int)}
    (hbx : Bx w b 29 #[.slice a N.ends.length c, .slice ai N.ids.length ci, .slice ap N.inputs.length cp]) (hE : RowsE w lo hi a c N.ends vs) (owni : OwI w lo hi ai ci N.ids) (ownp : OwI w lo hi ap cp N.inputs) (hdis : blk ai ci = none ∨ blk ai ci ≠ blk ap cp)
    (hlo : lo ≤ hi) (hhi : hi ≤ w.heap.size) (hb : lo ≤ b) (hr : Ow w hi w.heap.size 62 2 x r.length cb (cellE r)) (hg : w.grownBy w' (blk a c))
    (ho : Ow w' lo w'.heap.size 60 1 (some ⟨g', 0, none⟩) (N.ends.length + 1) cap' (app (fun j => .slice (vs j).1 (rowOf N.ends j).length (vs j).2) (N.ends.length * 1) [.slice x r.length cb])) :
    Bx w' b 29 #[.slice a N.ends.length c, .slice ai N.ids.length ci, .slice ap N.inputs.length cp] ∧
    NBx (w'.setCell ⟨b, 0, none⟩ (.slice (some ⟨g', 0, none⟩) (N.ends.length + 1) cap')) lo b { N with ends := N.ends ++ [r] } ∧
    Fr (fun k => some k = blk a c ∨ k = b) w (w'.setCell ⟨b, 0, none⟩ (.slice (some ⟨g', 0, none⟩) (N.ends.length + 1) cap')) := by
  have hf : Fr (fun k => some k = blk a c) w w' := Fr.of_grown hg
  have hbx' := hbx.fr hf (fun h => hbx.ne_row hE.1 (by decide) h.symm)
  have hE' : RowsE w' lo w'.heap.size (some ⟨g', 0, none⟩) cap' (N.ends ++ [r]) (setv vs N.ends.length (x, cb)) := RowsAt.snoc hE (by decide) hr hlo hhi hg ho
  have hne : ∀ {a2 : Option Addr} {n2 c2 : Nat} {f2 : Nat → Value}, Ow w lo hi 3 1 a2 n2 c2 f2 → ∀ k, blk a2 c2 = some k → ¬ some k = blk a c := by
    intro a2 n2 c2 f2 h2 k hk hkA
    rcases hE.1.ne_of_type h2 (by decide) with h3 | h3
    · rw [h3] at hkA; cases hkA
    · exact h3 (by rw [hk, hkA])
  have owni' := Ow.top (Ow.frB owni hf (hne owni))
  have ownp' := Ow.top (Ow.frB ownp hf (hne ownp))
  have hs : Fr (fun k => k = b) w' (w'.setCell ⟨b, 0, none⟩ (.slice (some ⟨g', 0, none⟩) (N.ends.length + 1) cap')) := fr_set w' b 0 _
  refine ⟨hbx', ⟨some ⟨g', 0, none⟩, cap', _, ai, ci, ap, cp, ?_, RowsAt.top (RowsAt.frB hE' hs (fun k hk hc => hbx'.ne_row hE'.1 (by decide) (hc ▸ hk)) (fun j hj k hk hc => hbx'.ne_row (hE'.2.1 j hj) (by decide) (hc ▸ hk))), Ow.top (Ow.frB owni' hs (fun k hk hc => hbx'.ne_row owni' (by decide) (hc ▸ hk))), Ow.top (Ow.frB ownp' hs (fun k hk hc => hbx'.ne_row ownp' (by decide) (hc ▸ hk))), hdis⟩,
    (hf.mono fun k _ hk => .inl hk).trans (hs.mono fun k _ hk => .inr hk)⟩
  show Bx _ b _ #[.slice _ (N.ends ++ [r]).length cap', _, _]
  rw [List.length_append]
  exact hbx'.set 0 _
/-- 'n.Inputs = append(n.Inputs, z)' -/
theorem NBx.addInput {w w' : World} {lo hi b c ci cp g' cap' : Nat} {N : Net} {a ai ap : Option Addr} {vs : Nat → Option Addr × Nat} {z : Int}
    (hbx : Bx w b 29 #[.slice a N.ends.length c, .slice ai N.ids.length ci, .slice ap N.inputs.length cp]) (hE : RowsE w lo hi a c N.ends vs) (owni : OwI w lo hi ai ci N.ids) (ownp : OwI w lo hi ap cp N.inputs) (hdis : blk ai ci = none ∨ blk ai ci ≠ blk ap cp)
    (hhi : hi ≤ w.heap.size) (hb : lo ≤ b) (hg : w.grownBy w' (blk ap cp)) (hnew : blk ap cp = some g' ∨ g' = w.heap.size)
    (ho : Ow w' lo w'.heap.size 3 1 (some ⟨g', 0, none⟩) (N.inputs.length + 1) cap' (app (fun j => .int .i64 (nth N.inputs j)) (N.inputs.length * 1) [.int .i64 z])) :
    Bx w' b 29 #[.slice a N.ends.length c, .slice ai N.ids.length ci, .slice ap N.inputs.length cp] ∧
    NBx (w'.setCell ⟨b, 2, none⟩ (.slice (some ⟨g', 0, none⟩) (N.inputs.length + 1) cap')) lo b { N with inputs := N.inputs ++ [z] } ∧
    Fr (fun k => some k = blk ap cp ∨ k = b) w (w'.setCell ⟨b, 2, none⟩ (.slice (some ⟨g', 0, none⟩) (N.inputs.length + 1) cap')) := by
  have hf : Fr (fun k => some k = blk ap cp) w w' := Fr.of_grown hg
  have hbx' := hbx.fr hf (fun h => hbx.ne_row ownp (by decide) h.symm)
  have hp' : OwI w' lo w'.heap.size (some ⟨g', 0, none⟩) cap' (N.inputs ++ [z]) := OwI.snoc ho
  have hne : ∀ {t2 : TypeId} {s2 : Nat} {a2 : Option Addr} {n2 c2 : Nat} {f2 : Nat → Value}, t2 ≠ 3 → Ow w lo hi t2 s2 a2 n2 c2 f2 → ∀ k, blk a2 c2 = some k → ¬ some k = blk ap cp := by
    intro t2 s2 a2 n2 c2 f2 ht h2 k hk hkA
    rcases h2.ne_of_type ownp ht with h3 | h3
    · rw [hk] at h3; cases h3
    · exact h3 (by rw [hk, hkA])
  have hE' : RowsE w' lo w'.heap.size a c N.ends vs := RowsAt.top (RowsAt.frB hE hf (hne (by decide) hE.1) (fun j hj => hne (by decide) (hE.2.1 j hj)))
  have owni' := Ow.top (Ow.frB owni hf (fun k hk hkA => by
    rcases hdis with h3 | h3
    · rw [hk] at h3; cases h3
    · exact h3 (by rw [hk, hkA])))
  have hdis' : blk ai ci = none ∨ blk ai ci ≠ blk (some (⟨g', 0, none⟩ : Addr)) cap' := by
    cases hk : blk ai ci with
    | none => exact .inl rfl
    | some k =>
      refine .inr fun he => ?_
      obtain ⟨_, y, hy, hyk⟩ := blk_some he.symm
      injection hy with hy
      subst hy
      simp only at hyk
      subst hyk
      rcases hnew with hnew | hnew
      · rcases hdis with h3 | h3
        · rw [hk] at h3; cases h3
        · exact h3 (hk.trans hnew.symm)
      · have := (Ow.blk_in owni hk).2
        omega
  have hs : Fr (fun k => k = b) w' (w'.setCell ⟨b, 2, none⟩ (.slice (some ⟨g', 0, none⟩) (N.inputs.length + 1) cap')) := fr_set w' b 2 _
  refine ⟨hbx', ⟨a, c, vs, ai, ci, some ⟨g', 0, none⟩, cap', ?_, RowsAt.top (RowsAt.frB hE' hs (fun k hk hc => hbx'.ne_row hE'.1 (by decide) (hc ▸ hk)) (fun j hj k hk hc => hbx'.ne_row (hE'.2.1 j hj) (by decide) (hc ▸ hk))), Ow.top (Ow.frB owni' hs (fun k hk hc => hbx'.ne_row owni' (by decide) (hc ▸ hk))), Ow.top (Ow.frB hp' hs (fun k hk hc => hbx'.ne_row hp' (by decide) (hc ▸ hk))), hdis'⟩,
    (hf.mono fun k _ hk => .inl hk).trans (hs.mono fun k _ hk => .inr hk)⟩
  show Bx _ b _ #[_, _, .slice _ (N.inputs ++ [z]).length cap']
  rw [List.length_append]
  exact hbx'.set 2 _
/-- 'n.Ids = nil' -/
theorem NBx.noIds {w : World} {lo b : Nat} {N : Net} (h : NBx w lo b N) (hb : lo ≤ b) : NBx (w.setCell ⟨b, 1, none⟩ (.slice none 0 0)) lo b { N with ids := [] } ∧ Fr (fun k => lo ≤ k) w (w.setCell ⟨b, 1, none⟩ (.slice none 0 0)) := by
  obtain ⟨a, c, vs, ai, ci, ap, cp, hbx, hE, owni, ownp, hdis⟩ := h
  have hs : Fr (fun k => k = b) w (w.setCell ⟨b, 1, none⟩ (.slice none 0 0)) := fr_set w b 1 _
  exact ⟨⟨a, c, vs, none, 0, ap, cp, hbx.set 1 _, RowsAt.top (RowsAt.frB hE hs (fun k hk hc => hbx.ne_row hE.1 (by decide) (hc ▸ hk)) (fun j hj k hk hc => hbx.ne_row (hE.2.1 j hj) (by decide) (hc ▸ hk))), Ow.nil _ _ _ _ _ _ _, Ow.top (Ow.frB ownp hs (fun k hk hc => hbx.ne_row ownp (by decide) (hc ▸ hk))), .inl rfl⟩,
    hs.mono fun k _ hk => by rw [hk]; exact hb⟩
/-- 'n.Ends[v][i] = End{x, y}' at a network that is older than the world at hand -/
theorem NBx.setEndT {w0 w : World} {lo b v i : Nat} {N : Net} (x y : Int) (h : NBx w0 lo b N) (hb : Below w0.heap.size w0 w) (hv : v < N.ends.length) (hi : i < (rowOf N.ends v).length) :
    ∃ A c g cg, w.cell? ⟨b, 0, none⟩ = some (.slice (some ⟨A, 0, none⟩) N.ends.length c) ∧ w.cell? ⟨A, v, none⟩ = some (.slice (some ⟨g, 0, none⟩) (rowOf N.ends v).length cg) ∧
      w.cell? ⟨g, i * 2, none⟩ = some (.int .i64 (nthE (rowOf N.ends v) i).1) ∧ w.cell? ⟨g, i * 2 + 1, none⟩ = some (.int .i64 (nthE (rowOf N.ends v) i).2) ∧ (∀ j, w.frozen? ⟨g, j, none⟩ = false) ∧ lo ≤ g ∧
      NBx ((w.setCell ⟨g, i * 2, none⟩ (.int .i64 x)).setCell ⟨g, i * 2 + 1, none⟩ (.int .i64 y)) lo b { N with ends := N.ends.set v ((rowOf N.ends v).set i (x, y)) } ∧
      Fr (fun k => k = g) w ((w.setCell ⟨g, i * 2, none⟩ (.int .i64 x)).setCell ⟨g, i * 2 + 1, none⟩ (.int .i64 y)) ∧ A ≠ g ∧ b ≠ g ∧ A < w0.heap.size ∧ g < w0.heap.size ∧ (∀ (t2 s2 lo2 hi2 n2 c2 : Nat) (a2 : Option Addr) (f2 : Nat → Value), Ow w lo2 hi2 t2 s2 a2 n2 c2 f2 → t2 ≠ 62 → ∀ k, blk a2 c2 = some k → k ≠ g) ∧ (∀ (b2 : Nat) (t2 : TypeId) (cs2 : Array Value), Bx w b2 t2 cs2 → t2 ≠ 62 → b2 ≠ g) := by
  obtain ⟨a, c, vs, ai, ci, ap, cp, hbx, hE, owni, ownp, hdis⟩ := h
  replace hE := RowsAt.new hE hb
  replace owni := Ow.new owni hb
  replace ownp := Ow.new ownp hb
  replace hbx := hbx.new hb
  obtain ⟨A, hA, hA2, hA1⟩ := Ow.addr hE.1 (by omega)
  subst hA
  obtain ⟨hc, hf⟩ := RowsE.head hE hv
  obtain ⟨g, cg, hvs, hg1, hg2, k1, k2, hfz, hnb, hno, hE', hfr⟩ := setE_mem x y hE hv hi
  have hbA : blk (some (⟨A, 0, none⟩ : Addr)) c = some A := by have := hE.1.1; rw [blk, if_neg (by omega)]; rfl
  have hbg : blk (vs v).1 (vs v).2 = some g := by have := (hE.2.1 v hv).1; rw [hvs] at this ⊢; rw [blk, if_neg (by simp at this ⊢; omega)]; rfl
  have hAg : A ≠ g := fun hAg => by
    rcases hE.1.ne_of_type (hE.2.1 v hv) (by decide) with h3 | h3
    · rw [hbA] at h3; cases h3
    · exact h3 (by rw [hbA, hbg, hAg])
  rw [hvs] at hc
  have hlen : (N.ends.set v ((rowOf N.ends v).set i (x, y))).length = N.ends.length := List.length_set ..
  refine ⟨A, c, g, cg, hbx.cell 0 _ rfl, hc, k1, k2, hfz, hg1, ⟨some ⟨A, 0, none⟩, c, vs, ai, ci, ap, cp, ?_, RowsAt.top hE', Ow.top (Ow.frB owni hfr (fun k hk => hno _ _ _ _ _ _ owni k hk)), Ow.top (Ow.frB ownp hfr (fun k hk => hno _ _ _ _ _ _ ownp k hk)), hdis⟩, hfr, hAg, hnb _ _ _ hbx (by decide), hA2, hg2, fun t2 s2 lo2 hi2 n2 c2 a2 f2 h2 hne k hk hkg => by
    rcases h2.ne_of_type (hE.2.1 v hv) hne with h3 | h3
    · rw [hk] at h3; cases h3
    · exact h3 (by rw [hk, hbg, hkg]), hnb⟩
  show Bx _ b _ #[.slice _ (N.ends.set v ((rowOf N.ends v).set i (x, y))).length c, _, _]
  rw [hlen]
  exact hbx.fr hfr (hnb _ _ _ hbx (by decide))
end Go.Proofs.Ytlooinhdehkcdaa
