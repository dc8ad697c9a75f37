/- UnionOf: memory lemmas (rows behind rows, identifiers and inputs behind others); the shift in place. -/
import Derived.Test.YtlooinhdehkcdaaDblP
import Derived.Test.YtlooinhdehkcdaaNBxA
import Derived.Test.YtlooinhdehkcdaaCat
import Derived.Test.YtlooinhdehkcdaaAdd2
import Derived.Test.YtlooinhdehkcdaaRen
namespace Go.Proofs.Ytlooinhdehkcdaa
open Go.RowKit
set_option linter.unusedVariables false
set_option linter.unusedSimpArgs false
/-! ### rows whose first ends have been moved on -/
def shT (r : List (Int × Int)) (K i : Nat) : List (Int × Int) := (List.range r.length).map fun j => if j < i then shE K (nthE r j) else nthE r j
theorem shT_length (r : List (Int × Int)) (K i : Nat) : (shT r K i).length = r.length := by simp [shT]
theorem shT_at (r : List (Int × Int)) (K i j : Nat) (h : j < r.length) : nthE (shT r K i) j = if j < i then shE K (nthE r j) else nthE r j := by
  rw [nthE_eq_getElem _ _ (by rw [shT_length]; exact h)]; simp [shT]
theorem shT_zero (r : List (Int × Int)) (K : Nat) : shT r K 0 = r := ends_ext (shT_length ..) fun j hj => by
  rw [shT_length] at hj
  rw [shT_at _ _ _ _ hj, if_neg (by omega)]
theorem shT_all (r : List (Int × Int)) (K : Nat) : shT r K r.length = shR K r := ends_ext (xs := shT r K r.length) (by rw [shT_length, shR_length]) fun j hj => by
  have hj : j < r.length := by rwa [shT_length] at hj
  rw [shT_at _ _ _ _ hj, if_pos hj, nthE_eq_getElem (shR K r) j (by rw [shR_length]; exact hj), nthE_eq_getElem r j hj]
  simp [shR]
theorem shT_set (r : List (Int × Int)) (K i : Nat) (h : i < r.length) : (shT r K i).set i (shE K (nthE r i)) = shT r K (i + 1) := ends_ext (by rw [List.length_set, shT_length, shT_length]) fun j hj => by
  rw [List.length_set, shT_length] at hj
  rw [nthE_set _ _ _ _ (by rw [shT_length]; exact h), shT_at _ _ _ _ hj, shT_at _ _ _ _ hj]
  by_cases e : j = i
  · subst e; rw [if_pos rfl, if_pos (by omega)]
  · rw [if_neg e]
    by_cases c : j < i
    · rw [if_pos c, if_pos (by omega)]
    · rw [if_neg c, if_neg (by omega)]
def inT (rows : Rows2) (K k i : Nat) : Rows2 := (List.range rows.length).map fun u => if u < k then shR K (rowOf rows u) else if u = k then shT (rowOf rows u) K i else rowOf rows u
theorem inT_length (rows : Rows2) (K k i : Nat) : (inT rows K k i).length = rows.length := by simp [inT]
theorem inT_row (rows : Rows2) (K k i j : Nat) (h : j < rows.length) : rowOf (inT rows K k i) j = if j < k then shR K (rowOf rows j) else if j = k then shT (rowOf rows j) K i else rowOf rows j := rowOf_rangeMap _ _ _ h
theorem inT_len (rows : Rows2) (K k i j : Nat) (h : j < rows.length) : (rowOf (inT rows K k i) j).length = (rowOf rows j).length := by
  rw [inT_row _ _ _ _ _ h]
  split
  · exact shR_length ..
  · split
    · exact shT_length ..
    · rfl
theorem inT_zero (rows : Rows2) (K : Nat) : inT rows K 0 0 = rows := by
  refine rows_ext (inT_length ..) fun j hj => ?_
  rw [inT_length] at hj
  rw [inT_row _ _ _ _ _ hj, if_neg (by omega)]
  split
  · exact shT_zero ..
  · rfl
theorem inT_next (rows : Rows2) (K k : Nat) : inT rows K k (rowOf rows k).length = inT rows K (k + 1) 0 := by
  refine rows_ext (by rw [inT_length, inT_length]) fun j hj => ?_
  rw [inT_length] at hj
  rw [inT_row _ _ _ _ _ hj, inT_row _ _ _ _ _ hj]
  by_cases h1 : j < k
  · rw [if_pos h1, if_pos (by omega)]
  · rw [if_neg h1]
    by_cases h2 : j = k
    · subst h2; rw [if_pos rfl, if_pos (by omega), shT_all]
    · rw [if_neg h2, if_neg (by omega)]
      by_cases h3 : j = k + 1
      · rw [if_pos h3, shT_zero]
      · rw [if_neg h3]
theorem inT_all (rows : Rows2) (K : Nat) : inT rows K rows.length 0 = rows.map (shR K) := by
  refine rows_ext (by rw [inT_length, List.length_map]) fun j hj => ?_
  rw [inT_length] at hj
  rw [inT_row _ _ _ _ _ hj, if_pos hj, rowOf_eq_getElem _ _ hj, rowOf_eq_getElem _ _ (by rw [List.length_map]; exact hj)]
  simp
theorem inT_set (rows : Rows2) (K k i : Nat) (hk : k < rows.length) (hi : i < (rowOf rows k).length) : (inT rows K k i).set k (shT (rowOf rows k) K (i + 1)) = inT rows K k (i + 1) := by
  refine rows_ext (by rw [List.length_set, inT_length, inT_length]) fun j hj => ?_
  rw [List.length_set, inT_length] at hj
  rw [rowOf_set _ _ _ _ (by rw [inT_length]; exact hk), inT_row _ _ _ _ _ hj, inT_row _ _ _ _ _ hj]
  by_cases e : j = k
  · subst e; rw [if_pos rfl, if_neg (by omega), if_pos rfl]
  · rw [if_neg e]
    by_cases c : j < k
    · rw [if_pos c, if_pos c]
    · rw [if_neg c, if_neg c, if_neg e, if_neg e]
def catV {β : Type} (f : Nat → β) (n : Nat) (g : Nat → β) (j : Nat) : β := if j < n then f j else g (j - n)
theorem catV_lt {β : Type} (f : Nat → β) (n : Nat) (g : Nat → β) {j : Nat} (h : j < n) : catV f n g j = f j := if_pos h
theorem catV_ge {β : Type} (f : Nat → β) (n : Nat) (g : Nat → β) {j : Nat} (h : ¬ j < n) : catV f n g j = g (j - n) := if_neg h
theorem inT_at (rows : Rows2) (K k i : Nat) (hk : k < rows.length) (hi : i < (rowOf rows k).length) : nthE (rowOf (inT rows K k i) k) i = nthE (rowOf rows k) i := by
  rw [inT_row _ _ _ _ _ hk, if_neg (by omega), if_pos rfl, shT_at _ _ _ _ hi, if_neg (by omega)]
theorem inT_step (rows : Rows2) (K k i : Nat) (hk : k < rows.length) (hi : i < (rowOf rows k).length) : (inT rows K k i).set k ((rowOf (inT rows K k i) k).set i (shE K (nthE (rowOf rows k) i))) = inT rows K k (i + 1) := by
  rw [← inT_set rows K k i hk hi, ← shT_set _ _ _ hi]
  congr 2
  rw [inT_row _ _ _ _ _ hk, if_neg (by omega), if_pos rfl]
/-! ### memory -/
/-- rows behind rows: 'out.Ends = append(out.Ends, other.Ends...)', the rows of other newer than all rows of out -/
theorem RowsE.cat {w w' : World} {lo mid hi c c2 cap' : Nat} {a a2 a' : Option Addr} {rows rows2 : Rows2} {vs vs2 : Nat → Option Addr × Nat}
    (hE : RowsE w lo mid a c rows vs) (hE2 : RowsE w mid hi a2 c2 rows2 vs2) (hm : lo ≤ mid) (hm2 : mid ≤ hi) (hhi : hi ≤ w.heap.size) (hg : w.grownBy w' (blk a c))
    (ho : Ow w' lo w'.heap.size 60 1 a' (rows.length + rows2.length) cap' (catF (fun j => .slice (vs j).1 (rowOf rows j).length (vs j).2) (rows.length * 1) fun j => .slice (vs2 j).1 (rowOf rows2 j).length (vs2 j).2)) :
    RowsE w' lo w'.heap.size a' cap' (rows ++ rows2) (catV vs rows.length vs2) := by
  have hlen : (rows ++ rows2).length = rows.length + rows2.length := List.length_append ..
  have hsz := hg.size
  have far : ∀ {x : Option Addr} {cx lo2 hi2 n2 : Nat} {f2 : Nat → Value}, Ow w lo2 hi2 62 2 x n2 cx f2 → Ow w' lo2 hi2 62 2 x n2 cx f2 := by
    intro x cx lo2 hi2 n2 f2 hx
    refine hx.grown hg ?_
    rcases hE.1.ne_of_type hx (by decide) with h1 | h1
    · rw [h1]; cases hb : blk x cx with
      | none => exact .inl rfl
      | some y => exact .inr (by simp)
    · exact .inr fun h2 => h1 h2.symm
  have cross : ∀ i j, i < rows.length → j < rows2.length → blk (vs i).1 (vs i).2 = none ∨ blk (vs i).1 (vs i).2 ≠ blk (vs2 j).1 (vs2 j).2 := by
    intro i j hi' hj
    cases hb : blk (vs i).1 (vs i).2 with
    | none => exact .inl rfl
    | some x =>
      refine .inr fun h2 => ?_
      have h3 := (hE.2.1 i hi').blk_in hb
      have h4 := (hE2.2.1 j hj).blk_in h2.symm
      omega
  refine ⟨?_, fun j hj => ?_, fun i j hi' hj hne => ?_⟩
  · rw [hlen]
    refine ho.congr fun j hj => ?_
    unfold catF
    rw [Nat.mul_one]
    by_cases h1 : j < rows.length
    · rw [if_pos h1, catV_lt _ _ _ h1, rowOf_append_left _ _ _ h1]
    · rw [if_neg h1, catV_ge _ _ _ h1, rowOf_append_right _ _ _ (by omega)]
  · rw [hlen] at hj
    by_cases h1 : j < rows.length
    · rw [catV_lt _ _ _ h1, rowOf_append_left _ _ _ h1]
      exact (far (hE.2.1 j h1)).wide (Nat.le_refl _) (by omega)
    · rw [catV_ge _ _ _ h1, rowOf_append_right _ _ _ (by omega)]
      exact (far (hE2.2.1 (j - rows.length) (by omega))).wide hm (by omega)
  · rw [hlen] at hi' hj
    by_cases h1 : i < rows.length
    · by_cases h2 : j < rows.length
      · rw [catV_lt _ _ _ h1, catV_lt _ _ _ h2]; exact hE.2.2 i j h1 h2 hne
      · rw [catV_lt _ _ _ h1, catV_ge _ _ _ h2]; exact cross i (j - rows.length) h1 (by omega)
    · by_cases h2 : j < rows.length
      · rw [catV_ge _ _ _ h1, catV_lt _ _ _ h2]
        cases hb : blk (vs2 (i - rows.length)).1 (vs2 (i - rows.length)).2 with
        | none => exact .inl rfl
        | some x =>
          refine .inr fun h3 => ?_
          rcases cross j (i - rows.length) h2 (by omega) with h4 | h4
          · rw [h4] at h3; cases h3
          · exact h4 (h3.symm.trans hb.symm)
      · rw [catV_ge _ _ _ h1, catV_ge _ _ _ h2]; exact hE2.2.2 _ _ (by omega) (by omega) (by omega)
/-- 'n.Ids = append(n.Ids, ys...)' -/
theorem NBx.catIds {w w' : World} {lo hi b c ci cp cap' : Nat} {N : Net} {a ai ap a' : Option Addr} {vs : Nat → Option Addr × Nat} {ys : List Int}
    (hbx : Bx w b 29 #[.slice a N.ends.length c, .slice ai N.ids.length ci, .slice ap N.inputs.length cp]) (hE : RowsE w lo hi a c N.ends vs) (owni : OwI w lo hi ai ci N.ids) (ownp : OwI w lo hi ap cp N.inputs) (hdis : blk ai ci = none ∨ blk ai ci ≠ blk ap cp)
    (hhi : hi ≤ w.heap.size) (hb : lo ≤ b) (hg : w.grownBy w' (blk ai ci)) (hnew : blk a' cap' = blk ai ci ∨ blk a' cap' = some w.heap.size)
    (ho : Ow w' lo w'.heap.size 3 1 a' (N.ids.length + ys.length) cap' (catF (fun j => .int .i64 (nth N.ids j)) (N.ids.length * 1) fun j => .int .i64 (nth ys j))) :
    Bx w' b 29 #[.slice a N.ends.length c, .slice ai N.ids.length ci, .slice ap N.inputs.length cp] ∧
    NBx (w'.setCell ⟨b, 1, none⟩ (.slice a' (N.ids.length + ys.length) cap')) lo b { N with ids := N.ids ++ ys } ∧
    Fr (fun k => some k = blk ai ci ∨ k = b) w (w'.setCell ⟨b, 1, none⟩ (.slice a' (N.ids.length + ys.length) cap')) := by
  have hf : Fr (fun k => some k = blk ai ci) w w' := Fr.of_grown hg
  have hbx' := hbx.fr hf (fun h => hbx.ne_row owni (by decide) h.symm)
  have hi' : OwI w' lo w'.heap.size a' cap' (N.ids ++ ys) := OwI.cat ho
  have hne : ∀ {t2 : TypeId} {s2 : Nat} {a2 : Option Addr} {n2 c2 : Nat} {f2 : Nat → Value}, t2 ≠ 3 → Ow w lo hi t2 s2 a2 n2 c2 f2 → ∀ k, blk a2 c2 = some k → ¬ some k = blk ai ci := by
    intro t2 s2 a2 n2 c2 f2 ht h2 k hk hkA
    rcases h2.ne_of_type owni ht with h3 | h3
    · rw [hk] at h3; cases h3
    · exact h3 (by rw [hk, hkA])
  have hE' : RowsE w' lo w'.heap.size a c N.ends vs := RowsAt.top (RowsAt.frB hE hf (hne (by decide) hE.1) (fun j hj => hne (by decide) (hE.2.1 j hj)))
  have ownp' := Ow.top (Ow.frB ownp hf (fun k hk hkA => by
    rcases hdis with h3 | h3
    · rw [h3] at hkA; cases hkA
    · exact h3 (by rw [hk, hkA])))
  have hdis' : blk a' cap' = none ∨ blk a' cap' ≠ blk ap cp := by
    rcases hnew with hn | hn
    · rw [hn]; exact hdis
    · refine .inr fun he => ?_
      have := (Ow.blk_in ownp (he.symm.trans hn)).2
      omega
  have hs : Fr (fun k => k = b) w' (w'.setCell ⟨b, 1, none⟩ (.slice a' (N.ids.length + ys.length) cap')) := fr_set w' b 1 _
  refine ⟨hbx', ⟨a, c, vs, a', cap', ap, cp, ?_, RowsAt.top (RowsAt.frB hE' hs (fun k hk hc => hbx'.ne_row hE'.1 (by decide) (hc ▸ hk)) (fun j hj k hk hc => hbx'.ne_row (hE'.2.1 j hj) (by decide) (hc ▸ hk))), Ow.top (Ow.frB hi' hs (fun k hk hc => hbx'.ne_row hi' (by decide) (hc ▸ hk))), Ow.top (Ow.frB ownp' hs (fun k hk hc => hbx'.ne_row ownp' (by decide) (hc ▸ hk))), hdis'⟩,
    (hf.mono fun k _ hk => .inl hk).trans (hs.mono fun k _ hk => .inr hk)⟩
  show Bx _ b _ #[_, .slice _ (N.ids ++ ys).length cap', _]
  rw [List.length_append]
  exact hbx'.set 1 _
/-- 'n.Inputs = append(n.Inputs, ys...)' -/
theorem NBx.catInputs {w w' : World} {lo hi b c ci cp cap' : Nat} {N : Net} {a ai ap a' : Option Addr} {vs : Nat → Option Addr × Nat} {ys : List Int}
    (hbx : Bx w b 29 #[.slice a N.ends.length c, .slice ai N.ids.length ci, .slice ap N.inputs.length cp]) (hE : RowsE w lo hi a c N.ends vs) (owni : OwI w lo hi ai ci N.ids) (ownp : OwI w lo hi ap cp N.inputs) (hdis : blk ai ci = none ∨ blk ai ci ≠ blk ap cp)
    (hhi : hi ≤ w.heap.size) (hb : lo ≤ b) (hg : w.grownBy w' (blk ap cp)) (hnew : blk a' cap' = blk ap cp ∨ blk a' cap' = some w.heap.size)
    (ho : Ow w' lo w'.heap.size 3 1 a' (N.inputs.length + ys.length) cap' (catF (fun j => .int .i64 (nth N.inputs j)) (N.inputs.length * 1) fun j => .int .i64 (nth ys j))) :
    Bx w' b 29 #[.slice a N.ends.length c, .slice ai N.ids.length ci, .slice ap N.inputs.length cp] ∧
    NBx (w'.setCell ⟨b, 2, none⟩ (.slice a' (N.inputs.length + ys.length) cap')) lo b { N with inputs := N.inputs ++ ys } ∧
    Fr (fun k => some k = blk ap cp ∨ k = b) w (w'.setCell ⟨b, 2, none⟩ (.slice a' (N.inputs.length + ys.length) cap')) := by
  have hf : Fr (fun k => some k = blk ap cp) w w' := Fr.of_grown hg
  have hbx' := hbx.fr hf (fun h => hbx.ne_row ownp (by decide) h.symm)
  have hi' : OwI w' lo w'.heap.size a' cap' (N.inputs ++ ys) := OwI.cat ho
  have hne : ∀ {t2 : TypeId} {s2 : Nat} {a2 : Option Addr} {n2 c2 : Nat} {f2 : Nat → Value}, t2 ≠ 3 → Ow w lo hi t2 s2 a2 n2 c2 f2 → ∀ k, blk a2 c2 = some k → ¬ some k = blk ap cp := by
    intro t2 s2 a2 n2 c2 f2 ht h2 k hk hkA
    rcases h2.ne_of_type ownp ht with h3 | h3
    · rw [hk] at h3; cases h3
    · exact h3 (by rw [hk, hkA])
  have hE' : RowsE w' lo w'.heap.size a c N.ends vs := RowsAt.top (RowsAt.frB hE hf (hne (by decide) hE.1) (fun j hj => hne (by decide) (hE.2.1 j hj)))
  have owni' := Ow.top (Ow.frB owni hf (fun k hk hkA => by
    rcases hdis with h3 | h3
    · rw [hk] at h3; cases h3
    · exact h3 (by rw [hk, hkA])))
  have hdis' : blk ai ci = none ∨ blk ai ci ≠ blk a' cap' := by
    cases hk : blk ai ci with
    | none => exact .inl rfl
    | some k =>
      refine .inr fun he => ?_
      rcases hnew with hn | hn
      · rcases hdis with h3 | h3
        · rw [hk] at h3; cases h3
        · exact h3 (hk.trans (he.trans hn))
      · have h4 : k = w.heap.size := by rw [hn] at he; injection he
        have := (Ow.blk_in owni hk).2
        omega
  have hs : Fr (fun k => k = b) w' (w'.setCell ⟨b, 2, none⟩ (.slice a' (N.inputs.length + ys.length) cap')) := fr_set w' b 2 _
  refine ⟨hbx', ⟨a, c, vs, ai, ci, a', cap', ?_, RowsAt.top (RowsAt.frB hE' hs (fun k hk hc => hbx'.ne_row hE'.1 (by decide) (hc ▸ hk)) (fun j hj k hk hc => hbx'.ne_row (hE'.2.1 j hj) (by decide) (hc ▸ hk))), Ow.top (Ow.frB owni' hs (fun k hk hc => hbx'.ne_row owni' (by decide) (hc ▸ hk))), Ow.top (Ow.frB hi' hs (fun k hk hc => hbx'.ne_row hi' (by decide) (hc ▸ hk))), hdis'⟩,
    (hf.mono fun k _ hk => .inl hk).trans (hs.mono fun k _ hk => .inr hk)⟩
  show Bx _ b _ #[_, _, .slice _ (N.inputs ++ ys).length cap']
  rw [List.length_append]
  exact hbx'.set 2 _
/-- one node of one row's end stored, in place -/
theorem RowsE.setN {w : World} {lo hi c k i : Nat} {a : Option Addr} {rows : Rows2} {vs : Nat → Option Addr × Nat} (x : Int) (h : RowsE w lo hi a c rows vs) (hk : k < rows.length) (hi' : i < (rowOf rows k).length) :
    ∃ g cg, vs k = (some ⟨g, 0, none⟩, cg) ∧ lo ≤ g ∧ g < hi ∧ w.cell? ⟨g, i * 2, none⟩ = some (.int .i64 (nthE (rowOf rows k) i).1) ∧ w.frozen? ⟨g, i * 2, none⟩ = false ∧
      RowsE (w.setCell ⟨g, i * 2, none⟩ (.int .i64 x)) lo hi a c (rows.set k ((rowOf rows k).set i (x, (nthE (rowOf rows k) i).2))) vs ∧ Fr (fun y => y = g) w (w.setCell ⟨g, i * 2, none⟩ (.int .i64 x)) ∧ blk (vs k).1 (vs k).2 = some g := by
  have hrow := h.2.1 k hk
  obtain ⟨g, hg, hg2, hg1⟩ := Ow.addr hrow (by omega)
  have hrow2 : Ow w lo hi 62 2 (some ⟨g, 0, none⟩) (rowOf rows k).length (vs k).2 (cellE (rowOf rows k)) := by rw [← hg]; exact hrow
  obtain ⟨g3, off3, hae, _, e1, e2⟩ := RdE.at (Ow.rdE hrow2) hi'
  obtain ⟨rfl, rfl⟩ : g = g3 ∧ 0 = off3 := by injection hae with h; injection h with h1 h2; exact ⟨h1, h2⟩
  rw [Nat.zero_add] at e1
  have f1 := Ow.frozen hrow2 (by omega) (i * 2)
  have hset := Ow.setN x hrow2 hi'
  have hfr : Fr (fun y => y = g) w (w.setCell ⟨g, i * 2, none⟩ (.int .i64 x)) := fr_set w g (i * 2) _
  have hbk : blk (vs k).1 (vs k).2 = some g := by rw [hg, blk, if_neg (by have := hrow.1; omega)]; rfl
  refine ⟨g, (vs k).2, by rw [← hg], hg1, by omega, e1, f1, RowsAt.upd h hk (by decide) (List.length_set ..) ?_ (hfr.mono fun y _ hy => ?_), hfr, hbk⟩
  · rw [hg]; exact hset
  · rw [hbk, hy]
end Go.Proofs.Ytlooinhdehkcdaa
