/- One inner row replaced by a new row; one end, one number stored. -/
import Derived.Test.YtlooinhdehkcdaaJoin
namespace Go.Proofs.Ytlooinhdehkcdaa
open Go.RowKit
set_option linter.unusedVariables false
set_option linter.unusedSimpArgs false
section
variable {α : Type} {cell : List α → Nat → Value} {size : Nat} {t e : TypeId}
theorem RowsAt.rep {w : World} {lo hi hi2 : Nat} {a : Option Addr} {cap : Nat} {rows : List (List α)} {vs : Nat → Option Addr × Nat} {v : Nat} {r : List α} {b : Option Addr} {cb A : Nat}
    (h : RowsAt cell size t e w lo hi a cap rows vs) (hv : v < rows.length) (hte : t ≠ e) (ha : a = some ⟨A, 0, none⟩) (hlo : lo ≤ hi) (hhi : hi ≤ hi2)
    (ho : Ow w hi hi2 e size b r.length cb (cell r)) :
    RowsAt cell size t e (w.setCell ⟨A, v, none⟩ (.slice b r.length cb)) lo hi2 a cap (rows.set v r) (setv vs v (b, cb)) := by
  have hlen : (rows.set v r).length = rows.length := List.length_set ..
  have hcap : 0 < cap := by have := h.1.1; omega
  have hbA : blk a cap = some A := by rw [ha, blk, if_neg (by omega)]; rfl
  have h1 : Ow w lo hi2 t 1 a rows.length cap (fun j => .slice (vs j).1 (rowOf rows j).length (vs j).2) := h.1.wide (Nat.le_refl _) hhi
  have far : ∀ {x : Option Addr} {c lo2 hi3 n2 : Nat} {f2 : Nat → Value}, Ow w lo2 hi3 e size x n2 c f2 → Ow (w.setCell ⟨A, v, none⟩ (.slice b r.length cb)) lo2 hi3 e size x n2 c f2 := by
    intro x c lo2 hi3 n2 f2 hx
    refine hx.keep fun k _ _ _ hk => Below.heap_setCell _ _ _ _ ?_
    intro hkA
    rcases h1.ne_of_type hx hte with h5 | h5
    · rw [hbA] at h5; cases h5
    · exact h5 (by rw [hbA, hk]; exact congrArg some hkA.symm)
  refine ⟨?_, fun j hj => ?_, fun i j hi' hj hne => ?_⟩
  · rw [hlen]
    obtain ⟨k1, k2, k3⟩ := h1
    refine ⟨k1, k2, fun hc => ?_⟩
    obtain ⟨g, F, e1, e2, e3, e4, e5⟩ := k3 hc
    have : g = A := by rw [ha] at e1; injection e1 with e1; injection e1 with e1; exact e1.symm
    subst this
    refine ⟨g, _, e1, e2, e3, e4.set v _, fun j hj => ?_⟩
    show (if j = v then _ else F j) = Value.slice (setv vs v (b, cb) j).1 (rowOf (rows.set v r) j).length (setv vs v (b, cb) j).2
    rw [rowOf_set _ _ _ _ hv]
    by_cases e6 : j = v
    · subst e6; rw [if_pos rfl, if_pos rfl, setv_same]
    · rw [if_neg e6, if_neg e6, setv_ne _ _ _ e6]; exact e5 j hj
  · rw [hlen] at hj
    rw [rowOf_set _ _ _ _ hv]
    by_cases e6 : j = v
    · subst e6; rw [if_pos rfl, setv_same]; exact far (ho.wide hlo (Nat.le_refl _))
    · rw [if_neg e6, setv_ne _ _ _ e6]
      exact far ((h.2.1 j hj).wide (Nat.le_refl _) hhi)
  · rw [hlen] at hi' hj
    have sep : ∀ x, x < rows.length → blk (vs x).1 (vs x).2 = none ∨ blk (vs x).1 (vs x).2 ≠ blk b cb := by
      intro x hx
      cases hk : blk (vs x).1 (vs x).2 with
      | none => exact .inl rfl
      | some k => exact .inr fun he => by have h5 := (h.2.1 x hx).blk_in hk; have h6 := ho.blk_in he.symm; omega
    by_cases e1 : i = v
    · have e2 : j ≠ v := by omega
      subst e1
      rw [setv_same, setv_ne _ _ _ e2]
      cases hk : blk b cb with
      | none => exact .inl rfl
      | some k =>
        refine .inr fun he => ?_
        rcases sep j hj with h7 | h7
        · rw [h7] at he; cases he
        · exact h7 (he.symm.trans hk.symm)
    · by_cases e2 : j = v
      · subst e2; rw [setv_same, setv_ne _ _ _ e1]; exact sep i hi'
      · rw [setv_ne _ _ _ e1, setv_ne _ _ _ e2]; exact h.2.2 i j hi' hj hne
end
/-- the cells of the outer row -/
theorem RowsE.head {w : World} {lo hi A c v : Nat} {rows : Rows2} {vs : Nat → Option Addr × Nat} (hE : RowsE w lo hi (some ⟨A, 0, none⟩) c rows vs) (hv : v < rows.length) :
    w.cell? ⟨A, v, none⟩ = some (.slice (vs v).1 (rowOf rows v).length (vs v).2) ∧ w.frozen? ⟨A, v, none⟩ = false := by
  refine ⟨?_, Ow.frozen hE.1 (by omega) v⟩
  obtain ⟨g2, off, hae, _, hc⟩ := Rd.at (Ow.rd hE.1) hv
  obtain ⟨rfl, rfl⟩ : A = g2 ∧ 0 = off := by injection hae with h; injection h with h1 h2; exact ⟨h1, h2⟩
  rwa [Nat.zero_add] at hc
/-- 'n.Ends[v] = row', a row that is newer than all rows of n -/
theorem setS_mem {w : World} {lo hi hi2 b A c v cb : Nat} {rows : Rows2} {vs : Nat → Option Addr × Nat} {V0 I P : Value} {x : Option Addr} {r : List (Int × Int)}
    (hbx : Bx w b 29 #[V0, I, P]) (hE : RowsE w lo hi (some ⟨A, 0, none⟩) c rows vs) (hv : v < rows.length) (hlo : lo ≤ hi) (hhi : hi ≤ hi2)
    (ho : Ow w hi hi2 62 2 x r.length cb (cellE r)) :
    ∃ vs', RowsE (w.setCell ⟨A, v, none⟩ (.slice x r.length cb)) lo hi2 (some ⟨A, 0, none⟩) c (rows.set v r) vs' ∧
      Bx (w.setCell ⟨A, v, none⟩ (.slice x r.length cb)) b 29 #[V0, I, P] ∧
      Fr (fun k => k = A) w (w.setCell ⟨A, v, none⟩ (.slice x r.length cb)) := by
  have hbA : blk (some (⟨A, 0, none⟩ : Addr)) c = some A := by have := hE.1.1; rw [blk, if_neg (by omega)]; rfl
  have hnA : b ≠ A := fun h => hbx.ne_row hE.1 (by decide) (by rw [hbA, h])
  exact ⟨_, RowsAt.rep (r := r) hE hv (by decide) rfl hlo hhi ho, hbx.far (p := ⟨A, v, none⟩) hnA _, Fr.setCell (C := fun k => k = A) (p := ⟨A, v, none⟩) (Fr.refl _ w) (.inl rfl) _⟩
/-- 'n.Ends[v][i] = End{x, y}' -/
theorem setE_mem {w : World} {lo hi A c v i : Nat} {rows : Rows2} {vs : Nat → Option Addr × Nat} (x y : Int)
    (hE : RowsE w lo hi (some ⟨A, 0, none⟩) c rows vs) (hv : v < rows.length) (hi' : i < (rowOf rows v).length) :
    ∃ g cg, vs v = (some ⟨g, 0, none⟩, cg) ∧ lo ≤ g ∧ g < hi ∧ w.cell? ⟨g, i * 2, none⟩ = some (.int .i64 (nthE (rowOf rows v) i).1) ∧ w.cell? ⟨g, i * 2 + 1, none⟩ = some (.int .i64 (nthE (rowOf rows v) i).2) ∧
      (∀ j, w.frozen? ⟨g, j, none⟩ = false) ∧ (∀ (b : Nat) (t : TypeId) (cs : Array Value), Bx w b t cs → t ≠ 62 → b ≠ g) ∧ (∀ (lo2 hi2 n2 c2 : Nat) (a2 : Option Addr) (f2 : Nat → Value), Ow w lo2 hi2 3 1 a2 n2 c2 f2 → ∀ k, blk a2 c2 = some k → k ≠ g) ∧
      RowsE ((w.setCell ⟨g, i * 2, none⟩ (.int .i64 x)).setCell ⟨g, i * 2 + 1, none⟩ (.int .i64 y)) lo hi (some ⟨A, 0, none⟩) c (rows.set v ((rowOf rows v).set i (x, y))) vs ∧
      Fr (fun k => k = g) w ((w.setCell ⟨g, i * 2, none⟩ (.int .i64 x)).setCell ⟨g, i * 2 + 1, none⟩ (.int .i64 y)) := by
  have hrow := hE.2.1 v hv
  obtain ⟨g, hg, hg2, hg1⟩ := Ow.addr hrow (by omega)
  have hfr := fun j => Ow.frozen (by rw [← hg]; exact hrow) (Nat.lt_of_le_of_lt (Nat.zero_le _) hi') j
  have hbk : blk (vs v).1 (vs v).2 = some g := by have := hrow.1; rw [hg, blk, if_neg (by omega)]; rfl
  have hrow' : Ow w lo hi 62 2 (some ⟨g, 0, none⟩) (rowOf rows v).length (vs v).2 (cellE (rowOf rows v)) := by rw [← hg]; exact hrow
  obtain ⟨g2, off, hae, _, k1, k2⟩ := RdE.at (Ow.rdE hrow') hi'
  obtain ⟨rfl, rfl⟩ : g = g2 ∧ 0 = off := by injection hae with h; injection h with h1 h2; exact ⟨h1, h2⟩
  have hf : Fr (fun k => k = g) w ((w.setCell ⟨g, i * 2, none⟩ (.int .i64 x)).setCell ⟨g, i * 2 + 1, none⟩ (.int .i64 y)) :=
    Fr.setCell (C := fun k => k = g) (p := ⟨g, i * 2 + 1, none⟩) (Fr.setCell (C := fun k => k = g) (p := ⟨g, i * 2, none⟩) (Fr.refl _ w) (.inl rfl) _) (.inl rfl) _
  refine ⟨g, (vs v).2, by rw [← hg], hg1, hg2, by rwa [Nat.zero_add] at k1, by rwa [Nat.zero_add] at k2, hfr, fun b t cs hb hne hbg => ?_, fun lo2 hi2 n2 c2 a2 f2 ho k hk hkg => ?_, RowsAt.upd hE hv (by decide) (List.length_set ..) ?_ (hf.mono fun k _ hk => by rw [hbk, hk]), hf⟩
  · exact hb.ne_row hrow hne (by rw [hbk, hbg])
  · rcases hrow.ne_of_type ho (by decide) with h5 | h5
    · rw [hbk] at h5; cases h5
    · exact h5 (by rw [hbk, hk, hkg])
  · have := Ow.setE x y hrow' hi'
    rwa [← hg] at this
theorem nth_set (zs : List Int) (i j : Nat) (z : Int) (hi : i < zs.length) : nth (zs.set i z) j = if j = i then z else nth zs j := by
  unfold nth
  by_cases e : j = i
  · subst e; simp [List.getD, hi]
  · rw [if_neg e]; simp [List.getD, List.getElem?_set_ne (Ne.symm e)]
/-- 'xs[i] = z' on an own row of ints -/
theorem OwI.put {w : World} {lo hi g cap i : Nat} {zs : List Int} (z : Int) (h : OwI w lo hi (some ⟨g, 0, none⟩) cap zs) (hi' : i < zs.length) :
    OwI (w.setCell ⟨g, i, none⟩ (.int .i64 z)) lo hi (some ⟨g, 0, none⟩) cap (zs.set i z) := by
  unfold OwI at h ⊢
  rw [List.length_set]
  obtain ⟨h1, h2, h3⟩ := h
  refine ⟨h1, h2, fun hc => ?_⟩
  obtain ⟨g', F, e1, e2, e3, e4, e5⟩ := h3 hc
  obtain rfl : g = g' := by injection e1 with e1; injection e1
  refine ⟨g, _, rfl, e2, e3, e4.set i _, fun j hj => ?_⟩
  show (if j = i then _ else F j) = Value.int .i64 (nth (zs.set i z) j)
  rw [nth_set _ _ _ _ hi']
  by_cases c1 : j = i
  · rw [if_pos c1, if_pos c1]
  · rw [if_neg c1, if_neg c1]; exact e5 j hj
/-- an own row of ints: its cell, and what else it is not -/
theorem OwI.at {w : World} {lo hi cap i : Nat} {a : Option Addr} {zs : List Int} (h : OwI w lo hi a cap zs) (hi' : i < zs.length) :
    ∃ g, a = some ⟨g, 0, none⟩ ∧ lo ≤ g ∧ g < hi ∧ blk a cap = some g ∧ w.cell? ⟨g, i, none⟩ = some (.int .i64 (nth zs i)) ∧ w.frozen? ⟨g, i, none⟩ = false := by
  obtain ⟨g, rfl, hg2, hg1⟩ := Ow.addr h (by omega)
  have hbk : blk (some (⟨g, 0, none⟩ : Addr)) cap = some g := by have := h.1; rw [blk, if_neg (by omega)]; rfl
  obtain ⟨g2, off, hae, _, k1⟩ := Rd.at (Ow.rd h) hi'
  obtain ⟨rfl, rfl⟩ : g = g2 ∧ 0 = off := by injection hae with h; injection h with h1 h2; exact ⟨h1, h2⟩
  exact ⟨g, rfl, hg1, hg2, hbk, by rwa [Nat.zero_add] at k1, Ow.frozen h (by omega) i⟩
end Go.Proofs.Ytlooinhdehkcdaa
