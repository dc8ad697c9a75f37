/- One inner row grown by append, and its slice stored; the plain joining of two nodes. -/
import Derived.Test.YtlooinhdehkcdaaNet
import Derived.Test.YtlooinhdehkcdaaApp
namespace Go.Proofs.Ytlooinhdehkcdaa
open Go.RowKit
set_option linter.unusedVariables false
section
variable {P : Program} {w : World} {o : Oper} {a : Act} {K : Act → World → Prop} {Q : Exit → Act → World → Prop}
/-- for a region that draws: 'append(s, x...)', at least one new element -/
theorem step_app (s x : Operand) (t : TypeId) (ho : o.op = .call { callee := .builtin .append, args := #[s, x], argTypes := #[t, t] })
    (e : TypeId) (z : Value) (size bytes : Nat) (ht : P.underlying t = some (.slice e)) (hinfo : (P.info? e).map (fun i => (i.zero, i.size, i.bytes)) = some (some z, size, bytes)) (hzs : z.cells.size = size) (hsz : 0 < size)
    (lo hi : Nat) (ao : Option Addr) (n cap : Nat) (f : Nat → Value) (hs : a.eval s = .slice ao n cap) (hown : Ow w lo hi e size ao n cap f)
    (ad : Addr) (m c : Nat) (news : List Value) (hx : a.eval x = .slice (some ad) m c) (hl : news.length = m * size) (hnews : ∀ j u, news[j]? = some u → w.cell? (ad.add j) = some u) (h1 : ∀ u ∈ news, u.oneCell' = true)
    (hm : 0 < m) (h63 : n + m ≤ maxLen) (hbytes : (n + m) * bytes ≤ 140737488355328) (hlo : lo ≤ w.heap.size)
    (h : ∀ g' cap' w', Ow w' lo w'.heap.size e size (some ⟨g', 0, none⟩) (n + m) cap' (app f (n * size) news) → w.grownBy w' (blk ao cap) → (blk ao cap = some g' ∨ g' = w.heap.size) → 0 < cap' → K (a.put o.dst (.slice (some ⟨g', 0, none⟩) (n + m) cap')) w') :
    Oper.wp P o a w K Q := by
  obtain ⟨g', cap', w', hr, h2, h3, h4, h5⟩ := run_app (P := P) w t o.type e z size bytes ht hinfo hzs hsz lo hi ao n cap f hown ad m c news hl hnews h1 hm h63 hbytes hlo
  unfold Oper.wp execOp
  simp only [ho, resolve, invoke, builtin, Sem.run_bind, Sem.run_pure, Result.andThen_ok, List.map_toArray, List.map_cons, List.map_nil, hs, hx, hr]
  exact h g' cap' w' h2 h3 h4 h5
end
section
variable {α : Type} {cell : List α → Nat → Value} {size : Nat} {t e : TypeId}
/-- an inner row grown by an append, its slice stored in its place -/
theorem RowsAt.put {w w' : World} {lo hi : Nat} {a : Option Addr} {cap : Nat} {rows : List (List α)} {vs : Nat → Option Addr × Nat} {v : Nat} {r : List α} {g' cap' A : Nat}
    (h : RowsAt cell size t e w lo hi a cap rows vs) (hv : v < rows.length) (hte : t ≠ e) (hhi : hi ≤ w.heap.size) (ha : a = some ⟨A, 0, none⟩) (hg : w.grownBy w' (blk (vs v).1 (vs v).2))
    (ho : Ow w' lo w'.heap.size e size (some ⟨g', 0, none⟩) r.length cap' (cell r)) (hb : blk (vs v).1 (vs v).2 = some g' ∨ g' = w.heap.size) :
    RowsAt cell size t e (w'.setCell ⟨A, v, none⟩ (.slice (some ⟨g', 0, none⟩) r.length cap')) lo w'.heap.size a cap (rows.set v r) (setv vs v (some ⟨g', 0, none⟩, cap')) := by
  have hsz := hg.size
  have hlen : (rows.set v r).length = rows.length := List.length_set ..
  have hcap : 0 < cap := by have := h.1.1; omega
  have hbA : blk a cap = some A := by rw [ha, blk, if_neg (by omega)]; rfl
  have hA := h.1.blk_in hbA
  -- the outer row behind the append
  have h1 : Ow w' lo w'.heap.size t 1 a rows.length cap (fun j => .slice (vs j).1 (rowOf rows j).length (vs j).2) := (h.1.grown hg (h.1.ne_of_type (h.2.1 v hv) hte)).wide (Nat.le_refl _) (by omega)
  have far : ∀ {x : Option Addr} {c lo2 hi2 n2 : Nat} {f2 : Nat → Value}, Ow w' lo2 hi2 e size x n2 c f2 → Ow (w'.setCell ⟨A, v, none⟩ (.slice (some ⟨g', 0, none⟩) r.length cap')) lo2 hi2 e size x n2 c f2 := by
    intro x c lo2 hi2 n2 f2 hx
    refine hx.keep fun k _ _ _ hk => Below.heap_setCell _ _ _ _ ?_
    intro hkA
    rcases h1.ne_of_type hx hte with h5 | h5
    · rw [hbA] at h5; cases h5
    · exact h5 (by rw [hbA, hk]; exact congrArg some hkA.symm)
  refine ⟨?_, fun j hj => ?_, fun i j hi' hj hne => ?_⟩
  · rw [hlen]
    obtain ⟨k1, k2, k3⟩ := h1
    refine ⟨k1, k2, fun hc => ?_⟩
    obtain ⟨g, F, e1, e2, e3, e4, e5⟩ := k3 hc
    have : g = A := by rw [ha] at e1; injection e1 with e1; injection e1 with e1; exact e1.symm
    subst this
    refine ⟨g, _, e1, e2, e3, e4.set v _, fun j hj => ?_⟩
    show (if j = v then _ else F j) = Value.slice (setv vs v (some ⟨g', 0, none⟩, cap') j).1 (rowOf (rows.set v r) j).length (setv vs v (some ⟨g', 0, none⟩, cap') j).2
    rw [rowOf_set _ _ _ _ hv]
    by_cases e6 : j = v
    · subst e6; rw [if_pos rfl, if_pos rfl, setv_same]
    · rw [if_neg e6, if_neg e6, setv_ne _ _ _ e6]; exact e5 j hj
  · rw [hlen] at hj
    rw [rowOf_set _ _ _ _ hv]
    by_cases e6 : j = v
    · subst e6; rw [if_pos rfl, setv_same]; exact far ho
    · rw [if_neg e6, setv_ne _ _ _ e6]
      exact far (((h.2.1 j hj).grown hg (h.2.2 j v hj hv e6)).wide (Nat.le_refl _) (by omega))
  · rw [hlen] at hi' hj
    have sep : ∀ x, x < rows.length → x ≠ v → blk (vs x).1 (vs x).2 = none ∨ blk (vs x).1 (vs x).2 ≠ blk (some ⟨g', 0, none⟩) cap' := by
      intro x hx hxv
      cases hk : blk (vs x).1 (vs x).2 with
      | none => exact .inl rfl
      | some k =>
        refine .inr fun he => ?_
        obtain ⟨_, y, hy, hyk⟩ := blk_some he.symm
        injection hy with hy
        subst hy
        simp only at hyk
        subst hyk
        rcases hb with hb | hb
        · rcases h.2.2 x v hx hv hxv with h7 | h7
          · rw [hk] at h7; cases h7
          · exact h7 (hk.trans hb.symm)
        · have := (h.2.1 x hx).blk_in hk
          omega
    by_cases e1 : i = v
    · have e2 : j ≠ v := by omega
      subst e1
      rw [setv_same, setv_ne _ _ _ e2]
      cases hk : blk (some (⟨g', 0, none⟩ : Addr)) cap' with
      | none => exact .inl rfl
      | some k =>
        refine .inr fun he => ?_
        rcases sep j hj e2 with h7 | h7
        · rw [h7] at he; cases he
        · exact h7 (he.symm.trans hk.symm)
    · by_cases e2 : j = v
      · subst e2; rw [setv_same, setv_ne _ _ _ e1]; exact sep i hi' e1
      · rw [setv_ne _ _ _ e1, setv_ne _ _ _ e2]; exact h.2.2 i j hi' hj hne
end
/-- ends: one more -/
theorem cellE_snoc {w : World} {lo hi : Nat} {e : TypeId} {a : Option Addr} {cap : Nat} {es : List (Int × Int)} {x y : Int} (h : Ow w lo hi e 2 a (es.length + 1) cap (app (cellE es) (es.length * 2) [.int .i64 x, .int .i64 y])) : Ow w lo hi e 2 a (es ++ [(x, y)]).length cap (cellE (es ++ [(x, y)])) := by
  have hl : (es ++ [(x, y)]).length = es.length + 1 := by simp
  rw [hl]
  refine h.congr fun j hj => ?_
  unfold app
  obtain ⟨i, rfl | rfl⟩ : ∃ i, j = i * 2 ∨ j = i * 2 + 1 := ⟨j / 2, by omega⟩
  · by_cases hlt : i < es.length
    · rw [if_pos (by omega), cellE_fst, cellE_fst, nthE_append_left _ _ _ hlt]
    · rw [if_neg (by omega), cellE_fst, nthE_append_right _ _ _ (by omega), show i * 2 - es.length * 2 = 0 by omega, show i - es.length = 0 by omega]; rfl
  · by_cases hlt : i < es.length
    · rw [if_pos (by omega), cellE_snd, cellE_snd, nthE_append_left _ _ _ hlt]
    · rw [if_neg (by omega), cellE_snd, nthE_append_right _ _ _ (by omega), show i * 2 + 1 - es.length * 2 = 1 by omega, show i - es.length = 0 by omega]; rfl
end Go.Proofs.Ytlooinhdehkcdaa
