/- Two ends appended at once. -/
import Derived.Test.YtlooinhdehkcdaaJoin
namespace Go.Proofs.Ytlooinhdehkcdaa
open Go.RowKit
set_option linter.unusedVariables false
set_option linter.unusedSimpArgs false
theorem cellE_snoc2 {w : World} {lo hi : Nat} {e : TypeId} {a : Option Addr} {cap : Nat} {es : List (Int × Int)} {x y p q : Int} (h : Ow w lo hi e 2 a (es.length + 2) cap (app (cellE es) (es.length * 2) [.int .i64 x, .int .i64 y, .int .i64 p, .int .i64 q])) : Ow w lo hi e 2 a (es ++ [(x, y), (p, q)]).length cap (cellE (es ++ [(x, y), (p, q)])) := by
  have hl : (es ++ [(x, y), (p, q)]).length = es.length + 2 := by simp
  rw [hl]
  refine h.congr fun j hj => ?_
  unfold app
  obtain ⟨i, hi⟩ : ∃ i, j = i * 2 ∨ j = i * 2 + 1 := ⟨j / 2, by omega⟩
  by_cases hlt : i < es.length
  · rw [if_pos (by omega)]
    rcases hi with rfl | rfl
    · rw [cellE_fst, cellE_fst, nthE_append_left _ _ _ hlt]
    · rw [cellE_snd, cellE_snd, nthE_append_left _ _ _ hlt]
  · rw [if_neg (by omega)]
    obtain ⟨d, hd⟩ : ∃ d, i = es.length + d := ⟨i - es.length, by omega⟩
    have hd2 : d = 0 ∨ d = 1 := by omega
    have hr : nthE (es ++ [(x, y), (p, q)]) i = nthE [(x, y), (p, q)] d := by rw [nthE_append_right _ _ _ (by omega), show i - es.length = d by omega]
    rcases hi with rfl | rfl
    · rw [cellE_fst, hr, show i * 2 - es.length * 2 = d * 2 by omega]
      rcases hd2 with rfl | rfl
      · rfl
      · rfl
    · rw [cellE_snd, hr, show i * 2 + 1 - es.length * 2 = d * 2 + 1 by omega]
      rcases hd2 with rfl | rfl
      · rfl
      · rfl
/-- 'n.Ends[v] = append(n.Ends[v], End{x, y}, End{p, q})', seen in memory -/
theorem addP2_mem {w w1 w2 : World} {lo b A c v g' cap' : Nat} {rows : Rows2} {vs : Nat → Option Addr × Nat} {V0 I P : Value} {x y p q : Int}
    (hbx : Bx w b 29 #[V0, I, P]) (hE : RowsE w lo w.heap.size (some ⟨A, 0, none⟩) c rows vs) (hv : v < rows.length) (hw1 : Below w.heap.size w w1) (hlo : lo ≤ w.heap.size)
    (hg : w1.grownBy w2 (blk (vs v).1 (vs v).2)) (ho : Ow w2 lo w2.heap.size 62 2 (some ⟨g', 0, none⟩) ((rowOf rows v).length + 2) cap' (app (cellE (rowOf rows v)) ((rowOf rows v).length * 2) [.int .i64 x, .int .i64 y, .int .i64 p, .int .i64 q])) (hb : blk (vs v).1 (vs v).2 = some g' ∨ g' = w1.heap.size) :
    (Bx w2 b 29 #[V0, I, P]) ∧ (w2.cell? ⟨A, v, none⟩ = some (.slice (vs v).1 (rowOf rows v).length (vs v).2)) ∧ (w2.frozen? ⟨A, v, none⟩ = false) ∧
    ∃ vs', RowsE (w2.setCell ⟨A, v, none⟩ (.slice (some ⟨g', 0, none⟩) ((rowOf rows v).length + 2) cap')) lo w2.heap.size (some ⟨A, 0, none⟩) c (rows.set v (rowOf rows v ++ [(x, y), (p, q)])) vs' ∧
      Bx (w2.setCell ⟨A, v, none⟩ (.slice (some ⟨g', 0, none⟩) ((rowOf rows v).length + 2) cap')) b 29 #[V0, I, P] ∧
      Fr (RB A rows vs) w (w2.setCell ⟨A, v, none⟩ (.slice (some ⟨g', 0, none⟩) ((rowOf rows v).length + 2) cap')) ∧ (∀ k, k < w.heap.size → RB A (rows.set v (rowOf rows v ++ [(x, y), (p, q)])) vs' k → RB A rows vs k) := by
  have hz1 := hw1.size
  have hE1 : RowsE w1 lo w.heap.size (some ⟨A, 0, none⟩) c rows vs := RowsAt.new hE hw1
  have hrl : (rowOf rows v ++ [(x, y), (p, q)]).length = (rowOf rows v).length + 2 := by simp
  have hbx1 := hbx.new hw1
  have hfg : Fr (fun k => some k = blk (vs v).1 (vs v).2) w1 w2 := Fr.of_grown hg
  have hbx2 : Bx w2 b 29 #[V0, I, P] := hbx1.fr hfg fun h => hbx1.ne_row (hE1.2.1 v hv) (by decide) h.symm
  have ho1 := hE1.1.grown hg (hE1.1.ne_of_type (hE1.2.1 v hv) (by decide))
  have hbA : blk (some (⟨A, 0, none⟩ : Addr)) c = some A := by have := hE.1.1; rw [blk, if_neg (by omega)]; rfl
  have hnA : b ≠ A := fun h => hbx1.ne_row hE1.1 (by decide) (by rw [hbA, h])
  have hput := RowsAt.put (r := rowOf rows v ++ [(x, y), (p, q)]) hE1 hv (by decide) hz1 rfl hg (cellE_snoc2 ho) hb
  rw [hrl] at hput
  refine ⟨hbx2, ?_, Ow.frozen ho1 (by omega) v, _, hput, hbx2.far (p := ⟨A, v, none⟩) hnA _, ?_, ?_⟩
  · obtain ⟨g, off, hae, _, hc⟩ := Rd.at (Ow.rd ho1) hv
    obtain ⟨rfl, rfl⟩ : A = g ∧ 0 = off := by injection hae with h; injection h with h1 h2; exact ⟨h1, h2⟩
    rwa [Nat.zero_add] at hc
  · refine Fr.setCell (p := ⟨A, v, none⟩) ((Fr.of_new hw1).trans (hfg.mono fun k _ hk => ?_)) (.inl (.inl rfl)) _
    exact .inr ⟨v, hv, hk.symm⟩
  · rintro k hk (h | ⟨j, hj, hjk⟩)
    · exact .inl h
    · rw [List.length_set] at hj
      by_cases e1 : j = v
      · subst e1
        rw [setv_same] at hjk
        obtain ⟨_, y', hy, hyk⟩ := blk_some hjk
        injection hy with hy
        subst hy
        simp only at hyk
        subst hyk
        rcases hb with hb | hb
        · exact .inr ⟨j, hj, hb⟩
        · omega
      · rw [setv_ne _ _ _ e1] at hjk
        exact .inr ⟨j, hj, hjk⟩
end Go.Proofs.Ytlooinhdehkcdaa
