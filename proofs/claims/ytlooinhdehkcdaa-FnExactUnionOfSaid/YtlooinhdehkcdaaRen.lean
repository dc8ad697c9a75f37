/- RenumberNodes: the walks. -/
import Derived.Test.YtlooinhdehkcdaaRenP
import Derived.Test.YtlooinhdehkcdaaNBx
import Derived.Test.YtlooinhdehkcdaaOwn
import Derived.Test.YtlooinhdehkcdaaCopy
import Derived.StillTailTactics
namespace Go.Proofs.Ytlooinhdehkcdaa
open Go.RowKit
set_option linter.unusedVariables false
set_option linter.unusedSimpArgs false


theorem Ow.setN {w : World} {lo hi : Nat} {e : TypeId} {g cap : Nat} {es : List (Int × Int)} {i : Nat} (x : Int) (h : Ow w lo hi e 2 (some ⟨g, 0, none⟩) es.length cap (cellE es)) (hi' : i < es.length) :
    Ow (w.setCell ⟨g, i * 2, none⟩ (.int .i64 x)) lo hi e 2 (some ⟨g, 0, none⟩) (es.set i (x, (nthE es i).2)).length cap (cellE (es.set i (x, (nthE es i).2))) := by
  rw [List.length_set]
  obtain ⟨h1, h2, h3⟩ := h
  refine ⟨h1, h2, fun hc => ?_⟩
  obtain ⟨g', F, e1, e2, e3, e4, e5⟩ := h3 hc
  obtain rfl : g = g' := by injection e1 with e1; injection e1
  refine ⟨g, _, rfl, e2, e3, e4.set (i * 2) _, fun j hj => ?_⟩
  show (if j = i * 2 then _ else F j) = _
  by_cases c2 : j = i * 2
  · subst c2; rw [if_pos rfl, cellE_fst, nthE_set _ _ _ _ hi', if_pos rfl]
  · rw [if_neg c2, e5 j hj]
    obtain ⟨k, rfl | rfl⟩ : ∃ k, j = k * 2 ∨ j = k * 2 + 1 := ⟨j / 2, by omega⟩
    · rw [cellE_fst, cellE_fst, nthE_set _ _ _ _ hi', if_neg (by omega)]
    · rw [cellE_snd, cellE_snd, nthE_set _ _ _ _ hi']
      by_cases c : k = i
      · rw [if_pos c, c]
      · rw [if_neg c]
end Go.Proofs.Ytlooinhdehkcdaa
