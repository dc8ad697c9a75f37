/- Copies: impl's copyNetwork. -/
import Derived.Test.YtmjmgggfmccjmaaGreatDoorOwn
import Derived.Deep.DeepCutAuto
namespace Go.Proofs.YtmjmgggfmccjmaaGreatDoor
open Go.RowKit
set_option linter.unusedVariables false
set_option linter.unusedSimpArgs false

theorem Bx.ne_rowIs {w : World} {b g : Nat} {t e : TypeId} {cs : Array Value} {n : Nat} {f : Nat → Value} (hb : Bx w b t cs) (h : w.rowIs g e n f) (hne : t ≠ e) : g ≠ b := by
  rintro rfl
  obtain ⟨c, hc, _⟩ := h
  unfold Bx at hb
  rw [hb] at hc
  injection hc with hc
  injection hc with _ hc
  exact hne hc
theorem rowIs_ne_own {w : World} {g : Nat} {t e : TypeId} {m lo hi s n cap : Nat} {a : Option Addr} {f F : Nat → Value} (h : w.rowIs g t m F) (ho : Ow w lo hi e s a n cap f) (hne : t ≠ e) : blk a cap ≠ some g := fun hk => by
  obtain ⟨c, hc, _⟩ := h
  exact Bx.ne_row (cs := c) hc ho hne hk
end Go.Proofs.YtmjmgggfmccjmaaGreatDoor
