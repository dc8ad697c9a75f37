/- Classes of views: a map from keys (arrays of 14 ints) to numbers, that the call owns. -/
import Derived.Test.YtlooinhdehkcdaaViP
import Derived.Maps.OwnSet
import Derived.Maps.OwnOps
import Derived.Maps.Views
import Derived.DeepKeys4
import Derived.Deep.MidRow
namespace Go.Proofs.Ytlooinhdehkcdaa
open Go.RowKit Go.Maps
set_option linter.unusedVariables false
set_option linter.unusedSimpArgs false
def cI (l : List Int) : List Value := l.map fun z => .int .i64 z
theorem cI_length (l : List Int) : (cI l).length = l.length := List.length_map ..
theorem cI_set (l : List Int) (i : Nat) (z : Int) : (cI l).toArray.setIfInBounds i (.int .i64 z) = (cI (l.set i z)).toArray := by
  simp [cI, List.map_set]
theorem cI_at (l : List Int) (j : Nat) (h : j < l.length) : (cI l).toArray[j]? = some (.int .i64 (nth l j)) := by
  rw [List.getElem?_toArray, cI, List.getElem?_map, List.getElem?_eq_getElem h, nth_eq_getElem _ _ h]; rfl
theorem cI_inj : ∀ {l l' : List Int}, cI l = cI l' → l = l'
  | [], [], _ => rfl
  | [], _ :: _, h => by simp [cI] at h
  | _ :: _, [], h => by simp [cI] at h
  | a :: l, b :: l', h => by
    simp only [cI, List.map_cons] at h
    injection h with h1 h2
    injection h1 with _ h1
    rw [h1, cI_inj h2]
/-- the key's value and its literal -/
def kV (l : List Int) : Value := .agg (cI l).toArray
def kL (l : List Int) : Lit := .string (keyBytes (l.map fun z => Lit.int .i64 z))
theorem kV_inj {l l' : List Int} (h : kV l = kV l') : l = l' := by
  unfold kV at h
  injection h with h
  exact cI_inj (congrArg Array.toList h)
def KeyOk (l : List Int) : Prop := l.length = 14 ∧ I64s l
theorem mapM_all {α β : Type} {f : α → Option β} {g : α → β} : ∀ {l : List α}, (∀ x ∈ l, f x = some (g x)) → l.mapM f = some (l.map g)
  | [], _ => rfl
  | x :: l, h => by
    rw [List.mapM_cons, h x (by simp), mapM_all (fun y hy => h y (by simp [hy]))]
    rfl
theorem flatten_ones {α β : Type} (f : α → β) : ∀ l : List α, (l.map fun x => [f x]).flatten = l.map f
  | [] => rfl
  | x :: l => by rw [List.map_cons, List.flatten_cons, flatten_ones f l]; rfl
theorem wf_i64 {z : Int} (h : -9223372036854775808 ≤ z ∧ z ≤ 9223372036854775807) : (Lit.int .i64 z).wf = true := by
  simp [Lit.wf, IntKind.min, IntKind.max, IntKind.signed, IntKind.bits]
  omega
theorem vk_laid : laidOutB Try.prog = true := by kernel_rfl
theorem vk_row : (104 : TypeId) < Try.prog.types.size := of_decide_eq_true (by kernel_rfl)
set_option maxRecDepth 100000 in
theorem vk_wide : (match Try.prog.underlying 104 with | some (.array _ _) | some (.struct _) => true | _ => false) = true := by rw [Try.underlying104]
set_option maxRecDepth 100000 in
theorem vk_law : Keyed Try.prog 104 := Keyed.of_law (deep_law_laid vk_laid (m := 2) (by omega) vk_row (by kernel_rfl) vk_wide)
theorem vk_cells : Try.prog.cellsOf 104 = 14 := by kernel_rfl
theorem int_cells : Try.prog.cellsOf 3 = 1 := by kernel_rfl
theorem int_zero (w : World) : (zeroValue 3).run Try.prog w = .ok (.int .i64 0) w := by kernel_rfl
set_option maxRecDepth 100000 in
theorem keyOf_kV {l : List Int} (h : KeyOk l) : keyOf Try.prog 104 (kV l) = some (kL l) := by
  obtain ⟨hl, hw⟩ := h
  have hk : Try.prog.keyType 104 = true := by kernel_rfl
  have hf : (kV l).formed Try.prog 104 = true := by
    unfold kV Value.formed
    rw [Try.underlying104]
    simp only
    rw [vk_cells]
    simp [cI, hl]
  have hc : (kV l).cells.toList = cI l := rfl
  obtain ⟨d, hd⟩ : ∃ d, Try.prog.types.size = d + 1 := ⟨Try.prog.types.size - 1, by have : 0 < Try.prog.types.size := Nat.lt_of_le_of_lt (Nat.zero_le _) vk_row; omega⟩
  have he : ∀ i ∈ List.range 14, Try.prog.keyLits Try.prog.types.size 3 (((cI l).drop (i * Try.prog.cellsOf 3)).take (Try.prog.cellsOf 3)) = some [Lit.int .i64 (nth l i)] := by
    intro i hi
    have hi : i < 14 := by simpa using hi
    rw [int_cells, Nat.mul_one]
    have hcs : ((cI l).drop i).take 1 = [.int .i64 (nth l i)] := by
      rw [List.drop_eq_getElem_cons (by rw [cI_length]; omega), List.take_succ_cons, List.take_zero]
      congr 1
      have := cI_at l i (by omega)
      rw [List.getElem?_toArray, List.getElem?_eq_getElem (by rw [cI_length]; omega)] at this
      exact Option.some.inj this
    rw [hcs, hd]
    unfold Program.keyLits
    rw [Try.underlying3]
    simp only
    rw [if_pos ⟨trivial, wf_i64 (hw.nth i (by omega))⟩]
  unfold keyOf
  rw [Try.underlying104]
  simp only
  rw [hk, hf, Bool.and_self, if_pos rfl, hc]
  unfold Program.keyLits
  rw [Try.underlying104]
  simp only
  rw [if_pos (by rw [cI_length, vk_cells]; exact hl), mapM_all he]
  simp only [Option.map_some, Option.some.injEq]
  rw [flatten_ones, kL]
  congr 2
  apply List.ext_getElem
  · simp [hl]
  · intro i h1 h2
    have h3 : i < l.length := by simpa using h2
    simp [nth_eq_getElem l i h3]
theorem kL_inj {l l' : List Int} (h : KeyOk l) (h' : KeyOk l') (e : kL l = kL l') : l = l' := by
  have h1 := keyOf_kV h
  have h2 := keyOf_kV h'
  rw [e] at h1
  exact kV_inj (vk_law.inj h1 h2)
/-- block b holds the numbers of the first k keys, m different ones -/
def VMap (w : World) (b k m : Nat) (key : Nat → List Int) (cls : Nat → Int) : Prop :=
  ∃ D : DataW Unit, w.ownsMap Try.prog 104 (plainElem Try.prog 3) b k D ∧ Maps.size D = m ∧
    (∀ u, u < k → has D (kL (key u)) = true ∧ D.atKey (kL (key u)) (.lit (.int .i64 0)) = .lit (.int .i64 (cls u))) ∧
    (∀ l, KeyOk l → (∀ u, u < k → key u ≠ l) → has D (kL l) = false)
theorem VMap.made (w : World) (key : Nat → List Int) (cls : Nat → Int) : VMap (w.alloc (.map #[] 0)) w.heap.size 0 0 key cls :=
  ⟨.map [], World.ownsMap_made w _ _ _, rfl, fun u hu => absurd hu (by omega), fun l _ _ => rfl⟩
theorem VMap.kept {w w' : World} {b k m : Nat} {key : Nat → List Int} {cls : Nat → Int} {row : Option Nat} (h : VMap w b k m key cls) (hg : w.grownBy w' row) (hne : some b ≠ row) : VMap w' b k m key cls := by
  obtain ⟨D, h1, h2⟩ := h
  exact ⟨D, h1.kept hg hne, h2⟩
theorem VMap.lt {w : World} {b k m : Nat} {key : Nat → List Int} {cls : Nat → Int} (h : VMap w b k m key cls) : b < w.heap.size := by
  obtain ⟨D, h1, _⟩ := h
  exact h1.lt
theorem grown_of_below {w w' : World} (h : Below w.heap.size w w') (row : Option Nat) : w.grownBy w' row := ⟨h.os, h.tape, h.output, h.size, fun k hk _ => h.block k hk⟩
theorem VMap.new {w w' : World} {b k m : Nat} {key : Nat → List Int} {cls : Nat → Int} (h : VMap w b k m key cls) (hb : Below w.heap.size w w') : VMap w' b k m key cls := h.kept (grown_of_below hb none) (by simp)
theorem VMap.fr {w w' : World} {b k m x : Nat} {key : Nat → List Int} {cls : Nat → Int} (h : VMap w b k m key cls) (hf : Fr (fun k => k = x) w w') (hne : b ≠ x) : VMap w' b k m key cls :=
  h.kept (row := some x) ⟨hf.os, hf.tape, hf.output, hf.size, fun k hk hx => hf.block k hk (fun e => hx (by rw [e]))⟩ (by simp [hne])
/-- the next key is there already -/
theorem VMap.known {w : World} {b k m u : Nat} {key : Nat → List Int} {cls : Nat → Int} (h : VMap w b k m key cls) (hu : u < k) (hk : key u = key k) (hc : cls u = cls k) : VMap w b (k + 1) m key cls := by
  obtain ⟨D, h1, h2, h3, h4⟩ := h
  refine ⟨D, h1.mono (Nat.le_succ k), h2, fun x hx => ?_, fun l hl hne => h4 l hl fun x hx => hne x (by omega)⟩
  by_cases e : x = k
  · rw [e, ← hk, ← hc]; exact h3 u hu
  · exact h3 x (by omega)
/-- the next key is new: it is stored -/
theorem VMap.stored {w' : World} {b k m : Nat} {key : Nat → List Int} {cls : Nat → Int} {D : DataW Unit} (h2 : Maps.size D = m)
    (h3 : ∀ u, u < k → has D (kL (key u)) = true ∧ D.atKey (kL (key u)) (.lit (.int .i64 0)) = .lit (.int .i64 (cls u))) (h4 : ∀ l, KeyOk l → (∀ u, u < k → key u ≠ l) → has D (kL l) = false)
    (ht : Tidy D) (hok : ∀ u, u ≤ k → KeyOk (key u)) (hne : ∀ u, u < k → key u ≠ key k)
    (h1 : w'.ownsMap Try.prog 104 (plainElem Try.prog 3) b (k + 1) (D.put (kL (key k)) (.lit (.int .i64 (cls k))))) : VMap w' b (k + 1) (m + 1) key cls := by
  have hkl : WideAt.IsKeyLit (kL (key k)) := vk_law.key (keyOf_kV (hok k (Nat.le_refl _)))
  have hno : has D (kL (key k)) = false := h4 _ (hok k (Nat.le_refl _)) hne
  refine ⟨_, h1, by rw [size_put ht, hno, h2]; rfl, fun x hx => ?_, fun l hl hn => ?_⟩
  · by_cases e : x = k
    · rw [e]; exact ⟨has_put_same ht.isMap hkl _, atKey_put_same ht.isMap hkl _ _⟩
    · have hd : kL (key x) ≠ kL (key k) := fun h => hne x (by omega) (kL_inj (hok x (by omega)) (hok k (Nat.le_refl _)) h)
      rw [has_put_other hd, atKey_put_other hd]
      exact h3 x (by omega)
  · have hd : kL l ≠ kL (key k) := fun h => hn k (by omega) (kL_inj hl (hok k (Nat.le_refl _)) h).symm
    rw [has_put_other hd]
    exact h4 l hl fun u hu => hn u (by omega)
theorem loadKey {w : World} {b : Nat} {l : List Int} (h : Bx w b 104 (cI l).toArray) (hl : l.length = 14) : (Instr.loadAt 104 (.pointer (some ⟨b, 0, none⟩))).run Try.prog w = .ok (kV l) w :=
  run_loadAt_mid w b 0 104 (cI l) _ (fun j v hj => by
    show w.cell? ⟨b, 0 + j, none⟩ = some v
    rw [Nat.zero_add]
    exact h.cell j v (by rw [List.getElem?_toArray]; exact hj)) Try.underlying104 rfl (by rw [cI_length, hl]; kernel_rfl)
end Go.Proofs.Ytlooinhdehkcdaa
