/- RemoveEdge, KeepNodes: part of a network, the plain words. -/
import Derived.Test.YtlooinhdehkcdaaPrtM
import Derived.Test.YtlooinhdehkcdaaRmvA
namespace Go.Proofs.Ytlooinhdehkcdaa
open Go.RowKit
set_option linter.unusedVariables false
set_option linter.unusedSimpArgs false
theorem netB_ids {N : Net} (h : netB N = true) : N.ids.length = 0 ∨ N.ids.length = N.ends.length := by
  unfold netB at h
  simp only [Bool.and_eq_true] at h
  exact (of_decide_eq_true h.1.1.2).2.2
/-- the keys that are there when node k's first i ports are done -/
def ptH (rows : Rows2) (nodes : List Int) (kp : Nat → Nat → Bool) (k i : Nat) (e : Int × Int) : Prop :=
  ∃ k' i', (k' < k ∧ i' < (rowOf rows (nth nodes k').toNat).length ∨ k' = k ∧ i' < i) ∧ kp (nth nodes k').toNat i' = true ∧ e = (nth nodes k', (i' : Int))
theorem ptH_zero {rows : Rows2} {nodes : List Int} {kp : Nat → Nat → Bool} {e : Int × Int} (h : ptH rows nodes kp 0 0 e) : False := by
  obtain ⟨k', i', h1 | h1, _⟩ := h <;> omega
theorem ptH_no {rows : Rows2} {nodes : List Int} {kp : Nat → Nat → Bool} {k i : Nat} (hk : kp (nth nodes k).toNat i = false) {e : Int × Int} (h : ptH rows nodes kp k (i + 1) e) : ptH rows nodes kp k i e := by
  obtain ⟨k', i', h1, h2, h3⟩ := h
  refine ⟨k', i', ?_, h2, h3⟩
  rcases h1 with h1 | ⟨rfl, h1⟩
  · exact .inl h1
  · refine .inr ⟨rfl, ?_⟩
    by_cases c : i' = i
    · subst c; rw [hk] at h2; cases h2
    · omega
theorem ptH_yes {rows : Rows2} {nodes : List Int} {kp : Nat → Nat → Bool} {k i : Nat} {e : Int × Int} (h : ptH rows nodes kp k (i + 1) e) : ptH rows nodes kp k i e ∨ e = (nth nodes k, (i : Int)) := by
  obtain ⟨k', i', h1, h2, h3⟩ := h
  rcases h1 with h1 | ⟨rfl, h1⟩
  · exact .inl ⟨k', i', .inl h1, h2, h3⟩
  · by_cases c : i' = i
    · subst c; exact .inr h3
    · exact .inl ⟨k', i', .inr ⟨rfl, by omega⟩, h2, h3⟩
theorem ptH_next {rows : Rows2} {nodes : List Int} {kp : Nat → Nat → Bool} {k : Nat} {e : Int × Int} (h : ptH rows nodes kp (k + 1) 0 e) : ptH rows nodes kp k (rowOf rows (nth nodes k).toNat).length e := by
  obtain ⟨k', i', h1, h2, h3⟩ := h
  rcases h1 with h1 | ⟨_, h1⟩
  · by_cases c : k' = k
    · subst c; exact ⟨k', i', .inr ⟨rfl, h1.2⟩, h2, h3⟩
    · exact ⟨k', i', .inl ⟨by omega, h1.2⟩, h2, h3⟩
  · omega
/-- the part of the first k nodes -/
def partT (N : Net) (nodes : List Int) (kp : Nat → Nat → Bool) (pos : Int → Int) (k : Nat) : Net :=
  ⟨(nodes.take k).map fun v => ctRow N.ends kp pos v.toNat, if 0 < N.ids.length then (nodes.take k).map fun v => nth N.ids v.toNat else [], (nodes.take k).map fun v => nth N.inputs v.toNat⟩
def partN (N : Net) (nodes : List Int) (kp : Nat → Nat → Bool) (pos : Int → Int) : Net := partT N nodes kp pos nodes.length
theorem map_take_snoc {β : Type} (f : Int → β) {nodes : List Int} {k : Nat} (h : k < nodes.length) : (nodes.take (k + 1)).map f = (nodes.take k).map f ++ [f (nth nodes k)] := by
  rw [take_snoc_nth _ _ h, List.map_append]; rfl
theorem partT_yes {N : Net} {nodes : List Int} {kp : Nat → Nat → Bool} {pos : Int → Int} {k : Nat} (h : k < nodes.length) (hi : 0 < N.ids.length) :
    partT N nodes kp pos (k + 1) = ⟨(partT N nodes kp pos k).ends ++ [ctRow N.ends kp pos (nth nodes k).toNat], (partT N nodes kp pos k).ids ++ [nth N.ids (nth nodes k).toNat], (partT N nodes kp pos k).inputs ++ [nth N.inputs (nth nodes k).toNat]⟩ := by
  unfold partT
  simp only [if_pos hi]
  rw [map_take_snoc _ h, map_take_snoc _ h, map_take_snoc _ h]
theorem partT_no {N : Net} {nodes : List Int} {kp : Nat → Nat → Bool} {pos : Int → Int} {k : Nat} (h : k < nodes.length) (hi : N.ids.length = 0) :
    partT N nodes kp pos (k + 1) = ⟨(partT N nodes kp pos k).ends ++ [ctRow N.ends kp pos (nth nodes k).toNat], (partT N nodes kp pos k).ids, (partT N nodes kp pos k).inputs ++ [nth N.inputs (nth nodes k).toNat]⟩ := by
  unfold partT
  simp only [hi, Nat.lt_irrefl, if_false]
  rw [map_take_snoc _ h, map_take_snoc _ h]
theorem partT_len {N : Net} {nodes : List Int} {kp : Nat → Nat → Bool} {pos : Int → Int} {k : Nat} (h : k ≤ nodes.length) : (partT N nodes kp pos k).ends.length = k ∧ (partT N nodes kp pos k).ids.length ≤ k ∧ (partT N nodes kp pos k).inputs.length = k := by
  refine ⟨by simp [partT]; omega, ?_, by simp [partT]; omega⟩
  unfold partT
  simp only
  split
  · simp; omega
  · simp
/-- what part asks of its arguments -/
def PartOk (N : Net) (nodes : List Int) (kp : Nat → Nat → Bool) (pos : Int → Int) : Prop :=
  nodes.length ≤ 40 ∧ ∀ k, k < nodes.length → ∃ v : Nat, nth nodes k = (v : Int) ∧ v < N.ends.length ∧ pos (v : Int) = (k : Int) ∧
    ∀ i, i < (rowOf N.ends v).length → kp v i = true → ∃ k', k' < nodes.length ∧ (nthE (rowOf N.ends v) i).1 = nth nodes k' ∧ kp (nthE (rowOf N.ends v) i).1.toNat (nthE (rowOf N.ends v) i).2.toNat = true
theorem partOk_key {N : Net} {nodes : List Int} {kp : Nat → Nat → Bool} {pos : Int → Int} (h : PartOk N nodes kp pos) {k v i p q : Nat} (hk : k < nodes.length) (hv : nth nodes k = (v : Int)) (hi : i < (rowOf N.ends v).length) (hkp : kp v i = true) (he : nthE (rowOf N.ends v) i = ((p : Int), (q : Int))) (hq : q < (rowOf N.ends p).length) :
    ptH N.ends nodes kp nodes.length 0 ((p : Int), (q : Int)) := by
  obtain ⟨v', e1, _, _, h4⟩ := h.2 k hk
  obtain rfl : v = v' := by omega
  obtain ⟨k', h5, h6, h7⟩ := h4 i hi hkp
  rw [he] at h6 h7
  simp only [Int.toNat_natCast] at h6 h7
  exact ⟨k', q, .inl ⟨h5, by rw [← h6, Int.toNat_natCast]; exact hq⟩, by rw [← h6, Int.toNat_natCast]; exact h7, by rw [← h6]⟩
theorem partN_small {N : Net} {nodes : List Int} {kp : Nat → Nat → Bool} {pos : Int → Int} (h : netB N = true) (hok : PartOk N nodes kp pos) : NetSmall (partN N nodes kp pos) := by
  have h1 := partT_len (N := N) (nodes := nodes) (kp := kp) (pos := pos) (Nat.le_refl nodes.length)
  have h2 : Total (partN N nodes kp pos).ends ≤ 6 * (partN N nodes kp pos).ends.length := total_le _ _ fun j hj => by
    have hj' : j < nodes.length := by rw [show (partN N nodes kp pos).ends.length = nodes.length from h1.1] at hj; exact hj
    obtain ⟨v, e1, hv, _⟩ := hok.2 j hj'
    have : rowOf (partN N nodes kp pos).ends j = ctRow N.ends kp pos v := by
      unfold partN partT
      rw [List.take_length, rowOf_eq_getElem _ _ (by simpa using hj'), List.getElem_map, ← nth_eq_getElem _ _ hj', e1, Int.toNat_natCast]
    rw [this]
    exact Nat.le_trans (ctRow_len _ _ _ _) (net_row h hv)
  have h3 := hok.1
  unfold NetSmall
  have h4 : (partN N nodes kp pos).ends.length = nodes.length := h1.1
  have h5 : (partN N nodes kp pos).ids.length ≤ nodes.length := h1.2.1
  have h6 : (partN N nodes kp pos).inputs.length = nodes.length := h1.2.2
  omega
/-- 'n.Ids = append(n.Ids, z)' -/
theorem NBx.addId {w w' : World} {lo hi b c ci cp g' cap' : Nat} {N : Net} {a ai ap : Option Addr} {vs : Nat → Option Addr × Nat} {z : Int}
    (hbx : Bx w b 29 #[.slice a N.ends.length c, .slice ai N.ids.length ci, .slice ap N.inputs.length cp]) (hE : RowsE w lo hi a c N.ends vs) (owni : OwI w lo hi ai ci N.ids) (ownp : OwI w lo hi ap cp N.inputs) (hdis : blk ai ci = none ∨ blk ai ci ≠ blk ap cp)
    (hhi : hi ≤ w.heap.size) (hg : w.grownBy w' (blk ai ci)) (hnew : blk ai ci = some g' ∨ g' = w.heap.size) (hc0 : 0 < cap')
    (ho : Ow w' lo w'.heap.size 3 1 (some ⟨g', 0, none⟩) (N.ids.length + 1) cap' (app (fun j => .int .i64 (nth N.ids j)) (N.ids.length * 1) [.int .i64 z])) :
    Bx w' b 29 #[.slice a N.ends.length c, .slice ai N.ids.length ci, .slice ap N.inputs.length cp] ∧
    NBx (w'.setCell ⟨b, 1, none⟩ (.slice (some ⟨g', 0, none⟩) (N.ids.length + 1) cap')) lo b { N with ids := N.ids ++ [z] } ∧
    Fr (fun k => some k = blk ai ci ∨ k = b) w (w'.setCell ⟨b, 1, none⟩ (.slice (some ⟨g', 0, none⟩) (N.ids.length + 1) cap')) := by
  have hf : Fr (fun k => some k = blk ai ci) w w' := Fr.of_grown hg
  have hbx' := hbx.fr hf (fun h => hbx.ne_row owni (by decide) h.symm)
  have hp' : OwI w' lo w'.heap.size (some ⟨g', 0, none⟩) cap' (N.ids ++ [z]) := OwI.snoc ho
  have hne : ∀ {t2 : TypeId} {s2 : Nat} {a2 : Option Addr} {n2 c2 : Nat} {f2 : Nat → Value}, t2 ≠ 3 → Ow w lo hi t2 s2 a2 n2 c2 f2 → ∀ k, blk a2 c2 = some k → ¬ some k = blk ai ci := by
    intro t2 s2 a2 n2 c2 f2 ht h2 k hk hkA
    rcases h2.ne_of_type owni ht with h3 | h3
    · rw [hk] at h3; cases h3
    · exact h3 (by rw [hk, hkA])
  have hE' : RowsE w' lo w'.heap.size a c N.ends vs := RowsAt.top (RowsAt.frB hE hf (hne (by decide) hE.1) (fun j hj => hne (by decide) (hE.2.1 j hj)))
  have ownp' := Ow.top (Ow.frB ownp hf (fun k hk hkA => by
    rcases hdis with h3 | h3
    · rw [← hkA] at h3; cases h3
    · exact h3 (by rw [hk, hkA])))
  have hdis' : blk (some (⟨g', 0, none⟩ : Addr)) cap' = none ∨ blk (some (⟨g', 0, none⟩ : Addr)) cap' ≠ blk ap cp := by
    have hbg : blk (some (⟨g', 0, none⟩ : Addr)) cap' = some g' := by rw [blk, if_neg (by omega)]; rfl
    refine .inr fun he => ?_
    rw [hbg] at he
    rcases hnew with hnew | hnew
    · rcases hdis with h3 | h3
      · rw [hnew] at h3; cases h3
      · exact h3 (hnew.trans he)
    · have := (Ow.blk_in ownp he.symm).2
      omega
  have hs : Fr (fun k => k = b) w' (w'.setCell ⟨b, 1, none⟩ (.slice (some ⟨g', 0, none⟩) (N.ids.length + 1) cap')) := fr_set w' b 1 _
  refine ⟨hbx', ⟨a, c, vs, some ⟨g', 0, none⟩, cap', ap, cp, ?_, RowsAt.top (RowsAt.frB hE' hs (fun k hk hc => hbx'.ne_row hE'.1 (by decide) (hc ▸ hk)) (fun j hj k hk hc => hbx'.ne_row (hE'.2.1 j hj) (by decide) (hc ▸ hk))), Ow.top (Ow.frB hp' hs (fun k hk hc => hbx'.ne_row hp' (by decide) (hc ▸ hk))), Ow.top (Ow.frB ownp' hs (fun k hk hc => hbx'.ne_row ownp' (by decide) (hc ▸ hk))), hdis'⟩,
    (hf.mono fun k _ hk => .inl hk).trans (hs.mono fun k _ hk => .inr hk)⟩
  show Bx _ b _ #[_, .slice _ (N.ids ++ [z]).length cap', _]
  rw [List.length_append]
  exact hbx'.set 1 _
end Go.Proofs.Ytlooinhdehkcdaa
