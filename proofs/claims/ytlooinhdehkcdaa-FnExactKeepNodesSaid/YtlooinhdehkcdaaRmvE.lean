/- RemoveEdge, KeepNodes: one bool stored; the plain law of spec.RemoveEdge. -/
import Derived.Test.YtlooinhdehkcdaaRmvD
import Derived.Test.YtlooinhdehkcdaaOther
namespace Go.Proofs.Ytlooinhdehkcdaa
open Go.RowKit
set_option linter.unusedVariables false
set_option linter.unusedSimpArgs false
def setB (K : List (List Bool)) (v i : Nat) (b : Bool) : List (List Bool) := K.set v ((rowOf K v).set i b)
theorem setB_length (K : List (List Bool)) (v i : Nat) (b : Bool) : (setB K v i b).length = K.length := List.length_set ..
theorem nthB_set {l : List Bool} {i : Nat} (b : Bool) (h : i < l.length) (j : Nat) : nthB (l.set i b) j = if j = i then b else nthB l j := by
  unfold nthB
  rw [List.getD_eq_getElem?_getD, List.getElem?_set]
  by_cases e : j = i
  · subst e; simp [h]
  · rw [if_neg (fun x => e x.symm), if_neg e, List.getD_eq_getElem?_getD]
theorem setB_row {K : List (List Bool)} {v : Nat} (i : Nat) (b : Bool) (h : v < K.length) (j : Nat) : rowOf (setB K v i b) j = if j = v then (rowOf K v).set i b else rowOf K j := rowOf_set _ _ _ _ h
theorem kpOf_setB {K : List (List Bool)} {v i : Nat} (b : Bool) (hv : v < K.length) (hi : i < (rowOf K v).length) (w j : Nat) : kpOf (setB K v i b) w j = if w = v ∧ j = i then b else kpOf K w j := by
  unfold kpOf
  rw [setB_row _ _ hv]
  by_cases e : w = v
  · subst e
    rw [if_pos rfl, nthB_set _ hi]
    by_cases e2 : j = i
    · rw [if_pos e2, if_pos ⟨rfl, e2⟩]
    · rw [if_neg e2, if_neg fun h => e2 h.2]
  · rw [if_neg e, if_neg fun h => e h.1]
theorem sameB_setB {rows : Rows2} {K : List (List Bool)} {v : Nat} (i : Nat) (b : Bool) (h : sameB rows K) (hv : v < rows.length) : sameB rows (setB K v i b) := by
  refine ⟨by rw [setB_length]; exact h.1, fun w hw => ?_⟩
  rw [setB_row _ _ (by rw [h.1]; exact hv)]
  by_cases e : w = v
  · subst e; rw [if_pos rfl, List.length_set]; exact h.2 w hw
  · rw [if_neg e]; exact h.2 w hw
theorem sameB_all (rows : Rows2) : sameB rows (allT rows) := ⟨allT_length _, fun v hv => by rw [allT_row hv, List.length_replicate]⟩
theorem kpOf_all {rows : Rows2} {v i : Nat} (hv : v < rows.length) (hi : i < (rowOf rows v).length) : kpOf (allT rows) v i = true := by
  unfold kpOf; rw [allT_row hv, nthB_true hi]
/-- the cell of one bool, and what a store there leaves -/
theorem RowsB.setAt {w : World} {lo hi A cap v i : Nat} {K : List (List Bool)} {vs : Nat → Option Addr × Nat} (b : Bool) (h : RowsB w lo hi (some ⟨A, 0, none⟩) cap K vs) (hv : v < K.length) (hi' : i < (rowOf K v).length) :
    ∃ g, w.cell? ⟨A, v, none⟩ = some (.slice (some ⟨g, 0, none⟩) (rowOf K v).length (vs v).2) ∧ w.cell? ⟨g, i, none⟩ = some (cellB (rowOf K v) i) ∧ w.frozen? ⟨g, i, none⟩ = false ∧ lo ≤ g ∧
      RowsB (w.setCell ⟨g, i, none⟩ (.bool b)) lo hi (some ⟨A, 0, none⟩) cap (setB K v i b) vs ∧ Fr (fun k => k = g) w (w.setCell ⟨g, i, none⟩ (.bool b)) := by
  have hr := h.2.1 v hv
  obtain ⟨g, hg, hg1, hg2⟩ := Ow.addr hr (by omega)
  obtain ⟨g2, off, hae, _, hc⟩ := Rd.at (Ow.rd h.1) hv
  obtain ⟨rfl, rfl⟩ : A = g2 ∧ 0 = off := by injection hae with h; injection h with h1 h2; exact ⟨h1, h2⟩
  rw [Nat.zero_add] at hc
  rw [hg] at hc
  rw [hg] at hr
  obtain ⟨g3, off3, hae3, _, hc3⟩ := Rd.at (Ow.rd hr) hi'
  obtain ⟨rfl, rfl⟩ : g = g3 ∧ 0 = off3 := by injection hae3 with h; injection h with h1 h2; exact ⟨h1, h2⟩
  rw [Nat.zero_add] at hc3
  have hput := Ow.putV (.bool b) hr hi'
  have hfr : Fr (fun k => k = g) w (w.setCell ⟨g, i, none⟩ (.bool b)) := fr_set w g i _
  have hbg : blk (vs v).1 (vs v).2 = some g := by have := hr.1; rw [hg, blk, if_neg (by omega)]; rfl
  refine ⟨g, hc, hc3, Ow.frozen hr (by omega) i, hg2, RowsAt.upd h hv (by decide) (List.length_set ..) ?_ (hfr.mono fun k _ hk => by rw [hbg, hk]), hfr⟩
  rw [List.length_set, hg]
  refine hput.congr fun j hj => ?_
  unfold cellB
  rw [nthB_set _ hi']
  by_cases e : j = i
  · rw [if_pos e, if_pos e]
  · rw [if_neg e, if_neg e]
/-- a network cut: only the ports that are there matter -/
theorem cutN_congr {N : Net} (h : netB N = true) {kp kp' : Nat → Nat → Bool} (hk : ∀ v, v < N.ends.length → ∀ i, i < (rowOf N.ends v).length → kp v i = kp' v i) : cutN N kp = cutN N kp' := by
  unfold cutN
  congr 1
  refine List.map_congr_left fun v hv => ?_
  rw [List.mem_range] at hv
  unfold ctRow
  refine gRow_congr (n := (rowOf N.ends v).length) (fun j hj => ⟨hk v hv j hj, fun _ => ?_⟩) _ (Nat.le_refl _)
  obtain ⟨p, q, e, hp, hq, _⟩ := net_back h hv hj
  unfold ctE
  rw [e]
  simp only [Int.toNat_natCast]
  rw [rkF_congr (hk p hp) q (by omega)]
/-- spec.RemoveEdge's marks -/
def rmKs (rows : Rows2) (v i p q : Nat) : List (List Bool) := setB (setB (allT rows) v i false) p q false
theorem rmKs_same {rows : Rows2} {v i p q : Nat} (hv : v < rows.length) (hp : p < rows.length) : sameB rows (rmKs rows v i p q) := sameB_setB _ _ (sameB_setB _ _ (sameB_all rows) hv) hp
theorem rmKs_cut {N : Net} (h : netB N = true) {v i p q : Nat} (hv : v < N.ends.length) (hi : i < (rowOf N.ends v).length) (hp : p < N.ends.length) (hq : q < (rowOf N.ends p).length) (he : nthE (rowOf N.ends v) i = ((p : Int), (q : Int))) :
    cutN N (kpOf (rmKs N.ends v i p q)) = cutN N (rmK N.ends v i) := by
  refine cutN_congr h fun w hw j hj => ?_
  have s0 := sameB_all N.ends
  have s1 := sameB_setB i false s0 hv
  unfold rmKs
  rw [kpOf_setB _ (by rw [s1.1]; exact hp) (by rw [s1.2 p hp]; exact hq), kpOf_setB _ (by rw [s0.1]; exact hv) (by rw [s0.2 v hv]; exact hi), kpOf_all hw hj]
  unfold rmK
  rw [he]
  by_cases c1 : w = v ∧ j = i
  · rw [if_pos c1, decide_eq_true c1]; simp
  · rw [if_neg c1, decide_eq_false c1]
    by_cases c2 : w = p ∧ j = q
    · rw [if_pos c2, decide_eq_true (by obtain ⟨rfl, rfl⟩ := c2; exact ⟨rfl, rfl⟩)]; rfl
    · rw [if_neg c2, decide_eq_false (fun hh => c2 ⟨by have := hh.1; simp only at this; omega, by have := hh.2; simp only at this; omega⟩)]; rfl
theorem rmN_f {N : Net} {v i : Int} (h : rmOk N v i = false) : rmN N v i = nilN := by rw [rmN, h]; rfl
theorem rmN_t {N : Net} {v i : Nat} (h : rmOk N v i = true) : rmN N v i = cutN N (rmK N.ends v i) := by rw [rmN, h, Int.toNat_natCast, Int.toNat_natCast]; rfl
theorem rmOk_f0 {N : Net} {v i : Int} (h : netB N = false) : rmOk N v i = false := by rw [rmOk, h]; rfl
theorem rmOk_n {N : Net} {v i : Int} (h : netB N = true) : rmOk N v i = hasP N.ends v i := by rw [rmOk, h]; rfl
theorem rmN_sm {N : Net} {v i : Int} (h : NetSmall N) : NetSmall (rmN N v i) := by
  unfold rmN
  split
  · exact cutN_small _ h
  · show (0 : Nat) + 0 + 0 + 0 ≤ _; omega
end Go.Proofs.Ytlooinhdehkcdaa
