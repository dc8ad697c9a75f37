/- Edges: the plain words; impl's edges and spec's neEdges. -/
import Derived.Test.YtmjmgggfmccjmaaDoorNeGood
import Derived.Test.YtmjmgggfmccjmaaDoorJoin
namespace Go.Proofs.YtmjmgggfmccjmaaDoor
open Go.RowKit
set_option linter.unusedVariables false
set_option linter.unusedSimpArgs false
/-- an edge: node, port, node, port -/
structure Q4 where
  a : Int
  b : Int
  c : Int
  d : Int
def Q4.list (q : Q4) : List Int := [q.a, q.b, q.c, q.d]
def nthQ (qs : List Q4) (j : Nat) : Q4 := qs.getD j ⟨0, 0, 0, 0⟩
theorem nthQ_append_left (xs ys : List Q4) (j : Nat) (h : j < xs.length) : nthQ (xs ++ ys) j = nthQ xs j := by
  unfold nthQ; rw [List.getD_eq_getElem?_getD, List.getD_eq_getElem?_getD, List.getElem?_append_left h]
theorem nthQ_append_right (xs ys : List Q4) (j : Nat) (h : xs.length ≤ j) : nthQ (xs ++ ys) j = nthQ ys (j - xs.length) := by
  unfold nthQ; rw [List.getD_eq_getElem?_getD, List.getD_eq_getElem?_getD, List.getElem?_append_right h]
theorem takeQ_snoc (qs : List Q4) (k : Nat) (h : k < qs.length) : qs.take (k + 1) = qs.take k ++ [nthQ qs k] := by
  rw [List.take_succ_eq_append_getElem h]
  unfold nthQ; rw [List.getD_eq_getElem?_getD, List.getElem?_eq_getElem h]; rfl
/-- how edges lie in cells -/
def cellQ (qs : List Q4) (x : Nat) : Value :=
  .int .i64 (if x % 4 = 0 then (nthQ qs (x / 4)).a else if x % 4 = 1 then (nthQ qs (x / 4)).b else if x % 4 = 2 then (nthQ qs (x / 4)).c else (nthQ qs (x / 4)).d)
theorem cellQ_0 (qs : List Q4) (j : Nat) : cellQ qs (j * 4) = .int .i64 (nthQ qs j).a := by
  unfold cellQ; rw [if_pos (by omega), show j * 4 / 4 = j by omega]
theorem cellQ_1 (qs : List Q4) (j : Nat) : cellQ qs (j * 4 + 1) = .int .i64 (nthQ qs j).b := by
  unfold cellQ; rw [if_neg (by omega), if_pos (by omega), show (j * 4 + 1) / 4 = j by omega]
theorem cellQ_2 (qs : List Q4) (j : Nat) : cellQ qs (j * 4 + 2) = .int .i64 (nthQ qs j).c := by
  unfold cellQ; rw [if_neg (by omega), if_neg (by omega), if_pos (by omega), show (j * 4 + 2) / 4 = j by omega]
theorem cellQ_3 (qs : List Q4) (j : Nat) : cellQ qs (j * 4 + 3) = .int .i64 (nthQ qs j).d := by
  unfold cellQ; rw [if_neg (by omega), if_neg (by omega), if_neg (by omega), show (j * 4 + 3) / 4 = j by omega]
theorem cellQ_snoc {w : World} {lo hi : Nat} {e : TypeId} {a : Option Addr} {cap : Nat} {qs : List Q4} {q : Q4} (h : Ow w lo hi e 4 a (qs.length + 1) cap (app (cellQ qs) (qs.length * 4) [.int .i64 q.a, .int .i64 q.b, .int .i64 q.c, .int .i64 q.d])) : Ow w lo hi e 4 a (qs ++ [q]).length cap (cellQ (qs ++ [q])) := by
  have hl : (qs ++ [q]).length = qs.length + 1 := by simp
  rw [hl]
  refine h.congr fun j hj => ?_
  unfold app
  obtain ⟨i, hi⟩ : ∃ i, j = i * 4 ∨ j = i * 4 + 1 ∨ j = i * 4 + 2 ∨ j = i * 4 + 3 := ⟨j / 4, by omega⟩
  by_cases hlt : i < qs.length
  · rw [if_pos (by omega)]
    rcases hi with rfl | rfl | rfl | rfl
    · rw [cellQ_0, cellQ_0, nthQ_append_left _ _ _ hlt]
    · rw [cellQ_1, cellQ_1, nthQ_append_left _ _ _ hlt]
    · rw [cellQ_2, cellQ_2, nthQ_append_left _ _ _ hlt]
    · rw [cellQ_3, cellQ_3, nthQ_append_left _ _ _ hlt]
  · obtain rfl : i = qs.length := by omega
    rw [if_neg (by omega)]
    have hq : nthQ (qs ++ [q]) qs.length = q := by rw [nthQ_append_right _ _ _ (Nat.le_refl _), Nat.sub_self]; rfl
    rcases hi with rfl | rfl | rfl | rfl
    · rw [cellQ_0, hq, Nat.sub_self]; rfl
    · rw [cellQ_1, hq, show qs.length * 4 + 1 - qs.length * 4 = 1 by omega]; rfl
    · rw [cellQ_2, hq, show qs.length * 4 + 2 - qs.length * 4 = 2 by omega]; rfl
    · rw [cellQ_3, hq, show qs.length * 4 + 3 - qs.length * 4 = 3 by omega]; rfl
theorem news4 (w : World) (t : TypeId) (x y z u : Value) : ∀ j v, [x, y, z, u][j]? = some v → (w.alloc (.cells #[x, y, z, u] t)).cell? (Addr.add ⟨w.heap.size, 0, none⟩ j) = some v := by
  intro j v hj
  have hB := Bx.made w t #[x, y, z, u]
  match j, hj with
  | 0, hj => rw [Addr.add_lit]; exact hB.cell 0 _ hj
  | 1, hj => rw [Addr.add_lit]; exact hB.cell 1 _ hj
  | 2, hj => rw [Addr.add_lit]; exact hB.cell 2 _ hj
  | 3, hj => rw [Addr.add_lit]; exact hB.cell 3 _ hj
/-- the edges of a network -/
def firstB (v i : Nat) (p q : Int) : Bool := decide ((v : Int) < p ∨ ((v : Int) = p ∧ (i : Int) ≤ q))
def rowTo (es : List (Int × Int)) (v : Nat) : Nat → List Q4
  | 0 => []
  | i + 1 => rowTo es v i ++ if firstB v i (nthE es i).1 (nthE es i).2 then [⟨v, i, (nthE es i).1, (nthE es i).2⟩] else []
def edTo (rows : Rows2) : Nat → List Q4
  | 0 => []
  | v + 1 => edTo rows v ++ rowTo (rowOf rows v) v (rowOf rows v).length
def edQ (rows : Rows2) : List Q4 := edTo rows rows.length
theorem rowTo_le (es : List (Int × Int)) (v i : Nat) : (rowTo es v i).length ≤ i := by
  induction i with
  | zero => exact Nat.le_refl _
  | succ i ih =>
    rw [rowTo, List.length_append]
    split
    · simp; exact ih
    · simp; omega
theorem edTo_le (rows : Rows2) (k : Nat) (hk : k ≤ rows.length) : (edTo rows k).length ≤ Total (rows.take k) := by
  induction k with
  | zero => exact Nat.zero_le _
  | succ k ih =>
    rw [edTo, List.length_append, total_take _ _ (by omega)]
    have := rowTo_le (rowOf rows k) k (rowOf rows k).length
    have := ih (by omega)
    omega
theorem ed_le (rows : Rows2) (k i : Nat) (hk : k < rows.length) (hi : i ≤ (rowOf rows k).length) : (edTo rows k ++ rowTo (rowOf rows k) k i).length ≤ Total rows := by
  rw [List.length_append]
  have h1 := edTo_le rows k (by omega)
  have h2 := rowTo_le (rowOf rows k) k i
  have h3 := total_take rows k hk
  have h4 := total_take_le rows (k + 1)
  omega
theorem rowTo_yes {es : List (Int × Int)} {v i : Nat} {p q : Int} (he : nthE es i = (p, q)) (h : firstB v i p q = true) : rowTo es v (i + 1) = rowTo es v i ++ [⟨v, i, p, q⟩] := by rw [rowTo, he]; simp [h]
theorem rowTo_no {es : List (Int × Int)} {v i : Nat} {p q : Int} (he : nthE es i = (p, q)) (h : firstB v i p q = false) : rowTo es v (i + 1) = rowTo es v i := by rw [rowTo, he]; simp [h]
theorem edge_info : (Tryd.prog.info? 80).map (fun i => (i.zero, i.size, i.bytes)) = some (some (.agg #[.int .i64 0, .int .i64 0, .int .i64 0, .int .i64 0]), 4, 32) := by kernel_rfl
set_option maxHeartbeats 800000 in
theorem edges_any (V : Value) (N : Net) (w : World) (B : Nat) (hv : NetIn w B V N) (hB : B ≤ w.heap.size) (hs : NetSmall N) :
    Calls Tryd.prog 59 #[V] w fun e w' => ∃ a cap, e = .returned (.slice a (edQ N.ends).length cap) ∧ Ow w' w.heap.size w'.heap.size 80 4 a (edQ N.ends).length cap (cellQ (edQ N.ends)) ∧ Below w.heap.size w w' := by
  obtain ⟨a, c, vs, ai, ci, ap, cp, rfl, h1, _⟩ := hv
  have HROW := Lib.hid hs.row
  have HTOT := Lib.hid (show Total N.ends ≤ 1048576 by unfold NetSmall at hs; omega)
  have hl : N.ends.length ≤ 1048576 := by unfold NetSmall at hs; omega
  have b0 : Below w.heap.size w (w.alloc (.cells #[.slice a N.ends.length c, .slice ai N.ids.length ci, .slice ap N.inputs.length cp] 31)) := (by repeat (first | exact Below.refl _ _ | assumption | refine Below.alloc ?_ (by first | (simp; done) | (simp; omega) | omega) _ | refine Below.setCell ?_ (by first | (simp; done) | (simp; omega) | omega) _ | refine Below.drew ?_ | refine Below.drewN ?_ _))
  have h12 := RdEE.below h1 (b0.mono hB)
  clear h1
  go_enter Tryd.func59, Tryd.ntmps59
  go_wp2_with fail
  generalize hW : w.alloc (.cells #[.slice a N.ends.length c, .slice ai N.ids.length ci, .slice ap N.inputs.length cp] 31) = w0 at *
  have z0 := b0.size
  have hB0 : B ≤ w0.heap.size := by omega
  clear hW
  go_loopw [3, 11] (fun v i wr => ∃ k : Nat, k ≤ N.ends.length ∧ i = .int .i64 k ∧ (∃ a cap, v = .slice a (edTo N.ends k).length cap ∧ Ow wr w0.heap.size wr.heap.size 80 4 a (edTo N.ends k).length cap (cellQ (edTo N.ends k))) ∧ Below w0.heap.size w0 wr) (fun _ i _ => N.ends.length - (intOf i).toNat)
  case atStart => exact ⟨0, Nat.zero_le _, rfl, ⟨none, 0, rfl, Ow.nil _ _ _ _ _ _ _⟩, Below.refl _ _⟩
  case round =>
    obtain ⟨k, hk, rfl, ⟨a1, cap1, rfl, own1⟩, bel⟩ := hrel
    have hDw := bel.size
    by_cases hlt : k < N.ends.length
    · obtain ⟨g, off, rfl, _, hc1⟩ := Rd.at (h12.below (bel.mono hB0)).1 hlt
      have hrow := h12.2 k hlt
      have hL1 := HROW.out k hlt
      have HLE := Lib.hid (fun i hi => Nat.le_trans (ed_le N.ends k i hlt hi) HTOT.out)
      have HED := Lib.hid (show edTo N.ends (k + 1) = edTo N.ends k ++ rowTo (rowOf N.ends k) k (rowOf N.ends k).length from rfl)
      generalize (vs k).1 = ax at *
      generalize (vs k).2 = cx at *
      generalize rowOf N.ends k = es at *
      go_wp2_with fail
      clear hc1
      go_loopw [3, 18] (fun v i wr => ∃ j : Nat, j ≤ es.length ∧ i = .int .i64 j ∧ (∃ a cap, v = .slice a (edTo N.ends k ++ rowTo es k j).length cap ∧ Ow wr w0.heap.size wr.heap.size 80 4 a (edTo N.ends k ++ rowTo es k j).length cap (cellQ (edTo N.ends k ++ rowTo es k j))) ∧ Below w0.heap.size w0 wr) (fun _ i _ => es.length - (intOf i).toNat)
      case atStart => exact ⟨0, Nat.zero_le _, rfl, ⟨a1, cap1, by rw [rowTo, List.append_nil], by rw [rowTo, List.append_nil]; exact own1⟩, bel⟩
      case round =>
        obtain ⟨j, hj, rfl, ⟨a2, cap2, rfl, own2⟩, bel2⟩ := hrel
        have hDw2 := bel2.size
        by_cases hjlt : j < es.length
        · obtain ⟨p, q, hpq⟩ : ∃ p q, nthE es j = (p, q) := ⟨_, _, rfl⟩
          obtain ⟨g1, off1, hae1, _, hc1, hc2⟩ := RdE.at (hrow.below (bel2.mono hB0)) hjlt
          rw [hpq] at hc1 hc2
          have HPQ := Lib.hid hpq
          have hle := HLE.out j (Nat.le_of_lt hjlt)
          clear hpq
          subst hae1
          generalize hqs : edTo N.ends k ++ rowTo es k j = qs at *
          have HQS := Lib.hid hqs
          clear hqs
          by_cases hvp : (k : Int) < p
          · skip
            have HF := Lib.hid (show firstB k j p q = true from decide_eq_true (.inl hvp))
            go_wp2_with (at_builtin; refine wpList_app rfl _ _ _ rfl 80 (.agg #[.int .i64 0, .int .i64 0, .int .i64 0, .int .i64 0]) 4 32 Tryd.underlying77 edge_info rfl (by decide) w0.heap.size wr.heap.size a2 qs.length cap2 _ rfl (Ow.alloc (Ow.alloc own2 _) _) ⟨wr.heap.size + 1, 0, none⟩ 1 1 [.int .i64 (k : Int), .int .i64 (j : Int), .int .i64 p, .int .i64 q] rfl rfl (by have h := news4 (wr.alloc (.cells #[.int .i64 p, .int .i64 q] 44)) 80 (.int .i64 (k : Int)) (.int .i64 (j : Int)) (.int .i64 p) (.int .i64 q); rw [World.size_alloc] at h; exact h) (by simp [Value.oneCell']) (by decide) (by unfold maxLen; omega) (by omega) (by simp; omega) ?_; intro g' cap' w2 own3 hgr _ _)
            go_roundw
            case rel =>
              refine ⟨j + 1, by omega, by go_num, ⟨some ⟨g', 0, none⟩, cap', ?_, ?_⟩, ?_⟩
              · rw [rowTo_yes HPQ.out HF.out, ← List.append_assoc, HQS.out, List.length_append]; rfl
              · rw [rowTo_yes HPQ.out HF.out, ← List.append_assoc, HQS.out]; exact cellQ_snoc (q := ⟨k, j, p, q⟩) own3
              · exact below_app ((bel2.alloc hDw2 _).alloc (by simp; omega) _) (Ow.alloc (Ow.alloc own2 _) _) hgr (Nat.le_refl _) (by simp; omega)
            case measure => simp [intOf]; omega
          by_cases hvq : (k : Int) = p ∧ (j : Int) ≤ q
          · have hbe : ((k : Int) == p) = true := beq_iff_eq.2 hvq.1; have hjq := hvq.2; have HVQ := Lib.hid hvq; clear hvq
            have HF := Lib.hid (show firstB k j p q = true from decide_eq_true (.inr HVQ.out))
            go_wp2_with (at_builtin; refine wpList_app rfl _ _ _ rfl 80 (.agg #[.int .i64 0, .int .i64 0, .int .i64 0, .int .i64 0]) 4 32 Tryd.underlying77 edge_info rfl (by decide) w0.heap.size wr.heap.size a2 qs.length cap2 _ rfl (Ow.alloc (Ow.alloc own2 _) _) ⟨wr.heap.size + 1, 0, none⟩ 1 1 [.int .i64 (k : Int), .int .i64 (j : Int), .int .i64 p, .int .i64 q] rfl rfl (by have h := news4 (wr.alloc (.cells #[.int .i64 p, .int .i64 q] 44)) 80 (.int .i64 (k : Int)) (.int .i64 (j : Int)) (.int .i64 p) (.int .i64 q); rw [World.size_alloc] at h; exact h) (by simp [Value.oneCell']) (by decide) (by unfold maxLen; omega) (by omega) (by simp; omega) ?_; intro g' cap' w2 own3 hgr _ _)
            go_roundw
            case rel =>
              refine ⟨j + 1, by omega, by go_num, ⟨some ⟨g', 0, none⟩, cap', ?_, ?_⟩, ?_⟩
              · rw [rowTo_yes HPQ.out HF.out, ← List.append_assoc, HQS.out, List.length_append]; rfl
              · rw [rowTo_yes HPQ.out HF.out, ← List.append_assoc, HQS.out]; exact cellQ_snoc (q := ⟨k, j, p, q⟩) own3
              · exact below_app ((bel2.alloc hDw2 _).alloc (by simp; omega) _) (Ow.alloc (Ow.alloc own2 _) _) hgr (Nat.le_refl _) (by simp; omega)
            case measure => simp [intOf]; omega
          have HVQ := Lib.hid hvq
          by_cases hve : (k : Int) = p
          · have hbe : ((k : Int) == p) = true := beq_iff_eq.2 hve; have hjq : ¬ (j : Int) ≤ q := fun h => hvq ⟨hve, h⟩; clear hvq hve
            have HF := Lib.hid (show firstB k j p q = false from decide_eq_false (fun h => h.elim hvp HVQ.out))
            go_wp2_with fail
            go_roundw
            case rel =>
              refine ⟨j + 1, by omega, by go_num, ⟨a2, cap2, ?_, ?_⟩, ?_⟩
              · rw [rowTo_no HPQ.out HF.out, HQS.out]
              · rw [rowTo_no HPQ.out HF.out, HQS.out]; exact Ow.top (Ow.alloc own2 _)
              · exact bel2.alloc hDw2 _
            case measure => simp [intOf]; omega
          · have hbe : ((k : Int) == p) = false := beq_eq_false_iff_ne.2 hve; clear hvq hve
            have HF := Lib.hid (show firstB k j p q = false from decide_eq_false (fun h => h.elim hvp HVQ.out))
            go_wp2_with fail
            go_roundw
            case rel =>
              refine ⟨j + 1, by omega, by go_num, ⟨a2, cap2, ?_, ?_⟩, ?_⟩
              · rw [rowTo_no HPQ.out HF.out, HQS.out]
              · rw [rowTo_no HPQ.out HF.out, HQS.out]; exact Ow.top (Ow.alloc own2 _)
              · exact bel2.alloc hDw2 _
            case measure => simp [intOf]; omega
        · obtain rfl : j = es.length := by omega
          go_wp2_with fail
          go_roundw
          case rel => exact ⟨k + 1, by omega, by go_num, ⟨a2, cap2, by rw [HED.out], by rw [HED.out]; exact own2⟩, bel2⟩
          case measure => simp [intOf]; omega
    · obtain rfl : k = N.ends.length := by omega
      go_wp2_with fail
      go_ret
      exact ⟨a1, cap1, rfl, Ow.wide own1 z0 (Nat.le_refl _), b0.trans (bel.mono z0)⟩
theorem Ow.four {w : World} {lo hi b : Nat} {t : TypeId} {x y z u : Int} (h : Bx w b t #[.int .i64 x, .int .i64 y, .int .i64 z, .int .i64 u]) (hl : lo ≤ b) (hh : b < hi) : Ow w lo hi t 1 (some ⟨b, 0, none⟩) 4 4 (cellI [x, y, z, u]) := by
  refine Ow.of_row (F := cellI [x, y, z, u]) ⟨_, h, rfl, fun i hi => ?_⟩ hl hh (Nat.le_refl _) (by decide) fun j _ => rfl
  match i, hi with
  | 0, _ => rfl
  | 1, _ => rfl
  | 2, _ => rfl
  | 3, _ => rfl
def qL (qs : List Q4) : List (List Int) := qs.map Q4.list
theorem qL_length (qs : List Q4) : (qL qs).length = qs.length := List.length_map ..
theorem qL_snoc (qs : List Q4) (q : Q4) : qL (qs ++ [q]) = qL qs ++ [q.list] := List.map_append ..
theorem qL_row (qs : List Q4) (j : Nat) (hj : j < qs.length) : (rowOf (qL qs) j).length = 4 := by
  rw [rowOf_eq_getElem _ _ (by rw [qL_length]; exact hj)]
  simp [qL, Q4.list]
theorem qL_total (qs : List Q4) : Total (qL qs) = 4 * qs.length := by
  unfold Total qL
  induction qs with
  | nil => rfl
  | cons q qs ih => simp only [List.map_cons, List.sum_cons, ih, List.length_cons]; simp [Q4.list]; omega
set_option maxHeartbeats 400000 in
theorem neFirst_any (V : Value) (N : Net) (v i : Nat) (p q : Int) (w : World) (B : Nat) (hv : NetIn w B V N) (hB : B ≤ w.heap.size) (hs : NetSmall N) (hvl : v < N.ends.length) (hil : i < (rowOf N.ends v).length) (hpq : nthE (rowOf N.ends v) i = (p, q)) :
    Calls Tryd.prog 96 #[V, .int .i64 v, .int .i64 i] w fun e w' => e = .returned (.bool (firstB v i p q)) ∧ Below w.heap.size w w' := by
  obtain ⟨a, c, vs, ai, ci, ap, cp, rfl, h1, _⟩ := hv
  have hL1 := hs.row v hvl
  have hl : N.ends.length ≤ 1048576 := by unfold NetSmall at hs; omega
  have b0 : Below w.heap.size w (w.alloc (.cells #[.slice a N.ends.length c, .slice ai N.ids.length ci, .slice ap N.inputs.length cp] 31)) := (by repeat (first | exact Below.refl _ _ | assumption | refine Below.alloc ?_ (by first | (simp; done) | (simp; omega) | omega) _ | refine Below.setCell ?_ (by first | (simp; done) | (simp; omega) | omega) _ | refine Below.drew ?_ | refine Below.drewN ?_ _))
  have h12 := RdEE.below h1 (b0.mono hB)
  clear h1
  obtain ⟨g, off, rfl, hg, hc0⟩ := Rd.at h12.1 hvl
  obtain ⟨g1, off1, hae1, hg1, hc1, hc2⟩ := RdE.at (h12.2 v hvl) hil
  rw [hpq] at hc1 hc2
  rw [hae1] at hc0
  generalize rowOf N.ends v = es at *
  clear h12 hpq
  by_cases hvp : (v : Int) < p
  · skip
    have HF := Lib.hid (show firstB v i p q = true from decide_eq_true (.inl hvp))
    go_enter Tryd.func96, Tryd.ntmps96
    go_wp2_with fail
    go_ret
    exact ⟨ret_bool HF.out.symm, (by repeat (first | exact Below.refl _ _ | assumption | refine Below.alloc ?_ (by first | (simp; done) | (simp; omega) | omega) _ | refine Below.setCell ?_ (by first | (simp; done) | (simp; omega) | omega) _ | refine Below.drew ?_ | refine Below.drewN ?_ _))⟩
  by_cases hvq : (v : Int) = p ∧ (i : Int) ≤ q
  · have hbe : ((v : Int) == p) = true := beq_iff_eq.2 hvq.1; have hjq := hvq.2; have HVQ := Lib.hid hvq; clear hvq
    have HF := Lib.hid (show firstB v i p q = true from decide_eq_true (.inr HVQ.out))
    go_enter Tryd.func96, Tryd.ntmps96
    go_wp2_with fail
    go_ret
    exact ⟨ret_bool HF.out.symm, (by repeat (first | exact Below.refl _ _ | assumption | refine Below.alloc ?_ (by first | (simp; done) | (simp; omega) | omega) _ | refine Below.setCell ?_ (by first | (simp; done) | (simp; omega) | omega) _ | refine Below.drew ?_ | refine Below.drewN ?_ _))⟩
  have HVQ := Lib.hid hvq
  by_cases hve : (v : Int) = p
  · have hbe : ((v : Int) == p) = true := beq_iff_eq.2 hve; have hjq : ¬ (i : Int) ≤ q := fun h => hvq ⟨hve, h⟩; clear hvq hve
    have HF := Lib.hid (show firstB v i p q = false from decide_eq_false (fun h => h.elim hvp HVQ.out))
    go_enter Tryd.func96, Tryd.ntmps96
    go_wp2_with fail
    go_ret
    exact ⟨ret_bool HF.out.symm, (by repeat (first | exact Below.refl _ _ | assumption | refine Below.alloc ?_ (by first | (simp; done) | (simp; omega) | omega) _ | refine Below.setCell ?_ (by first | (simp; done) | (simp; omega) | omega) _ | refine Below.drew ?_ | refine Below.drewN ?_ _))⟩
  · have hbe : ((v : Int) == p) = false := beq_eq_false_iff_ne.2 hve; clear hvq hve
    have HF := Lib.hid (show firstB v i p q = false from decide_eq_false (fun h => h.elim hvp HVQ.out))
    go_enter Tryd.func96, Tryd.ntmps96
    go_wp2_with fail
    go_ret
    exact ⟨ret_bool HF.out.symm, (by repeat (first | exact Below.refl _ _ | assumption | refine Below.alloc ?_ (by first | (simp; done) | (simp; omega) | omega) _ | refine Below.setCell ?_ (by first | (simp; done) | (simp; omega) | omega) _ | refine Below.drew ?_ | refine Below.drewN ?_ _))⟩
theorem ints_info4 : (Tryd.prog.info? 23).map (fun i => (i.zero, i.size, i.bytes)) = some (some (.slice none 0 0), 1, 24) := by kernel_rfl
set_option maxHeartbeats 800000 in
theorem neEdges_any (V : Value) (N : Net) (w : World) (B : Nat) (hv : NetIn w B V N) (hB : B ≤ w.heap.size) (hs : NetSmall N) :
    Calls Tryd.prog 80 #[V] w fun e w' => ∃ a cap vs, e = .returned (.slice a (qL (edQ N.ends)).length cap) ∧ RowsI w' w.heap.size w'.heap.size a cap (qL (edQ N.ends)) vs ∧ Below w.heap.size w w' := by
  have HV := Lib.hid hv
  obtain ⟨a, c, vs, ai, ci, ap, cp, rfl, h1, _⟩ := hv
  have HROW := Lib.hid hs.row
  have HS := Lib.hid hs
  have HTOT := Lib.hid (show Total N.ends ≤ 1048576 by unfold NetSmall at hs; omega)
  have hl : N.ends.length ≤ 1048576 := by unfold NetSmall at hs; omega
  have BA := Bx.made w 31 #[.slice a N.ends.length c, .slice ai N.ids.length ci, .slice ap N.inputs.length cp]
  have b0 : Below w.heap.size w (w.alloc (.cells #[.slice a N.ends.length c, .slice ai N.ids.length ci, .slice ap N.inputs.length cp] 31)) := (by repeat (first | exact Below.refl _ _ | assumption | refine Below.alloc ?_ (by first | (simp; done) | (simp; omega) | omega) _ | refine Below.setCell ?_ (by first | (simp; done) | (simp; omega) | omega) _ | refine Below.drew ?_ | refine Below.drewN ?_ _))
  have h12 := RdEE.below h1 (b0.mono hB)
  clear h1
  go_enter Tryd.func80, Tryd.ntmps80
  go_wp2_with fail
  generalize hW : w.alloc (.cells #[.slice a N.ends.length c, .slice ai N.ids.length ci, .slice ap N.inputs.length cp] 31) = w0 at *
  have z0 := b0.size
  have hB0 : B ≤ w0.heap.size := by omega
  clear hW
  go_loopw [3, 11] (fun v i wr => ∃ k : Nat, k ≤ N.ends.length ∧ i = .int .i64 k ∧ (∃ a cap vo, v = .slice a (edTo N.ends k).length cap ∧ RowsI wr w0.heap.size wr.heap.size a cap (qL (edTo N.ends k)) vo) ∧ Below w0.heap.size w0 wr) (fun _ i _ => N.ends.length - (intOf i).toNat)
  case atStart => exact ⟨0, Nat.zero_le _, rfl, ⟨none, 0, fun _ => (none, 0), rfl, RowsAt.nil _ _ _ _ _⟩, Below.refl _ _⟩
  case round =>
    obtain ⟨k, hk, rfl, ⟨a1, cap1, vo, rfl, own1⟩, bel⟩ := hrel
    have hDw := bel.size
    by_cases hlt : k < N.ends.length
    · obtain ⟨g, off, rfl, _, hc1⟩ := Rd.at (h12.below (bel.mono hB0)).1 hlt
      have hrow := h12.2 k hlt
      have hL1 := HROW.out k hlt
      have HLE := Lib.hid (fun i hi => Nat.le_trans (ed_le N.ends k i hlt hi) HTOT.out)
      have HED := Lib.hid (show edTo N.ends (k + 1) = edTo N.ends k ++ rowTo (rowOf N.ends k) k (rowOf N.ends k).length from rfl)
      have HFI := Lib.hid (fun i p q X hX hi he => neFirst_any _ N k i p q X B (HV.out.below hX) hi HS.out hlt he)
      generalize (vs k).1 = ax at *
      generalize (vs k).2 = cx at *
      generalize rowOf N.ends k = es at *
      go_wp2_with fail
      clear hc1
      go_loopw [3, 18] (fun v i wr => ∃ j : Nat, j ≤ es.length ∧ i = .int .i64 j ∧ (∃ a cap vo, v = .slice a (edTo N.ends k ++ rowTo es k j).length cap ∧ RowsI wr w0.heap.size wr.heap.size a cap (qL (edTo N.ends k ++ rowTo es k j)) vo) ∧ Below w0.heap.size w0 wr) (fun _ i _ => es.length - (intOf i).toNat)
      case atStart => exact ⟨0, Nat.zero_le _, rfl, ⟨a1, cap1, vo, by rw [rowTo, List.append_nil], by rw [rowTo, List.append_nil]; exact own1⟩, bel⟩
      case round =>
        obtain ⟨j, hj, rfl, ⟨a2, cap2, vo2, rfl, own2⟩, bel2⟩ := hrel
        have hDw2 := bel2.size
        by_cases hjlt : j < es.length
        · obtain ⟨p, q, hpq⟩ : ∃ p q, nthE es j = (p, q) := ⟨_, _, rfl⟩
          obtain ⟨g1, off1, hae1, _, hc1, hc2⟩ := RdE.at (hrow.below (bel2.mono hB0)) hjlt
          rw [hpq] at hc1 hc2
          have HPQ := Lib.hid hpq
          have hle := HLE.out j (Nat.le_of_lt hjlt)
          clear hpq
          subst hae1
          generalize hqs : edTo N.ends k ++ rowTo es k j = qs at *
          have HQS := Lib.hid hqs
          clear hqs
          have BE := Bx.made wr 44 #[.int .i64 p, .int .i64 q]
          have bA : Below wr.heap.size wr (wr.alloc (.cells #[.int .i64 p, .int .i64 q] 44)) := (by repeat (first | exact Below.refl _ _ | assumption | refine Below.alloc ?_ (by first | (simp; done) | (simp; omega) | omega) _ | refine Below.setCell ?_ (by first | (simp; done) | (simp; omega) | omega) _ | refine Below.drew ?_ | refine Below.drewN ?_ _))
          have cA := (BA.new bel2).new bA
          have cA0 := cA.cell 0 _ rfl
          have cA1 := cA.cell 1 _ rfl
          have cA2 := cA.cell 2 _ rfl
          go_wp2_with fail
          refine (HFI.out j p q _ ((b0.trans (bel2.mono z0)).trans (bA.mono (by omega)) |>.mono hB) (by have := bA.size; omega) hjlt HPQ.out).mono ?_
          rintro e w1 ⟨rfl, bel3⟩
          replace BE := BE.new bel3
          replace own2 := RowsAt.new (RowsAt.new own2 bA) bel3
          have z3 : wr.heap.size + 1 ≤ w1.heap.size := by have := bel3.size; simpa using this
          have bel4 := (bel2.trans (bA.mono hDw2)).trans (bel3.mono (by have := bA.size; omega))
          have d0 := BE.cell 0 _ rfl
          have d1 := BE.cell 1 _ rfl
          clear bA bel3 cA cA0 cA1 cA2 hc1 hc2
          cases hf : firstB k j p q with
          | true =>
            have HF := Lib.hid hf
            clear hf
            have hol : Ow w1 w0.heap.size wr.heap.size 23 1 a2 qs.length cap2 (fun j => .slice (vo2 j).1 (rowOf (qL qs) j).length (vo2 j).2) := by have h := own2.1; rwa [qL_length] at h
            go_wp2_with (at_builtin; refine wpList_app rfl _ _ _ rfl 23 (.slice none 0 0) 1 24 Tryd.underlying35 ints_info4 rfl (by decide) w0.heap.size wr.heap.size a2 qs.length cap2 _ rfl (Ow.alloc (Ow.alloc hol _) _) ⟨w1.heap.size + 1, 0, none⟩ 1 1 [.slice (some ⟨w1.heap.size, 0, none⟩) 4 4] rfl rfl (by have h := cell_one_new (w1.alloc (.cells #[.int .i64 (k : Int), .int .i64 (j : Int), .int .i64 p, .int .i64 q] 3)) (.slice (some ⟨w1.heap.size, 0, none⟩) 4 4) 23; rw [World.size_alloc] at h; exact h) (by simp [Value.oneCell']) (by decide) (by unfold maxLen; omega) (by omega) (by simp; omega) ?_; intro g' cap' w2 own3 hgr _ _)
            go_roundw
            case rel =>
              have bx4 := (Bx.made w1 3 #[.int .i64 (k : Int), .int .i64 (j : Int), .int .i64 p, .int .i64 q]).alloc (.cells #[.slice (some ⟨w1.heap.size, 0, none⟩) 4 4] 23)
              refine ⟨j + 1, by omega, by go_num, ⟨some ⟨g', 0, none⟩, cap', setv vo2 (qL qs).length (some ⟨w1.heap.size, 0, none⟩, 4), ?_, ?_⟩, ?_⟩
              · rw [rowTo_yes HPQ.out HF.out, ← List.append_assoc, HQS.out, List.length_append]; rfl
              · rw [rowTo_yes HPQ.out HF.out, ← List.append_assoc, HQS.out, qL_snoc]
                refine RowsAt.snoc (w := (w1.alloc (.cells #[.int .i64 (k : Int), .int .i64 (j : Int), .int .i64 p, .int .i64 q] 3)).alloc (.cells #[.slice (some ⟨w1.heap.size, 0, none⟩) 4 4] 23)) (hi := w1.heap.size) (RowsAt.wide (RowsAt.new (RowsAt.new own2 ((Below.refl _ _).alloc (Nat.le_refl _) _)) ((Below.refl _ _).alloc (Nat.le_refl _) _)) (Nat.le_refl _) (by omega)) (by decide) (Ow.four bx4 (Nat.le_refl _) (by simp; omega)) (by omega) (by simp; omega) hgr ?_
                rw [qL_length]
                exact own3
              · exact below_app ((bel4.alloc (by omega) _).alloc (by simp; omega) _) (Ow.alloc (Ow.alloc hol _) _) hgr (Nat.le_refl _) (by simp; omega)
            case measure => simp [intOf]; omega
          | false =>
            have HF := Lib.hid hf
            clear hf
            go_wp2_with fail
            go_roundw
            case rel =>
              refine ⟨j + 1, by omega, by go_num, ⟨a2, cap2, vo2, ?_, ?_⟩, bel4⟩
              · rw [rowTo_no HPQ.out HF.out, HQS.out]
              · rw [rowTo_no HPQ.out HF.out, HQS.out]; exact RowsAt.top own2
            case measure => simp [intOf]; omega
        · obtain rfl : j = es.length := by omega
          go_wp2_with fail
          go_roundw
          case rel => exact ⟨k + 1, by omega, by go_num, ⟨a2, cap2, vo2, by rw [HED.out], by rw [HED.out]; exact own2⟩, bel2⟩
          case measure => simp [intOf]; omega
    · obtain rfl : k = N.ends.length := by omega
      go_wp2_with fail
      go_ret
      exact ⟨a1, cap1, vo, by rw [qL_length]; rfl, RowsAt.wide own1 z0 (Nat.le_refl _), b0.trans (bel.mono z0)⟩
def egR (N : Net) : List (List Int) := if netB N then qL (edQ N.ends) else []
theorem egR_t {N : Net} (h : netB N = true) : egR N = qL (edQ N.ends) := by rw [egR, h]; rfl
theorem egR_f {N : Net} (h : netB N = false) : egR N = [] := by rw [egR, h]; rfl
theorem edQ_le {N : Net} (h : NetSmall N) : (edQ N.ends).length ≤ 1048576 := by
  have h1 := edTo_le N.ends N.ends.length (Nat.le_refl _)
  have h2 := total_take_le N.ends N.ends.length
  unfold NetSmall at h
  unfold edQ
  omega
theorem RdQ.at {w : World} {lo hi : Nat} {e : TypeId} {a : Option Addr} {cap : Nat} {qs : List Q4} (h : Ow w lo hi e 4 a qs.length cap (cellQ qs)) {j : Nat} (hj : j < qs.length) :
    ∃ g, a = some ⟨g, 0, none⟩ ∧ w.cell? ⟨g, j * 4, none⟩ = some (.int .i64 (nthQ qs j).a) ∧ w.cell? ⟨g, j * 4 + 1, none⟩ = some (.int .i64 (nthQ qs j).b) ∧ w.cell? ⟨g, j * 4 + 2, none⟩ = some (.int .i64 (nthQ qs j).c) ∧ w.cell? ⟨g, j * 4 + 3, none⟩ = some (.int .i64 (nthQ qs j).d) := by
  obtain ⟨h1, h2, h3⟩ := h
  obtain ⟨g, F, ha, hl, hh, hr, hf⟩ := h3 (by omega)
  refine ⟨g, ha, ?_, ?_, ?_, ?_⟩
  · rw [hr.cell (by omega), hf _ (by omega), cellQ_0]
  · rw [hr.cell (by omega), hf _ (by omega), cellQ_1]
  · rw [hr.cell (by omega), hf _ (by omega), cellQ_2]
  · rw [hr.cell (by omega), hf _ (by omega), cellQ_3]
theorem egR_small {N : Net} (h : NetSmall N) : (egR N).length ≤ 1048576 ∧ (∀ j, j < (egR N).length → (rowOf (egR N) j).length ≤ 1048576) ∧ Total (egR N) ≤ 4000000000 := by
  have hl := edQ_le h
  cases hn : netB N with
  | true =>
    rw [egR_t hn, qL_length, qL_total]
    refine ⟨hl, fun j hj => ?_, by omega⟩
    rw [qL_row _ _ hj]; omega
  | false =>
    rw [egR_f hn]
    exact ⟨Nat.zero_le _, fun j hj => absurd hj (Nat.not_lt_zero _), Nat.zero_le _⟩
end Go.Proofs.YtmjmgggfmccjmaaDoor
