/- append onto a row of the call's own (or one without capacity), in these words. -/
import Derived.Test.YtlooinhdehkcdaaMemB
namespace Go.Proofs.Ytlooinhdehkcdaa
open Go.RowKit
set_option linter.unusedVariables false
section
variable {P : Program} {w : World} {lo hi size n cap : Nat} {e : TypeId} {a : Option Addr} {f : Nat → Value}

/-- what stands behind an append -/
def app (f : Nat → Value) (n : Nat) (news : List Value) (j : Nat) : Value := if j < n then f j else news.getD (j - n) undef

theorem Ow.ownsRow (h : Ow w lo hi e size a n cap f) (hc : 0 < cap) : w.ownsRow lo e size (.slice a n cap) n ((List.range (n * size)).map f) := by
  obtain ⟨h1, h2, h3⟩ := h
  obtain ⟨g, F, rfl, hl, hh, ⟨cs, hb, hs, hi⟩, hf⟩ := h3 hc
  refine ⟨by simp, .inr ⟨g, cap, cs, rfl, hl, hb, h1, h2, hs, ?_⟩⟩
  have hle : n * size ≤ cap * size := Nat.mul_le_mul_right _ h1
  apply List.ext_getElem (by simp; omega)
  intro j hj1 hj2
  have hj : j < n * size := by simpa using hj2
  have := hi j (by omega)
  rw [Array.getElem?_eq_getElem (by omega)] at this
  simp only [Option.some.injEq] at this
  simp only [List.getElem_take, Array.getElem_toList, List.getElem_map, List.getElem_range, this, hf j hj]

theorem Ow.of_ownsRow {v : Value} {xs : List Value} (h : w.ownsRow lo e size v n xs) (hn : 0 < n) :
    ∃ g cap, v = .slice (some ⟨g, 0, none⟩) n cap ∧ 0 < cap ∧ Ow w lo w.heap.size e size (some ⟨g, 0, none⟩) n cap (fun j => xs.getD j undef) := by
  obtain ⟨hl, h⟩ := h
  rcases h with ⟨_, h0⟩ | ⟨g, cap, cur, rfl, hb, hg, hnc, hm, hs, ht⟩
  · omega
  · refine ⟨g, cap, rfl, by omega, hnc, hm, fun _ => ⟨g, fun j => cur.getD j undef, rfl, hb, (Array.getElem?_eq_some_iff.1 hg).1, ⟨cur, hg, hs, fun i hi => by simp [hi, hs]⟩, fun j hj => ?_⟩⟩
    have hle : n * size ≤ cap * size := Nat.mul_le_mul_right _ hnc
    rw [← ht]
    simp only [List.getD_eq_getElem?_getD, List.getElem?_take_of_lt hj, Array.getD_eq_getD_getElem?, Array.getElem?_toList]

theorem getD_app (f : Nat → Value) (k : Nat) (news : List Value) (j : Nat) : ((List.range k).map f ++ news).getD j undef = app f k news j := by
  unfold app
  by_cases h : j < k
  · rw [if_pos h, List.getD_eq_getElem?_getD, List.getElem?_append_left (by simpa using h)]; simp [h]
  · rw [if_neg h, List.getD_eq_getElem?_getD, List.getElem?_append_right (by simpa using Nat.le_of_not_lt h), List.getD_eq_getElem?_getD]; simp

theorem run_app (w : World) (t ty e : TypeId) (z : Value) (size bytes : Nat) (ht : P.underlying t = some (.slice e)) (hinfo : (P.info? e).map (fun i => (i.zero, i.size, i.bytes)) = some (some z, size, bytes)) (hzs : z.cells.size = size) (hsz : 0 < size)
    (lo hi : Nat) (ao : Option Addr) (n cap : Nat) (f : Nat → Value) (hown : Ow w lo hi e size ao n cap f)
    (ad : Addr) (m c : Nat) (news : List Value) (hl : news.length = m * size) (hnews : ∀ j u, news[j]? = some u → w.cell? (ad.add j) = some u) (h1 : ∀ u ∈ news, u.oneCell' = true)
    (hm : 0 < m) (h63 : n + m ≤ maxLen) (hbytes : (n + m) * bytes ≤ 140737488355328) (hlo : lo ≤ w.heap.size) :
    ∃ g' cap' w', (Builtin.append_ #[t, t] ty #[.slice ao n cap, .slice (some ad) m c]).run P w = .ok (.slice (some ⟨g', 0, none⟩) (n + m) cap') w' ∧
      Ow w' lo w'.heap.size e size (some ⟨g', 0, none⟩) (n + m) cap' (app f (n * size) news) ∧ w.grownBy w' (blk ao cap) ∧ (blk ao cap = some g' ∨ g' = w.heap.size) ∧ 0 < cap' := by
  obtain ⟨i, hi', hz, hsize, hby⟩ := info_parts hinfo
  rcases Nat.eq_zero_or_pos cap with h0 | h0
  · subst h0
    have hn0 : n = 0 := by have := hown.1; omega
    subst hn0
    have hbl : blk ao 0 = none := rfl
    have key : ∃ v' w', (Builtin.append_ #[t, t] ty #[.slice ao 0 0, .slice (some ad) m c]).run P w = .ok v' w' ∧ w'.ownsRow w.heap.size e size v' (0 + m) ([] ++ news) ∧ w.grownBy w' none := by
      cases ao with
      | some b => exact run_append_arg_grows (P := P) w t ty e i z size bytes ht hi' hz hsize hby hzs hsz b 0 0 [] (by simp) (fun j u hj => by simp at hj) ad m c news hl hnews (by omega) (by omega) hbytes
      | none =>
        obtain ⟨v', w', hrun, r1, r2, _⟩ := run_append_own (P := P) w w.heap.size t ty e i z size bytes ht hi' hz hsize hby hzs hsz (.slice none 0 0) 0 [] (World.ownsRow_nil w _ e size) ad m c news hl hnews h1 h63 hbytes (Nat.le_refl _)
        exact ⟨v', w', hrun, r1, by simpa [Value.ownBlock] using r2⟩
    obtain ⟨v', w', hrun, hown', hg⟩ := key
    obtain ⟨g', cap', rfl, hc', how⟩ := Ow.of_ownsRow hown' (by omega)
    have how2 := how
    obtain ⟨_, _, hk⟩ := how2
    obtain ⟨g2, F2, e2, hlo2, hhi2, hrow2, hF2⟩ := hk hc'
    have e3 : g' = g2 := by injection e2 with e2; injection e2
    subst e3
    refine ⟨g', cap', w', hrun, ⟨how.1, how.2.1, fun _ => ⟨g', F2, rfl, by omega, hhi2, hrow2, fun j hj => ?_⟩⟩, by rw [hbl]; exact hg, ?_, hc'⟩
    · rw [hF2 j hj, Nat.zero_mul]; simp [app]
    · -- a new block: the heap's size
      right
      have hlt := hrow2.lt
      rcases Nat.lt_or_ge g' w.heap.size with hh | hh
      · omega
      · cases ao with
        | none =>
          have := run_append_own_at (P := P) w w.heap.size t ty e i z size bytes ht hi' hz hsize hby hzs hsz (.slice none 0 0) 0 [] (World.ownsRow_nil w _ e size) ad m c news hl hnews h1 h63 hbytes (Nat.le_refl _)
          obtain ⟨v2, w2, hr2, _, _, _, hb2⟩ := this
          rw [hrun] at hr2
          injection hr2 with hr2 _
          subst hr2
          rcases hb2 with hb2 | hb2
          · simp [Value.ownBlock] at hb2
          · simpa [Value.ownBlock] using hb2
        | some b =>
          have hgr := run_append_grow (P := P) w t ty e i z ht hi' hz b 0 0 [] (by simp) (fun j u hj => by simp at hj) ad m c news (by rw [hsize]; exact hl) hnews (by omega) (by simp only [maxLen] at h63; omega) (by rw [hby]; exact growslice_fits (by omega) hbytes)
          rw [hrun] at hgr
          injection hgr with hgr _
          injection hgr with hgr
          injection hgr with hgr
          injection hgr with hgr
  · have hor := hown.ownsRow h0
    obtain ⟨_, _, h3⟩ := hown
    obtain ⟨g, F, rfl, hl1, hh1, hr1, hf1⟩ := h3 h0
    have hbl : blk (some ⟨g, 0, none⟩) cap = some g := by rw [blk, if_neg (by omega)]; rfl
    obtain ⟨v', w', hrun, hown', hg, _, hb⟩ := run_append_own_at (P := P) w lo t ty e i z size bytes ht hi' hz hsize hby hzs hsz _ n _ hor ad m c news hl hnews h1 h63 hbytes hlo
    obtain ⟨g', cap', rfl, hc', how⟩ := Ow.of_ownsRow hown' (by omega)
    refine ⟨g', cap', w', hrun, how.congr fun j hj => ?_, by rw [hbl]; exact hg, ?_, hc'⟩
    · rw [getD_app]
    · rcases hb with hb | hb
      · left; rw [hbl]; simp [Value.ownBlock] at hb; rw [hb]
      · right; simpa [Value.ownBlock] using hb
end

section
variable {P : Program} {w : World} {ops : Array Oper} {rest : List Oper} {o : Oper} {a : Act} {Q : Exit → Act → World → Prop}
/-- for the walk: 'append(s, x...)', at least one new element -/
theorem wpList_app (hgd : o.guard = none) (s x : Operand) (t : TypeId) (ho : o.op = .call { callee := .builtin .append, args := #[s, x], argTypes := #[t, t] })
    (e : TypeId) (z : Value) (size bytes : Nat) (ht : P.underlying t = some (.slice e)) (hinfo : (P.info? e).map (fun i => (i.zero, i.size, i.bytes)) = some (some z, size, bytes)) (hzs : z.cells.size = size) (hsz : 0 < size)
    (lo hi : Nat) (ao : Option Addr) (n cap : Nat) (f : Nat → Value) (hs : a.eval s = .slice ao n cap) (hown : Ow w lo hi e size ao n cap f)
    (ad : Addr) (m c : Nat) (news : List Value) (hx : a.eval x = .slice (some ad) m c) (hl : news.length = m * size) (hnews : ∀ j u, news[j]? = some u → w.cell? (ad.add j) = some u) (h1 : ∀ u ∈ news, u.oneCell' = true)
    (hm : 0 < m) (h63 : n + m ≤ maxLen) (hbytes : (n + m) * bytes ≤ 140737488355328) (hlo : lo ≤ w.heap.size)
    (h : ∀ g' cap' w', Ow w' lo w'.heap.size e size (some ⟨g', 0, none⟩) (n + m) cap' (app f (n * size) news) → w.grownBy w' (blk ao cap) → (blk ao cap = some g' ∨ g' = w.heap.size) → 0 < cap' → wpList P ops Q rest (a.put o.dst (.slice (some ⟨g', 0, none⟩) (n + m) cap')) w') :
    wpList P ops Q (o :: rest) a w := by
  refine wpList_plain hgd fun K hK => ?_
  obtain ⟨g', cap', w', hr, h2, h3, h4, h5⟩ := run_app (P := P) w t o.type e z size bytes ht hinfo hzs hsz lo hi ao n cap f hown ad m c news hl hnews h1 hm h63 hbytes hlo
  unfold Oper.wp execOp
  simp only [ho, resolve, invoke, builtin, Sem.run_bind, Sem.run_pure, Result.andThen_ok, List.map_toArray, List.map_cons, List.map_nil, hs, hx, hr]
  exact hK _ _ (h g' cap' w' h2 h3 h4 h5)
end
/-- one int more on an own row of ints -/
theorem OwI.snoc {w : World} {lo hi : Nat} {a : Option Addr} {cap : Nat} {zs : List Int} {z : Int} (h : Ow w lo hi 3 1 a (zs.length + 1) cap (app (fun j => .int .i64 (nth zs j)) (zs.length * 1) [.int .i64 z])) : OwI w lo hi a cap (zs ++ [z]) := by
  have hl : (zs ++ [z]).length = zs.length + 1 := by simp
  unfold OwI
  rw [hl]
  refine h.congr fun j hj => ?_
  unfold app
  by_cases hlt : j < zs.length
  · rw [if_pos (by omega), nth_append_left _ _ _ hlt]
  · rw [if_neg (by omega), nth_append_right _ _ _ (by omega)]
    rw [show j - zs.length * 1 = 0 by omega, show j - zs.length = 0 by omega]; rfl

/-- 's[k:]' of a slice: the address is another's, or all that is left is nothing -/
theorem wpList_cut {P : Program} {w : World} {ops : Array Oper} {rest : List Oper} {o : Oper} {a : Act} {Q : Exit → Act → World → Prop} (hgd : o.guard = none) (s x : Operand) (t : TypeId) (ho : o.op = .slice t s (some x) none none)
    (e : TypeId) (ht : P.underlying t = some (.slice e)) (z : Value) (size bytes : Nat) (hinfo : (P.info? e).map (fun i => (i.zero, i.size, i.bytes)) = some (some z, size, bytes))
    (ao : Option Addr) (n cap : Nat) (hs : a.eval s = .slice ao n cap) (kd : IntKind) (L : Int) (k : Nat) (hx : a.eval x = .int kd L) (hL : L = (k : Int)) (hk : k ≤ n)
    (h : ∀ A, (A = ao.map (·.add (k * size)) ∨ cap = k) → wpList P ops Q rest (a.put o.dst (.slice A (n - k) (cap - k))) w) :
    wpList P ops Q (o :: rest) a w := by
  refine wpList_plain hgd fun K hK => ?_
  subst hL
  obtain ⟨i, hi, _, hsz, _⟩ := info_parts hinfo
  have hrun : (Instr.slice t (.slice ao n cap) (some (.int kd (k : Int))) none none).run P w = .ok (.slice (if cap = k then ao else ao.map (·.add (k * size))) (n - k) (cap - k)) w := by
    have hel : P.elem t = e := by simp [Program.elem, ht]
    rw [run_slice_l (P := P) w t ao n cap (by rw [hel]; exact ht) kd k (by omega) (by omega), hel]
    simp [sizeOf, typeInfo, hi, hsz, sliced]
  unfold Oper.wp execOp
  simp only [ho, hs, hx, Option.map_some, Option.map_none, Sem.run_bind]
  rw [run_sliceAt_slice (P := P) w t _ _ _ _ (by rw [show P.elem t = e by simp [Program.elem, ht]]; exact ht), hrun]
  refine hK _ _ (h _ ?_)
  by_cases hc : cap = k
  · exact .inr hc
  · exact .inl (by rw [if_neg hc])
end Go.Proofs.Ytlooinhdehkcdaa
