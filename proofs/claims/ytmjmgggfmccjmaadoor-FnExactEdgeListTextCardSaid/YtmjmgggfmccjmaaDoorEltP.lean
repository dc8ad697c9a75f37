/- EdgeListText: the plain law. -/
import Derived.Test.YtmjmgggfmccjmaaDoorEdge
import Derived.Test.YtmjmgggfmccjmaaDoorLLab
import Derived.Test.YtmjmgggfmccjmaaDoorTxtP
import Derived.Test.YtmjmgggfmccjmaaDoorNetS
namespace Go.Proofs.YtmjmgggfmccjmaaDoor
open Go.RowKit
set_option linter.unusedVariables false
set_option linter.unusedSimpArgs false
def elStub (q : Q4) : Bool := decide (q.a = q.c ∧ q.b = q.d)
def elMid (q : Q4) : List UInt8 := if elStub q = true then [] else [32] ++ Lib.decDigits q.c.toNat
/-- the lines of the first k edges -/
def elT (n : Nat) (qs : List Q4) : Nat → List UInt8
  | 0 => Lib.decDigits n ++ [10]
  | k + 1 => elT n qs k ++ Lib.decDigits (nthQ qs k).a.toNat ++ elMid (nthQ qs k) ++ [10]
def okQ (n : Nat) (q : Q4) : Prop := (∃ x : Nat, q.a = (x : Int) ∧ x < n) ∧ (∃ x : Nat, q.c = (x : Int) ∧ x < n)
theorem rowTo_ok {es : List (Int × Int)} {v n : Nat} (hv : v < n) (he : ∀ i, i < es.length → ∃ x : Nat, (nthE es i).1 = (x : Int) ∧ x < n) : ∀ i, i ≤ es.length → ∀ q ∈ rowTo es v i, okQ n q
  | 0, _, q, hq => by cases hq
  | i + 1, hi, q, hq => by
    rw [rowTo, List.mem_append] at hq
    rcases hq with hq | hq
    · exact rowTo_ok hv he i (by omega) q hq
    · split at hq
      · obtain rfl := List.mem_singleton.1 hq
        exact ⟨⟨v, rfl, hv⟩, he i (by omega)⟩
      · cases hq
theorem edTo_ok {N : Net} (h : netB N = true) : ∀ k, k ≤ N.ends.length → ∀ q ∈ edTo N.ends k, okQ N.ends.length q
  | 0, _, q, hq => by cases hq
  | k + 1, hk, q, hq => by
    rw [edTo, List.mem_append] at hq
    rcases hq with hq | hq
    · exact edTo_ok h k (by omega) q hq
    · refine rowTo_ok (by omega) (fun i hi => ?_) _ (Nat.le_refl _) q hq
      obtain ⟨p, r, e, hp, _, _⟩ := net_back h (show k < N.ends.length by omega) hi
      exact ⟨p, by rw [e], hp⟩
theorem edQ_ok {N : Net} (h : netB N = true) {k : Nat} (hk : k < (edQ N.ends).length) : okQ N.ends.length (nthQ (edQ N.ends) k) := by
  have e : nthQ (edQ N.ends) k = (edQ N.ends)[k] := by unfold nthQ; rw [List.getD_eq_getElem?_getD, List.getElem?_eq_getElem hk]; rfl
  rw [e]
  exact edTo_ok h _ (Nat.le_refl _) _ (List.getElem_mem hk)
theorem dec_two {m : Nat} (h : m < 100) : (Lib.decDigits m).length ≤ 2 := by
  by_cases h3 : m < 10
  · rw [Lib.decDigits_one h3]; simp
  · rw [Lib.decDigits_two h3 h]; simp
theorem elMid_len {n : Nat} {q : Q4} (h : okQ n q) (hn : n ≤ 40) : (elMid q).length ≤ 3 := by
  obtain ⟨_, x, hx, hx2⟩ := h
  unfold elMid
  split
  · simp
  · rw [hx]
    have := dec_two (show x < 100 by omega)
    simp; omega
theorem elT_len {n : Nat} {qs : List Q4} (hn : n ≤ 40) (h : ∀ k, k < qs.length → okQ n (nthQ qs k)) : ∀ k, k ≤ qs.length → (elT n qs k).length ≤ 3 + k * 6
  | 0, _ => by have := dec_two (show n < 100 by omega); rw [elT]; simp; omega
  | k + 1, hk => by
    have ih := elT_len hn h k (by omega)
    have h1 := h k (by omega)
    have h2 := elMid_len h1 hn
    obtain ⟨⟨x, hx, hx2⟩, _⟩ := h1
    have h3 := dec_two (show x < 100 by omega)
    rw [elT, hx]
    simp; omega
def eltR (N : Net) : ByteArray := if netB N then bs (elT N.ends.length (edQ N.ends) (edQ N.ends).length) else ByteArray.empty
theorem eltR_f {N : Net} (h : netB N = false) : eltR N = ByteArray.empty := by rw [eltR, h]; rfl
theorem eltR_t {N : Net} (h : netB N = true) : eltR N = bs (elT N.ends.length (edQ N.ends) (edQ N.ends).length) := by rw [eltR, h]; rfl
/-- what the walks add, step by step: t the text so far, u1 with the node, v1 blank and other node, u2 both, t' the whole line -/
structure ElAdd (q : Q4) (x y : Nat) (t u1 v1 u2 t' : ByteArray) : Prop where
  one : ∀ X : World, (Op.stringOp .add t (decB x)).run Tryd.prog X = .ok (.string u1) X
  blank : ∀ X : World, (Op.stringOp .add ⟨#[32]⟩ (decB y)).run Tryd.prog X = .ok (.string v1) X
  two : ∀ X : World, (Op.stringOp .add u1 v1).run Tryd.prog X = .ok (.string u2) X
  endS : elStub q = true → ∀ X : World, (Op.stringOp .add u1 ⟨#[10]⟩).run Tryd.prog X = .ok (.string t') X
  endE : elStub q = false → ∀ X : World, (Op.stringOp .add u2 ⟨#[10]⟩).run Tryd.prog X = .ok (.string t') X
theorem elAdd {n : Nat} {qs : List Q4} (hn : n ≤ 40) (h : ∀ k, k < qs.length → okQ n (nthQ qs k)) (hl : qs.length ≤ 1048576) {k x y : Nat} (hk : k < qs.length) (hx : (nthQ qs k).a = (x : Int)) (hy : (nthQ qs k).c = (y : Int)) (hx2 : x < 100) (hy2 : y < 100) :
    ∃ u1 v1 u2, ElAdd (nthQ qs k) x y (bs (elT n qs k)) u1 v1 u2 (bs (elT n qs (k + 1))) := by
  have h0 := elT_len hn h k (by omega)
  have d1 := dec_two hx2
  have d2 := dec_two hy2
  refine ⟨bs (elT n qs k ++ Lib.decDigits x), bs ([32] ++ Lib.decDigits y), bs (elT n qs k ++ Lib.decDigits x ++ ([32] ++ Lib.decDigits y)), fun X => str_add _ _ X (by omega), fun X => str_add [32] _ X (by simp; omega), fun X => str_add _ _ X (by simp; omega), fun hs X => ?_, fun hs X => ?_⟩
  · have e : elT n qs (k + 1) = (elT n qs k ++ Lib.decDigits x) ++ [10] := by rw [elT, hx, elMid, if_pos hs, List.append_nil]; rfl
    rw [e]
    exact str_add _ [10] X (by simp; omega)
  · have e : elT n qs (k + 1) = (elT n qs k ++ Lib.decDigits x ++ ([32] ++ Lib.decDigits y)) ++ [10] := by rw [elT, hx, elMid, hs, if_neg (by decide), hy]; rfl
    rw [e]
    exact str_add _ [10] X (by simp; omega)
theorem qL_at (qs : List Q4) (j : Nat) (hj : j < qs.length) : rowOf (qL qs) j = (nthQ qs j).list := by
  rw [rowOf_eq_getElem _ _ (by rw [qL_length]; exact hj)]
  unfold nthQ
  rw [List.getD_eq_getElem?_getD, List.getElem?_eq_getElem hj]
  simp [qL]
theorem RdI.rd4 {w : World} {B : Nat} {a : Option Addr} {l : List Int} {q : Q4} (h : RdI w B a l) (hl : l = q.list) :
    ∃ g o, a = some ⟨g, o, none⟩ ∧ g < B ∧ w.cell? ⟨g, o + 0, none⟩ = some (.int .i64 q.a) ∧ w.cell? ⟨g, o + 1, none⟩ = some (.int .i64 q.b) ∧ w.cell? ⟨g, o + 2, none⟩ = some (.int .i64 q.c) ∧ w.cell? ⟨g, o + 3, none⟩ = some (.int .i64 q.d) := by
  subst hl
  obtain ⟨g, o, e, hg, hc⟩ := h (by show 0 < 4; omega)
  exact ⟨g, o, e, hg, hc 0 (by show 0 < 4; omega), hc 1 (by show 1 < 4; omega), hc 2 (by show 2 < 4; omega), hc 3 (by show 3 < 4; omega)⟩
end Go.Proofs.YtmjmgggfmccjmaaDoor
