/- ParseEdgeList: the plain law. -/
import Derived.Test.YtmjmgggfmccjmaaGreatDoorStub
import Derived.Test.YtmjmgggfmccjmaaGreatDoorRenP
import Derived.Test.YtmjmgggfmccjmaaGreatDoorRdP
namespace Go.Proofs.YtmjmgggfmccjmaaGreatDoor
open Go.RowKit
set_option linter.unusedVariables false
set_option linter.unusedSimpArgs false
/-- a line of the list: a stub, or an edge -/
abbrev PelOp := Nat × Option Nat
def pelNode (n : Nat) (l : List UInt8) : Bool := inR (readL l) 0 ((n : Int) - 1)
def pelOp (n : Nat) (l : List UInt8) : Option PelOp := match spl 32 l with
  | [a] => if pelNode n a = true then some ((readL a).toNat, none) else none
  | [a, b] => if pelNode n a = true ∧ pelNode n b = true then some ((readL a).toNat, some (readL b).toNat) else none
  | _ => none
def pelDo (N : Net) : PelOp → Net
  | (v, none) => stubN N v
  | (v, some u) => joinN N v u
/-- the network of the first k lines -/
def pelN (n : Nat) (ls : List (List UInt8)) : Nat → Net
  | 0 => emptyN n
  | k + 1 => match pelOp n (ls.getD k []) with
    | some op => pelDo (pelN n ls k) op
    | none => pelN n ls k
/-- nodes and places are there, ends lead back: what is always so -/
def Wf (rows : Rows2) : Prop := ∀ v i, v < rows.length → i < (rowOf rows v).length → ∃ p q : Nat, nthE (rowOf rows v) i = ((p : Int), (q : Int)) ∧ p < rows.length ∧ q < (rowOf rows p).length ∧ nthE (rowOf rows p) q = ((v : Int), (i : Int))
theorem Wf.portB {rows : Rows2} (h : Wf rows) {v i : Nat} (hv : v < rows.length) (hi : i < (rowOf rows v).length) : portB rows v i = true := by
  obtain ⟨p, q, e, hp, hq, e2⟩ := h v i hv hi
  unfold Go.Proofs.YtmjmgggfmccjmaaGreatDoor.portB
  rw [e, Bool.and_eq_true]
  refine ⟨?_, decide_eq_true e2⟩
  unfold hasP hasN
  rw [Bool.and_eq_true]
  simp only [Int.toNat_natCast]
  exact ⟨inR_t (by omega) (by omega), inR_t (by omega) (by omega)⟩
/-- good: no node has more than six ends -/
def degB (rows : Rows2) : Bool := decide (∀ v, v < rows.length → (rowOf rows v).length ≤ 6)
theorem rowsB_deg {rows : Rows2} (h : Wf rows) : rowsB rows = degB rows := by
  unfold rowsB degB
  rw [Bool.eq_iff_iff, decide_eq_true_iff, decide_eq_true_iff]
  constructor
  · intro hh v hv
    exact (of_decide_eq_true (hh v hv : rowB rows v = true)).1
  · intro hh v hv
    exact rowB_t (hh v hv) fun i hi => h.portB hv hi
theorem rowOf_nil (n v : Nat) : rowOf (List.replicate n ([] : List (Int × Int))) v = [] := by
  unfold rowOf
  rw [List.getD_eq_getElem?_getD, List.getElem?_replicate]
  split <;> rfl
theorem wf_empty (n : Nat) : Wf (emptyN n).ends := fun v i _ hi => by
  have e : (emptyN n).ends = List.replicate n [] := rfl
  rw [e, rowOf_nil] at hi
  exact absurd hi (by simp)
theorem nthE_left {xs ys : List (Int × Int)} {j : Nat} (h : j < xs.length) : nthE (xs ++ ys) j = nthE xs j := by
  unfold nthE; rw [List.getD_eq_getElem?_getD, List.getD_eq_getElem?_getD, List.getElem?_append_left h]
theorem nthE_last (xs : List (Int × Int)) (e : Int × Int) : nthE (xs ++ [e]) xs.length = e := by
  unfold nthE; rw [List.getD_eq_getElem?_getD, List.getElem?_append_right (Nat.le_refl _)]; simp
theorem nthE_last2 (xs : List (Int × Int)) (d e : Int × Int) : nthE (xs ++ [d] ++ [e]) (xs.length + 1) = e := by
  have := nthE_last (xs ++ [d]) e
  rwa [List.length_append] at this
theorem wf_stub {rows : Rows2} (h : Wf rows) {v : Nat} (hv : v < rows.length) : Wf (addP rows v (v : Int) ((rowOf rows v).length : Int)) := by
  intro x i hx hi
  rw [addP_length] at hx
  rw [addP_row _ _ _ _ _ hv] at hi ⊢
  have old : ∀ y j, y < rows.length → j < (rowOf rows y).length → ∃ p q : Nat, nthE (rowOf rows y) j = ((p : Int), (q : Int)) ∧ p < (addP rows v (v : Int) ((rowOf rows v).length : Int)).length ∧ q < (rowOf (addP rows v (v : Int) ((rowOf rows v).length : Int)) p).length ∧ nthE (rowOf (addP rows v (v : Int) ((rowOf rows v).length : Int)) p) q = ((y : Int), (j : Int)) := by
    intro y j hy hj
    obtain ⟨p, q, e1, hp, hq, e2⟩ := h y j hy hj
    refine ⟨p, q, e1, by rw [addP_length]; exact hp, ?_, ?_⟩
    · rw [addP_row _ _ _ _ _ hv]
      split
      · rename_i c; subst c; rw [List.length_append]; simp; omega
      · exact hq
    · rw [addP_row _ _ _ _ _ hv]
      split
      · rename_i c; subst c; rw [nthE_left hq]; exact e2
      · exact e2
  by_cases c : x = v
  · subst c
    rw [if_pos rfl] at hi ⊢
    by_cases ci : i < (rowOf rows x).length
    · rw [nthE_left ci]
      exact old x i hx ci
    · have ei : i = (rowOf rows x).length := by rw [List.length_append] at hi; simp at hi; omega
      subst ei
      rw [nthE_last]
      refine ⟨x, (rowOf rows x).length, rfl, by rw [addP_length]; exact hx, ?_, ?_⟩
      · rw [addP_row _ _ _ _ _ hv, if_pos rfl, List.length_append]; simp
      · rw [addP_row _ _ _ _ _ hv, if_pos rfl, nthE_last]
  · rw [if_neg c] at hi ⊢
    exact old x i hx hi
/-- a row after a join -/
theorem joinR_at {rows : Rows2} {v u : Nat} (hv : v < rows.length) (hu : u < rows.length) (x : Nat) :
    rowOf (joinR rows v u) x = rowOf rows x ++ (if x = v then [((u : Int), (((rowOf rows u).length + if v = u then 1 else 0 : Nat) : Int))] else []) ++ (if x = u then [((v : Int), ((rowOf rows v).length : Int))] else []) := by
  unfold joinR
  rw [addP_row _ _ _ _ _ (by rw [addP_length]; exact hu), addP_row _ _ _ _ _ hv, addP_row _ _ _ _ _ hv]
  by_cases c1 : x = u
  · subst c1
    rw [if_pos rfl, if_pos rfl]
    by_cases c2 : x = v
    · subst c2; simp only [↓reduceIte]
    · rw [if_neg c2, if_neg c2, List.append_nil]
  · rw [if_neg c1, if_neg c1, List.append_nil]
    by_cases c2 : x = v
    · subst c2; rw [if_pos rfl, if_pos rfl]
    · rw [if_neg c2, if_neg c2, List.append_nil]
theorem wf_join {rows : Rows2} (h : Wf rows) {v u : Nat} (hv : v < rows.length) (hu : u < rows.length) : Wf (joinR rows v u) := by
  have hge : ∀ y, (rowOf rows y).length ≤ (rowOf (joinR rows v u) y).length := fun y => by rw [joinR_at hv hu]; simp only [List.length_append]; omega
  have hold : ∀ y j, j < (rowOf rows y).length → nthE (rowOf (joinR rows v u) y) j = nthE (rowOf rows y) j := fun y j hj => by rw [joinR_at hv hu, List.append_assoc, nthE_left hj]
  -- the two new ends
  have newV : (rowOf rows v).length < (rowOf (joinR rows v u) v).length ∧ nthE (rowOf (joinR rows v u) v) (rowOf rows v).length = ((u : Int), (((rowOf rows u).length + if v = u then 1 else 0 : Nat) : Int)) := by
    rw [joinR_at hv hu, if_pos rfl]
    refine ⟨by simp only [List.length_append, List.length_cons, List.length_nil]; omega, ?_⟩
    rw [nthE_left (by simp)]
    exact nthE_last _ _
  have newU : (rowOf rows u).length + (if v = u then 1 else 0) < (rowOf (joinR rows v u) u).length ∧ nthE (rowOf (joinR rows v u) u) ((rowOf rows u).length + if v = u then 1 else 0) = ((v : Int), ((rowOf rows v).length : Int)) := by
    rw [joinR_at hv hu]
    by_cases c : v = u
    · subst c
      simp only [↓reduceIte]
      exact ⟨by simp only [List.length_append, List.length_cons, List.length_nil]; omega, nthE_last2 _ _ _⟩
    · have c2 : ¬ u = v := fun e => c e.symm
      simp only [if_neg c, if_neg c2, ↓reduceIte, List.append_nil, Nat.add_zero]
      exact ⟨by simp, nthE_last _ _⟩
  intro x i hx hi
  rw [joinR_length] at hx
  by_cases ci : i < (rowOf rows x).length
  · obtain ⟨p, q, e1, hp, hq, e2⟩ := h x i hx ci
    exact ⟨p, q, by rw [hold x i ci]; exact e1, by rw [joinR_length]; exact hp, Nat.lt_of_lt_of_le hq (hge p), by rw [hold p q hq]; exact e2⟩
  · have hl : (rowOf (joinR rows v u) x).length = (rowOf rows x).length + (if x = v then 1 else 0) + (if x = u then 1 else 0) := by
      rw [joinR_at hv hu, List.length_append, List.length_append]
      congr 1
      · congr 1; split <;> rfl
      · split <;> rfl
    have key : (x = v ∧ i = (rowOf rows v).length) ∨ (x = u ∧ i = (rowOf rows u).length + if v = u then 1 else 0) := by
      by_cases c1 : x = v
      · by_cases c2 : x = u
        · have c3 : v = u := by omega
          rw [if_pos c1, if_pos c2] at hl
          rw [if_pos c3]
          subst c1
          by_cases c4 : i = (rowOf rows x).length
          · exact .inl ⟨rfl, c4⟩
          · exact .inr ⟨c2, by rw [← c2]; omega⟩
        · rw [if_pos c1, if_neg c2] at hl
          subst c1
          exact .inl ⟨rfl, by omega⟩
      · by_cases c2 : x = u
        · rw [if_neg c1, if_pos c2] at hl
          have c3 : ¬ v = u := by omega
          rw [if_neg c3]
          exact .inr ⟨c2, by rw [← c2]; omega⟩
        · rw [if_neg c1, if_neg c2] at hl; omega
    rcases key with ⟨rfl, rfl⟩ | ⟨rfl, rfl⟩
    · exact ⟨u, _, newV.2, by rw [joinR_length]; exact hu, newU.1, newU.2⟩
    · exact ⟨v, _, newU.2, by rw [joinR_length]; exact hv, newV.1, newV.2⟩
/-! ### the networks of the lines -/
def opIn (n : Nat) (op : PelOp) : Prop := op.1 < n ∧ ∀ u, op.2 = some u → u < n
theorem pelNode_nat {n : Nat} {l : List UInt8} (h : pelNode n l = true) : readL l = ((readL l).toNat : Int) ∧ (readL l).toNat < n := by
  have := inR_iff.1 h
  omega
theorem pelOp_in {n : Nat} {l : List UInt8} {op : PelOp} (h : pelOp n l = some op) : opIn n op := by
  unfold pelOp at h
  split at h
  · split at h
    · rename_i hn
      injection h with h
      subst h
      exact ⟨(pelNode_nat hn).2, fun u hu => by cases hu⟩
    · cases h
  · split at h
    · rename_i hn
      injection h with h
      subst h
      refine ⟨(pelNode_nat hn.1).2, fun u hu => ?_⟩
      injection hu with hu
      subst hu
      exact (pelNode_nat hn.2).2
    · cases h
  · cases h
structure PelFacts (n k : Nat) (N : Net) : Prop where
  len : N.ends.length = n
  ids : N.ids = []
  inp : N.inputs = List.replicate n 0
  tot : Total N.ends ≤ 2 * k
  wf : Wf N.ends
theorem pel_zero (n : Nat) : PelFacts n 0 (emptyN n) := ⟨List.length_replicate .., rfl, rfl, by rw [show Total (emptyN n).ends = 0 from total_replicate n]; omega, wf_empty n⟩
theorem pel_do {n k : Nat} {N : Net} {op : PelOp} (h : PelFacts n k N) (ho : opIn n op) : PelFacts n (k + 1) (pelDo N op) := by
  obtain ⟨v, u⟩ := op
  have hv : v < N.ends.length := by rw [h.len]; exact ho.1
  cases u with
  | none =>
    refine ⟨(addP_length ..).trans h.len, h.ids, h.inp, ?_, wf_stub h.wf hv⟩
    have := total_addP N.ends v (v : Int) ((rowOf N.ends v).length : Int) hv
    have := h.tot
    show Total (addP _ _ _ _) ≤ _
    omega
  | some u =>
    have hu : u < N.ends.length := by rw [h.len]; exact ho.2 u rfl
    refine ⟨(joinR_length ..).trans h.len, h.ids, h.inp, ?_, wf_join h.wf hv hu⟩
    have := total_joinR N.ends v u hv hu
    have := h.tot
    show Total (joinR _ _ _) ≤ _
    omega
theorem pel_facts (n : Nat) (ls : List (List UInt8)) : ∀ k, PelFacts n k (pelN n ls k)
  | 0 => pel_zero n
  | k + 1 => by
    have ih := pel_facts n ls k
    cases hop : pelOp n (ls.getD k []) with
    | none => rw [show pelN n ls (k + 1) = pelN n ls k by rw [pelN, hop]]; exact ⟨ih.len, ih.ids, ih.inp, by have := ih.tot; omega, ih.wf⟩
    | some op => rw [show pelN n ls (k + 1) = pelDo (pelN n ls k) op by rw [pelN, hop]]; exact pel_do ih (pelOp_in hop)
theorem PelFacts.small {n k : Nat} {N : Net} (h : PelFacts n k N) (hn : n ≤ 40) (hk : k ≤ 10000) : NetSmall N := by
  unfold NetSmall
  rw [h.len, h.ids, h.inp, List.length_replicate]
  have := h.tot
  simp
  omega
/-- good: just the degrees -/
theorem PelFacts.good {n k : Nat} {N : Net} (h : PelFacts n k N) (hn1 : 1 ≤ n) (hn : n ≤ 40) : netB N = degB N.ends := by
  unfold netB
  rw [h.len, h.ids, h.inp, inR_t (by omega) (by omega), idsB_empty, rowsB_deg h.wf]
  have hi : inpB (List.replicate n 0) n = true := by
    unfold inpB
    rw [Bool.and_eq_true]
    refine ⟨decide_eq_true (List.length_replicate ..), decide_eq_true fun j hj => ?_⟩
    rw [nth_replicate]; omega
  rw [hi]; rfl
theorem deg_mono {n k : Nat} {N : Net} {op : PelOp} (h : PelFacts n k N) (ho : opIn n op) (hd : degB (pelDo N op).ends = true) : degB N.ends = true := by
  have h2 := of_decide_eq_true hd
  refine decide_eq_true fun v hv => ?_
  have hl : (pelDo N op).ends.length = N.ends.length := by rw [(pel_do h ho).len, h.len]
  have h3 := h2 v (by omega)
  obtain ⟨x, u⟩ := op
  have hx : x < N.ends.length := by rw [h.len]; exact ho.1
  cases u with
  | none =>
    have e : rowOf (pelDo N (x, none)).ends v = if v = x then rowOf N.ends x ++ [((x : Int), ((rowOf N.ends x).length : Int))] else rowOf N.ends v := addP_row _ _ _ _ _ hx
    rw [e] at h3
    split at h3
    · rename_i c; subst c; rw [List.length_append] at h3; omega
    · exact h3
  | some u =>
    have hu : u < N.ends.length := by rw [h.len]; exact ho.2 u rfl
    have e : rowOf (pelDo N (x, some u)).ends v = _ := joinR_at hx hu v
    rw [e, List.length_append, List.length_append] at h3
    omega
/-- good at the end: good at every line -/
theorem deg_all (n : Nat) (ls : List (List UInt8)) {m : Nat} (hd : degB (pelN n ls m).ends = true) : ∀ k, k ≤ m → degB (pelN n ls k).ends = true := by
  induction m with
  | zero => intro k hk; rw [show k = 0 by omega]; exact hd
  | succ m ih =>
    have hm : degB (pelN n ls m).ends = true := by
      rw [pelN] at hd
      cases hop : pelOp n (ls.getD m []) with
      | none => rw [hop] at hd; exact hd
      | some op => rw [hop] at hd; exact deg_mono (pel_facts n ls m) (pelOp_in hop) hd
    intro k hk
    by_cases c : k = m + 1
    · subst c; exact hd
    · exact ih hm k (by omega)
end Go.Proofs.YtmjmgggfmccjmaaGreatDoor
