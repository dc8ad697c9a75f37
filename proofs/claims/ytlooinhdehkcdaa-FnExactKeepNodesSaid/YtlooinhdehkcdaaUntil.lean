/- A region that draws its order: operations that read may be taken first until its last phase (number m) begins. -/
import Derived.Test.YtlooinhdehkcdaaMem
import Derived.Deep.RegionHeld3
namespace Go.Proofs.Ytlooinhdehkcdaa
set_option linter.unusedVariables false
section
variable {P : Program} {ops : Array Oper} {Q : Exit → Act → World → Prop} {md : Region.Mode} {S : World → Prop} {m : Nat}
/-- in whatever order; S holds behind each operation until number m comes up -/
def wpU (P : Program) (md : Region.Mode) (ops : Array Oper) (Q : Exit → Act → World → Prop) (S : World → Prop) (m : Nat) : Nat → Array Bool → Act → World → Prop
  | 0, listed, a, w => Region.ready md ops listed = [] ∧ Q .normal a w
  | fuel + 1, listed, a, w => (Region.ready md ops listed = [] → Q .normal a w) ∧
      ∀ i ∈ Region.ready md ops listed, if i = m then wpOp P ops Q i (fun a' w' => wpAny P md ops Q fuel (listed.setIfInBounds i true) a' w') a w
        else wpOp P ops Q i (fun a' w' => S w' ∧ wpU P md ops Q S m fuel (listed.setIfInBounds i true) a' w') a w
theorem wpAny_of_U : ∀ (fuel : Nat) (listed : Array Bool) (a : Act) (w : World), wpU P md ops Q S m fuel listed a w → wpAny P md ops Q fuel listed a w
  | 0, _, _, _, h => h
  | fuel + 1, _, _, _, h => ⟨h.1, fun i hi => by
      have h2 := h.2 i hi
      by_cases e : i = m
      · rw [if_pos e] at h2; exact h2
      · rw [if_neg e] at h2; exact wpOp_mono (fun a' w' h' => wpAny_of_U fuel _ a' w' h'.2) h2⟩
/-- what a listed operation waits for is listed -/
def closedB (md : Region.Mode) (ops : Array Oper) (listed : Array Bool) : Bool :=
  (List.range ops.size).all fun j => !(listed.getD j false) || match ops[j]? with
    | some o => o.after.all fun e => !(Region.binds md e) || listed.getD e.on false
    | none => true
theorem closedB_spec {listed : Array Bool} (h : closedB md ops listed = true) {j : Nat} {o : Oper} (ho : ops[j]? = some o) (hj : listed.getD j false = true) : ∀ e ∈ o.after, Region.binds md e = true → listed.getD e.on false = true := fun e he hb => by
  have hlt : j < ops.size := (Array.getElem?_eq_some_iff.1 ho).1
  have h1 := List.all_eq_true.1 h j (List.mem_range.2 hlt)
  rw [hj, ho] at h1
  simp only [Bool.not_true, Bool.false_or] at h1
  have h2 := Array.all_eq_true_iff_forall_mem.1 h1 e he
  rw [hb] at h2
  simpa using h2
/-- number k waits, in n steps or fewer, for number i -/
def ancB (md : Region.Mode) (ops : Array Oper) : Nat → Nat → Nat → Bool
  | 0, _, _ => false
  | n + 1, k, i => match ops[k]? with
    | some o => o.after.any fun e => Region.binds md e && (e.on == i || ancB md ops n e.on i)
    | none => false
theorem ancB_listed {listed : Array Bool} (hc : closedB md ops listed = true) {i : Nat} : ∀ (n k : Nat), ancB md ops n k i = true → listed.getD k false = true → listed.getD i false = true
  | 0, _, h, _ => by cases h
  | n + 1, k, h, hk => by
    unfold ancB at h
    split at h
    · rename_i o ho
      obtain ⟨x, hx, h2⟩ := Array.any_eq_true.1 h
      simp only [Bool.and_eq_true, Bool.or_eq_true, beq_iff_eq] at h2
      have h3 := closedB_spec hc ho hk _ (Array.getElem_mem hx) h2.1
      rcases h2.2 with h4 | h4
      · rw [← h4]; exact h3
      · exact ancB_listed hc n _ h4 h3
    · cases h
theorem ancB_spec {i n : Nat} {listed : Array Bool} (h : ancB md ops n m i = true) (hc : closedB md ops listed = true) (hl : listed.getD i true = false) : m ∉ Region.ready md ops listed := fun hr => by
  obtain ⟨_, o, ho, hall⟩ := mem_ready.1 hr
  have hi : listed.getD i false = true := by
    cases n with
    | zero => cases h
    | succ n =>
      unfold ancB at h
      rw [ho] at h
      obtain ⟨x, hx, h2⟩ := Array.any_eq_true.1 h
      simp only [Bool.and_eq_true, Bool.or_eq_true, beq_iff_eq] at h2
      have h3 := hall _ (Array.getElem_mem hx) h2.1
      rcases h2.2 with h4 | h4
      · rw [← h4]; exact h3
      · exact ancB_listed hc n _ h4 h3
  rcases Nat.lt_or_ge i listed.size with h' | h'
  · simp [h'] at hl hi; rw [hl] at hi; cases hi
  · simp [Array.getElem?_eq_none h'] at hi
theorem closedB_set {listed : Array Bool} (hc : closedB md ops listed = true) {j : Nat} (hj : j ∈ Region.ready md ops listed) : closedB md ops (listed.setIfInBounds j true) = true := by
  obtain ⟨_, o, ho, hall⟩ := mem_ready.1 hj
  refine List.all_eq_true.2 fun k hk => ?_
  cases hok : ops[k]? with
  | none => simp
  | some ok =>
    cases hlk : (listed.setIfInBounds j true).getD k false with
    | false => simp
    | true =>
      simp only [Bool.not_true, Bool.false_or]
      refine Array.all_eq_true_iff_forall_mem.2 fun e he => ?_
      cases hb : Region.binds md e with
      | false => simp
      | true =>
        simp only [Bool.not_true, Bool.false_or]
        refine getD_set_true ?_
        by_cases hkj : k = j
        · subst hkj
          rw [ho] at hok
          injection hok with hok
          subst hok
          exact hall e he hb
        · refine closedB_spec hc hok ?_ e he hb
          have h9 : (listed.setIfInBounds j true).getD k false = listed.getD k false := getD_set_ne false (Ne.symm hkj)
          rw [← h9]; exact hlk
theorem wpU_first {i : Nat} {oi : Oper} {v : Value} (hi : ops[i]? = some oi) (hsel : ∀ (j : Nat) (o : Oper) cs b, ops[j]? = some o → o.op ≠ .select cs b)
    (hQ : ∀ c a w, Q (.panic c) (a.put oi.dst v) w → Q (.panic c) a w) (hm : i ≠ m) {nw : Nat} (hw : ancB md ops nw m i = true) :
    ∀ (fuel : Nat) (listed : Array Bool) (a : Act) (w : World), closedB md ops listed = true →
      (∀ j oj, ops[j]? = some oj → j ≠ i → listed.getD j true = false → (∀ e ∈ oj.after, Region.binds md e = true → e.on ≠ i) → oi.apart ops oj = true) →
      i ∈ Region.ready md ops listed → YieldsIf P ops S oi v a → S w →
      wpU P md ops Q S m fuel (listed.setIfInBounds i true) (a.put oi.dst v) w → wpU P md ops Q S m (fuel + 1) listed a w := by
  intro fuel
  induction fuel with
  | zero =>
    intro listed a w _ _ hr hy hS H
    refine ⟨fun h => (by rw [h] at hr; cases hr), fun j hj => ?_⟩
    by_cases hji : j = i
    · rw [if_neg (by rw [hji]; exact hm), hji]; exact hy.wpOp hi hS ⟨hS, H⟩
    · have := ready_mono hj hji
      rw [H.1] at this
      cases this
  | succ fuel ih =>
    intro listed a w hcl hfree hr hy hS H
    refine ⟨fun h => (by rw [h] at hr; cases hr), fun j hj => ?_⟩
    by_cases hji : j = i
    · rw [if_neg (by rw [hji]; exact hm), hji]; exact hy.wpOp hi hS ⟨hS, H⟩
    · have hjm : j ≠ m := fun e => ancB_spec hw hcl (mem_ready.1 hr).1 (e ▸ hj)
      have h1 := H.2 j (ready_mono hj hji)
      rw [if_neg hjm] at h1
      rw [if_neg hjm]
      obtain ⟨hjun, oj, hoj, hall⟩ := mem_ready.1 hj
      have hnot : ∀ e ∈ oj.after, Region.binds md e = true → e.on ≠ i := fun e he hb heq => by
        have h2 := hall e he hb
        have h0 := (mem_ready.1 hr).1
        rw [heq] at h2
        rcases Nat.lt_or_ge i listed.size with h' | h'
        · simp [h'] at h0 h2; rw [h0] at h2; cases h2
        · simp [Array.getElem?_eq_none h'] at h2
      have h2 := wpOp_putIf hoj (hfree j oj hoj hji hjun hnot) (fun cs b => hsel i oi cs b hi) (fun cs b => hsel j oj cs b hoj) hQ hy h1
      refine wpOp_mono (fun a' w' h3 => ⟨h3.2.1, ih (listed.setIfInBounds j true) a' w' (closedB_set hcl hj) (fun k ok hk hki hun hno => ?_) (ready_mono hr (Ne.symm hji)) h3.1 h3.2.1 ?_⟩) h2
      · refine hfree k ok hk hki ?_ hno
        by_cases hjk : j = k
        · subst hjk; exact hjun
        · rw [getD_set_ne true hjk] at hun; exact hun
      · rw [Array.setIfInBounds_comm _ _ hji]
        exact h3.2.2
theorem wpU_take {i : Nat} {oi : Oper} {v : Value} {fuel : Nat} {listed : Array Bool} {a : Act} {w : World} (hi : ops[i]? = some oi)
    (hs : Region.noSelect ops = true) (hf : Region.free md ops listed i = true) (hr : (Region.ready md ops listed).contains i = true) (hm : (i == m) = false) (hw : ancB md ops 12 m i = true) (hcl : closedB md ops listed = true)
    (hQ : ∀ c a w, Q (.panic c) (a.put oi.dst v) w → Q (.panic c) a w) (hy : YieldsIf P ops S oi v a) (hS : S w)
    (h : wpU P md ops Q S m fuel (listed.setIfInBounds i true) (a.put oi.dst v) w) : wpU P md ops Q S m (fuel + 1) listed a w :=
  wpU_first hi (Region.noSelect_spec hs) hQ (by simpa using hm) hw fuel listed a w hcl (Region.free_spec hi hf) (by simpa using hr) hy hS h
/-- each of the operations rs comes up next -/
def AllReadyU (P : Program) (md : Region.Mode) (ops : Array Oper) (Q : Exit → Act → World → Prop) (S : World → Prop) (m fuel : Nat) (listed : Array Bool) (a : Act) (w : World) (rs : List Nat) : Prop :=
  ∀ i ∈ rs, wpOp P ops Q i (fun a' w' => S w' ∧ wpU P md ops Q S m fuel (listed.setIfInBounds i true) a' w') a w
theorem AllReadyU.nil {fuel : Nat} {listed : Array Bool} {a : Act} {w : World} : AllReadyU P md ops Q S m fuel listed a w [] := fun _ h => by cases h
theorem AllReadyU.cons {fuel : Nat} {listed : Array Bool} {a : Act} {w : World} {i : Nat} {o : Oper} {rs : List Nat} (ho : ops[i]? = some o)
    (h : ∀ K' : Act → World → Prop, Shut (∀ a w, S w → (S w → wpU P md ops Q S m fuel (listed.setIfInBounds i true) a w) → K' a w) → if Region.wanted o (yielded ops a.tmps) = true then Oper.wp P o a w K' Q else K' (a.put o.dst undef) w)
    (hs : AllReadyU P md ops Q S m fuel listed a w rs) : AllReadyU P md ops Q S m fuel listed a w (i :: rs) := fun j hj => by
  rcases List.mem_cons.1 hj with rfl | hj
  · exact wpOp_step ho (fun K' hK => h K' (fun a w hS hW => hK a w ⟨hS, hW hS⟩))
  · exact hs j hj
theorem wpU_ready {rs : List Nat} {fuel : Nat} {listed : Array Bool} {a : Act} {w : World} (hr : Region.ready md ops listed = rs) (hne : rs ≠ []) (hm : rs.contains m = false)
    (h : AllReadyU P md ops Q S m fuel listed a w rs) : wpU P md ops Q S m (fuel + 1) listed a w :=
  ⟨fun h0 => absurd (hr ▸ h0) hne, fun i hi => by
    have hi2 : i ∈ rs := hr ▸ hi
    rw [if_neg (fun e => by rw [e] at hi2; simp [hi2] at hm)]
    exact h i hi2⟩
/-- number m alone is left to come up: from here on nothing is held -/
theorem wpU_last {fuel : Nat} {listed : Array Bool} {a : Act} {w : World} (hr : Region.ready md ops listed = [m])
    (h : wpAnyH P md ops Q (fun _ => True) (fuel + 1) listed a w) : wpU P md ops Q S m (fuel + 1) listed a w :=
  ⟨fun h0 => absurd (hr ▸ h0) (by simp), fun i hi => by
    have hi2 : i ∈ [m] := hr ▸ hi
    rw [if_pos (by simpa using hi2)]
    exact (wpAny_of_held _ _ _ _ h).2 i hi⟩
/-- the beginning -/
theorem wp_region_until {id : Nat} {a : Act} {w : World} (m : Nat) (S : World → Prop) (hp : P.follows .mixedOrders = true) (hS : S w.drew)
    (h : S w.drew → wpU P .any ops Q S m ops.size (Array.replicate ops.size false) a w.drew) : (Code.region id ops true).wp P Q a w :=
  wp_region_any hp (wpAny_of_U _ _ _ _ (h hS))
end
end Go.Proofs.Ytlooinhdehkcdaa
