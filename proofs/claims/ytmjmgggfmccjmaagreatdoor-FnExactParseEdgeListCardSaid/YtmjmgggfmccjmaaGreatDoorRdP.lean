/- Texts cut at a byte, and texts read as numbers: the plain law. -/
import Derived.Lib.ItoaNum
import Derived.Lib.Atoi
import Derived.Lib.AtoiAllCases
import Derived.Lib.AtoiTie
import Derived.Lib.Split
import Derived.Lib.SplitLaws
namespace Go.Proofs.YtmjmgggfmccjmaaGreatDoor
set_option linter.unusedVariables false
set_option linter.unusedSimpArgs false
/-- a text cut at each occurrence of a byte -/
def spl (c : UInt8) : List UInt8 → List (List UInt8)
  | [] => [[]]
  | b :: l => if b = c then [] :: spl c l else match spl c l with
    | [] => [[b]]
    | h :: t => (b :: h) :: t
theorem spl_ne (c : UInt8) (l : List UInt8) : spl c l ≠ [] := by
  cases l with
  | nil => simp [spl]
  | cons b l =>
    rw [spl]
    split
    · simp
    · split <;> simp
theorem spl_last (c : UInt8) : ∀ a : List UInt8, c ∉ a → spl c a = [a]
  | [], _ => rfl
  | b :: a, h => by
    rw [spl, if_neg (fun e => h (by simp [e])), spl_last c a (fun e => h (by simp [e]))]
theorem spl_cut (c : UInt8) (r : List UInt8) : ∀ a : List UInt8, c ∉ a → spl c (a ++ c :: r) = a :: spl c r
  | [], _ => by simp [spl]
  | b :: a, h => by
    rw [List.cons_append, spl, if_neg (fun e => h (by simp [e])), spl_cut c r a (fun e => h (by simp [e]))]
/-- the first occurrence -/
theorem index_one_none (c : UInt8) : ∀ s : List UInt8, Lib.index s [c] = -1 → c ∉ s
  | [], _ => by simp
  | b :: l, h => by
    rw [Lib.index] at h
    by_cases hb : c = b
    · subst hb; simp [List.isPrefixOf] at h
    · have hp : ([c] : List UInt8).isPrefixOf (b :: l) = false := by simp [List.isPrefixOf, hb]
      rw [hp] at h
      by_cases hm : Lib.index l [c] = -1
      · have := index_one_none c l hm
        simp [hb, this]
      · have hge := Lib.index_ge l [c]
        have hm' : (Lib.index l [c] == -1) = false := by simpa using hm
        rw [hm'] at h
        simp at h
        omega
theorem index_one_some (c : UInt8) : ∀ (s : List UInt8) (i : Nat), Lib.index s [c] = (i : Int) → ∃ a r, s = a ++ c :: r ∧ a.length = i ∧ c ∉ a
  | [], i, h => by simp [Lib.index] at h
  | b :: l, i, h => by
    rw [Lib.index] at h
    by_cases hb : c = b
    · subst hb
      have hp : ([c] : List UInt8).isPrefixOf (c :: l) = true := by simp [List.isPrefixOf]
      rw [hp] at h
      simp at h
      exact ⟨[], l, rfl, by simp; omega, by simp⟩
    · have hp : ([c] : List UInt8).isPrefixOf (b :: l) = false := by simp [List.isPrefixOf, hb]
      rw [hp] at h
      have hge := Lib.index_ge l [c]
      by_cases hm : Lib.index l [c] = -1
      · rw [hm] at h; simp at h
      · have hm' : (Lib.index l [c] == -1) = false := by simpa using hm
        rw [hm'] at h
        simp at h
        obtain ⟨a, r, e1, e2, e3⟩ := index_one_some c l (i - 1) (by omega)
        exact ⟨b :: a, r, by rw [e1]; rfl, by simp; omega, by simp [hb, e3]⟩
theorem splitK_one (c : UInt8) : ∀ (n : Nat) (s : List UInt8), s.length ≤ n → Lib.splitK [c] 0 (Lib.count s [c]) s = spl c s
  | n, s, hn => by
    by_cases hm : Lib.index s [c] = -1
    · rw [Lib.count_miss hm, Lib.splitK, spl_last c s (index_one_none c s hm)]
    · have hge := Lib.index_ge s [c]
      obtain ⟨i, hi⟩ := Int.eq_ofNat_of_zero_le (show 0 ≤ Lib.index s [c] by omega)
      obtain ⟨a, r, rfl, rfl, hc⟩ := index_one_some c s i hi
      have hd : (a ++ c :: r).drop (a.length + ([c] : List UInt8).length) = r := by simp
      rw [Lib.count_hit (by simp) hi, hd, Nat.add_comm, Lib.splitK]
      have hm' : ¬ (Lib.index (a ++ c :: r) [c] == -1) = true := by simpa using hm
      rw [if_neg hm', hi, spl_cut c r a hc]
      have e : (((a.length : Nat) : Int)).toNat = a.length := rfl
      rw [e, hd]
      simp only [Nat.add_zero, List.take_left']
      cases n with
      | zero => simp at hn
      | succ n =>
        rw [splitK_one c n r (by simp at hn; omega)]
theorem split_one (c : UInt8) (s : List UInt8) : Lib.split s [c] = spl c s := splitK_one c s.length s (Nat.le_refl _)
theorem cut_one_none {c : UInt8} {s : List UInt8} (h : c ∉ s) : Lib.cut s [c] = (s, [], false) := by
  have hm : Lib.index s [c] = -1 := by
    by_cases hm : Lib.index s [c] = -1
    · exact hm
    · have hge := Lib.index_ge s [c]
      obtain ⟨i, hi⟩ := Int.eq_ofNat_of_zero_le (show 0 ≤ Lib.index s [c] by omega)
      obtain ⟨a, r, rfl, rfl, hc⟩ := index_one_some c s i hi
      exact absurd h (by simp)
  unfold Lib.cut
  rw [if_neg (by omega)]
theorem cut_one_some {c : UInt8} {a r : List UInt8} (h : c ∉ a) : Lib.cut (a ++ c :: r) [c] = (a, r, true) := by
  have hge := Lib.index_ge (a ++ c :: r) [c]
  have hm : Lib.index (a ++ c :: r) [c] ≠ -1 := fun hm => index_one_none c _ hm (by simp)
  obtain ⟨i, hi⟩ := Int.eq_ofNat_of_zero_le (show 0 ≤ Lib.index (a ++ c :: r) [c] by omega)
  obtain ⟨a', r', e, rfl, hc⟩ := index_one_some c _ i hi
  have h1 := spl_cut c r a h
  rw [e, spl_cut c r' a' hc] at h1
  injection h1 with h1 _
  subst h1
  have e2 : r' = r := by simpa using e.symm
  subst e2
  unfold Lib.cut
  rw [if_pos (by omega), hi]
  have e3 : (((a'.length : Nat) : Int)).toNat = a'.length := rfl
  rw [e3]
  simp
/-- where a byte is and where not -/
theorem byte_cut (c : UInt8) (s : List UInt8) : c ∉ s ∨ ∃ a r, s = a ++ c :: r ∧ c ∉ a := by
  by_cases hm : Lib.index s [c] = -1
  · exact .inl (index_one_none c s hm)
  · have hge := Lib.index_ge s [c]
    obtain ⟨i, hi⟩ := Int.eq_ofNat_of_zero_le (show 0 ≤ Lib.index s [c] by omega)
    obtain ⟨a, r, e, _, hc⟩ := index_one_some c s i hi
    exact .inr ⟨a, r, e, hc⟩
/-! ### numbers -/
/-- a canonical decimal number below a million, or -1 -/
def readL (l : List UInt8) : Int :=
  if (1 ≤ l.length ∧ l.length ≤ 6) ∧ ¬ (l.head? = some 48 ∧ 1 < l.length) then match Lib.decNat l with
    | some v => (v : Int)
    | none => -1
  else -1
theorem readL_ge (l : List UInt8) : -1 ≤ readL l := by
  unfold readL
  split
  · split <;> omega
  · omega
theorem decFrom_lt : ∀ (l : List UInt8) (acc n : Nat), Lib.decFrom acc l = some n → n < (acc + 1) * 10 ^ l.length
  | [], acc, n, h => by simp [Lib.decFrom] at h; subst h; simp
  | b :: r, acc, n, h => by
    simp only [Lib.decFrom, Lib.digitVal] at h
    by_cases hd : 48 ≤ b.toNat ∧ b.toNat ≤ 57
    · rw [if_pos hd] at h
      have h1 := decFrom_lt r _ n h
      have h2 : acc * 10 + (b.toNat - 48) + 1 ≤ (acc + 1) * 10 := by omega
      have h3 := Nat.mul_le_mul_right (10 ^ r.length) h2
      rw [List.length_cons, Nat.pow_succ, Nat.mul_comm (10 ^ r.length) 10, ← Nat.mul_assoc]
      omega
    · rw [if_neg hd] at h; cases h
theorem readL_lt (l : List UInt8) : readL l < 1000000 := by
  unfold readL
  split
  · rename_i h
    split
    · rename_i v hv
      have hd : Lib.decFrom 0 l = some v := by
        unfold Lib.decNat at hv
        split at hv
        · cases hv
        · exact hv
      have h1 := decFrom_lt l 0 v hd
      have h2 : 10 ^ l.length ≤ 10 ^ 6 := Nat.pow_le_pow_right (by decide) h.1.2
      have e : (10 : Nat) ^ 6 = 1000000 := by decide
      omega
    · omega
  · omega
theorem decFrom_append (a : List UInt8) (b : UInt8) : ∀ (acc n : Nat), Lib.decFrom acc a = some n → Lib.decFrom acc (a ++ [b]) = (Lib.digitVal b).map fun d => n * 10 + d := by
  induction a with
  | nil =>
    intro acc n h
    simp only [Lib.decFrom, Option.some.injEq] at h
    subst h
    simp only [List.nil_append, Lib.decFrom]
    cases Lib.digitVal b <;> simp [Lib.decFrom]
  | cons c a ih =>
    intro acc n h
    simp only [Lib.decFrom, List.cons_append] at h ⊢
    cases hc : Lib.digitVal c with
    | none => simp [hc] at h
    | some e => simp only [hc] at h ⊢; exact ih _ _ h
theorem decFrom_none_append (a : List UInt8) (b : List UInt8) : ∀ acc : Nat, Lib.decFrom acc a = none → Lib.decFrom acc (a ++ b) = none := by
  induction a with
  | nil => intro acc h; simp [Lib.decFrom] at h
  | cons c a ih =>
    intro acc h
    simp only [Lib.decFrom, List.cons_append] at h ⊢
    cases hc : Lib.digitVal c with
    | none => rfl
    | some e => simp only [hc] at h ⊢; exact ih _ h
theorem digitVal_of (d : Nat) (h : d < 10) : Lib.digitVal (UInt8.ofNat (48 + d)) = some d := by
  have : (UInt8.ofNat (48 + d)).toNat = 48 + d := by rw [UInt8.toNat_ofNat']; omega
  unfold Lib.digitVal
  rw [this, if_pos (by omega)]
  congr 1
  omega
theorem digitVal_some {b : UInt8} {d : Nat} (h : Lib.digitVal b = some d) : d < 10 ∧ b = UInt8.ofNat (48 + d) := by
  unfold Lib.digitVal at h
  split at h
  · rename_i hb
    injection h with h
    subst h
    refine ⟨by omega, ?_⟩
    apply UInt8.toNat_inj.1
    rw [UInt8.toNat_ofNat']
    omega
  · cases h
theorem head_app {a b : List UInt8} (h : a ≠ []) : (a ++ b).head? = a.head? := by
  cases a with
  | nil => exact absurd rfl h
  | cons x a => rfl
/-- the digits of a number spell it -/
theorem decFrom_digits (u : Nat) : Lib.decFrom 0 (Lib.decDigits u) = some u ∧ Lib.decDigits u ≠ [] ∧ (1 ≤ u → (Lib.decDigits u).head? ≠ some 48) ∧ (u < 10 → (Lib.decDigits u).length = 1) := by
  induction u using Nat.strongRecOn with
  | ind u ih =>
    by_cases h : u < 10
    · rw [Lib.decDigits_one h]
      refine ⟨?_, by simp, fun h1 hh => ?_, fun _ => rfl⟩
      · rw [Lib.decFrom, digitVal_of u h]; simp [Lib.decFrom]
      · have hh2 : UInt8.ofNat (48 + u) = 48 := Option.some.inj hh
        have := congrArg UInt8.toNat hh2
        rw [UInt8.toNat_ofNat'] at this
        have e : (48 : UInt8).toNat = 48 := rfl
        rw [e] at this
        omega
    · obtain ⟨i1, i2, i3, _⟩ := ih (u / 10) (by omega)
      rw [Lib.decDigits, dif_neg h]
      refine ⟨?_, by simp, fun _ => ?_, fun hh => absurd hh h⟩
      · rw [decFrom_append _ _ _ _ i1, digitVal_of _ (by omega)]
        simp only [Option.map_some]
        congr 1
        omega
      · rw [head_app i2]
        exact i3 (by omega)
/-- a number's own text is read as it -/
theorem readL_itoa {v : Int} (hv : 0 ≤ v) {l : List UInt8} (h : Lib.itoa v = l) (hl : l.length ≤ 6) : readL l = v := by
  obtain ⟨u, rfl⟩ := Int.eq_ofNat_of_zero_le hv
  rw [Lib.itoa, if_neg (by omega)] at h
  have h : Lib.decDigits u = l := h
  subst h
  obtain ⟨d1, d2, d3, d4⟩ := decFrom_digits u
  have hlen : 1 ≤ (Lib.decDigits u).length := by
    cases hd : Lib.decDigits u
    · exact absurd hd d2
    · simp
  have hc : ¬ ((Lib.decDigits u).head? = some 48 ∧ 1 < (Lib.decDigits u).length) := fun hh => by
    by_cases hu : u < 10
    · have := d4 hu; omega
    · exact d3 (by omega) hh.1
  have hn : Lib.decNat (Lib.decDigits u) = some u := by
    unfold Lib.decNat
    rw [if_neg (by simpa using d2), d1]
  unfold readL
  rw [if_pos ⟨⟨hlen, hl⟩, hc⟩, hn]
/-- what is read is written so -/
theorem digits_decFrom : ∀ (k : Nat) (l : List UInt8) (n : Nat), l.length = k → l ≠ [] → (l.head? = some 48 → l.length = 1) → Lib.decFrom 0 l = some n → Lib.decDigits n = l
  | 0, l, n, hk, hne, _, _ => absurd (List.length_eq_zero_iff.1 hk) hne
  | k + 1, l, n, hk, hne, hz, h => by
    rcases List.eq_nil_or_concat l with rfl | ⟨a, b, rfl⟩
    · exact absurd rfl hne
    · rw [List.concat_eq_append] at *
      cases ha : Lib.decFrom 0 a with
      | none => rw [decFrom_none_append _ _ _ ha] at h; cases h
      | some m =>
        rw [decFrom_append _ _ _ _ ha] at h
        cases hb : Lib.digitVal b with
        | none => rw [hb] at h; cases h
        | some d =>
          rw [hb] at h
          simp only [Option.map_some, Option.some.injEq] at h
          obtain ⟨hd, rfl⟩ := digitVal_some hb
          by_cases hane : a = []
          · subst hane
            simp only [Lib.decFrom, Option.some.injEq] at ha
            subst ha
            obtain rfl : d = n := by omega
            rw [Lib.decDigits_one hd]; rfl
          · have hh : (a ++ [UInt8.ofNat (48 + d)]).head? = a.head? := head_app hane
            have hl2 : 1 ≤ a.length := by
              cases a
              · exact absurd rfl hane
              · simp
            have hz2 : a.head? ≠ some 48 := fun e => by
              have := hz (hh.trans e)
              rw [List.length_append] at this
              simp only [List.length_cons, List.length_nil] at this
              omega
            have hA := digits_decFrom k a m (by simpa using hk) hane (fun e => absurd e hz2) ha
            have hm : 1 ≤ m := by
              cases m with
              | zero =>
                rw [Lib.decDigits_one (by omega)] at hA
                rw [← hA] at hz2
                exact absurd rfl hz2
              | succ m => omega
            rw [Lib.decDigits, dif_neg (by omega), show n / 10 = m by omega, hA, show n % 10 = d by omega]
theorem itoa_readL {l : List UInt8} (h : 0 ≤ readL l) : Lib.atoiAll l = .ok (readL l) ∧ Lib.itoa (readL l) = l := by
  unfold readL at h ⊢
  by_cases hc : (1 ≤ l.length ∧ l.length ≤ 6) ∧ ¬ (l.head? = some 48 ∧ 1 < l.length)
  · rw [if_pos hc] at h ⊢
    cases hn : Lib.decNat l with
    | none => rw [hn] at h; simp at h
    | some v =>
      have hne : l ≠ [] := fun e => by rw [e] at hc; simp at hc
      have hd : Lib.decFrom 0 l = some v := by
        unfold Lib.decNat at hn
        split at hn
        · cases hn
        · exact hn
      have hdd := digits_decFrom l.length l v rfl hne (fun e => by have h1 : ¬ 1 < l.length := fun h1 => hc.2 ⟨e, h1⟩; have := hc.1; omega) hd
      refine ⟨?_, ?_⟩
      · cases l with
        | nil => exact absurd rfl hne
        | cons c r =>
          obtain ⟨d, hdv⟩ := Lib.digit_of_decFrom _ _ _ hd 0 c rfl
          have hcd : 48 ≤ c.toNat ∧ c.toNat ≤ 57 := by
            unfold Lib.digitVal at hdv
            split at hdv
            · assumption
            · cases hdv
          rw [Lib.atoiAll_plain c r (by omega) (by omega), Lib.signless_short (by have := hc.1.2; omega), hn]
          rfl
      · show Lib.itoa (v : Int) = l
        rw [Lib.itoa, if_neg (by omega)]
        exact hdd
  · rw [if_neg hc] at h; omega
theorem readL_none {l : List UInt8} (h : ∀ v : Int, Lib.atoiAll l ≠ .ok v) : readL l = -1 := by
  have := readL_ge l
  by_cases h0 : 0 ≤ readL l
  · exact absurd (itoa_readL h0).1 (h _)
  · omega
theorem readL_other {l : List UInt8} {v : Int} (h : Lib.atoiAll l = .ok v) (hne : ¬ (0 ≤ v ∧ Lib.itoa v = l)) : readL l = -1 := by
  have := readL_ge l
  by_cases h0 : 0 ≤ readL l
  · obtain ⟨h1, h2⟩ := itoa_readL h0
    rw [h] at h1
    injection h1 with h1
    rw [← h1] at h2 h0
    exact absurd ⟨h0, h2⟩ hne
  · omega
theorem readL_long {l : List UInt8} (h : ¬ (1 ≤ l.length ∧ l.length ≤ 6)) : readL l = -1 := by
  unfold readL; rw [if_neg (fun hh => h hh.1)]
/-- a byte that is no digit -/
theorem readL_bad {l : List UInt8} {c : UInt8} (hc : c ∈ l) (hd : Lib.digitVal c = none) : readL l = -1 := by
  unfold readL
  split
  · cases hn : Lib.decNat l with
    | none => rfl
    | some v =>
      have hd2 : Lib.decFrom 0 l = some v := by
        unfold Lib.decNat at hn
        split at hn
        · cases hn
        · exact hn
      obtain ⟨k, hk⟩ := List.getElem?_of_mem hc
      obtain ⟨d, hdv⟩ := Lib.digit_of_decFrom _ _ _ hd2 k c hk
      rw [hd] at hdv; cases hdv
  · rfl
/-! ### an end -/
/-- a text of two numbers with a point between -/
def portOk (l : List UInt8) : Bool := match spl 46 l with
  | [a, b] => decide (0 ≤ readL a) && decide (0 ≤ readL b)
  | _ => false
theorem portOk_cut (l : List UInt8) : portOk l = ((Lib.cut l [46]).2.2 && decide (0 ≤ readL (Lib.cut l [46]).1) && decide (0 ≤ readL (Lib.cut l [46]).2.1)) := by
  rcases byte_cut 46 l with h | ⟨a, r, rfl, h⟩
  · rw [cut_one_none h, portOk, spl_last _ _ h]; rfl
  · rw [cut_one_some h, portOk, spl_cut _ _ _ h]
    rcases byte_cut 46 r with h2 | ⟨a2, r2, rfl, h2⟩
    · rw [spl_last _ _ h2]; simp
    · rw [spl_cut _ _ _ h2]
      have hb : readL (a2 ++ 46 :: r2) = -1 := readL_bad (c := 46) (by simp) (by decide)
      rw [hb]
      cases hs : spl 46 r2 with
      | nil => exact absurd hs (spl_ne _ _)
      | cons h t => simp
end Go.Proofs.YtmjmgggfmccjmaaGreatDoor
