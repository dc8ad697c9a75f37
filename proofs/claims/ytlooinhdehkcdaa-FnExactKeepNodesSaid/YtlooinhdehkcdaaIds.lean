/- Contracts: slices.Clone and slices.Sort at []int in these words; idsOk, inputsOk, neIds. -/
import Derived.Test.YtlooinhdehkcdaaPlE
import Derived.Test.YtlooinhdehkcdaaApp
import Derived.Test.YtlooinhdehkcdaaShelf
import Derived.Sort.OwnSortedInts
namespace Go.Proofs.Ytlooinhdehkcdaa
open Go.RowKit
set_option linter.unusedVariables false
/-- a row that owns a list of ints, as the library's contracts say it -/
theorem OwI.of_ownsRow {w : World} {lo : Nat} {v : Value} {zs : List Int} {n : Nat} (hn : n = zs.length) (h : w.ownsRow lo 3 1 v n (zs.map (Value.int .i64))) : ∃ a cap, v = .slice a zs.length cap ∧ OwI w lo w.heap.size a cap zs := by
  subst hn
  obtain ⟨hl, h⟩ := h
  rcases h with ⟨rfl, h0⟩ | ⟨g, cap, cur, rfl, hb, hg, hnc, hm, hs, ht⟩
  · refine ⟨none, 0, by rw [h0], ?_⟩
    unfold OwI
    rw [h0]
    exact Ow.nil _ _ _ _ _ _ _
  · refine ⟨_, cap, rfl, hnc, hm, fun _ => ⟨g, fun j => cur.getD j undef, rfl, hb, (Array.getElem?_eq_some_iff.1 hg).1, ⟨cur, hg, hs, fun i hi => by show cur[i]? = some (cur.getD i undef); rw [Array.getD_eq_getD_getElem?, Array.getElem?_eq_getElem (by omega)]; rfl⟩, fun j hj => ?_⟩⟩
    rw [Nat.mul_one] at hj ht
    have h1 : (cur.toList.take zs.length)[j]? = (zs.map (Value.int .i64))[j]? := by rw [ht]
    rw [List.getElem?_take_of_lt hj, Array.getElem?_toList] at h1
    show cur.getD j undef = Value.int .i64 (nth zs j)
    rw [Array.getD_eq_getD_getElem?, h1, nth_eq_getElem _ _ hj]; simp [hj]
theorem cloneI_any (a : Option Addr) (cap : Nat) (zs : List Int) (w : World) (B : Nat) (ha : RdI w B a zs) (hl : zs.length ≤ 1048576) :
    Calls Try.prog 92 #[.slice a zs.length cap] w fun e w' => ∃ a' cap', e = .returned (.slice a' zs.length cap') ∧ OwI w' w.heap.size w'.heap.size a' cap' zs ∧ Below w.heap.size w w' := by
  cases a with
  | none =>
    have h0 : zs = [] := by
      rcases Nat.eq_zero_or_pos zs.length with h | h
      · exact List.eq_nil_of_length_eq_zero h
      · obtain ⟨g, off, he, _⟩ := ha h; cases he
    subst h0
    refine (Try.slices_Clone_int_nil 0 cap w).mono ?_
    rintro e w' ⟨rfl, rfl⟩
    exact ⟨none, 0, rfl, Ow.nil _ _ _ _ _ _ _, Below.refl _ _⟩
  | some x =>
    rcases Nat.eq_zero_or_pos zs.length with h | h
    · have h0 : zs = [] := List.eq_nil_of_length_eq_zero h
      subst h0
      refine (Try.slices_Clone_int_zero x cap w).mono ?_
      rintro e w' ⟨v', rfl, hown, _, hb⟩
      obtain ⟨a', cap', rfl, ho⟩ := OwI.of_ownsRow (zs := []) rfl hown
      exact ⟨a', cap', rfl, ho, hb⟩
    · obtain ⟨g, off, he, hg, hc⟩ := ha h
      injection he with he
      subst he
      refine (Try.slices_Clone_int g off zs.length cap zs w (Nat.le_refl _) (by omega) hc).mono ?_
      rintro e w' ⟨v', rfl, hown, _, hb⟩
      rw [List.take_length] at hown
      obtain ⟨a', cap', rfl, ho⟩ := OwI.of_ownsRow rfl hown
      exact ⟨a', cap', rfl, ho, hb⟩
def sortI (zs : List Int) : List Int := zs.mergeSort fun x y => decide (x ≤ y)
theorem sortI_length (zs : List Int) : (sortI zs).length = zs.length := List.length_mergeSort _
theorem sortI_any (a : Option Addr) (cap : Nat) (zs : List Int) (w : World) (lo hi : Nat) (ha : OwI w lo hi a cap zs) (h0 : 0 < zs.length) (hl : zs.length ≤ 1048576) :
    Calls Try.prog 93 #[.slice a zs.length cap] w fun e w' => e = .returned (.tuple #[]) ∧ OwI w' lo w'.heap.size a cap (sortI zs) ∧ w.grownBy w' (blk a cap) := by
  obtain ⟨h1, h2, h3⟩ := ha
  obtain ⟨g, F, rfl, hlo, hhi, ⟨cs, hb, hs, hi'⟩, hf⟩ := h3 (by omega)
  rw [Nat.mul_one] at hs hi'
  have ht : cs.toList.take zs.length = zs.map (Value.int .i64) := by
    apply List.ext_getElem?
    intro j
    by_cases hj : j < zs.length
    · rw [List.getElem?_take_of_lt hj, Array.getElem?_toList, hi' j (by omega), hf j (by omega)]
      simp [hj, nth_eq_getElem _ _ hj]
    · rw [List.getElem?_take_eq_none (by omega), List.getElem?_eq_none (by simp; omega)]
  have hH := holds_of_blockI (ss := zs) hb ht
  refine (Try.slices_Sort_int g 0 cap zs w hH (Array.getElem?_eq_some_iff.1 hb).1 (by omega)).mono ?_
  rintro e w' ⟨rfl, n, os, rfl⟩
  have hbk : blk (some ⟨g, 0, none⟩) cap = some g := by rw [blk, if_neg (by omega)]; rfl
  refine ⟨rfl, ?_, by rw [hbk]; exact grownBy_sortedI _⟩
  have hown := ownsRow_sortedI (n := n) (os := os) (cap := cap) (ss := zs) (ts := sortI zs) (sortI_length zs) hlo hb h1 h2 (by rw [hs, Nat.mul_one])
  obtain ⟨a', cap', he, ho⟩ := OwI.of_ownsRow (zs := sortI zs) (sortI_length zs).symm hown
  rw [sortI_length] at he
  injection he with he1 he2 he3
  subst he1 he3
  exact ho
set_option maxHeartbeats 400000 in
theorem idsOk_any (a : Option Addr) (cap : Nat) (ids : List Int) (nodes : Nat) (w : World) (B : Nat) (ha : RdI w B a ids) (hB : B ≤ w.heap.size) (hl : ids.length ≤ 1048576) (hn : nodes ≤ 1048576) :
    Calls Try.prog 75 #[.slice a ids.length cap, .int .i64 nodes] w fun e w' => e = .returned (.bool (idsB ids nodes)) ∧ Below w.heap.size w w' := by
  rcases Nat.eq_zero_or_pos ids.length with h0 | h0
  · have h : ids = [] := List.eq_nil_of_length_eq_zero h0
    subst h
    rw [idsB_empty]
    go_enter Try.func75, Try.ntmps75
    go_wp2_with fail
    go_ret
    exact ⟨rfl, Below.refl _ _⟩
  · have HB := Lib.hid (idsB_sorted (nodes := nodes) h0)
    have hz : ((ids.length : Int) == 0) = false := beq_eq_false_iff_ne.2 (by omega)
    obtain ⟨D, hD⟩ : ∃ D, D = w.heap.size := ⟨_, rfl⟩
    have HD := Lib.hid hD
    clear hD
    go_enter Try.func75, Try.ntmps75
    go_wp2_with fail
    refine (cloneI_any a cap ids _ B ha hl).mono ?_
    rintro e w1 ⟨a1, cap1, rfl, own1, bel1⟩
    go_wp2_with fail
    refine (sortI_any a1 cap1 ids _ _ _ own1 h0 hl).mono ?_
    rintro e w2 ⟨rfl, own2, hg2⟩
    have bel2 : Below w.heap.size w w2 := below_app bel1 own1 hg2 (Nat.le_refl _) bel1.size
    have r2 : RdI w2 w2.heap.size a1 (sortI ids) := own2.rd
    have HI : Hid (Calls Try.prog 60 #[.slice a1 ids.length cap1, .int .i64 1, .int .i64 999999] w2 fun e w' => e = .returned (.bool (risB (sortI ids) 1 999999)) ∧ ∃ m, w' = w2.drewN m) := by
      have h := increasing_any a1 cap1 (sortI ids) 1 999999 w2 _ r2 (by rw [sortI_length]; omega)
      rwa [sortI_length] at h
    clear r2
    by_cases he : ids.length = nodes
    · have hbe : ((ids.length : Int) == (nodes : Int)) = true := by simp [he]
      have HE := Lib.hid he
      clear he
      go_wp2_with (go_at_call 60; refine HI.out.mono ?_; rintro e w3 ⟨rfl, q3⟩)
      go_ret
      have q3' : Qt w2 w3 := q3
      exact ⟨ret_bool (by rw [HB.out, decide_eq_true HE.out]; rfl), bel2.trans (q3'.below _)⟩
    · have hbe : ((ids.length : Int) == (nodes : Int)) = false := beq_eq_false_iff_ne.2 (by omega)
      have HE := Lib.hid he
      clear he
      go_wp2_with fail
      go_ret
      exact ⟨ret_bool (by rw [HB.out, decide_eq_false HE.out]; rfl), bel2⟩
def inpB (inputs : List Int) (nodes : Nat) : Bool := decide (inputs.length = nodes) && allB inputs 0 9
set_option maxHeartbeats 400000 in
theorem inputsOk_any (a : Option Addr) (cap : Nat) (l : List Int) (nodes : Nat) (w : World) (B : Nat) (ha : RdI w B a l) (hB : B ≤ w.heap.size) (hl : l.length ≤ 1048576) (hn : nodes ≤ 1048576) :
    Calls Try.prog 76 #[.slice a l.length cap, .int .i64 nodes] w fun e w' => e = .returned (.bool (inpB l nodes)) ∧ Below w.heap.size w w' := by
  by_cases he : l.length = nodes
  · have hbe : ((l.length : Int) == (nodes : Int)) = true := by simp [he]
    have HE := Lib.hid he
    clear he
    go_enter Try.func76, Try.ntmps76
    go_wp2_with (go_at_call 94; refine (allWithin_any _ _ l _ _ _ B ha hB (by omega)).mono ?_; rintro e w1 ⟨rfl, bel1⟩)
    go_ret
    exact ⟨ret_bool (by rw [inpB, decide_eq_true HE.out]; rfl), bel1⟩
  · have hbe : ((l.length : Int) == (nodes : Int)) = false := beq_eq_false_iff_ne.2 (by omega)
    have HE := Lib.hid he
    clear he
    go_enter Try.func76, Try.ntmps76
    go_wp2_with fail
    go_ret
    exact ⟨ret_bool (by rw [inpB, decide_eq_false HE.out]; rfl), Below.refl _ _⟩
theorem has_take {ids : List Int} {k : Nat} {x : Int} (hk : k ≤ ids.length) : hasB (ids.take k) x = true ↔ ∃ j, j < k ∧ nth ids j = x := by
  have hl : (ids.take k).length = k := by simp; omega
  rw [hasB, decide_eq_true_iff, hl]
  constructor
  · rintro ⟨j, hj, h⟩; exact ⟨j, hj, by rw [← h, nth_take _ _ _ hj]⟩
  · rintro ⟨j, hj, h⟩; exact ⟨j, hj, by rw [← h, nth_take _ _ _ hj]⟩
theorem idsB_f1 {ids : List Int} {nodes k : Nat} (hk : k < ids.length) (h : inR (nth ids k) 1 999999 = false) : false = idsB ids nodes := by
  symm; apply decide_eq_false
  intro hi
  rw [inR_t (hi.1 k hk).1 (hi.1 k hk).2] at h; cases h
theorem idsB_f2 {ids : List Int} {nodes k : Nat} (hk : k < ids.length) (h : hasB (ids.take k) (nth ids k) = true) : false = idsB ids nodes := by
  symm; apply decide_eq_false
  intro hi
  obtain ⟨j, hj, he⟩ := (has_take (by omega)).1 h
  exact hi.2.1 j k hj hk he
theorem idsB_end {ids : List Int} {nodes : Nat} (h : ∀ j, j < ids.length → inR (nth ids j) 1 999999 = true ∧ hasB (ids.take j) (nth ids j) = false) : idsB ids nodes = decide (ids.length = 0 ∨ ids.length = nodes) := by
  unfold idsB
  apply decide_eq_decide.2
  constructor
  · exact fun hi => hi.2.2
  · refine fun hn => ⟨fun j hj => inR_iff.1 (h j hj).1, fun i j hij hj he => ?_, hn⟩
    have h1 := (h j hj).2
    rw [(has_take (by omega)).2 ⟨i, hij, he⟩] at h1
    cases h1
set_option maxHeartbeats 400000 in
theorem neIds_any (a : Option Addr) (cap : Nat) (ids : List Int) (nodes : Nat) (w : World) (B : Nat) (ha : RdI w B a ids) (hl : ids.length ≤ 1048576) (hn : nodes ≤ 1048576) (hcap : ids.length ≤ cap) :
    Calls Try.prog 70 #[.slice a ids.length cap, .int .i64 nodes] w fun e w' => e = .returned (.bool (idsB ids nodes)) ∧ ∃ m, w' = w.drewN m := by
  rcases Nat.eq_zero_or_pos ids.length with h0 | hpos
  · have h : ids = [] := List.eq_nil_of_length_eq_zero h0
    subst h
    rw [idsB_empty]
    go_enter Try.func70, Try.ntmps70
    go_wp2_with fail
    refine wp_loop_rounds 1 ?_; rw [rounds_succ]
    go_wp2_with fail
    go_ret
    exact ⟨rfl, 0, rfl⟩
  go_enter Try.func70, Try.ntmps70
  go_wp2_with fail
  go_loopw [9] (fun i wr => ∃ k : Nat, k ≤ ids.length ∧ i = .int .i64 k ∧ (∀ j, j < k → inR (nth ids j) 1 999999 = true ∧ hasB (ids.take j) (nth ids j) = false) ∧ Qt w wr) (fun i _ => ids.length - (intOf i).toNat)
  case atStart => exact ⟨0, Nat.zero_le _, rfl, fun j h => absurd h (by omega), Qt.refl _⟩
  case round =>
    obtain ⟨k, hk, rfl, hall, hq⟩ := hrel
    have Hall := Lib.hid hall
    clear hall
    by_cases hlt : k < ids.length
    · have hrd := Rd.qt ha hq
      obtain ⟨g, off, rfl, _, hc1⟩ := Rd.at hrd hlt
      have HH : Hid (∀ C W, W = wr → Calls Try.prog 84 #[.slice (some ⟨g, off, none⟩) k C, .int .i64 (nth ids k)] W fun e w' => e = .returned (.bool (hasB (ids.take k) (nth ids k))) ∧ ∃ m, w' = W.drewN m) := by
        rintro C W rfl
        have hlk : (ids.take k).length = k := by simp; omega
        have h := l1Has_any (some ⟨g, off, none⟩) C (ids.take k) (nth ids k) W B (by
          unfold RdI; rw [hlk]
          exact (Rd.take hrd (by omega)).congr fun j hj => by rw [nth_take _ _ _ hj]) (by omega)
        rwa [hlk] at h
      clear hrd
      cases hin : inR (nth ids k) 1 999999 with
      | true =>
        cases hh : hasB (ids.take k) (nth ids k) with
        | true =>
          have HX := Lib.hid hh
          rw [hh] at HH
          clear hh
          go_wp2_with (first | (go_at_call 69; refine (l1In_any _ _ _ _).mono ?_; rintro e w' ⟨rfl, rfl⟩) | (go_at_call 84; refine (HH.out _ _ rfl).mono ?_; rintro e w1 ⟨rfl, q1⟩; replace hq := hq.trans q1))
          go_ret
          exact ⟨ret_bool (idsB_f2 hlt HX.out), hq⟩
        | false =>
          have HX : Hid (inR (nth ids k) 1 999999 = true ∧ hasB (ids.take k) (nth ids k) = false) := ⟨hin, hh⟩
          rw [hh] at HH
          clear hh
          go_wp2_with (first | (go_at_call 69; refine (l1In_any _ _ _ _).mono ?_; rintro e w' ⟨rfl, rfl⟩) | (go_at_call 84; refine (HH.out _ _ rfl).mono ?_; rintro e w1 ⟨rfl, q1⟩; replace hq := hq.trans q1))
          go_roundw
          case rel =>
            refine ⟨k + 1, by omega, by go_num, fun j hj => ?_, hq⟩
            by_cases e : j = k
            · rw [e]; exact HX.out
            · exact Hall.out j (by omega)
          case measure => simp [intOf]; omega
      | false =>
        have HX := Lib.hid hin
        go_wp2_with (go_at_call 69; refine (l1In_any _ _ _ _).mono ?_; rintro e w' ⟨rfl, rfl⟩)
        go_ret
        exact ⟨ret_bool (idsB_f1 hlt HX.out), hq⟩
    · have HE : Hid (idsB ids nodes = decide (ids.length = 0 ∨ ids.length = nodes)) := idsB_end fun j hj => Hall.out j (by omega)
      have hz : ((ids.length : Int) == 0) = false := beq_eq_false_iff_ne.2 (by omega)
      by_cases he : ids.length = nodes
      · have hbe : ((ids.length : Int) == (nodes : Int)) = true := by simp [he]
        have H1 := Lib.hid he
        clear he
        go_wp2_with fail
        go_ret
        exact ⟨ret_bool (by rw [HE.out, decide_eq_true (.inr H1.out)]), hq⟩
      · have hbe : ((ids.length : Int) == (nodes : Int)) = false := beq_eq_false_iff_ne.2 (by omega)
        have H1 : Hid (¬ (ids.length = 0 ∨ ids.length = nodes)) := fun h => by omega
        clear he
        go_wp2_with fail
        go_ret
        exact ⟨ret_bool (by rw [HE.out, decide_eq_false H1.out]), hq⟩
end Go.Proofs.Ytlooinhdehkcdaa
