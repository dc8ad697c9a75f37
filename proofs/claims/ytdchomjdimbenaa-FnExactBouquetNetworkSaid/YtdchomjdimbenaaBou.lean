/- BouquetNetwork. -/
import Derived.Test.YtdchomjdimbenaaWire
import Derived.Test.YtdchomjdimbenaaBits
import Derived.Test.YtdchomjdimbenaaStub
namespace Go.Proofs.Ytdchomjdimbenaa
open Go.RowKit
set_option linter.unusedVariables false
set_option linter.unusedSimpArgs false




/-- the ends of a bouquet -/
def bouE (s v i : Nat) : Int × Int := if i < s then (0, (i : Int)) else (0, ((s + ((i - s) ^^^ 1) : Nat) : Int))
def stubsN (N : Net) : Nat → Net
  | 0 => N
  | j + 1 => stubN (stubsN N j) 0
def loopsN (N : Net) : Nat → Net
  | 0 => N
  | j + 1 => joinN (loopsN N j) 0 0
theorem stubsN_facts (j : Nat) : (stubsN (emptyN 1) j).ends.length = 1 ∧ Total (stubsN (emptyN 1) j).ends = j ∧ (stubsN (emptyN 1) j).ids = [] ∧ (stubsN (emptyN 1) j).inputs = [0] := by
  induction j with
  | zero => exact ⟨rfl, rfl, rfl, rfl⟩
  | succ j ih =>
    obtain ⟨h1, h2, h3, h4⟩ := ih
    refine ⟨(addP_length ..).trans h1, ?_, h3, h4⟩
    show Total (addP _ _ _ _) = _
    rw [total_addP _ _ _ _ (by omega), h2]
theorem loopsN_facts (s j : Nat) : (loopsN (stubsN (emptyN 1) s) j).ends.length = 1 ∧ Total (loopsN (stubsN (emptyN 1) s) j).ends = s + 2 * j ∧ (loopsN (stubsN (emptyN 1) s) j).ids = [] ∧ (loopsN (stubsN (emptyN 1) s) j).inputs = [0] := by
  induction j with
  | zero => exact stubsN_facts s
  | succ j ih =>
    obtain ⟨h1, h2, h3, h4⟩ := ih
    refine ⟨(joinR_length ..).trans h1, ?_, h3, h4⟩
    show Total (joinR _ _ _) = _
    rw [total_joinR _ _ _ (by omega) (by omega), h2]
    omega
theorem small_of {N : Net} {m : Nat} (h : N.ends.length = 1 ∧ Total N.ends = m ∧ N.ids = [] ∧ N.inputs = [0]) (hm : m ≤ 1000) : NetSmall N := by
  obtain ⟨h1, h2, h3, h4⟩ := h
  unfold NetSmall
  rw [h1, h2, h3, h4]
  simp
  omega
def bouEq (s l : Nat) : Bool := decide ((loopsN (stubsN (emptyN 1) s) l).ends = wireR 1 (s + 2 * l) (bouE s))
theorem bou_rows : ∀ s, s < 7 → ∀ l, l < 7 → s + 2 * l ≤ 6 → bouEq s l = true := by decide +kernel
theorem bou_ok : ∀ s, s < 7 → ∀ l, l < 7 → s + 2 * l ≤ 6 → netB (wireN 1 (s + 2 * l) (bouE s)) = true := by decide +kernel
theorem bou_eq {s l : Nat} (hs : s ≤ 6) (hl : l ≤ 6) (h : s + 2 * l ≤ 6) : loopsN (stubsN (emptyN 1) s) l = wireN 1 (s + 2 * l) (bouE s) := by
  have h1 := of_decide_eq_true (bou_rows s (by omega) l (by omega) h)
  obtain ⟨_, _, h3, h4⟩ := loopsN_facts s l
  generalize loopsN (stubsN (emptyN 1) s) l = M at *
  cases M with
  | mk e i p =>
    simp only at h1 h3 h4
    subst h1 h3 h4
    rfl
def boB (s l : Int) : Bool := inR s 0 6 && inR l 0 6 && decide (s + 2 * l ≤ 6)
def boR (s l : Int) : Net := ifN (boB s l) (wireN 1 (s.toNat + 2 * l.toNat) (bouE s.toNat))
theorem boB_f0 {s l : Int} (h : inR s 0 6 = false) : boB s l = false := by rw [boB, h]; rfl
theorem boB_f1 {s l : Int} (h : inR l 0 6 = false) : boB s l = false := by rw [boB, h, Bool.and_false]; rfl
theorem boB_t {s l : Int} (h1 : inR s 0 6 = true) (h2 : inR l 0 6 = true) : boB s l = decide (s + 2 * l ≤ 6) := by rw [boB, h1, h2]; rfl
theorem boR_f {s l : Int} (h : boB s l = false) : boR s l = nilN := by rw [boR, h]; rfl
theorem bou_wdB {s l : Nat} (hs : s ≤ 6) (hl : l ≤ 6) : wdB 1 (s + 2 * l) (bouE s) = boB s l := by
  rw [boB_t (inR_iff.2 ⟨by omega, by omega⟩) (inR_iff.2 ⟨by omega, by omega⟩)]
  by_cases h : s + 2 * l ≤ 6
  · rw [wdB_t (by decide) h, decide_eq_true (by omega)]
    exact bou_ok s (by omega) l (by omega) h
  · rw [decide_eq_false (by omega)]
    exact wdB_f (by rw [decide_eq_false h, Bool.and_false])
theorem bou_wdR {s l : Nat} (hs : s ≤ 6) (hl : l ≤ 6) : wdR 1 (s + 2 * l) (bouE s) = boR s l := by rw [wdR, bou_wdB hs hl]; rfl
theorem boR_sm {s l : Int} : NetSmall (boR s l) := ifN_small fun h => by
  unfold boB at h
  simp only [Bool.and_eq_true] at h
  obtain ⟨⟨h1, h2⟩, h3⟩ := h
  have h4 := inR_iff.1 h1
  have h5 := inR_iff.1 h2
  have h6 := of_decide_eq_true h3
  rw [← bou_eq (by omega) (by omega) (by omega)]
  exact small_of (loopsN_facts _ _) (by omega)
set_option maxRecDepth 100000 in
set_option maxHeartbeats 1600000 in
theorem wiredBou_any (k : Int) (d : Nat) (E : Nat → Nat → Int × Int) (p : Nat) (w : World) (hd : d ≤ 1000000)
    (HFN : ∀ X (v i : Nat), Below w.heap.size w X → (v : Int) < k → k ≤ 40 → i < d → d ≤ 6 → Calls Try.prog 62 #[.int .i64 v, .int .i64 i, .pointer (some ⟨p, 0, none⟩)] X fun e w' => e = .returned (.agg #[.int .i64 (E v i).1, .int .i64 (E v i).2]) ∧ Below X.heap.size X w') :
    Calls Try.prog 50 #[.int .i64 k, .int .i64 d, .func (.func 62) #[] #[.pointer (some ⟨p, 0, none⟩)]] w (PostN (wdR k d E) (wdB k d E) w) := by
  have BR := Bx.made w 25 #[.slice none 0 0, .slice none 0 0, .slice none 0 0]
  have b0 : Below w.heap.size w (w.alloc (.cells #[.slice none 0 0, .slice none 0 0, .slice none 0 0] 25)) := (by repeat (first | exact Below.refl _ _ | assumption | refine Below.alloc ?_ (by first | (simp; done) | (simp; omega) | omega) _ | refine Below.setCell ?_ (by first | (simp; done) | (simp; omega) | omega) _ | refine Below.drew ?_ | refine Below.drewN ?_ _))
  have z0 : w.heap.size + 1 ≤ (w.alloc (.cells #[.slice none 0 0, .slice none 0 0, .slice none 0 0] 25)).heap.size := by simp
  have HF := Lib.hid HFN
  clear HFN
  have HKB := Lib.hid (fun h => inR_iff.1 (h : inR k 1 40 = true))
  go_enter Try.func50, Try.ntmps50
  go_wp2_with fail
  refine (emptyNetwork_any k _).mono ?_
  rintro e w1 ⟨v1, rfl, own1, bel1⟩
  obtain ⟨a1, c1, ai1, ci1, ap1, cp1, rfl, own1⟩ := own1.shape
  replace BR := BR.new bel1
  have z1 : w.heap.size + 1 ≤ w1.heap.size := by have := bel1.size; omega
  simp only [World.size_alloc] at own1
  have b1 := b0.trans (bel1.mono b0.size)
  clear b0 bel1 z0
  generalize hR0 : ifN (inR k 1 40) (emptyN k.toNat) = R0 at *
  have HR0 := Lib.hid hR0
  clear hR0
  have BO := Bx.made w1 25 #[.slice a1 R0.ends.length c1, .slice ai1 R0.ids.length ci1, .slice ap1 R0.inputs.length cp1]
  have b2 : Below w1.heap.size w1 (w1.alloc (.cells #[.slice a1 R0.ends.length c1, .slice ai1 R0.ids.length ci1, .slice ap1 R0.inputs.length cp1] 25)) := (by repeat (first | exact Below.refl _ _ | assumption | refine Below.alloc ?_ (by first | (simp; done) | (simp; omega) | omega) _ | refine Below.setCell ?_ (by first | (simp; done) | (simp; omega) | omega) _ | refine Below.drew ?_ | refine Below.drewN ?_ _))
  go_upto_region 2 with fail
  have z2 : w1.heap.size + 1 ≤ (w1.alloc (.cells #[.slice a1 R0.ends.length c1, .slice ai1 R0.ids.length ci1, .slice ap1 R0.inputs.length cp1] 25)).heap.size := by simp
  generalize w1.alloc (.cells #[.slice a1 R0.ends.length c1, .slice ai1 R0.ids.length ci1, .slice ap1 R0.inputs.length cp1] 25) = w2 at *
  obtain ⟨b, hb⟩ : ∃ b, b = w1.heap.size := ⟨_, rfl⟩
  rw [← hb] at BO ⊢
  replace BR := BR.new b2
  replace own1 := (own1.new b2).wide (Nat.le_refl _) b2.size
  have bb := b1.trans (b2.mono b1.size)
  have zb : w.heap.size + 1 ≤ b := by omega
  have zlo : w.heap.size + 1 ≤ w2.heap.size := by omega
  clear hb b1 b2 z2
  cases hk : inR k 1 40 with
  | false =>
    have HFF := Lib.hid (show (inR k 1 40 && decide (d ≤ 6)) = false by rw [hk]; rfl)
    clear hk
    have e0 := BR.cell 0 _ rfl
    have e1 := BR.cell 1 _ rfl
    have e2 := BR.cell 2 _ rfl
    have f0 := BR.frozen 0
    have f1 := BR.frozen 1
    have f2 := BR.frozen 2
    go_wp2_with fail
    clear e0 e1 e2 f0 f1 f2
    generalize hW : World.setCell _ _ _ = W
    have B6 : Bx W (w.heap.size) 25 #[.slice none 0 0, .slice none 0 0, .slice none 0 0] := by rw [← hW]; exact ((BR.set 0 _).set 1 _).set 2 _
    have fr6 : Fr (fun k => k = w.heap.size) w2 W := by rw [← hW]; exact fr3 _ _ _ _ _
    clear hW
    have z6 := fr6.size
    have d0 := B6.cell 0 _ rfl
    have d1 := B6.cell 1 _ rfl
    have d2 := B6.cell 2 _ rfl
    refine bodyPost_ret (v := .tuple #[.agg #[.slice none 0 0, .slice none 0 0, .slice none 0 0], .bool false]) (by simp [results, Try.results50, go_sem, d0, d1, d2]) rfl ?_
    rw [wdR_f HFF.out, wdB_f HFF.out]
    exact ⟨_, rfl, NetAt.nilN _ _ _, bb.trans (fr6.below (fun k h1 h2 hc => by omega) bb.size)⟩
  | true =>
    have HK := Lib.hid hk
    have hk2 := HKB.out hk
    clear hk HKB
    by_cases hd6 : d ≤ 6
    case neg =>
      have HFF := Lib.hid (show (inR k 1 40 && decide (d ≤ 6)) = false by rw [decide_eq_false hd6, Bool.and_false])
      have e0 := BR.cell 0 _ rfl
      have e1 := BR.cell 1 _ rfl
      have e2 := BR.cell 2 _ rfl
      have f0 := BR.frozen 0
      have f1 := BR.frozen 1
      have f2 := BR.frozen 2
      go_wp2_with fail
      clear e0 e1 e2 f0 f1 f2
      generalize hW : World.setCell _ _ _ = W
      have B6 : Bx W (w.heap.size) 25 #[.slice none 0 0, .slice none 0 0, .slice none 0 0] := by rw [← hW]; exact ((BR.set 0 _).set 1 _).set 2 _
      have fr6 : Fr (fun k => k = w.heap.size) w2 W := by rw [← hW]; exact fr3 _ _ _ _ _
      clear hW
      have z6 := fr6.size
      have d0 := B6.cell 0 _ rfl
      have d1 := B6.cell 1 _ rfl
      have d2 := B6.cell 2 _ rfl
      refine bodyPost_ret (v := .tuple #[.agg #[.slice none 0 0, .slice none 0 0, .slice none 0 0], .bool false]) (by simp [results, Try.results50, go_sem, d0, d1, d2]) rfl ?_
      rw [wdR_f HFF.out, wdB_f HFF.out]
      exact ⟨_, rfl, NetAt.nilN _ _ _, bb.trans (fr6.below (fun k h1 h2 hc => by omega) bb.size)⟩
    obtain ⟨kn, rfl⟩ := Int.eq_ofNat_of_zero_le (show 0 ≤ k by omega)
    obtain rfl : R0 = emptyN kn := by rw [← HR0.out, HK.out, Int.toNat_natCast]; rfl
    have hNB : NBx w2 (w.heap.size + 1) b (tN kn d E 0 0) := by
      have hE0 : tN kn d E 0 0 = emptyN kn := by unfold tN emptyN; rw [wireT_zero]
      rw [hE0]
      obtain ⟨a, c, vs, ai, ci, ap, cp, hv, h1, h2, h3, h4⟩ := own1
      simp only [Value.agg.injEq, Array.mk.injEq, List.cons.injEq, Value.slice.injEq, true_and, and_true] at hv
      obtain ⟨⟨rfl, rfl⟩, ⟨rfl, rfl⟩, rfl, rfl⟩ := hv
      exact ⟨_, _, vs, _, _, _, _, BO, h1, h2, h3, h4⟩
    have HEL := Lib.hid (show (emptyN kn).ends.length = kn from List.length_replicate ..)
    rw [HEL.out] at BO ⊢
    have q0 := BO.cell 0 _ rfl
    have HOKB := Lib.hid (wdB_t (E := E) HK.out hd6)
    clear own1 HR0 BO
    go_wp2_with fail
    clear q0
    go_loopw [27] (fun iv wr => ∃ v : Nat, v ≤ kn ∧ iv = .int .i64 v ∧ NBx wr (w.heap.size + 1) b (tN kn d E v 0) ∧ Bx wr w.heap.size 25 #[.slice none 0 0, .slice none 0 0, .slice none 0 0] ∧ Below w.heap.size w wr ∧ w.heap.size + 1 ≤ wr.heap.size) (fun iv _ => kn - (intOf iv).toNat)
    case atStart => exact ⟨0, Nat.zero_le _, rfl, hNB, BR, bb, zlo⟩
    case round =>
      clear hNB BR bb zlo
      obtain ⟨v, hv, rfl, hNB, BR, bb, zlo⟩ := hrel
      by_cases hlt : v < kn
      · go_wp2_with fail
        go_loopw [31] (fun iv wr => ∃ i : Nat, i ≤ d ∧ iv = .int .i64 i ∧ NBx wr (w.heap.size + 1) b (tN kn d E v i) ∧ Bx wr w.heap.size 25 #[.slice none 0 0, .slice none 0 0, .slice none 0 0] ∧ Below w.heap.size w wr ∧ w.heap.size + 1 ≤ wr.heap.size) (fun iv _ => d - (intOf iv).toNat)
        case atStart => exact ⟨0, Nat.zero_le _, rfl, hNB, BR, bb, zlo⟩
        case round =>
          clear hNB BR bb zlo
          obtain ⟨i, hi, rfl, hNB, BR, bb, zlo⟩ := hrel
          by_cases hil : i < d
          · obtain ⟨aq, c, vs, ai, ci, ap, cp, hbx, hE, owni, ownp, hdis⟩ := hNB
            have hWL : (tN kn d E v i).ends.length = kn := wireT_length ..
            have hrl : (rowOf (wireT kn d E v i) v).length ≤ 6 := by rw [wireT_row _ _ _ _ _ _ hlt, if_neg (by omega), if_pos rfl, rowW_length]; omega
            replace hE : RowsE wr (w.heap.size + 1) wr.heap.size aq c (wireT kn d E v i) vs := hE
            have hv1 : v < (wireT kn d E v i).length := by rw [wireT_length]; exact hlt
            obtain ⟨A, hA, _, _⟩ := Ow.addr hE.1 (by omega)
            subst hA
            obtain ⟨lo, hlo0⟩ : ∃ lo, lo = w.heap.size + 1 := ⟨_, rfl⟩
            rw [← hlo0] at hE owni ownp
            have zl1 : w.heap.size + 1 ≤ lo := by omega
            have hlo : lo ≤ wr.heap.size := by omega
            have HLO := Lib.hid hlo0
            clear hlo0
            rw [hWL] at hbx
            obtain ⟨n, hn⟩ : ∃ n, n = kn := ⟨_, rfl⟩
            rw [← hn] at hbx
            have HNK := Lib.hid hn
            have hvn : v < n := by omega
            clear hn
            have HNI := Lib.hid (fun (x : Nat) (hx : blk ai ci = some x) => rb_ne hE (by omega) owni hx)
            have HNP := Lib.hid (fun (x : Nat) (hx : blk ap cp = some x) => rb_ne hE (by omega) ownp hx)
            have HIN := Lib.hid (fun (x : Nat) (h : RB A (wireT kn d E v i) vs x) => rb_in hE (by omega) h)
            have HWL := Lib.hid hWL
            clear hWL
            go_wp2_with fail
            have hS0 : wr.drew.cell? ⟨b, 0, none⟩ = some (.slice (some ⟨A, 0, none⟩) n c) := hbx.cell 0 _ rfl
            obtain ⟨gq, offq, haeq, _, hcv0⟩ := Rd.at (Ow.rd hE.1) hv1
            obtain ⟨rfl, rfl⟩ : A = gq ∧ 0 = offq := by injection haeq with h; injection h with h1 h2; exact ⟨h1, h2⟩
            clear haeq
            rw [Nat.zero_add] at hcv0
            have hcv : wr.drew.cell? ⟨A, v, none⟩ = _ := hcv0
            refine wp_region_held_drew (S := fun X => X.cell? ⟨b, 0, none⟩ = some (.slice (some ⟨A, 0, none⟩) n c)) (by kernel_rfl) hS0 (fun hHeld => ?_)
            refine wpAnyH_take (i := 0) (v := ?_) rfl (by kernel_rfl) (by kernel_rfl) (by kernel_rfl) (fun _ _ _ h => h) (Or.inl ⟨by rfl, ?_⟩) (by assumption) ?_
            rotate_left
            · (intro w hSw; (try dsimp only at hSw); go_simp; try with_reducible rfl)
            try simp only [Act.put, List.getElem_toArray, List.getElem_cons_zero, List.getElem_cons_succ, List.setIfInBounds_toArray, List.set_cons_zero, List.set_cons_succ]
            refine wpAnyH_take (i := 1) (v := ?_) rfl (by kernel_rfl) (by kernel_rfl) (by kernel_rfl) (fun _ _ _ h => h) (Or.inl ⟨by rfl, ?_⟩) (by assumption) ?_
            rotate_left
            · (intro w hSw; (try dsimp only at hSw); go_simp; try with_reducible rfl)
            try simp only [Act.put, List.getElem_toArray, List.getElem_cons_zero, List.getElem_cons_succ, List.setIfInBounds_toArray, List.set_cons_zero, List.set_cons_succ]
            refine wpAnyH_take (i := 2) (v := ?_) rfl (by kernel_rfl) (by kernel_rfl) (by kernel_rfl) (fun _ _ _ h => h) (Or.inl ⟨by rfl, ?_⟩) (by assumption) ?_
            rotate_left
            · (intro w hSw; (try dsimp only at hSw); go_simp; try with_reducible rfl)
            try simp only [Act.put, List.getElem_toArray, List.getElem_cons_zero, List.getElem_cons_succ, List.setIfInBounds_toArray, List.set_cons_zero, List.set_cons_succ]
            refine wpAnyH_take (i := 3) (v := ?_) rfl (by kernel_rfl) (by kernel_rfl) (by kernel_rfl) (fun _ _ _ h => h) (Or.inl ⟨by rfl, ?_⟩) (by assumption) ?_
            rotate_left
            · (intro w hSw; (try dsimp only at hSw); go_simp; try with_reducible rfl)
            try simp only [Act.put, List.getElem_toArray, List.getElem_cons_zero, List.getElem_cons_succ, List.setIfInBounds_toArray, List.set_cons_zero, List.set_cons_succ]
            refine wpAnyH_take (i := 4) (v := ?_) rfl (by kernel_rfl) (by kernel_rfl) (by kernel_rfl) (fun _ _ _ h => h) (Or.inl ⟨by rfl, ?_⟩) (by assumption) ?_
            rotate_left
            · (intro w hSw; (try dsimp only at hSw); go_simp; try with_reducible rfl)
            try simp only [Act.put, List.getElem_toArray, List.getElem_cons_zero, List.getElem_cons_succ, List.setIfInBounds_toArray, List.set_cons_zero, List.set_cons_succ]
            refine wpAnyH_take (i := 5) (v := ?_) rfl (by kernel_rfl) (by kernel_rfl) (by kernel_rfl) (fun _ _ _ h => h) (Or.inl ⟨by rfl, ?_⟩) (by assumption) ?_
            rotate_left
            · (intro w hSw; (try dsimp only at hSw); go_simp; try with_reducible rfl)
            try simp only [Act.put, List.getElem_toArray, List.getElem_cons_zero, List.getElem_cons_succ, List.setIfInBounds_toArray, List.set_cons_zero, List.set_cons_succ]
            refine wpAnyH_take (i := 6) (v := ?_) rfl (by kernel_rfl) (by kernel_rfl) (by kernel_rfl) (fun _ _ _ h => h) (Or.inl ⟨by rfl, ?_⟩) (by assumption) ?_
            rotate_left
            · (intro w hSw; (try dsimp only at hSw); go_simp; try with_reducible rfl)
            try simp only [Act.put, List.getElem_toArray, List.getElem_cons_zero, List.getElem_cons_succ, List.setIfInBounds_toArray, List.set_cons_zero, List.set_cons_succ]
            refine wpAnyH_take (i := 8) (v := ?_) rfl (by kernel_rfl) (by kernel_rfl) (by kernel_rfl) (fun _ _ _ h => h) (Or.inl ⟨by rfl, ?_⟩) (by assumption) ?_
            rotate_left
            · (intro w hSw; (try dsimp only at hSw); go_simp; try with_reducible rfl)
            try simp only [Act.put, List.getElem_toArray, List.getElem_cons_zero, List.getElem_cons_succ, List.setIfInBounds_toArray, List.set_cons_zero, List.set_cons_succ]
            refine wpAnyH_take (i := 9) (v := ?_) rfl (by kernel_rfl) (by kernel_rfl) (by kernel_rfl) (fun _ _ _ h => h) (Or.inl ⟨by rfl, ?_⟩) (by assumption) ?_
            rotate_left
            · (intro w hSw; (try dsimp only at hSw); go_simp; try with_reducible rfl)
            try simp only [Act.put, List.getElem_toArray, List.getElem_cons_zero, List.getElem_cons_succ, List.setIfInBounds_toArray, List.set_cons_zero, List.set_cons_succ]
            refine wpAnyH_take (i := 10) (v := ?_) rfl (by kernel_rfl) (by kernel_rfl) (by kernel_rfl) (fun _ _ _ h => h) (Or.inl ⟨by rfl, ?_⟩) (by assumption) ?_
            rotate_left
            · (intro w hSw; (try dsimp only at hSw); go_simp; try with_reducible rfl)
            try simp only [Act.put, List.getElem_toArray, List.getElem_cons_zero, List.getElem_cons_succ, List.setIfInBounds_toArray, List.set_cons_zero, List.set_cons_succ]
            refine wpAnyH_ready (rs := [7, 11]) (by kernel_rfl) (by simp) ?_
            refine AllReadyH.cons (o := _) rfl (fun K hK => ?_) (AllReadyH.cons (o := _) rfl (fun K hK => ?_) AllReadyH.nil)
            go_simp
            refine hK.out _ _ (hS0) (fun hHeld => ?_)
            clear hK K
            try simp only [Act.put, List.getElem_toArray, List.getElem_cons_zero, List.getElem_cons_succ, List.setIfInBounds_toArray, List.set_cons_zero, List.set_cons_succ]
            refine wpAnyH_ready (rs := [11]) (by kernel_rfl) (by simp) ?_
            refine AllReadyH.cons (o := _) rfl (fun K hK => ?_) AllReadyH.nil
            go_simp
            refine (HF.out wr.drew v i bb.drew (by omega) (by omega) hil hd6).mono ?_
            rintro e wc ⟨rfl, belc⟩
            have belc' : Below wr.heap.size wr wc := ((Below.refl _ _).drew).trans belc
            clear belc
            have hbc := hbx.new belc'
            have hS4 := hbc.cell 0 _ rfl
            have hcv4 := (belc'.cell (p := ⟨A, v, none⟩) (World.block_lt_of_cell? wr _ hcv0)).trans hcv0
            have hba : Below wc.heap.size wc (wc.alloc (.cells #[.int .i64 (E v i).1, .int .i64 (E v i).2] 57)) := (by repeat (first | exact Below.refl _ _ | assumption | refine Below.alloc ?_ (by first | (simp; done) | (simp; omega) | omega) _ | refine Below.setCell ?_ (by first | (simp; done) | (simp; omega) | omega) _ | refine Below.drew ?_ | refine Below.drewN ?_ _))
            have hw1 := belc'.trans (hba.mono belc'.size)
            have hS1 := (hbx.new hw1).cell 0 _ rfl
            have hcv5 := (hw1.cell (p := ⟨A, v, none⟩) (World.block_lt_of_cell? wr _ hcv0)).trans hcv0
            have hrow1 : Ow (wc.alloc (.cells #[.int .i64 (E v i).1, .int .i64 (E v i).2] 57)) lo wr.heap.size 57 2 (vs v).1 (rowOf (wireT kn d E v i) v).length (vs v).2 (cellE (rowOf (wireT kn d E v i) v)) := Ow.new (hE.2.1 v hv1) hw1
            have hnews : ∀ jj uu, [Value.int .i64 (E v i).1, Value.int .i64 (E v i).2][jj]? = some uu → (wc.alloc (.cells #[.int .i64 (E v i).1, .int .i64 (E v i).2] 57)).cell? (Addr.add ⟨wc.heap.size, 0, none⟩ jj) = some uu := news2 _ _ _ _
            have zc := belc'.size
            refine hK.out _ _ (hS4) (fun hHeld => ?_)
            clear hK K
            try simp only [Act.put, List.getElem_toArray, List.getElem_cons_zero, List.getElem_cons_succ, List.setIfInBounds_toArray, List.set_cons_zero, List.set_cons_succ]
            refine wpAnyH_ready (rs := [12]) (by kernel_rfl) (by simp) ?_
            refine AllReadyH.cons (o := _) rfl (fun K hK => ?_) AllReadyH.nil
            go_simp
            refine hK.out _ _ (hS1) (fun hHeld => ?_)
            clear hK K
            try simp only [Act.put, List.getElem_toArray, List.getElem_cons_zero, List.getElem_cons_succ, List.setIfInBounds_toArray, List.set_cons_zero, List.set_cons_succ]
            refine wpAnyH_ready (rs := [13]) (by kernel_rfl) (by simp) ?_
            refine AllReadyH.cons (o := _) rfl (fun K hK => ?_) AllReadyH.nil
            rw [if_pos (by rfl)]
            refine step_app _ _ _ rfl 57 (.agg #[.int .i64 0, .int .i64 0]) 2 16 Try.underlying55 end_info rfl (by decide) lo wr.heap.size (vs v).1 (rowOf (wireT kn d E v i) v).length (vs v).2 _ rfl hrow1 ⟨wc.heap.size, 0, none⟩ 1 1 [.int .i64 (E v i).1, .int .i64 (E v i).2] rfl rfl hnews (by simp [Value.oneCell']) (by decide) (by unfold maxLen; omega) (by omega) (by simp; omega) ?_
            intro g' cap' w2 own2 hgr hbg _
            obtain ⟨hbx2, hc2, hf2, vt, hE', hbx', hfr', hrb'⟩ := addP_mem hbx hE hv1 hw1 hlo hgr own2 hbg
            have hS2 := hbx2.cell 0 _ rfl
            have hS3 := hbx'.cell 0 _ rfl
            refine hK.out _ _ hS2 (fun hHeld => ?_)
            clear hK K
            try simp only [Act.put, List.getElem_toArray, List.getElem_cons_zero, List.getElem_cons_succ, List.setIfInBounds_toArray, List.set_cons_zero, List.set_cons_succ]
            refine wpAnyH_take (i := 14) (v := ?_) rfl (by kernel_rfl) (by kernel_rfl) (by kernel_rfl) (fun _ _ _ h => h) (Or.inl ⟨by rfl, ?_⟩) (by assumption) ?_
            rotate_left
            · (intro w hSw; (try dsimp only at hSw); go_simp; try with_reducible rfl)
            try simp only [Act.put, List.getElem_toArray, List.getElem_cons_zero, List.getElem_cons_succ, List.setIfInBounds_toArray, List.set_cons_zero, List.set_cons_succ]
            refine wpAnyH_ready (rs := [15]) (by kernel_rfl) (by simp) ?_
            refine AllReadyH.cons (o := _) rfl (fun K hK => ?_) AllReadyH.nil
            go_simp
            refine hK.out _ _ (hS3) (fun hHeld => ?_)
            clear hK K
            try simp only [Act.put, List.getElem_toArray, List.getElem_cons_zero, List.getElem_cons_succ, List.setIfInBounds_toArray, List.set_cons_zero, List.set_cons_succ]
            refine wpAnyH_done (by kernel_rfl) ?_ _
            clear hHeld hS2 hS3 hc2 hf2 hbx2 own2 hgr hbg hS4 hS1 hcv4 hcv5 hba hw1 hrow1 hnews hbc belc'
            rotate_left
            go_simp
            refine (HF.out wr.drew v i bb.drew (by omega) (by omega) hil hd6).mono ?_
            rintro e wc ⟨rfl, belc⟩
            have belc' : Below wr.heap.size wr wc := ((Below.refl _ _).drew).trans belc
            clear belc
            have hbc := hbx.new belc'
            have hS4 := hbc.cell 0 _ rfl
            have hcv4 := (belc'.cell (p := ⟨A, v, none⟩) (World.block_lt_of_cell? wr _ hcv0)).trans hcv0
            have hba : Below wc.heap.size wc (wc.alloc (.cells #[.int .i64 (E v i).1, .int .i64 (E v i).2] 57)) := (by repeat (first | exact Below.refl _ _ | assumption | refine Below.alloc ?_ (by first | (simp; done) | (simp; omega) | omega) _ | refine Below.setCell ?_ (by first | (simp; done) | (simp; omega) | omega) _ | refine Below.drew ?_ | refine Below.drewN ?_ _))
            have hw1 := belc'.trans (hba.mono belc'.size)
            have hS1 := (hbx.new hw1).cell 0 _ rfl
            have hcv5 := (hw1.cell (p := ⟨A, v, none⟩) (World.block_lt_of_cell? wr _ hcv0)).trans hcv0
            have hrow1 : Ow (wc.alloc (.cells #[.int .i64 (E v i).1, .int .i64 (E v i).2] 57)) lo wr.heap.size 57 2 (vs v).1 (rowOf (wireT kn d E v i) v).length (vs v).2 (cellE (rowOf (wireT kn d E v i) v)) := Ow.new (hE.2.1 v hv1) hw1
            have hnews : ∀ jj uu, [Value.int .i64 (E v i).1, Value.int .i64 (E v i).2][jj]? = some uu → (wc.alloc (.cells #[.int .i64 (E v i).1, .int .i64 (E v i).2] 57)).cell? (Addr.add ⟨wc.heap.size, 0, none⟩ jj) = some uu := news2 _ _ _ _
            have zc := belc'.size
            refine hK.out _ _ (hS4) (fun hHeld => ?_)
            clear hK K
            try simp only [Act.put, List.getElem_toArray, List.getElem_cons_zero, List.getElem_cons_succ, List.setIfInBounds_toArray, List.set_cons_zero, List.set_cons_succ]
            refine wpAnyH_ready (rs := [7, 12]) (by kernel_rfl) (by simp) ?_
            refine AllReadyH.cons (o := _) rfl (fun K hK => ?_) (AllReadyH.cons (o := _) rfl (fun K hK => ?_) AllReadyH.nil)
            go_simp
            refine hK.out _ _ (hS4) (fun hHeld => ?_)
            clear hK K
            try simp only [Act.put, List.getElem_toArray, List.getElem_cons_zero, List.getElem_cons_succ, List.setIfInBounds_toArray, List.set_cons_zero, List.set_cons_succ]
            refine wpAnyH_ready (rs := [12]) (by kernel_rfl) (by simp) ?_
            refine AllReadyH.cons (o := _) rfl (fun K hK => ?_) AllReadyH.nil
            go_simp
            refine hK.out _ _ (hS1) (fun hHeld => ?_)
            clear hK K
            try simp only [Act.put, List.getElem_toArray, List.getElem_cons_zero, List.getElem_cons_succ, List.setIfInBounds_toArray, List.set_cons_zero, List.set_cons_succ]
            refine wpAnyH_ready (rs := [13]) (by kernel_rfl) (by simp) ?_
            refine AllReadyH.cons (o := _) rfl (fun K hK => ?_) AllReadyH.nil
            rw [if_pos (by rfl)]
            refine step_app _ _ _ rfl 57 (.agg #[.int .i64 0, .int .i64 0]) 2 16 Try.underlying55 end_info rfl (by decide) lo wr.heap.size (vs v).1 (rowOf (wireT kn d E v i) v).length (vs v).2 _ rfl hrow1 ⟨wc.heap.size, 0, none⟩ 1 1 [.int .i64 (E v i).1, .int .i64 (E v i).2] rfl rfl hnews (by simp [Value.oneCell']) (by decide) (by unfold maxLen; omega) (by omega) (by simp; omega) ?_
            intro g' cap' w2 own2 hgr hbg _
            obtain ⟨hbx2, hc2, hf2, vt, hE', hbx', hfr', hrb'⟩ := addP_mem hbx hE hv1 hw1 hlo hgr own2 hbg
            have hS2 := hbx2.cell 0 _ rfl
            have hS3 := hbx'.cell 0 _ rfl
            refine hK.out _ _ hS2 (fun hHeld => ?_)
            clear hK K
            try simp only [Act.put, List.getElem_toArray, List.getElem_cons_zero, List.getElem_cons_succ, List.setIfInBounds_toArray, List.set_cons_zero, List.set_cons_succ]
            refine wpAnyH_take (i := 14) (v := ?_) rfl (by kernel_rfl) (by kernel_rfl) (by kernel_rfl) (fun _ _ _ h => h) (Or.inl ⟨by rfl, ?_⟩) (by assumption) ?_
            rotate_left
            · (intro w hSw; (try dsimp only at hSw); go_simp; try with_reducible rfl)
            try simp only [Act.put, List.getElem_toArray, List.getElem_cons_zero, List.getElem_cons_succ, List.setIfInBounds_toArray, List.set_cons_zero, List.set_cons_succ]
            refine wpAnyH_ready (rs := [15]) (by kernel_rfl) (by simp) ?_
            refine AllReadyH.cons (o := _) rfl (fun K hK => ?_) AllReadyH.nil
            go_simp
            refine hK.out _ _ (hS3) (fun hHeld => ?_)
            clear hK K
            try simp only [Act.put, List.getElem_toArray, List.getElem_cons_zero, List.getElem_cons_succ, List.setIfInBounds_toArray, List.set_cons_zero, List.set_cons_succ]
            refine wpAnyH_done (by kernel_rfl) ?_ _
            clear hHeld hS2 hS3 hc2 hf2 hbx2 own2 hgr hbg hS4 hS1 hcv4 hcv5 hba hw1 hrow1 hnews hbc belc'
            rotate_left
            go_simp
            refine hK.out _ _ (hS1) (fun hHeld => ?_)
            clear hK K
            try simp only [Act.put, List.getElem_toArray, List.getElem_cons_zero, List.getElem_cons_succ, List.setIfInBounds_toArray, List.set_cons_zero, List.set_cons_succ]
            refine wpAnyH_ready (rs := [7]) (by kernel_rfl) (by simp) ?_
            refine AllReadyH.cons (o := _) rfl (fun K hK => ?_) AllReadyH.nil
            go_simp
            refine hK.out _ _ (hS1) (fun hHeld => ?_)
            clear hK K
            try simp only [Act.put, List.getElem_toArray, List.getElem_cons_zero, List.getElem_cons_succ, List.setIfInBounds_toArray, List.set_cons_zero, List.set_cons_succ]
            refine wpAnyH_ready (rs := [13]) (by kernel_rfl) (by simp) ?_
            refine AllReadyH.cons (o := _) rfl (fun K hK => ?_) AllReadyH.nil
            rw [if_pos (by rfl)]
            refine step_app _ _ _ rfl 57 (.agg #[.int .i64 0, .int .i64 0]) 2 16 Try.underlying55 end_info rfl (by decide) lo wr.heap.size (vs v).1 (rowOf (wireT kn d E v i) v).length (vs v).2 _ rfl hrow1 ⟨wc.heap.size, 0, none⟩ 1 1 [.int .i64 (E v i).1, .int .i64 (E v i).2] rfl rfl hnews (by simp [Value.oneCell']) (by decide) (by unfold maxLen; omega) (by omega) (by simp; omega) ?_
            intro g' cap' w2 own2 hgr hbg _
            obtain ⟨hbx2, hc2, hf2, vt, hE', hbx', hfr', hrb'⟩ := addP_mem hbx hE hv1 hw1 hlo hgr own2 hbg
            have hS2 := hbx2.cell 0 _ rfl
            have hS3 := hbx'.cell 0 _ rfl
            refine hK.out _ _ hS2 (fun hHeld => ?_)
            clear hK K
            try simp only [Act.put, List.getElem_toArray, List.getElem_cons_zero, List.getElem_cons_succ, List.setIfInBounds_toArray, List.set_cons_zero, List.set_cons_succ]
            refine wpAnyH_take (i := 14) (v := ?_) rfl (by kernel_rfl) (by kernel_rfl) (by kernel_rfl) (fun _ _ _ h => h) (Or.inl ⟨by rfl, ?_⟩) (by assumption) ?_
            rotate_left
            · (intro w hSw; (try dsimp only at hSw); go_simp; try with_reducible rfl)
            try simp only [Act.put, List.getElem_toArray, List.getElem_cons_zero, List.getElem_cons_succ, List.setIfInBounds_toArray, List.set_cons_zero, List.set_cons_succ]
            refine wpAnyH_ready (rs := [15]) (by kernel_rfl) (by simp) ?_
            refine AllReadyH.cons (o := _) rfl (fun K hK => ?_) AllReadyH.nil
            go_simp
            refine hK.out _ _ (hS3) (fun hHeld => ?_)
            clear hK K
            try simp only [Act.put, List.getElem_toArray, List.getElem_cons_zero, List.getElem_cons_succ, List.setIfInBounds_toArray, List.set_cons_zero, List.set_cons_succ]
            refine wpAnyH_done (by kernel_rfl) ?_ _
            clear hHeld hS2 hS3 hc2 hf2 hbx2 own2 hgr hbg hS4 hS1 hcv4 hcv5 hba hw1 hrow1 hnews hbc belc'
            rotate_left
            all_goals
              clear hS0 hcv hcv0 hbx hE
              generalize hWW : World.setCell w2 _ _ = w4 at hE' hbx' hfr' ⊢
              clear hWW
              replace hE' := RowsAt.top hE'
              obtain ⟨hE, hbx, hfr, hrb⟩ := (⟨hE', hbx', hfr', hrb'⟩ : _ ∧ _ ∧ _ ∧ _)
              clear hE' hbx' hfr' hrb'
              replace owni := Ow.top (Ow.frB owni hfr HNI.out)
              replace ownp := Ow.top (Ow.frB ownp hfr HNP.out)
              replace BR := BR.fr hfr (fun h => by have := HIN.out _ h; omega)
              replace bb := bb.trans (hfr.below (B := w.heap.size) (fun x h1 h2 hc => by have := HIN.out _ hc; omega) bb.size)
              have z6' := hfr.size
              clear hfr hrb HNI HNP HIN
              rw [wireT_add _ _ _ _ _ hlt] at hE
              rw [HLO.out] at hE owni ownp
              rw [HNK.out] at hbx
              have hNB5 : NBx w4 (w.heap.size + 1) b (tN kn d E v (i + 1)) := ⟨_, c, vt, ai, ci, ap, cp, by rw [show (tN kn d E v (i + 1)).ends.length = kn from wireT_length ..]; exact hbx, hE, owni, ownp, hdis⟩
              go_wp2_with fail
              go_roundw
              case rel => exact ⟨i + 1, by omega, by go_num, hNB5, BR, bb, by omega⟩
              case measure => simp [intOf]; omega
          · obtain rfl : i = d := by omega
            go_wp2_with fail
            go_roundw
            case rel => exact ⟨v + 1, by omega, by go_num, by unfold tN; rw [← wireT_next]; exact hNB, BR, bb, zlo⟩
            case measure => simp [intOf]; omega
      · have HVK := Lib.hid (show v = kn by omega)
        rw [HVK.out] at hNB
        have HTN := Lib.hid (show tN kn d E kn 0 = wireN kn d E by unfold tN wireN; rw [wireT_all])
        rw [HTN.out] at hNB
        have HSM := Lib.hid (show NetSmall (wireN kn d E) by rw [← HTN.out]; exact tN_small (by omega) hd6 (Nat.zero_le _))
        obtain ⟨ax, cx, vx, aix, cix, apx, cpx, BO, hE, owni, ownp, hdis⟩ := hNB
        have own6 : NetAt wr (w.heap.size + 1) wr.heap.size _ (wireN kn d E) := ⟨ax, cx, vx, aix, cix, apx, cpx, rfl, hE, owni, ownp, hdis⟩
        have q0 := BO.cell 0 _ rfl
        have q1 := BO.cell 1 _ rfl
        have q2 := BO.cell 2 _ rfl
        clear hE owni ownp hdis BO
        go_wp2_with fail
        clear q0 q1 q2
        refine (network_any _ (wireN kn d E) _ _ _ own6 (Nat.le_refl _) zlo HSM.out).mono ?_
        rintro e w7 ⟨x7, rfl, own7, bel7⟩
        replace BR := BR.new bel7
        replace bb := bb.trans (bel7.mono bb.size)
        have z7 := bel7.size
        clear bel7 own6
        obtain ⟨ay, cy, aiy, ciy, apy, cpy, rfl, own7⟩ := own7.shape
        generalize hRR : ifN (netB (wireN kn d E)) (wireN kn d E) = RR at *
        generalize hOO : netB (wireN kn d E) = oo at *
        have HRR := Lib.hid (show wdR (kn : Int) d E = RR ∧ wdB (kn : Int) d E = oo by
          have h1 : wdB (kn : Int) d E = oo := by rw [HOKB.out, Int.toNat_natCast]; exact hOO
          exact ⟨by rw [wdR, h1, Int.toNat_natCast]; exact hRR, h1⟩)
        clear hRR hOO
        have e0 := BR.cell 0 _ rfl
        have e1 := BR.cell 1 _ rfl
        have e2 := BR.cell 2 _ rfl
        have f0 := BR.frozen 0
        have f1 := BR.frozen 1
        have f2 := BR.frozen 2
        go_wp2_with fail
        clear e0 e1 e2 f0 f1 f2
        generalize hW : World.setCell _ _ _ = W
        have B6 : Bx W (w.heap.size) 25 #[.slice ay RR.ends.length cy, .slice aiy RR.ids.length ciy, .slice apy RR.inputs.length cpy] := by rw [← hW]; exact ((BR.set 0 _).set 1 _).set 2 _
        have fr6 : Fr (fun k => k = w.heap.size) w7 W := by rw [← hW]; exact fr3 _ _ _ _ _
        clear hW
        have z6 := fr6.size
        have d0 := B6.cell 0 _ rfl
        have d1 := B6.cell 1 _ rfl
        have d2 := B6.cell 2 _ rfl
        refine bodyPost_ret (v := .tuple #[.agg #[.slice ay RR.ends.length cy, .slice aiy RR.ids.length ciy, .slice apy RR.inputs.length cpy], .bool oo]) (by simp [results, Try.results50, go_sem, d0, d1, d2]) rfl ?_
        rw [HRR.out.1, HRR.out.2]
        exact ⟨_, rfl, (own7.fr fr6 (fun k h1 h2 hc => by omega)).wide (lo' := w.heap.size) (hi' := W.heap.size) (by omega) (by omega), bb.trans (fr6.below (fun k h1 h2 hc => by omega) bb.size)⟩
set_option maxRecDepth 100000 in
set_option maxHeartbeats 400000 in
theorem bou1_any (s p i : Nat) (X : World) (hp : X.cell? ⟨p, 0, none⟩ = some (.int .i64 (s : Int))) (hs : s ≤ 6) (hi : i < 100) :
    Calls Try.prog 62 #[.int .i64 0, .int .i64 i, .pointer (some ⟨p, 0, none⟩)] X fun e w' => e = .returned (.agg #[.int .i64 (bouE s 0 i).1, .int .i64 (bouE s 0 i).2]) ∧ Below X.heap.size X w' := by
  have b0 : ∀ cs, Below X.heap.size X (X.alloc (.cells cs 57)) := fun cs => (by repeat (first | exact Below.refl _ _ | assumption | refine Below.alloc ?_ (by first | (simp; done) | (simp; omega) | omega) _ | refine Below.setCell ?_ (by first | (simp; done) | (simp; omega) | omega) _ | refine Below.drew ?_ | refine Below.drewN ?_ _))
  have hpX : p < X.heap.size := World.block_lt_of_cell? X _ hp
  have hp0 := ((b0 #[.int .i64 0, .int .i64 0]).cell (p := ⟨p, 0, none⟩) hpX).trans hp
  by_cases h : i < s
  · have HC := Lib.hid (show bouE s 0 i = (0, (i : Int)) by rw [bouE, if_pos h])
    go_enter Try.func62, Try.ntmps62
    go_wp2_with fail
    refine bodyPost_ret (v := .agg #[.int .i64 0, .int .i64 (i : Int)]) (by simp [results, Try.results62, go_sem]) rfl ?_
    rw [HC.out]
    exact ⟨rfl, b0 _⟩
  · have HC := Lib.hid (show bouE s 0 i = (0, ((s + ((i - s) ^^^ 1) : Nat) : Int)) by rw [bouE, if_neg h])
    obtain ⟨r, hr⟩ : ∃ r, r = i - s := ⟨_, rfl⟩
    have hxx : (i - s) ^^^ 1 < 2 ^ 7 := Nat.xor_lt_two_pow (by omega) (by omega)
    have hx := bits_xor_i64_nat (i - s) 1 (by omega) (by omega)
    rw [show ((i - s : Nat) : Int) = (i : Int) - (s : Int) by omega, show ((1 : Nat) : Int) = 1 from rfl] at hx
    clear hr
    go_enter Try.func62, Try.ntmps62
    go_wp2_with fail
    refine bodyPost_ret (v := .agg #[.int .i64 0, .int .i64 ((s : Int) + ((((i - s) ^^^ 1 : Nat)) : Int))]) (by simp [results, Try.results62, go_sem]) rfl ?_
    rw [HC.out, Int.natCast_add]
    exact ⟨rfl, b0 _⟩
set_option maxRecDepth 100000 in
set_option maxHeartbeats 400000 in
theorem implBou_any (x y : Int) (w : World) : Calls Try.prog 25 #[.int .i64 x, .int .i64 y] w (PostN (boR x y) (boB x y) w) := by
  have BK := (Bx.made w 3 #[.int .i64 x]).alloc (.cells #[.slice none 0 0, .slice none 0 0, .slice none 0 0] 25)
  have BR := Bx.made (w.alloc (.cells #[.int .i64 x] 3)) 25 #[.slice none 0 0, .slice none 0 0, .slice none 0 0]
  have b0 : Below w.heap.size w ((w.alloc (.cells #[.int .i64 x] 3)).alloc (.cells #[.slice none 0 0, .slice none 0 0, .slice none 0 0] 25)) := (by repeat (first | exact Below.refl _ _ | assumption | refine Below.alloc ?_ (by first | (simp; done) | (simp; omega) | omega) _ | refine Below.setCell ?_ (by first | (simp; done) | (simp; omega) | omega) _ | refine Below.drew ?_ | refine Below.drewN ?_ _))
  have z0 : w.heap.size + 1 + 1 ≤ ((w.alloc (.cells #[.int .i64 x] 3)).alloc (.cells #[.slice none 0 0, .slice none 0 0, .slice none 0 0] 25)).heap.size := by simp
  rw [World.size_alloc] at BR
  have e0 := BR.cell 0 _ rfl
  have e1 := BR.cell 1 _ rfl
  have e2 := BR.cell 2 _ rfl
  have f0 := BR.frozen 0
  have f1 := BR.frozen 1
  have f2 := BR.frozen 2
  have ck := BK.cell 0 _ rfl
  cases hx : inR x 0 6 with
  | false =>
    have HK := Lib.hid hx
    have HF := Lib.hid (boB_f0 (l := y) hx)
    clear hx
    go_enter Try.func25, Try.ntmps25
    go_wp2_with fail
    refine (within_any _ _ _ _).mono ?_
    rintro e w' ⟨rfl, rfl⟩
    rw [HK.out]
    generalize (w.alloc (.cells #[.int .i64 x] 3)).alloc (.cells #[.slice none 0 0, .slice none 0 0, .slice none 0 0] 25) = w0 at *
    go_wp2_with fail
    clear e0 e1 e2 f0 f1 f2
    generalize hW : World.setCell _ _ _ = W
    have B6 : Bx W (w.heap.size + 1) 25 #[.slice none 0 0, .slice none 0 0, .slice none 0 0] := by rw [← hW]; exact ((BR.set 0 _).set 1 _).set 2 _
    have fr6 : Fr (fun k => k = w.heap.size + 1) w0 W := by rw [← hW]; exact fr3 _ _ _ _ _
    clear hW
    have z6 := fr6.size
    have d0 := B6.cell 0 _ rfl
    have d1 := B6.cell 1 _ rfl
    have d2 := B6.cell 2 _ rfl
    refine bodyPost_ret (v := .tuple #[.agg #[.slice none 0 0, .slice none 0 0, .slice none 0 0], .bool false]) (by simp [results, Try.results25, go_sem, d0, d1, d2]) rfl ?_
    rw [boR_f HF.out, HF.out]
    exact ⟨_, rfl, NetAt.nilN _ _ _, b0.trans (fr6.below (fun k h1 h2 hc => by omega) b0.size)⟩
  | true =>
    cases hy : inR y 0 6 with
    | false =>
      have HK := Lib.hid hx
      have HK2 := Lib.hid hy
      have HF := Lib.hid (boB_f1 (s := x) hy)
      clear hx hy
      go_enter Try.func25, Try.ntmps25
      go_wp2_with fail
      refine (within_any _ _ _ _).mono ?_
      rintro e w' ⟨rfl, rfl⟩
      rw [HK.out]
      go_wp2_with fail
      refine (within_any _ _ _ _).mono ?_
      rintro e w' ⟨rfl, rfl⟩
      rw [HK2.out]
      generalize (w.alloc (.cells #[.int .i64 x] 3)).alloc (.cells #[.slice none 0 0, .slice none 0 0, .slice none 0 0] 25) = w0 at *
      go_wp2_with fail
      clear e0 e1 e2 f0 f1 f2
      generalize hW : World.setCell _ _ _ = W
      have B6 : Bx W (w.heap.size + 1) 25 #[.slice none 0 0, .slice none 0 0, .slice none 0 0] := by rw [← hW]; exact ((BR.set 0 _).set 1 _).set 2 _
      have fr6 : Fr (fun k => k = w.heap.size + 1) w0 W := by rw [← hW]; exact fr3 _ _ _ _ _
      clear hW
      have z6 := fr6.size
      have d0 := B6.cell 0 _ rfl
      have d1 := B6.cell 1 _ rfl
      have d2 := B6.cell 2 _ rfl
      refine bodyPost_ret (v := .tuple #[.agg #[.slice none 0 0, .slice none 0 0, .slice none 0 0], .bool false]) (by simp [results, Try.results25, go_sem, d0, d1, d2]) rfl ?_
      rw [boR_f HF.out, HF.out]
      exact ⟨_, rfl, NetAt.nilN _ _ _, b0.trans (fr6.below (fun k h1 h2 hc => by omega) b0.size)⟩
    | true =>
      have HK := Lib.hid hx
      have HK2 := Lib.hid hy
      have hx2 := inR_iff.1 hx
      have hy2 := inR_iff.1 hy
      obtain ⟨s, rfl⟩ := Int.eq_ofNat_of_zero_le hx2.1
      obtain ⟨l, rfl⟩ := Int.eq_ofNat_of_zero_le hy2.1
      clear hx hy
      go_enter Try.func25, Try.ntmps25
      go_wp2_with fail
      refine (within_any _ _ _ _).mono ?_
      rintro e w' ⟨rfl, rfl⟩
      rw [HK.out]
      go_wp2_with fail
      refine (within_any _ _ _ _).mono ?_
      rintro e w' ⟨rfl, rfl⟩
      rw [HK2.out]
      generalize (w.alloc (.cells #[.int .i64 (s : Int)] 3)).alloc (.cells #[.slice none 0 0, .slice none 0 0, .slice none 0 0] 25) = w0 at *
      have HW := Lib.hid (wiredBou_any 1 (s + 2 * l) (bouE s) w.heap.size w0 (by omega) (fun X v i bX hv hk hi hd => by
        obtain rfl : v = 0 := by omega
        exact bou1_any s w.heap.size i X ((BK.new bX).cell 0 _ rfl) (by omega) (by omega)))
      rw [show ((s + 2 * l : Nat) : Int) = (s : Int) + 2 * (l : Int) by omega] at HW
      have HB := Lib.hid (And.intro (bou_wdB (s := s) (l := l) (by omega) (by omega)) (bou_wdR (s := s) (l := l) (by omega) (by omega)))
      clear e0 e1 e2 f0 f1 f2
      go_wp2_with fail
      refine HW.out.mono ?_
      rw [HB.out.1, HB.out.2]
      rintro e w7 ⟨x7, rfl, own7, bel7⟩
      replace BR := BR.new bel7
      have bb := b0.trans (bel7.mono b0.size)
      have z7 := bel7.size
      clear bel7 HW
      obtain ⟨ay, cy, aiy, ciy, apy, cpy, rfl, own7⟩ := own7.shape
      generalize hRR : boR (s : Int) (l : Int) = RR at *
      generalize hOO : boB (s : Int) (l : Int) = oo at *
      have HRR := Lib.hid (And.intro hRR hOO)
      clear hRR hOO
      have e0 := BR.cell 0 _ rfl
      have e1 := BR.cell 1 _ rfl
      have e2 := BR.cell 2 _ rfl
      have f0 := BR.frozen 0
      have f1 := BR.frozen 1
      have f2 := BR.frozen 2
      go_wp2_with fail
      clear e0 e1 e2 f0 f1 f2
      generalize hW : World.setCell _ _ _ = W
      have B6 : Bx W (w.heap.size + 1) 25 #[.slice ay RR.ends.length cy, .slice aiy RR.ids.length ciy, .slice apy RR.inputs.length cpy] := by rw [← hW]; exact ((BR.set 0 _).set 1 _).set 2 _
      have fr6 : Fr (fun k => k = w.heap.size + 1) w7 W := by rw [← hW]; exact fr3 _ _ _ _ _
      clear hW
      have z6 := fr6.size
      have d0 := B6.cell 0 _ rfl
      have d1 := B6.cell 1 _ rfl
      have d2 := B6.cell 2 _ rfl
      refine bodyPost_ret (v := .tuple #[.agg #[.slice ay RR.ends.length cy, .slice aiy RR.ids.length ciy, .slice apy RR.inputs.length cpy], .bool oo]) (by simp [results, Try.results25, go_sem, d0, d1, d2]) rfl ?_
      exact ⟨_, rfl, (own7.fr fr6 (fun k h1 h2 hc => by omega)).wide (lo' := w.heap.size) (hi' := W.heap.size) (by omega) (by omega), bb.trans (fr6.below (fun k h1 h2 hc => by omega) bb.size)⟩
set_option maxRecDepth 100000 in
set_option maxHeartbeats 800000 in
theorem specBou_any (x y : Int) (w : World) : Calls Try.prog 24 #[.int .i64 x, .int .i64 y] w (PostN (boR x y) (boB x y) w) := by
  have BR := Bx.made w 25 #[.slice none 0 0, .slice none 0 0, .slice none 0 0]
  have b0 : Below w.heap.size w (w.alloc (.cells #[.slice none 0 0, .slice none 0 0, .slice none 0 0] 25)) := (by repeat (first | exact Below.refl _ _ | assumption | refine Below.alloc ?_ (by first | (simp; done) | (simp; omega) | omega) _ | refine Below.setCell ?_ (by first | (simp; done) | (simp; omega) | omega) _ | refine Below.drew ?_ | refine Below.drewN ?_ _))
  have z0 : w.heap.size + 1 ≤ (w.alloc (.cells #[.slice none 0 0, .slice none 0 0, .slice none 0 0] 25)).heap.size := by simp
  have e0 := BR.cell 0 _ rfl
  have e1 := BR.cell 1 _ rfl
  have e2 := BR.cell 2 _ rfl
  have f0 := BR.frozen 0
  have f1 := BR.frozen 1
  have f2 := BR.frozen 2
  cases hx : inR x 0 6 with
  | false =>
    have HK := Lib.hid hx
    have HF := Lib.hid (boB_f0 (l := y) hx)
    clear hx
    go_enter Try.func24, Try.ntmps24
    go_wp2_with fail
    refine (l1In_any _ _ _ _).mono ?_
    rintro e w' ⟨rfl, rfl⟩
    rw [HK.out]
    generalize w.alloc (.cells #[.slice none 0 0, .slice none 0 0, .slice none 0 0] 25) = w0 at *
    go_wp2_with fail
    clear e0 e1 e2 f0 f1 f2
    generalize hW : World.setCell _ _ _ = W
    have B6 : Bx W (w.heap.size) 25 #[.slice none 0 0, .slice none 0 0, .slice none 0 0] := by rw [← hW]; exact ((BR.set 0 _).set 1 _).set 2 _
    have fr6 : Fr (fun k => k = w.heap.size) w0 W := by rw [← hW]; exact fr3 _ _ _ _ _
    clear hW
    have z6 := fr6.size
    have d0 := B6.cell 0 _ rfl
    have d1 := B6.cell 1 _ rfl
    have d2 := B6.cell 2 _ rfl
    refine bodyPost_ret (v := .tuple #[.agg #[.slice none 0 0, .slice none 0 0, .slice none 0 0], .bool false]) (by simp [results, Try.results24, go_sem, d0, d1, d2]) rfl ?_
    rw [boR_f HF.out, HF.out]
    exact ⟨_, rfl, NetAt.nilN _ _ _, b0.trans (fr6.below (fun k h1 h2 hc => by omega) b0.size)⟩
  | true =>
    cases hy : inR y 0 6 with
    | false =>
      have HK := Lib.hid hx
      have HK2 := Lib.hid hy
      have HF := Lib.hid (boB_f1 (s := x) hy)
      clear hx hy
      go_enter Try.func24, Try.ntmps24
      go_wp2_with fail
      refine (l1In_any _ _ _ _).mono ?_
      rintro e w' ⟨rfl, rfl⟩
      rw [HK.out]
      go_wp2_with fail
      refine (l1In_any _ _ _ _).mono ?_
      rintro e w' ⟨rfl, rfl⟩
      rw [HK2.out]
      generalize w.alloc (.cells #[.slice none 0 0, .slice none 0 0, .slice none 0 0] 25) = w0 at *
      go_wp2_with fail
      clear e0 e1 e2 f0 f1 f2
      generalize hW : World.setCell _ _ _ = W
      have B6 : Bx W (w.heap.size) 25 #[.slice none 0 0, .slice none 0 0, .slice none 0 0] := by rw [← hW]; exact ((BR.set 0 _).set 1 _).set 2 _
      have fr6 : Fr (fun k => k = w.heap.size) w0 W := by rw [← hW]; exact fr3 _ _ _ _ _
      clear hW
      have z6 := fr6.size
      have d0 := B6.cell 0 _ rfl
      have d1 := B6.cell 1 _ rfl
      have d2 := B6.cell 2 _ rfl
      refine bodyPost_ret (v := .tuple #[.agg #[.slice none 0 0, .slice none 0 0, .slice none 0 0], .bool false]) (by simp [results, Try.results24, go_sem, d0, d1, d2]) rfl ?_
      rw [boR_f HF.out, HF.out]
      exact ⟨_, rfl, NetAt.nilN _ _ _, b0.trans (fr6.below (fun k h1 h2 hc => by omega) b0.size)⟩
    | true =>
      have HK := Lib.hid hx
      have HK2 := Lib.hid hy
      have hx2 := inR_iff.1 hx
      have hy2 := inR_iff.1 hy
      obtain ⟨s, rfl⟩ := Int.eq_ofNat_of_zero_le hx2.1
      obtain ⟨l, rfl⟩ := Int.eq_ofNat_of_zero_le hy2.1
      have HBT := Lib.hid (boB_t hx hy)
      clear hx hy
      by_cases hsl : s + 2 * l ≤ 6
      case neg =>
        have HF := Lib.hid (HBT.out.trans (decide_eq_false (by omega)))
        go_enter Try.func24, Try.ntmps24
        go_wp2_with fail
        refine (l1In_any _ _ _ _).mono ?_
        rintro e w' ⟨rfl, rfl⟩
        rw [HK.out]
        go_wp2_with fail
        refine (l1In_any _ _ _ _).mono ?_
        rintro e w' ⟨rfl, rfl⟩
        rw [HK2.out]
        generalize w.alloc (.cells #[.slice none 0 0, .slice none 0 0, .slice none 0 0] 25) = w0 at *
        go_wp2_with fail
        clear e0 e1 e2 f0 f1 f2
        generalize hW : World.setCell _ _ _ = W
        have B6 : Bx W (w.heap.size) 25 #[.slice none 0 0, .slice none 0 0, .slice none 0 0] := by rw [← hW]; exact ((BR.set 0 _).set 1 _).set 2 _
        have fr6 : Fr (fun k => k = w.heap.size) w0 W := by rw [← hW]; exact fr3 _ _ _ _ _
        clear hW
        have z6 := fr6.size
        have d0 := B6.cell 0 _ rfl
        have d1 := B6.cell 1 _ rfl
        have d2 := B6.cell 2 _ rfl
        refine bodyPost_ret (v := .tuple #[.agg #[.slice none 0 0, .slice none 0 0, .slice none 0 0], .bool false]) (by simp [results, Try.results24, go_sem, d0, d1, d2]) rfl ?_
        rw [boR_f HF.out, HF.out]
        exact ⟨_, rfl, NetAt.nilN _ _ _, b0.trans (fr6.below (fun k h1 h2 hc => by omega) b0.size)⟩
      have HT := Lib.hid (HBT.out.trans (decide_eq_true (by omega)))
      have HG := Lib.hid (show boR (s : Int) (l : Int) = loopsN (stubsN (emptyN 1) s) l by rw [boR, HT.out, bou_eq (by omega) (by omega) hsl]; rfl)
      clear e0 e1 e2 f0 f1 f2 HBT
      go_enter Try.func24, Try.ntmps24
      go_wp2_with fail
      refine (l1In_any _ _ _ _).mono ?_
      rintro e w' ⟨rfl, rfl⟩
      rw [HK.out]
      go_wp2_with fail
      refine (l1In_any _ _ _ _).mono ?_
      rintro e w' ⟨rfl, rfl⟩
      rw [HK2.out]
      generalize w.alloc (.cells #[.slice none 0 0, .slice none 0 0, .slice none 0 0] 25) = w0 at *
      go_wp2_with fail
      refine (neEmpty_any 1 _ (by omega)).mono ?_
      rintro e w1 ⟨v1, rfl, own1, bel1⟩
      obtain ⟨a1, c1, ai1, ci1, ap1, cp1, rfl, own1⟩ := own1.shape
      replace BR := BR.new bel1
      have z1 : w.heap.size + 1 ≤ w1.heap.size := by have := bel1.size; omega
      have b1 := b0.trans (bel1.mono b0.size)
      replace own1 := own1.wide (lo' := w.heap.size + 1) z0 (Nat.le_refl _)
      clear b0 bel1
      have BO := Bx.made w1 25 #[.slice a1 (emptyN 1).ends.length c1, .slice ai1 (emptyN 1).ids.length ci1, .slice ap1 (emptyN 1).inputs.length cp1]
      have b2 : Below w1.heap.size w1 (w1.alloc (.cells #[.slice a1 (emptyN 1).ends.length c1, .slice ai1 (emptyN 1).ids.length ci1, .slice ap1 (emptyN 1).inputs.length cp1] 25)) := (by repeat (first | exact Below.refl _ _ | assumption | refine Below.alloc ?_ (by first | (simp; done) | (simp; omega) | omega) _ | refine Below.setCell ?_ (by first | (simp; done) | (simp; omega) | omega) _ | refine Below.drew ?_ | refine Below.drewN ?_ _))
      go_upto_region 4 with fail
      have z2 : w1.heap.size + 1 ≤ (w1.alloc (.cells #[.slice a1 (emptyN 1).ends.length c1, .slice ai1 (emptyN 1).ids.length ci1, .slice ap1 (emptyN 1).inputs.length cp1] 25)).heap.size := by simp
      generalize w1.alloc (.cells #[.slice a1 (emptyN 1).ends.length c1, .slice ai1 (emptyN 1).ids.length ci1, .slice ap1 (emptyN 1).inputs.length cp1] 25) = w2 at *
      obtain ⟨b, hb⟩ : ∃ b, b = w1.heap.size := ⟨_, rfl⟩
      rw [← hb] at BO ⊢
      replace BR := BR.new b2
      replace own1 := (own1.new b2).wide (Nat.le_refl _) b2.size
      have bb := b1.trans (b2.mono b1.size)
      have zb : w.heap.size + 1 ≤ b := by omega
      have zlo : w.heap.size + 1 ≤ w2.heap.size := by omega
      clear hb b1 b2 z2
      replace BO : Bx w2 b 25 #[.slice a1 (stubsN (emptyN 1) 0).ends.length c1, .slice ai1 (stubsN (emptyN 1) 0).ids.length ci1, .slice ap1 (stubsN (emptyN 1) 0).inputs.length cp1] := BO
      replace own1 : NetAt w2 (w.heap.size + 1) w2.heap.size (.agg #[.slice a1 (stubsN (emptyN 1) 0).ends.length c1, .slice ai1 (stubsN (emptyN 1) 0).ids.length ci1, .slice ap1 (stubsN (emptyN 1) 0).inputs.length cp1]) (stubsN (emptyN 1) 0) := own1
      go_loopw [0] (fun iv wr => ∃ j : Nat, j ≤ s ∧ iv = .int .i64 ((s - j : Nat) : Int) ∧ ∃ a c ai ci ap cp, Bx wr b 25 #[.slice a (stubsN (emptyN 1) j).ends.length c, .slice ai (stubsN (emptyN 1) j).ids.length ci, .slice ap (stubsN (emptyN 1) j).inputs.length cp] ∧ NetAt wr (w.heap.size + 1) wr.heap.size (.agg #[.slice a (stubsN (emptyN 1) j).ends.length c, .slice ai (stubsN (emptyN 1) j).ids.length ci, .slice ap (stubsN (emptyN 1) j).inputs.length cp]) (stubsN (emptyN 1) j) ∧ Bx wr w.heap.size 25 #[.slice none 0 0, .slice none 0 0, .slice none 0 0] ∧ Below w.heap.size w wr ∧ w.heap.size + 1 ≤ wr.heap.size) (fun iv _ => (intOf iv).toNat)
      case atStart => exact ⟨0, Nat.zero_le _, rfl, a1, c1, ai1, ci1, ap1, cp1, BO, own1, BR, bb, zlo⟩
      case round =>
        clear BO own1 BR bb zlo
        obtain ⟨j, hj, rfl, ax, cx, aix, cix, apx, cpx, BO, own1, BR, bb, zlo⟩ := hrel
        have HSM := Lib.hid ((fun j (hj : j ≤ s) => small_of (stubsN_facts j) (by omega)) j hj)
        by_cases hlt : j < s
        · have HTK := Lib.hid (show stubsN (emptyN 1) (j + 1) = stubN (stubsN (emptyN 1) j) 0 from rfl)
          have HLEN := Lib.hid (stubsN_facts j)
          have hcast : ((s - j : Nat) : Int) = ((s - (j + 1) : Nat) : Int) + 1 := by omega
          rw [hcast]
          clear hcast
          obtain ⟨r, hr⟩ : ∃ r, r = s - (j + 1) := ⟨_, rfl⟩
          rw [← hr]
          have HR := Lib.hid hr
          have hr20 : r ≤ 20 := by omega
          clear hr
          generalize stubsN (emptyN 1) j = Nk at *
          have q0 := BO.cell 0 _ rfl
          have q1 := BO.cell 1 _ rfl
          have q2 := BO.cell 2 _ rfl
          go_wp2_with fail
          clear q0 q1 q2
          refine (neStub_any _ Nk 0 _ _ own1.in_ (Nat.le_refl _) HSM.out (by have := HLEN.out.1; omega)).mono ?_
          rintro e w5 ⟨v5, rfl, own5, bel5⟩
          obtain ⟨a5, c5, ai5, ci5, ap5, cp5, rfl, own5⟩ := own5.shape
          replace own5 := own5.wide (lo' := w.heap.size + 1) zlo (Nat.le_refl _)
          replace BO := BO.new bel5
          replace BR := BR.new bel5
          replace bb := bb.trans (bel5.mono bb.size)
          have z5 := bel5.size
          clear own1 bel5
          have q0 := BO.cell 0 _ rfl
          have q1 := BO.cell 1 _ rfl
          have q2 := BO.cell 2 _ rfl
          have f0 := BO.frozen 0
          have f1 := BO.frozen 1
          have f2 := BO.frozen 2
          go_wp2_with fail
          clear q0 q1 q2 f0 f1 f2
          generalize hW : World.setCell _ _ _ = W
          have BO2 : Bx W b 25 #[.slice a5 (stubN Nk 0).ends.length c5, .slice ai5 (stubN Nk 0).ids.length ci5, .slice ap5 (stubN Nk 0).inputs.length cp5] := by rw [← hW]; exact ((BO.set 0 _).set 1 _).set 2 _
          have frW : Fr (fun k => k = b) w5 W := by rw [← hW]; exact fr3 _ _ _ _ _
          clear hW
          have own6 := own5.frBx BO frW
          replace BR := BR.fr frW (by omega)
          replace bb := bb.trans (frW.below (B := w.heap.size) (fun k h1 h2 hc => by omega) bb.size)
          have zW := frW.size
          go_roundw
          case rel => exact ⟨j + 1, by omega, by rw [← HR.out], a5, c5, ai5, ci5, ap5, cp5, by rw [HTK.out]; exact BO2, by rw [HTK.out]; exact own6.wide (Nat.le_refl _) zW, BR, bb, by omega⟩
          case measure => simp [intOf]
        · have HJT := Lib.hid (show j = s by omega)
          rw [show ((s - j : Nat) : Int) = 0 by omega]
          rw [HJT.out] at BO own1
          go_wp2_with fail
          obtain ⟨a1, rfl⟩ : ∃ a1, a1 = ax := ⟨_, rfl⟩
          obtain ⟨c1, rfl⟩ : ∃ c1, c1 = cx := ⟨_, rfl⟩
          obtain ⟨ai1, rfl⟩ : ∃ a1, a1 = aix := ⟨_, rfl⟩
          obtain ⟨ci1, rfl⟩ : ∃ c1, c1 = cix := ⟨_, rfl⟩
          obtain ⟨ap1, rfl⟩ : ∃ a1, a1 = apx := ⟨_, rfl⟩
          obtain ⟨cp1, rfl⟩ : ∃ c1, c1 = cpx := ⟨_, rfl⟩
          replace BO : Bx wr b 25 #[.slice a1 (loopsN (stubsN (emptyN 1) s) 0).ends.length c1, .slice ai1 (loopsN (stubsN (emptyN 1) s) 0).ids.length ci1, .slice ap1 (loopsN (stubsN (emptyN 1) s) 0).inputs.length cp1] := BO
          replace own1 : NetAt wr (w.heap.size + 1) wr.heap.size (.agg #[.slice a1 (loopsN (stubsN (emptyN 1) s) 0).ends.length c1, .slice ai1 (loopsN (stubsN (emptyN 1) s) 0).ids.length ci1, .slice ap1 (loopsN (stubsN (emptyN 1) s) 0).inputs.length cp1]) (loopsN (stubsN (emptyN 1) s) 0) := own1
          go_loopw [1] (fun iv wr => ∃ j : Nat, j ≤ l ∧ iv = .int .i64 ((l - j : Nat) : Int) ∧ ∃ a c ai ci ap cp, Bx wr b 25 #[.slice a (loopsN (stubsN (emptyN 1) s) j).ends.length c, .slice ai (loopsN (stubsN (emptyN 1) s) j).ids.length ci, .slice ap (loopsN (stubsN (emptyN 1) s) j).inputs.length cp] ∧ NetAt wr (w.heap.size + 1) wr.heap.size (.agg #[.slice a (loopsN (stubsN (emptyN 1) s) j).ends.length c, .slice ai (loopsN (stubsN (emptyN 1) s) j).ids.length ci, .slice ap (loopsN (stubsN (emptyN 1) s) j).inputs.length cp]) (loopsN (stubsN (emptyN 1) s) j) ∧ Bx wr w.heap.size 25 #[.slice none 0 0, .slice none 0 0, .slice none 0 0] ∧ Below w.heap.size w wr ∧ w.heap.size + 1 ≤ wr.heap.size) (fun iv _ => (intOf iv).toNat)
          case atStart => exact ⟨0, Nat.zero_le _, rfl, a1, c1, ai1, ci1, ap1, cp1, BO, own1, BR, bb, zlo⟩
          case round =>
            clear BO own1 BR bb zlo
            obtain ⟨j, hj, rfl, ax, cx, aix, cix, apx, cpx, BO, own1, BR, bb, zlo⟩ := hrel
            have HSM := Lib.hid ((fun j (hj : j ≤ l) => small_of (loopsN_facts s j) (by omega)) j hj)
            by_cases hlt : j < l
            · have HTK := Lib.hid (show loopsN (stubsN (emptyN 1) s) (j + 1) = joinN (loopsN (stubsN (emptyN 1) s) j) 0 0 from rfl)
              have HLEN := Lib.hid (loopsN_facts s j)
              have hcast : ((l - j : Nat) : Int) = ((l - (j + 1) : Nat) : Int) + 1 := by omega
              rw [hcast]
              clear hcast
              obtain ⟨r, hr⟩ : ∃ r, r = l - (j + 1) := ⟨_, rfl⟩
              rw [← hr]
              have HR := Lib.hid hr
              have hr20 : r ≤ 20 := by omega
              clear hr
              generalize loopsN (stubsN (emptyN 1) s) j = Nk at *
              have q0 := BO.cell 0 _ rfl
              have q1 := BO.cell 1 _ rfl
              have q2 := BO.cell 2 _ rfl
              go_wp2_with fail
              clear q0 q1 q2
              refine (neJoin_any _ Nk 0 0 _ _ own1.in_ (Nat.le_refl _) HSM.out (by have := HLEN.out.1; omega) (by have := HLEN.out.1; omega)).mono ?_
              rintro e w5 ⟨v5, rfl, own5, bel5⟩
              obtain ⟨a5, c5, ai5, ci5, ap5, cp5, rfl, own5⟩ := own5.shape
              replace own5 := own5.wide (lo' := w.heap.size + 1) zlo (Nat.le_refl _)
              replace BO := BO.new bel5
              replace BR := BR.new bel5
              replace bb := bb.trans (bel5.mono bb.size)
              have z5 := bel5.size
              clear own1 bel5
              have q0 := BO.cell 0 _ rfl
              have q1 := BO.cell 1 _ rfl
              have q2 := BO.cell 2 _ rfl
              have f0 := BO.frozen 0
              have f1 := BO.frozen 1
              have f2 := BO.frozen 2
              go_wp2_with fail
              clear q0 q1 q2 f0 f1 f2
              generalize hW : World.setCell _ _ _ = W
              have BO2 : Bx W b 25 #[.slice a5 (joinN Nk 0 0).ends.length c5, .slice ai5 (joinN Nk 0 0).ids.length ci5, .slice ap5 (joinN Nk 0 0).inputs.length cp5] := by rw [← hW]; exact ((BO.set 0 _).set 1 _).set 2 _
              have frW : Fr (fun k => k = b) w5 W := by rw [← hW]; exact fr3 _ _ _ _ _
              clear hW
              have own6 := own5.frBx BO frW
              replace BR := BR.fr frW (by omega)
              replace bb := bb.trans (frW.below (B := w.heap.size) (fun k h1 h2 hc => by omega) bb.size)
              have zW := frW.size
              go_roundw
              case rel => exact ⟨j + 1, by omega, by rw [← HR.out], a5, c5, ai5, ci5, ap5, cp5, by rw [HTK.out]; exact BO2, by rw [HTK.out]; exact own6.wide (Nat.le_refl _) zW, BR, bb, by omega⟩
              case measure => simp [intOf]
            · have HJT := Lib.hid (show j = l by omega)
              rw [show ((l - j : Nat) : Int) = 0 by omega]
              rw [HJT.out] at BO own1
              generalize loopsN (stubsN (emptyN 1) s) l = Nk at *
              have q0 := BO.cell 0 _ rfl
              have q1 := BO.cell 1 _ rfl
              have q2 := BO.cell 2 _ rfl
              have e0 := BR.cell 0 _ rfl
              have e1 := BR.cell 1 _ rfl
              have e2 := BR.cell 2 _ rfl
              have f0 := BR.frozen 0
              have f1 := BR.frozen 1
              have f2 := BR.frozen 2
              go_wp2_with fail
              clear q0 q1 q2 e0 e1 e2 f0 f1 f2
              generalize hW : World.setCell _ _ _ = W
              have B6 : Bx W (w.heap.size) 25 #[.slice ax Nk.ends.length cx, .slice aix Nk.ids.length cix, .slice apx Nk.inputs.length cpx] := by rw [← hW]; exact ((BR.set 0 _).set 1 _).set 2 _
              have fr6 : Fr (fun k => k = w.heap.size) wr W := by rw [← hW]; exact fr3 _ _ _ _ _
              clear hW
              have z6 := fr6.size
              have d0 := B6.cell 0 _ rfl
              have d1 := B6.cell 1 _ rfl
              have d2 := B6.cell 2 _ rfl
              refine bodyPost_ret (v := .tuple #[.agg #[.slice ax Nk.ends.length cx, .slice aix Nk.ids.length cix, .slice apx Nk.inputs.length cpx], .bool true]) (by simp [results, Try.results24, go_sem, d0, d1, d2]) rfl ?_
              rw [HG.out, HT.out]
              exact ⟨_, rfl, (own1.fr fr6 (fun k h1 h2 hc => by omega)).wide (lo' := w.heap.size) (hi' := W.heap.size) (by omega) (by omega), bb.trans (fr6.below (fun k h1 h2 hc => by omega) bb.size)⟩
set_option maxRecDepth 100000 in
set_option maxHeartbeats 1000000 in
theorem FnExactBouquetNetwork_walk (x y : Int) (w : World) (hx0 : -9223372036854775808 ≤ x) (hx1 : x ≤ 9223372036854775807) (hy0 : -9223372036854775808 ≤ y) (hy1 : y ≤ 9223372036854775807) :
    Calls Try.prog 6 #[.int .i64 x, .int .i64 y] w fun e w' => e = .returned (.bool true) ∧ Below w.heap.size w w' := by
  have HS : Hid (∀ w, Calls Try.prog 24 #[.int .i64 x, .int .i64 y] w (PostN (boR x y) (boB x y) w)) := specBou_any x y
  have HI : Hid (∀ w, Calls Try.prog 25 #[.int .i64 x, .int .i64 y] w (PostN (boR x y) (boB x y) w)) := implBou_any x y
  have hR : NetSmall (boR x y) := boR_sm
  generalize boR x y = R at *
  generalize boB x y = ok at *
  go_enter Try.func6, Try.ntmps6
  go_wp2_with fail
  refine (HS.out _).mono ?_
  rintro e w1 ⟨vw, rfl, ownw, bel1⟩
  obtain ⟨aw, cw, aiw, ciw, apw, cpw, rfl, ownw⟩ := ownw.shape
  have z1 := bel1.size
  have BW := Bx.made w1 25 #[.slice aw R.ends.length cw, .slice aiw R.ids.length ciw, .slice apw R.inputs.length cpw]
  have bx1 : Below w1.heap.size w1 (w1.alloc (.cells #[.slice aw R.ends.length cw, .slice aiw R.ids.length ciw, .slice apw R.inputs.length cpw] 25)) := (by repeat (first | exact Below.refl _ _ | assumption | refine Below.alloc ?_ (by first | (simp; done) | (simp; omega) | omega) _ | refine Below.setCell ?_ (by first | (simp; done) | (simp; omega) | omega) _ | refine Below.drew ?_ | refine Below.drewN ?_ _))
  go_wp2_with fail
  refine (HI.out _).mono ?_
  rintro e w2 ⟨vg, rfl, owng, bel2⟩
  obtain ⟨ag, cg, aig, cig, apg, cpg, rfl, owng⟩ := owng.shape
  simp only [World.size_alloc] at owng
  have z2 : w1.heap.size + 1 ≤ w2.heap.size := by have := bel2.size; simpa using this
  replace ownw := (ownw.new bx1).new bel2
  replace BW := BW.new bel2
  have b2 := bel1.trans ((bx1.mono z1).trans (bel2.mono (by have := bx1.size; omega)))
  clear bel1 bx1 bel2
  have BG := Bx.made w2 25 #[.slice ag R.ends.length cg, .slice aig R.ids.length cig, .slice apg R.inputs.length cpg]
  have bx2 : Below w2.heap.size w2 (w2.alloc (.cells #[.slice ag R.ends.length cg, .slice aig R.ids.length cig, .slice apg R.inputs.length cpg] 25)) := (by repeat (first | exact Below.refl _ _ | assumption | refine Below.alloc ?_ (by first | (simp; done) | (simp; omega) | omega) _ | refine Below.setCell ?_ (by first | (simp; done) | (simp; omega) | omega) _ | refine Below.drew ?_ | refine Below.drewN ?_ _))
  replace BW := BW.new bx2
  have cW0 := BW.cell 0 _ rfl
  have cW1 := BW.cell 1 _ rfl
  have cW2 := BW.cell 2 _ rfl
  go_wp2_with fail
  clear cW0 cW1 cW2
  have zx2 : w2.heap.size + 1 ≤ (w2.alloc (.cells #[.slice ag R.ends.length cg, .slice aig R.ids.length cig, .slice apg R.inputs.length cpg] 25)).heap.size := by simp
  replace ownw := ownw.new bx2
  replace owng := owng.new bx2
  have b3 := b2.trans (bx2.mono b2.size)
  have HBB : Hid ((ok != ok) = false) := by show _ = _; simp
  generalize w2.alloc (.cells #[.slice ag R.ends.length cg, .slice aig R.ids.length cig, .slice apg R.inputs.length cpg] 25) = x2 at *
  clear bx2 b2
  refine (eqNetwork_any _ _ R _ _ _ _ _ owng ownw (by omega) (by omega) hR).mono ?_
  rintro e w3 ⟨rfl, bel3⟩
  replace ownw := ownw.new bel3
  replace owng := owng.new bel3
  replace BW := BW.new bel3
  replace BG := BG.new bel3
  have z3 := bel3.size
  have b4 := b3.trans (bel3.mono b3.size)
  clear b3 bel3
  have cG0 := BG.cell 0 _ rfl
  have cG1 := BG.cell 1 _ rfl
  have cG2 := BG.cell 2 _ rfl
  have hbb := HBB.out
  go_wp2_with fail
  clear cG0 cG1 cG2
  refine (markNetwork_any _ R 1 _ _ _ owng (by omega) hR (by omega)).mono ?_
  rintro e w4 ⟨rfl, owngm, fr4⟩
  replace ownw := ownw.fr fr4 (fun k h1 h2 hc => by omega)
  replace BW := BW.fr fr4 (by omega)
  replace BG := BG.fr fr4 (by omega)
  have z4 := fr4.size
  have b5 := b4.trans (fr4.below (B := w.heap.size) (fun k h1 h2 hc => by omega) (by omega))
  clear b4 fr4 owng
  have cG0 := BG.cell 0 _ rfl
  have cG1 := BG.cell 1 _ rfl
  have cG2 := BG.cell 2 _ rfl
  go_wp2_with fail
  clear cG0 cG1 cG2
  refine (heldNetwork_any _ R 1 _ _ _ owngm (by omega) hR (by omega)).mono ?_
  rintro e w5 ⟨rfl, bel5⟩
  replace ownw := ownw.new bel5
  replace owngm := owngm.new bel5
  replace BW := BW.new bel5
  replace BG := BG.new bel5
  have z5 := bel5.size
  have b6 := b5.trans (bel5.mono b5.size)
  clear b5 bel5
  have hlt : ¬ (((1 + netTot R : Nat) : Int) < 0) := by omega
  go_wp2_with fail
  refine (HI.out _).mono ?_
  rintro e w6 ⟨vh, rfl, ownh, bel6⟩
  obtain ⟨ah, chh, aih, cih, aph, cph, rfl, ownh⟩ := ownh.shape
  replace ownw := ownw.new bel6
  replace owngm := owngm.new bel6
  replace BW := BW.new bel6
  replace BG := BG.new bel6
  have z6 := bel6.size
  have b7 := b6.trans (bel6.mono b6.size)
  clear b6 bel6
  have bx6 : Below w6.heap.size w6 (w6.alloc (.cells #[.slice ah R.ends.length chh, .slice aih R.ids.length cih, .slice aph R.inputs.length cph] 25)) := (by repeat (first | exact Below.refl _ _ | assumption | refine Below.alloc ?_ (by first | (simp; done) | (simp; omega) | omega) _ | refine Below.setCell ?_ (by first | (simp; done) | (simp; omega) | omega) _ | refine Below.drew ?_ | refine Below.drewN ?_ _))
  replace BW := BW.new bx6
  replace BG := BG.new bx6
  have cW0 := BW.cell 0 _ rfl
  have cW1 := BW.cell 1 _ rfl
  have cW2 := BW.cell 2 _ rfl
  go_wp2_with fail
  clear cW0 cW1 cW2
  replace ownw := ownw.new bx6
  replace owngm := owngm.new bx6
  replace ownh := ownh.new bx6
  have b8 := b7.trans (bx6.mono b7.size)
  have zx6 := bx6.size
  generalize w6.alloc (.cells #[.slice ah R.ends.length chh, .slice aih R.ids.length cih, .slice aph R.inputs.length cph] 25) = x6 at *
  clear bx6 b7
  refine (eqNetwork_any _ _ R _ _ _ _ _ ownh ownw (by omega) (by omega) hR).mono ?_
  rintro e w7 ⟨rfl, bel7⟩
  replace owngm := owngm.new bel7
  replace BG := BG.new bel7
  have z7 := bel7.size
  have b9 := b8.trans (bel7.mono b8.size)
  clear b8 bel7
  have cG0 := BG.cell 0 _ rfl
  have cG1 := BG.cell 1 _ rfl
  have cG2 := BG.cell 2 _ rfl
  go_wp2_with fail
  clear cG0 cG1 cG2
  refine (heldNetwork_any _ R 1 _ _ _ owngm (by omega) hR (by omega)).mono ?_
  rintro e w8 ⟨rfl, bel8⟩
  go_wp2_with fail
  go_ret
  exact ⟨rfl, b9.trans (bel8.mono b9.size)⟩
end Go.Proofs.Ytdchomjdimbenaa
