/- TorusNetwork. -/
import Derived.Test.YtdchomjdimbenaaWire
import Derived.Test.YtdchomjdimbenaaBits
import Derived.Test.YtdchomjdimbenaaGrid
namespace Go.Proofs.Ytdchomjdimbenaa
open Go.RowKit
set_option linter.unusedVariables false
set_option linter.unusedSimpArgs false




theorem wrapI (n : Int) (h : -9223372036854775808 ≤ n ∧ n ≤ 9223372036854775807) : IntKind.i64.wrap n = n := by
  simp [IntKind.wrap, IntKind.bits, IntKind.signed]
  omega
/-- the ends of a torus: m rows of n -/
def torA (m n r s i : Nat) : Int × Int :=
  if i = 0 then ((r * n + (s + 1) % n : Nat), 1) else if i = 1 then ((r * n + (s + n - 1) % n : Nat), 0) else if i = 2 then (((r + 1) % m * n + s : Nat), 3) else (((r + m - 1) % m * n + s : Nat), 2)
def torE (m n v i : Nat) : Int × Int := torA m n (v / n) (v % n) i
def torOk (m n : Nat) : Bool := netB (wireN (m * n) 4 (torE m n))
theorem tor_ok : ∀ m, m < 41 → ∀ n, n < 41 → 1 ≤ m * n → m * n ≤ 40 → torOk m n = true := by decide +kernel
def trR (a b : Int) : Net := ifN (sidesB a b) (wireN (a.toNat * b.toNat) 4 (torE a.toNat b.toNat))
theorem tor_wdB {m n : Nat} (h1 : 1 ≤ m) (h2 : 1 ≤ n) (h3 : m * n ≤ 40) : wdB ((m : Int) * (n : Int)) 4 (torE m n) = true := by
  have hp : 1 ≤ m * n := Nat.mul_le_mul h1 h2
  have hm : m ≤ m * n := Nat.le_mul_of_pos_right _ h2
  have hn : n ≤ m * n := Nat.le_mul_of_pos_left _ h1
  rw [← Int.natCast_mul, wdB_t (inR_iff.2 ⟨by omega, by omega⟩) (by omega), Int.toNat_natCast]
  exact tor_ok m (by omega) n (by omega) hp h3
theorem tor_wdR {m n : Nat} (h1 : 1 ≤ m) (h2 : 1 ≤ n) (h3 : m * n ≤ 40) : wdR ((m : Int) * (n : Int)) 4 (torE m n) = wireN (m * n) 4 (torE m n) := by
  rw [wdR, tor_wdB h1 h2 h3, ← Int.natCast_mul, Int.toNat_natCast]; rfl
theorem trR_sm {a b : Int} : NetSmall (trR a b) := ifN_small fun h => by
  obtain ⟨m, n, rfl, rfl, h1, h2, _, _, h3⟩ := sidesB_t h
  have h4 := wdR_sm (k := (m : Int) * (n : Int)) (d := 4) (E := torE m n)
  rw [tor_wdR h1 h2 h3] at h4
  exact h4
theorem mul_row {x m n s : Nat} (hx : x < m) (hs : s < n) (h : m * n ≤ 40) : x * n + s < 40 := by
  have h1 : x * n + n ≤ m * n := by rw [← Nat.succ_mul]; exact Nat.mul_le_mul_right _ hx
  omega
theorem lt_mul_nat {v m n : Nat} (h : (v : Int) < (m : Int) * (n : Int)) : v < m * n := by rw [← Int.natCast_mul] at h; exact Int.ofNat_lt.1 h
theorem emod_nat (a n : Nat) (z : Int) (h : z = (a : Int)) : z % (n : Int) = ((a % n : Nat) : Int) := by rw [h, Int.natCast_emod]
set_option maxRecDepth 100000 in
set_option maxHeartbeats 1600000 in
theorem wiredTor_any (k : Int) (d : Nat) (E : Nat → Nat → Int × Int) (p q : Nat) (w : World) (hd : d ≤ 1000000)
    (HFN : ∀ X (v i : Nat), Below w.heap.size w X → (v : Int) < k → k ≤ 40 → i < d → d ≤ 6 → Calls Try.prog 58 #[.int .i64 v, .int .i64 i, .pointer (some ⟨q, 0, none⟩), .pointer (some ⟨p, 0, none⟩)] X fun e w' => e = .returned (.agg #[.int .i64 (E v i).1, .int .i64 (E v i).2]) ∧ Below X.heap.size X w') :
    Calls Try.prog 50 #[.int .i64 k, .int .i64 d, .func (.func 58) #[] #[.pointer (some ⟨q, 0, none⟩), .pointer (some ⟨p, 0, none⟩)]] w (PostN (wdR k d E) (wdB k d E) w) := by
  have BR := Bx.made w 25 #[.slice none 0 0, .slice none 0 0, .slice none 0 0]
  have b0 : Below w.heap.size w (w.alloc (.cells #[.slice none 0 0, .slice none 0 0, .slice none 0 0] 25)) := (by repeat (first | exact Below.refl _ _ | assumption | refine Below.alloc ?_ (by first | (simp; done) | (simp; omega) | omega) _ | refine Below.setCell ?_ (by first | (simp; done) | (simp; omega) | omega) _ | refine Below.drew ?_ | refine Below.drewN ?_ _))
  have z0 : w.heap.size + 1 ≤ (w.alloc (.cells #[.slice none 0 0, .slice none 0 0, .slice none 0 0] 25)).heap.size := by simp
  have HF := Lib.hid HFN
  clear HFN
  have HKB := Lib.hid (fun h => inR_iff.1 (h : inR k 1 40 = true))
  go_enter Try.func50, Try.ntmps50
  go_wp2_with fail
  refine (emptyNetwork_any k _).mono ?_
  rintro e w1 ⟨v1, rfl, own1, bel1⟩
  obtain ⟨a1, c1, ai1, ci1, ap1, cp1, rfl, own1⟩ := own1.shape
  replace BR := BR.new bel1
  have z1 : w.heap.size + 1 ≤ w1.heap.size := by have := bel1.size; omega
  simp only [World.size_alloc] at own1
  have b1 := b0.trans (bel1.mono b0.size)
  clear b0 bel1 z0
  generalize hR0 : ifN (inR k 1 40) (emptyN k.toNat) = R0 at *
  have HR0 := Lib.hid hR0
  clear hR0
  have BO := Bx.made w1 25 #[.slice a1 R0.ends.length c1, .slice ai1 R0.ids.length ci1, .slice ap1 R0.inputs.length cp1]
  have b2 : Below w1.heap.size w1 (w1.alloc (.cells #[.slice a1 R0.ends.length c1, .slice ai1 R0.ids.length ci1, .slice ap1 R0.inputs.length cp1] 25)) := (by repeat (first | exact Below.refl _ _ | assumption | refine Below.alloc ?_ (by first | (simp; done) | (simp; omega) | omega) _ | refine Below.setCell ?_ (by first | (simp; done) | (simp; omega) | omega) _ | refine Below.drew ?_ | refine Below.drewN ?_ _))
  go_upto_region 2 with fail
  have z2 : w1.heap.size + 1 ≤ (w1.alloc (.cells #[.slice a1 R0.ends.length c1, .slice ai1 R0.ids.length ci1, .slice ap1 R0.inputs.length cp1] 25)).heap.size := by simp
  generalize w1.alloc (.cells #[.slice a1 R0.ends.length c1, .slice ai1 R0.ids.length ci1, .slice ap1 R0.inputs.length cp1] 25) = w2 at *
  obtain ⟨b, hb⟩ : ∃ b, b = w1.heap.size := ⟨_, rfl⟩
  rw [← hb] at BO ⊢
  replace BR := BR.new b2
  replace own1 := (own1.new b2).wide (Nat.le_refl _) b2.size
  have bb := b1.trans (b2.mono b1.size)
  have zb : w.heap.size + 1 ≤ b := by omega
  have zlo : w.heap.size + 1 ≤ w2.heap.size := by omega
  clear hb b1 b2 z2
  cases hk : inR k 1 40 with
  | false =>
    have HFF := Lib.hid (show (inR k 1 40 && decide (d ≤ 6)) = false by rw [hk]; rfl)
    clear hk
    have e0 := BR.cell 0 _ rfl
    have e1 := BR.cell 1 _ rfl
    have e2 := BR.cell 2 _ rfl
    have f0 := BR.frozen 0
    have f1 := BR.frozen 1
    have f2 := BR.frozen 2
    go_wp2_with fail
    clear e0 e1 e2 f0 f1 f2
    generalize hW : World.setCell _ _ _ = W
    have B6 : Bx W (w.heap.size) 25 #[.slice none 0 0, .slice none 0 0, .slice none 0 0] := by rw [← hW]; exact ((BR.set 0 _).set 1 _).set 2 _
    have fr6 : Fr (fun k => k = w.heap.size) w2 W := by rw [← hW]; exact fr3 _ _ _ _ _
    clear hW
    have z6 := fr6.size
    have d0 := B6.cell 0 _ rfl
    have d1 := B6.cell 1 _ rfl
    have d2 := B6.cell 2 _ rfl
    refine bodyPost_ret (v := .tuple #[.agg #[.slice none 0 0, .slice none 0 0, .slice none 0 0], .bool false]) (by simp [results, Try.results50, go_sem, d0, d1, d2]) rfl ?_
    rw [wdR_f HFF.out, wdB_f HFF.out]
    exact ⟨_, rfl, NetAt.nilN _ _ _, bb.trans (fr6.below (fun k h1 h2 hc => by omega) bb.size)⟩
  | true =>
    have HK := Lib.hid hk
    have hk2 := HKB.out hk
    clear hk HKB
    by_cases hd6 : d ≤ 6
    case neg =>
      have HFF := Lib.hid (show (inR k 1 40 && decide (d ≤ 6)) = false by rw [decide_eq_false hd6, Bool.and_false])
      have e0 := BR.cell 0 _ rfl
      have e1 := BR.cell 1 _ rfl
      have e2 := BR.cell 2 _ rfl
      have f0 := BR.frozen 0
      have f1 := BR.frozen 1
      have f2 := BR.frozen 2
      go_wp2_with fail
      clear e0 e1 e2 f0 f1 f2
      generalize hW : World.setCell _ _ _ = W
      have B6 : Bx W (w.heap.size) 25 #[.slice none 0 0, .slice none 0 0, .slice none 0 0] := by rw [← hW]; exact ((BR.set 0 _).set 1 _).set 2 _
      have fr6 : Fr (fun k => k = w.heap.size) w2 W := by rw [← hW]; exact fr3 _ _ _ _ _
      clear hW
      have z6 := fr6.size
      have d0 := B6.cell 0 _ rfl
      have d1 := B6.cell 1 _ rfl
      have d2 := B6.cell 2 _ rfl
      refine bodyPost_ret (v := .tuple #[.agg #[.slice none 0 0, .slice none 0 0, .slice none 0 0], .bool false]) (by simp [results, Try.results50, go_sem, d0, d1, d2]) rfl ?_
      rw [wdR_f HFF.out, wdB_f HFF.out]
      exact ⟨_, rfl, NetAt.nilN _ _ _, bb.trans (fr6.below (fun k h1 h2 hc => by omega) bb.size)⟩
    obtain ⟨kn, rfl⟩ := Int.eq_ofNat_of_zero_le (show 0 ≤ k by omega)
    obtain rfl : R0 = emptyN kn := by rw [← HR0.out, HK.out, Int.toNat_natCast]; rfl
    have hNB : NBx w2 (w.heap.size + 1) b (tN kn d E 0 0) := by
      have hE0 : tN kn d E 0 0 = emptyN kn := by unfold tN emptyN; rw [wireT_zero]
      rw [hE0]
      obtain ⟨a, c, vs, ai, ci, ap, cp, hv, h1, h2, h3, h4⟩ := own1
      simp only [Value.agg.injEq, Array.mk.injEq, List.cons.injEq, Value.slice.injEq, true_and, and_true] at hv
      obtain ⟨⟨rfl, rfl⟩, ⟨rfl, rfl⟩, rfl, rfl⟩ := hv
      exact ⟨_, _, vs, _, _, _, _, BO, h1, h2, h3, h4⟩
    have HEL := Lib.hid (show (emptyN kn).ends.length = kn from List.length_replicate ..)
    rw [HEL.out] at BO ⊢
    have q0 := BO.cell 0 _ rfl
    have HOKB := Lib.hid (wdB_t (E := E) HK.out hd6)
    clear own1 HR0 BO
    go_wp2_with fail
    clear q0
    go_loopw [27] (fun iv wr => ∃ v : Nat, v ≤ kn ∧ iv = .int .i64 v ∧ NBx wr (w.heap.size + 1) b (tN kn d E v 0) ∧ Bx wr w.heap.size 25 #[.slice none 0 0, .slice none 0 0, .slice none 0 0] ∧ Below w.heap.size w wr ∧ w.heap.size + 1 ≤ wr.heap.size) (fun iv _ => kn - (intOf iv).toNat)
    case atStart => exact ⟨0, Nat.zero_le _, rfl, hNB, BR, bb, zlo⟩
    case round =>
      clear hNB BR bb zlo
      obtain ⟨v, hv, rfl, hNB, BR, bb, zlo⟩ := hrel
      by_cases hlt : v < kn
      · go_wp2_with fail
        go_loopw [31] (fun iv wr => ∃ i : Nat, i ≤ d ∧ iv = .int .i64 i ∧ NBx wr (w.heap.size + 1) b (tN kn d E v i) ∧ Bx wr w.heap.size 25 #[.slice none 0 0, .slice none 0 0, .slice none 0 0] ∧ Below w.heap.size w wr ∧ w.heap.size + 1 ≤ wr.heap.size) (fun iv _ => d - (intOf iv).toNat)
        case atStart => exact ⟨0, Nat.zero_le _, rfl, hNB, BR, bb, zlo⟩
        case round =>
          clear hNB BR bb zlo
          obtain ⟨i, hi, rfl, hNB, BR, bb, zlo⟩ := hrel
          by_cases hil : i < d
          · obtain ⟨aq, c, vs, ai, ci, ap, cp, hbx, hE, owni, ownp, hdis⟩ := hNB
            have hWL : (tN kn d E v i).ends.length = kn := wireT_length ..
            have hrl : (rowOf (wireT kn d E v i) v).length ≤ 6 := by rw [wireT_row _ _ _ _ _ _ hlt, if_neg (by omega), if_pos rfl, rowW_length]; omega
            replace hE : RowsE wr (w.heap.size + 1) wr.heap.size aq c (wireT kn d E v i) vs := hE
            have hv1 : v < (wireT kn d E v i).length := by rw [wireT_length]; exact hlt
            obtain ⟨A, hA, _, _⟩ := Ow.addr hE.1 (by omega)
            subst hA
            obtain ⟨lo, hlo0⟩ : ∃ lo, lo = w.heap.size + 1 := ⟨_, rfl⟩
            rw [← hlo0] at hE owni ownp
            have zl1 : w.heap.size + 1 ≤ lo := by omega
            have hlo : lo ≤ wr.heap.size := by omega
            have HLO := Lib.hid hlo0
            clear hlo0
            rw [hWL] at hbx
            obtain ⟨n, hn⟩ : ∃ n, n = kn := ⟨_, rfl⟩
            rw [← hn] at hbx
            have HNK := Lib.hid hn
            have hvn : v < n := by omega
            clear hn
            have HNI := Lib.hid (fun (x : Nat) (hx : blk ai ci = some x) => rb_ne hE (by omega) owni hx)
            have HNP := Lib.hid (fun (x : Nat) (hx : blk ap cp = some x) => rb_ne hE (by omega) ownp hx)
            have HIN := Lib.hid (fun (x : Nat) (h : RB A (wireT kn d E v i) vs x) => rb_in hE (by omega) h)
            have HWL := Lib.hid hWL
            clear hWL
            go_wp2_with fail
            have hS0 : wr.drew.cell? ⟨b, 0, none⟩ = some (.slice (some ⟨A, 0, none⟩) n c) := hbx.cell 0 _ rfl
            obtain ⟨gq, offq, haeq, _, hcv0⟩ := Rd.at (Ow.rd hE.1) hv1
            obtain ⟨rfl, rfl⟩ : A = gq ∧ 0 = offq := by injection haeq with h; injection h with h1 h2; exact ⟨h1, h2⟩
            clear haeq
            rw [Nat.zero_add] at hcv0
            have hcv : wr.drew.cell? ⟨A, v, none⟩ = _ := hcv0
            refine wp_region_held_drew (S := fun X => X.cell? ⟨b, 0, none⟩ = some (.slice (some ⟨A, 0, none⟩) n c)) (by kernel_rfl) hS0 (fun hHeld => ?_)
            refine wpAnyH_take (i := 0) (v := ?_) rfl (by kernel_rfl) (by kernel_rfl) (by kernel_rfl) (fun _ _ _ h => h) (Or.inl ⟨by rfl, ?_⟩) (by assumption) ?_
            rotate_left
            · (intro w hSw; (try dsimp only at hSw); go_simp; try with_reducible rfl)
            try simp only [Act.put, List.getElem_toArray, List.getElem_cons_zero, List.getElem_cons_succ, List.setIfInBounds_toArray, List.set_cons_zero, List.set_cons_succ]
            refine wpAnyH_take (i := 1) (v := ?_) rfl (by kernel_rfl) (by kernel_rfl) (by kernel_rfl) (fun _ _ _ h => h) (Or.inl ⟨by rfl, ?_⟩) (by assumption) ?_
            rotate_left
            · (intro w hSw; (try dsimp only at hSw); go_simp; try with_reducible rfl)
            try simp only [Act.put, List.getElem_toArray, List.getElem_cons_zero, List.getElem_cons_succ, List.setIfInBounds_toArray, List.set_cons_zero, List.set_cons_succ]
            refine wpAnyH_take (i := 2) (v := ?_) rfl (by kernel_rfl) (by kernel_rfl) (by kernel_rfl) (fun _ _ _ h => h) (Or.inl ⟨by rfl, ?_⟩) (by assumption) ?_
            rotate_left
            · (intro w hSw; (try dsimp only at hSw); go_simp; try with_reducible rfl)
            try simp only [Act.put, List.getElem_toArray, List.getElem_cons_zero, List.getElem_cons_succ, List.setIfInBounds_toArray, List.set_cons_zero, List.set_cons_succ]
            refine wpAnyH_take (i := 3) (v := ?_) rfl (by kernel_rfl) (by kernel_rfl) (by kernel_rfl) (fun _ _ _ h => h) (Or.inl ⟨by rfl, ?_⟩) (by assumption) ?_
            rotate_left
            · (intro w hSw; (try dsimp only at hSw); go_simp; try with_reducible rfl)
            try simp only [Act.put, List.getElem_toArray, List.getElem_cons_zero, List.getElem_cons_succ, List.setIfInBounds_toArray, List.set_cons_zero, List.set_cons_succ]
            refine wpAnyH_take (i := 4) (v := ?_) rfl (by kernel_rfl) (by kernel_rfl) (by kernel_rfl) (fun _ _ _ h => h) (Or.inl ⟨by rfl, ?_⟩) (by assumption) ?_
            rotate_left
            · (intro w hSw; (try dsimp only at hSw); go_simp; try with_reducible rfl)
            try simp only [Act.put, List.getElem_toArray, List.getElem_cons_zero, List.getElem_cons_succ, List.setIfInBounds_toArray, List.set_cons_zero, List.set_cons_succ]
            refine wpAnyH_take (i := 5) (v := ?_) rfl (by kernel_rfl) (by kernel_rfl) (by kernel_rfl) (fun _ _ _ h => h) (Or.inl ⟨by rfl, ?_⟩) (by assumption) ?_
            rotate_left
            · (intro w hSw; (try dsimp only at hSw); go_simp; try with_reducible rfl)
            try simp only [Act.put, List.getElem_toArray, List.getElem_cons_zero, List.getElem_cons_succ, List.setIfInBounds_toArray, List.set_cons_zero, List.set_cons_succ]
            refine wpAnyH_take (i := 6) (v := ?_) rfl (by kernel_rfl) (by kernel_rfl) (by kernel_rfl) (fun _ _ _ h => h) (Or.inl ⟨by rfl, ?_⟩) (by assumption) ?_
            rotate_left
            · (intro w hSw; (try dsimp only at hSw); go_simp; try with_reducible rfl)
            try simp only [Act.put, List.getElem_toArray, List.getElem_cons_zero, List.getElem_cons_succ, List.setIfInBounds_toArray, List.set_cons_zero, List.set_cons_succ]
            refine wpAnyH_take (i := 8) (v := ?_) rfl (by kernel_rfl) (by kernel_rfl) (by kernel_rfl) (fun _ _ _ h => h) (Or.inl ⟨by rfl, ?_⟩) (by assumption) ?_
            rotate_left
            · (intro w hSw; (try dsimp only at hSw); go_simp; try with_reducible rfl)
            try simp only [Act.put, List.getElem_toArray, List.getElem_cons_zero, List.getElem_cons_succ, List.setIfInBounds_toArray, List.set_cons_zero, List.set_cons_succ]
            refine wpAnyH_take (i := 9) (v := ?_) rfl (by kernel_rfl) (by kernel_rfl) (by kernel_rfl) (fun _ _ _ h => h) (Or.inl ⟨by rfl, ?_⟩) (by assumption) ?_
            rotate_left
            · (intro w hSw; (try dsimp only at hSw); go_simp; try with_reducible rfl)
            try simp only [Act.put, List.getElem_toArray, List.getElem_cons_zero, List.getElem_cons_succ, List.setIfInBounds_toArray, List.set_cons_zero, List.set_cons_succ]
            refine wpAnyH_take (i := 10) (v := ?_) rfl (by kernel_rfl) (by kernel_rfl) (by kernel_rfl) (fun _ _ _ h => h) (Or.inl ⟨by rfl, ?_⟩) (by assumption) ?_
            rotate_left
            · (intro w hSw; (try dsimp only at hSw); go_simp; try with_reducible rfl)
            try simp only [Act.put, List.getElem_toArray, List.getElem_cons_zero, List.getElem_cons_succ, List.setIfInBounds_toArray, List.set_cons_zero, List.set_cons_succ]
            refine wpAnyH_ready (rs := [7, 11]) (by kernel_rfl) (by simp) ?_
            refine AllReadyH.cons (o := _) rfl (fun K hK => ?_) (AllReadyH.cons (o := _) rfl (fun K hK => ?_) AllReadyH.nil)
            go_simp
            refine hK.out _ _ (hS0) (fun hHeld => ?_)
            clear hK K
            try simp only [Act.put, List.getElem_toArray, List.getElem_cons_zero, List.getElem_cons_succ, List.setIfInBounds_toArray, List.set_cons_zero, List.set_cons_succ]
            refine wpAnyH_ready (rs := [11]) (by kernel_rfl) (by simp) ?_
            refine AllReadyH.cons (o := _) rfl (fun K hK => ?_) AllReadyH.nil
            go_simp
            refine (HF.out wr.drew v i bb.drew (by omega) (by omega) hil hd6).mono ?_
            rintro e wc ⟨rfl, belc⟩
            have belc' : Below wr.heap.size wr wc := ((Below.refl _ _).drew).trans belc
            clear belc
            have hbc := hbx.new belc'
            have hS4 := hbc.cell 0 _ rfl
            have hcv4 := (belc'.cell (p := ⟨A, v, none⟩) (World.block_lt_of_cell? wr _ hcv0)).trans hcv0
            have hba : Below wc.heap.size wc (wc.alloc (.cells #[.int .i64 (E v i).1, .int .i64 (E v i).2] 57)) := (by repeat (first | exact Below.refl _ _ | assumption | refine Below.alloc ?_ (by first | (simp; done) | (simp; omega) | omega) _ | refine Below.setCell ?_ (by first | (simp; done) | (simp; omega) | omega) _ | refine Below.drew ?_ | refine Below.drewN ?_ _))
            have hw1 := belc'.trans (hba.mono belc'.size)
            have hS1 := (hbx.new hw1).cell 0 _ rfl
            have hcv5 := (hw1.cell (p := ⟨A, v, none⟩) (World.block_lt_of_cell? wr _ hcv0)).trans hcv0
            have hrow1 : Ow (wc.alloc (.cells #[.int .i64 (E v i).1, .int .i64 (E v i).2] 57)) lo wr.heap.size 57 2 (vs v).1 (rowOf (wireT kn d E v i) v).length (vs v).2 (cellE (rowOf (wireT kn d E v i) v)) := Ow.new (hE.2.1 v hv1) hw1
            have hnews : ∀ jj uu, [Value.int .i64 (E v i).1, Value.int .i64 (E v i).2][jj]? = some uu → (wc.alloc (.cells #[.int .i64 (E v i).1, .int .i64 (E v i).2] 57)).cell? (Addr.add ⟨wc.heap.size, 0, none⟩ jj) = some uu := news2 _ _ _ _
            have zc := belc'.size
            refine hK.out _ _ (hS4) (fun hHeld => ?_)
            clear hK K
            try simp only [Act.put, List.getElem_toArray, List.getElem_cons_zero, List.getElem_cons_succ, List.setIfInBounds_toArray, List.set_cons_zero, List.set_cons_succ]
            refine wpAnyH_ready (rs := [12]) (by kernel_rfl) (by simp) ?_
            refine AllReadyH.cons (o := _) rfl (fun K hK => ?_) AllReadyH.nil
            go_simp
            refine hK.out _ _ (hS1) (fun hHeld => ?_)
            clear hK K
            try simp only [Act.put, List.getElem_toArray, List.getElem_cons_zero, List.getElem_cons_succ, List.setIfInBounds_toArray, List.set_cons_zero, List.set_cons_succ]
            refine wpAnyH_ready (rs := [13]) (by kernel_rfl) (by simp) ?_
            refine AllReadyH.cons (o := _) rfl (fun K hK => ?_) AllReadyH.nil
            rw [if_pos (by rfl)]
            refine step_app _ _ _ rfl 57 (.agg #[.int .i64 0, .int .i64 0]) 2 16 Try.underlying55 end_info rfl (by decide) lo wr.heap.size (vs v).1 (rowOf (wireT kn d E v i) v).length (vs v).2 _ rfl hrow1 ⟨wc.heap.size, 0, none⟩ 1 1 [.int .i64 (E v i).1, .int .i64 (E v i).2] rfl rfl hnews (by simp [Value.oneCell']) (by decide) (by unfold maxLen; omega) (by omega) (by simp; omega) ?_
            intro g' cap' w2 own2 hgr hbg _
            obtain ⟨hbx2, hc2, hf2, vt, hE', hbx', hfr', hrb'⟩ := addP_mem hbx hE hv1 hw1 hlo hgr own2 hbg
            have hS2 := hbx2.cell 0 _ rfl
            have hS3 := hbx'.cell 0 _ rfl
            refine hK.out _ _ hS2 (fun hHeld => ?_)
            clear hK K
            try simp only [Act.put, List.getElem_toArray, List.getElem_cons_zero, List.getElem_cons_succ, List.setIfInBounds_toArray, List.set_cons_zero, List.set_cons_succ]
            refine wpAnyH_take (i := 14) (v := ?_) rfl (by kernel_rfl) (by kernel_rfl) (by kernel_rfl) (fun _ _ _ h => h) (Or.inl ⟨by rfl, ?_⟩) (by assumption) ?_
            rotate_left
            · (intro w hSw; (try dsimp only at hSw); go_simp; try with_reducible rfl)
            try simp only [Act.put, List.getElem_toArray, List.getElem_cons_zero, List.getElem_cons_succ, List.setIfInBounds_toArray, List.set_cons_zero, List.set_cons_succ]
            refine wpAnyH_ready (rs := [15]) (by kernel_rfl) (by simp) ?_
            refine AllReadyH.cons (o := _) rfl (fun K hK => ?_) AllReadyH.nil
            go_simp
            refine hK.out _ _ (hS3) (fun hHeld => ?_)
            clear hK K
            try simp only [Act.put, List.getElem_toArray, List.getElem_cons_zero, List.getElem_cons_succ, List.setIfInBounds_toArray, List.set_cons_zero, List.set_cons_succ]
            refine wpAnyH_done (by kernel_rfl) ?_ _
            clear hHeld hS2 hS3 hc2 hf2 hbx2 own2 hgr hbg hS4 hS1 hcv4 hcv5 hba hw1 hrow1 hnews hbc belc'
            rotate_left
            go_simp
            refine (HF.out wr.drew v i bb.drew (by omega) (by omega) hil hd6).mono ?_
            rintro e wc ⟨rfl, belc⟩
            have belc' : Below wr.heap.size wr wc := ((Below.refl _ _).drew).trans belc
            clear belc
            have hbc := hbx.new belc'
            have hS4 := hbc.cell 0 _ rfl
            have hcv4 := (belc'.cell (p := ⟨A, v, none⟩) (World.block_lt_of_cell? wr _ hcv0)).trans hcv0
            have hba : Below wc.heap.size wc (wc.alloc (.cells #[.int .i64 (E v i).1, .int .i64 (E v i).2] 57)) := (by repeat (first | exact Below.refl _ _ | assumption | refine Below.alloc ?_ (by first | (simp; done) | (simp; omega) | omega) _ | refine Below.setCell ?_ (by first | (simp; done) | (simp; omega) | omega) _ | refine Below.drew ?_ | refine Below.drewN ?_ _))
            have hw1 := belc'.trans (hba.mono belc'.size)
            have hS1 := (hbx.new hw1).cell 0 _ rfl
            have hcv5 := (hw1.cell (p := ⟨A, v, none⟩) (World.block_lt_of_cell? wr _ hcv0)).trans hcv0
            have hrow1 : Ow (wc.alloc (.cells #[.int .i64 (E v i).1, .int .i64 (E v i).2] 57)) lo wr.heap.size 57 2 (vs v).1 (rowOf (wireT kn d E v i) v).length (vs v).2 (cellE (rowOf (wireT kn d E v i) v)) := Ow.new (hE.2.1 v hv1) hw1
            have hnews : ∀ jj uu, [Value.int .i64 (E v i).1, Value.int .i64 (E v i).2][jj]? = some uu → (wc.alloc (.cells #[.int .i64 (E v i).1, .int .i64 (E v i).2] 57)).cell? (Addr.add ⟨wc.heap.size, 0, none⟩ jj) = some uu := news2 _ _ _ _
            have zc := belc'.size
            refine hK.out _ _ (hS4) (fun hHeld => ?_)
            clear hK K
            try simp only [Act.put, List.getElem_toArray, List.getElem_cons_zero, List.getElem_cons_succ, List.setIfInBounds_toArray, List.set_cons_zero, List.set_cons_succ]
            refine wpAnyH_ready (rs := [7, 12]) (by kernel_rfl) (by simp) ?_
            refine AllReadyH.cons (o := _) rfl (fun K hK => ?_) (AllReadyH.cons (o := _) rfl (fun K hK => ?_) AllReadyH.nil)
            go_simp
            refine hK.out _ _ (hS4) (fun hHeld => ?_)
            clear hK K
            try simp only [Act.put, List.getElem_toArray, List.getElem_cons_zero, List.getElem_cons_succ, List.setIfInBounds_toArray, List.set_cons_zero, List.set_cons_succ]
            refine wpAnyH_ready (rs := [12]) (by kernel_rfl) (by simp) ?_
            refine AllReadyH.cons (o := _) rfl (fun K hK => ?_) AllReadyH.nil
            go_simp
            refine hK.out _ _ (hS1) (fun hHeld => ?_)
            clear hK K
            try simp only [Act.put, List.getElem_toArray, List.getElem_cons_zero, List.getElem_cons_succ, List.setIfInBounds_toArray, List.set_cons_zero, List.set_cons_succ]
            refine wpAnyH_ready (rs := [13]) (by kernel_rfl) (by simp) ?_
            refine AllReadyH.cons (o := _) rfl (fun K hK => ?_) AllReadyH.nil
            rw [if_pos (by rfl)]
            refine step_app _ _ _ rfl 57 (.agg #[.int .i64 0, .int .i64 0]) 2 16 Try.underlying55 end_info rfl (by decide) lo wr.heap.size (vs v).1 (rowOf (wireT kn d E v i) v).length (vs v).2 _ rfl hrow1 ⟨wc.heap.size, 0, none⟩ 1 1 [.int .i64 (E v i).1, .int .i64 (E v i).2] rfl rfl hnews (by simp [Value.oneCell']) (by decide) (by unfold maxLen; omega) (by omega) (by simp; omega) ?_
            intro g' cap' w2 own2 hgr hbg _
            obtain ⟨hbx2, hc2, hf2, vt, hE', hbx', hfr', hrb'⟩ := addP_mem hbx hE hv1 hw1 hlo hgr own2 hbg
            have hS2 := hbx2.cell 0 _ rfl
            have hS3 := hbx'.cell 0 _ rfl
            refine hK.out _ _ hS2 (fun hHeld => ?_)
            clear hK K
            try simp only [Act.put, List.getElem_toArray, List.getElem_cons_zero, List.getElem_cons_succ, List.setIfInBounds_toArray, List.set_cons_zero, List.set_cons_succ]
            refine wpAnyH_take (i := 14) (v := ?_) rfl (by kernel_rfl) (by kernel_rfl) (by kernel_rfl) (fun _ _ _ h => h) (Or.inl ⟨by rfl, ?_⟩) (by assumption) ?_
            rotate_left
            · (intro w hSw; (try dsimp only at hSw); go_simp; try with_reducible rfl)
            try simp only [Act.put, List.getElem_toArray, List.getElem_cons_zero, List.getElem_cons_succ, List.setIfInBounds_toArray, List.set_cons_zero, List.set_cons_succ]
            refine wpAnyH_ready (rs := [15]) (by kernel_rfl) (by simp) ?_
            refine AllReadyH.cons (o := _) rfl (fun K hK => ?_) AllReadyH.nil
            go_simp
            refine hK.out _ _ (hS3) (fun hHeld => ?_)
            clear hK K
            try simp only [Act.put, List.getElem_toArray, List.getElem_cons_zero, List.getElem_cons_succ, List.setIfInBounds_toArray, List.set_cons_zero, List.set_cons_succ]
            refine wpAnyH_done (by kernel_rfl) ?_ _
            clear hHeld hS2 hS3 hc2 hf2 hbx2 own2 hgr hbg hS4 hS1 hcv4 hcv5 hba hw1 hrow1 hnews hbc belc'
            rotate_left
            go_simp
            refine hK.out _ _ (hS1) (fun hHeld => ?_)
            clear hK K
            try simp only [Act.put, List.getElem_toArray, List.getElem_cons_zero, List.getElem_cons_succ, List.setIfInBounds_toArray, List.set_cons_zero, List.set_cons_succ]
            refine wpAnyH_ready (rs := [7]) (by kernel_rfl) (by simp) ?_
            refine AllReadyH.cons (o := _) rfl (fun K hK => ?_) AllReadyH.nil
            go_simp
            refine hK.out _ _ (hS1) (fun hHeld => ?_)
            clear hK K
            try simp only [Act.put, List.getElem_toArray, List.getElem_cons_zero, List.getElem_cons_succ, List.setIfInBounds_toArray, List.set_cons_zero, List.set_cons_succ]
            refine wpAnyH_ready (rs := [13]) (by kernel_rfl) (by simp) ?_
            refine AllReadyH.cons (o := _) rfl (fun K hK => ?_) AllReadyH.nil
            rw [if_pos (by rfl)]
            refine step_app _ _ _ rfl 57 (.agg #[.int .i64 0, .int .i64 0]) 2 16 Try.underlying55 end_info rfl (by decide) lo wr.heap.size (vs v).1 (rowOf (wireT kn d E v i) v).length (vs v).2 _ rfl hrow1 ⟨wc.heap.size, 0, none⟩ 1 1 [.int .i64 (E v i).1, .int .i64 (E v i).2] rfl rfl hnews (by simp [Value.oneCell']) (by decide) (by unfold maxLen; omega) (by omega) (by simp; omega) ?_
            intro g' cap' w2 own2 hgr hbg _
            obtain ⟨hbx2, hc2, hf2, vt, hE', hbx', hfr', hrb'⟩ := addP_mem hbx hE hv1 hw1 hlo hgr own2 hbg
            have hS2 := hbx2.cell 0 _ rfl
            have hS3 := hbx'.cell 0 _ rfl
            refine hK.out _ _ hS2 (fun hHeld => ?_)
            clear hK K
            try simp only [Act.put, List.getElem_toArray, List.getElem_cons_zero, List.getElem_cons_succ, List.setIfInBounds_toArray, List.set_cons_zero, List.set_cons_succ]
            refine wpAnyH_take (i := 14) (v := ?_) rfl (by kernel_rfl) (by kernel_rfl) (by kernel_rfl) (fun _ _ _ h => h) (Or.inl ⟨by rfl, ?_⟩) (by assumption) ?_
            rotate_left
            · (intro w hSw; (try dsimp only at hSw); go_simp; try with_reducible rfl)
            try simp only [Act.put, List.getElem_toArray, List.getElem_cons_zero, List.getElem_cons_succ, List.setIfInBounds_toArray, List.set_cons_zero, List.set_cons_succ]
            refine wpAnyH_ready (rs := [15]) (by kernel_rfl) (by simp) ?_
            refine AllReadyH.cons (o := _) rfl (fun K hK => ?_) AllReadyH.nil
            go_simp
            refine hK.out _ _ (hS3) (fun hHeld => ?_)
            clear hK K
            try simp only [Act.put, List.getElem_toArray, List.getElem_cons_zero, List.getElem_cons_succ, List.setIfInBounds_toArray, List.set_cons_zero, List.set_cons_succ]
            refine wpAnyH_done (by kernel_rfl) ?_ _
            clear hHeld hS2 hS3 hc2 hf2 hbx2 own2 hgr hbg hS4 hS1 hcv4 hcv5 hba hw1 hrow1 hnews hbc belc'
            rotate_left
            all_goals
              clear hS0 hcv hcv0 hbx hE
              generalize hWW : World.setCell w2 _ _ = w4 at hE' hbx' hfr' ⊢
              clear hWW
              replace hE' := RowsAt.top hE'
              obtain ⟨hE, hbx, hfr, hrb⟩ := (⟨hE', hbx', hfr', hrb'⟩ : _ ∧ _ ∧ _ ∧ _)
              clear hE' hbx' hfr' hrb'
              replace owni := Ow.top (Ow.frB owni hfr HNI.out)
              replace ownp := Ow.top (Ow.frB ownp hfr HNP.out)
              replace BR := BR.fr hfr (fun h => by have := HIN.out _ h; omega)
              replace bb := bb.trans (hfr.below (B := w.heap.size) (fun x h1 h2 hc => by have := HIN.out _ hc; omega) bb.size)
              have z6' := hfr.size
              clear hfr hrb HNI HNP HIN
              rw [wireT_add _ _ _ _ _ hlt] at hE
              rw [HLO.out] at hE owni ownp
              rw [HNK.out] at hbx
              have hNB5 : NBx w4 (w.heap.size + 1) b (tN kn d E v (i + 1)) := ⟨_, c, vt, ai, ci, ap, cp, by rw [show (tN kn d E v (i + 1)).ends.length = kn from wireT_length ..]; exact hbx, hE, owni, ownp, hdis⟩
              go_wp2_with fail
              go_roundw
              case rel => exact ⟨i + 1, by omega, by go_num, hNB5, BR, bb, by omega⟩
              case measure => simp [intOf]; omega
          · obtain rfl : i = d := by omega
            go_wp2_with fail
            go_roundw
            case rel => exact ⟨v + 1, by omega, by go_num, by unfold tN; rw [← wireT_next]; exact hNB, BR, bb, zlo⟩
            case measure => simp [intOf]; omega
      · have HVK := Lib.hid (show v = kn by omega)
        rw [HVK.out] at hNB
        have HTN := Lib.hid (show tN kn d E kn 0 = wireN kn d E by unfold tN wireN; rw [wireT_all])
        rw [HTN.out] at hNB
        have HSM := Lib.hid (show NetSmall (wireN kn d E) by rw [← HTN.out]; exact tN_small (by omega) hd6 (Nat.zero_le _))
        obtain ⟨ax, cx, vx, aix, cix, apx, cpx, BO, hE, owni, ownp, hdis⟩ := hNB
        have own6 : NetAt wr (w.heap.size + 1) wr.heap.size _ (wireN kn d E) := ⟨ax, cx, vx, aix, cix, apx, cpx, rfl, hE, owni, ownp, hdis⟩
        have q0 := BO.cell 0 _ rfl
        have q1 := BO.cell 1 _ rfl
        have q2 := BO.cell 2 _ rfl
        clear hE owni ownp hdis BO
        go_wp2_with fail
        clear q0 q1 q2
        refine (network_any _ (wireN kn d E) _ _ _ own6 (Nat.le_refl _) zlo HSM.out).mono ?_
        rintro e w7 ⟨x7, rfl, own7, bel7⟩
        replace BR := BR.new bel7
        replace bb := bb.trans (bel7.mono bb.size)
        have z7 := bel7.size
        clear bel7 own6
        obtain ⟨ay, cy, aiy, ciy, apy, cpy, rfl, own7⟩ := own7.shape
        generalize hRR : ifN (netB (wireN kn d E)) (wireN kn d E) = RR at *
        generalize hOO : netB (wireN kn d E) = oo at *
        have HRR := Lib.hid (show wdR (kn : Int) d E = RR ∧ wdB (kn : Int) d E = oo by
          have h1 : wdB (kn : Int) d E = oo := by rw [HOKB.out, Int.toNat_natCast]; exact hOO
          exact ⟨by rw [wdR, h1, Int.toNat_natCast]; exact hRR, h1⟩)
        clear hRR hOO
        have e0 := BR.cell 0 _ rfl
        have e1 := BR.cell 1 _ rfl
        have e2 := BR.cell 2 _ rfl
        have f0 := BR.frozen 0
        have f1 := BR.frozen 1
        have f2 := BR.frozen 2
        go_wp2_with fail
        clear e0 e1 e2 f0 f1 f2
        generalize hW : World.setCell _ _ _ = W
        have B6 : Bx W (w.heap.size) 25 #[.slice ay RR.ends.length cy, .slice aiy RR.ids.length ciy, .slice apy RR.inputs.length cpy] := by rw [← hW]; exact ((BR.set 0 _).set 1 _).set 2 _
        have fr6 : Fr (fun k => k = w.heap.size) w7 W := by rw [← hW]; exact fr3 _ _ _ _ _
        clear hW
        have z6 := fr6.size
        have d0 := B6.cell 0 _ rfl
        have d1 := B6.cell 1 _ rfl
        have d2 := B6.cell 2 _ rfl
        refine bodyPost_ret (v := .tuple #[.agg #[.slice ay RR.ends.length cy, .slice aiy RR.ids.length ciy, .slice apy RR.inputs.length cpy], .bool oo]) (by simp [results, Try.results50, go_sem, d0, d1, d2]) rfl ?_
        rw [HRR.out.1, HRR.out.2]
        exact ⟨_, rfl, (own7.fr fr6 (fun k h1 h2 hc => by omega)).wide (lo' := w.heap.size) (hi' := W.heap.size) (by omega) (by omega), bb.trans (fr6.below (fun k h1 h2 hc => by omega) bb.size)⟩
set_option maxRecDepth 100000 in
set_option maxHeartbeats 800000 in
theorem tor1_any (m n p q v i : Nat) (X : World) (hp : X.cell? ⟨p, 0, none⟩ = some (.int .i64 (m : Int))) (hq : X.cell? ⟨q, 0, none⟩ = some (.int .i64 (n : Int))) (hm1 : 1 ≤ m) (hn1 : 1 ≤ n) (hmn : m * n ≤ 40) (hm2 : m ≤ 40) (hn2 : n ≤ 40) (hv : v < m * n) (hi : i < 4) :
    Calls Try.prog 58 #[.int .i64 v, .int .i64 i, .pointer (some ⟨q, 0, none⟩), .pointer (some ⟨p, 0, none⟩)] X fun e w' => e = .returned (.agg #[.int .i64 (torE m n v i).1, .int .i64 (torE m n v i).2]) ∧ Below X.heap.size X w' := by
  have b0 : ∀ cs, Below X.heap.size X (X.alloc (.cells cs 57)).drew := fun cs => (by repeat (first | exact Below.refl _ _ | assumption | refine Below.alloc ?_ (by first | (simp; done) | (simp; omega) | omega) _ | refine Below.setCell ?_ (by first | (simp; done) | (simp; omega) | omega) _ | refine Below.drew ?_ | refine Below.drewN ?_ _))
  have hpX : p < X.heap.size := World.block_lt_of_cell? X _ hp
  have hqX : q < X.heap.size := World.block_lt_of_cell? X _ hq
  have hp0 := ((b0 #[.int .i64 0, .int .i64 0]).cell (p := ⟨p, 0, none⟩) hpX).trans hp
  have hq0 := ((b0 #[.int .i64 0, .int .i64 0]).cell (p := ⟨q, 0, none⟩) hqX).trans hq
  have hdm := Nat.div_add_mod v n
  obtain ⟨r, hr⟩ : ∃ r, r = v / n := ⟨_, rfl⟩
  obtain ⟨s, hs⟩ : ∃ s, s = v % n := ⟨_, rfl⟩
  have hrm : r < m := by rw [hr]; exact Nat.div_lt_of_lt_mul (by rw [Nat.mul_comm]; exact hv)
  have hsn : s < n := by rw [hs]; exact Nat.mod_lt _ hn1
  have htd : Int.tdiv (v : Int) (n : Int) = (r : Int) := by rw [hr]; exact (Int.ofNat_tdiv v n).symm
  have htm : Int.tmod (v : Int) (n : Int) = (s : Int) := by rw [hs]; exact (Int.ofNat_tmod v n).symm
  have HE := Lib.hid (show torE m n v i = torA m n r s i by rw [torE, hr, hs])
  have hn0 : ¬ n = 0 := by omega
  have hm0 : ¬ m = 0 := by omega
  have hv40 : v < 40 := by omega
  have hwr : IntKind.i64.wrap (r : Int) = (r : Int) := wrapI _ (by omega)
  clear hr hs hdm
  have k1 := mul_row hrm (Nat.mod_lt (s + 1) hn1) hmn
  have k2 := mul_row hrm (Nat.mod_lt (s + n - 1) hn1) hmn
  have k3 := mul_row (Nat.mod_lt (r + 1) hm1) hsn hmn
  have k4 := mul_row (Nat.mod_lt (r + m - 1) hm1) hsn hmn
  go_enter Try.func58, Try.ntmps58
  go_wp2_with fail
  refine wp_region_held_drew (S := fun X => X.cell? ⟨q, 0, none⟩ = some (.int .i64 (n : Int))) (by kernel_rfl) hq0 (fun hHeld => ?_)
  refine wpAnyH_take (i := 0) (v := ?_) rfl (by kernel_rfl) (by kernel_rfl) (by kernel_rfl) (fun _ _ _ h => h) (Or.inl ⟨by rfl, ?_⟩) (by assumption) ?_
  rotate_left
  · (intro w hSw; (try dsimp only at hSw); go_simp; try with_reducible rfl)
  try simp only [Act.put, List.getElem_toArray, List.getElem_cons_zero, List.getElem_cons_succ, List.setIfInBounds_toArray, List.set_cons_zero, List.set_cons_succ]
  refine wpAnyH_take (i := 1) (v := ?_) rfl (by kernel_rfl) (by kernel_rfl) (by kernel_rfl) (fun _ _ _ h => h) (Or.inl ⟨by rfl, ?_⟩) (by assumption) ?_
  rotate_left
  · (intro w hSw; (try dsimp only at hSw); go_simp; try with_reducible rfl)
  try simp only [Act.put, List.getElem_toArray, List.getElem_cons_zero, List.getElem_cons_succ, List.setIfInBounds_toArray, List.set_cons_zero, List.set_cons_succ]
  refine wpAnyH_take (i := 2) (v := ?_) rfl (by kernel_rfl) (by kernel_rfl) (by kernel_rfl) (fun _ _ _ h => h) (Or.inl ⟨by rfl, ?_⟩) (by assumption) ?_
  rotate_left
  · (intro w hSw; (try dsimp only at hSw); go_simp; try with_reducible rfl)
  try simp only [Act.put, List.getElem_toArray, List.getElem_cons_zero, List.getElem_cons_succ, List.setIfInBounds_toArray, List.set_cons_zero, List.set_cons_succ]
  refine wpAnyH_take (i := 3) (v := ?_) rfl (by kernel_rfl) (by kernel_rfl) (by kernel_rfl) (fun _ _ _ h => h) (Or.inl ⟨by rfl, ?_⟩) (by assumption) ?_
  rotate_left
  · (intro w hSw; (try dsimp only at hSw); go_simp; try with_reducible rfl)
  try simp only [Act.put, List.getElem_toArray, List.getElem_cons_zero, List.getElem_cons_succ, List.setIfInBounds_toArray, List.set_cons_zero, List.set_cons_succ]
  refine wpAnyH_take (i := 4) (v := ?_) rfl (by kernel_rfl) (by kernel_rfl) (by kernel_rfl) (fun _ _ _ h => h) (Or.inl ⟨by rfl, ?_⟩) (by assumption) ?_
  rotate_left
  · (intro w hSw; (try dsimp only at hSw); go_simp; try with_reducible rfl)
  try simp only [Act.put, List.getElem_toArray, List.getElem_cons_zero, List.getElem_cons_succ, List.setIfInBounds_toArray, List.set_cons_zero, List.set_cons_succ]
  refine wpAnyH_take (i := 5) (v := ?_) rfl (by kernel_rfl) (by kernel_rfl) (by kernel_rfl) (fun _ _ _ h => h) (Or.inl ⟨by rfl, ?_⟩) (by assumption) ?_
  rotate_left
  · (intro w hSw; (try dsimp only at hSw); go_simp; try with_reducible rfl)
  try simp only [Act.put, List.getElem_toArray, List.getElem_cons_zero, List.getElem_cons_succ, List.setIfInBounds_toArray, List.set_cons_zero, List.set_cons_succ]
  refine wpAnyH_take (i := 6) (v := ?_) rfl (by kernel_rfl) (by kernel_rfl) (by kernel_rfl) (fun _ _ _ h => h) (Or.inl ⟨by rfl, ?_⟩) (by assumption) ?_
  rotate_left
  · (intro w hSw; (try dsimp only at hSw); go_simp; try with_reducible rfl)
  try simp only [Act.put, List.getElem_toArray, List.getElem_cons_zero, List.getElem_cons_succ, List.setIfInBounds_toArray, List.set_cons_zero, List.set_cons_succ]
  refine wpAnyH_take (i := 7) (v := ?_) rfl (by kernel_rfl) (by kernel_rfl) (by kernel_rfl) (fun _ _ _ h => h) (Or.inl ⟨by rfl, ?_⟩) (by assumption) ?_
  rotate_left
  · (intro w hSw; (try dsimp only at hSw); go_simp; try with_reducible rfl)
  try simp only [Act.put, List.getElem_toArray, List.getElem_cons_zero, List.getElem_cons_succ, List.setIfInBounds_toArray, List.set_cons_zero, List.set_cons_succ]
  refine wpAnyH_done (by kernel_rfl) ?_ _
  clear hHeld
  obtain rfl | rfl | rfl | rfl : i = 0 ∨ i = 1 ∨ i = 2 ∨ i = 3 := by omega
  · have HA := Lib.hid (show torA m n r s 0 = (((r * n + (s + 1) % n : Nat) : Int), 1) from rfl)
    have e1 : ((s : Int) + 1) % (n : Int) = (((s + 1) % n : Nat) : Int) := emod_nat _ _ _ (by omega)
    have hxl : (s + 1) % n < n := Nat.mod_lt _ (by omega)
    obtain ⟨x, hx⟩ : ∃ x, x = (s + 1) % n := ⟨_, rfl⟩
    rw [← hx] at e1 hxl
    have HX := Lib.hid hx
    have kk : r * n + x < 40 := by rw [hx]; assumption
    clear hx k1 k2 k3 k4
    have j0 : (0 : Int) ≤ (r : Int) * (n : Int) := Int.mul_nonneg (by omega) (by omega)
    have j1 : (r : Int) * (n : Int) ≤ 40 := by rw [← Int.natCast_mul]; omega
    have HV := Lib.hid (show ((r * n + x : Nat) : Int) = (r : Int) * (n : Int) + (x : Int) by rw [Int.natCast_add, Int.natCast_mul])
    have hxo : bits BinOp.xor IntKind.i64 0 1 = 1 := bits_xor_i64_nat 0 1 (by omega) (by omega)
    go_wp2_with fail
    refine bodyPost_ret (v := .agg #[.int .i64 ((r : Int) * (n : Int) + (x : Int)), .int .i64 1]) (by simp [results, Try.results58, go_sem]) rfl ?_
    rw [HE.out, HA.out, ← HX.out, HV.out]
    exact ⟨rfl, b0 _⟩
  · have HA := Lib.hid (show torA m n r s 1 = (((r * n + (s + n - 1) % n : Nat) : Int), 0) from rfl)
    have e1 : ((s : Int) + (n : Int) - 1) % (n : Int) = (((s + n - 1) % n : Nat) : Int) := emod_nat _ _ _ (by omega)
    have hxl : (s + n - 1) % n < n := Nat.mod_lt _ (by omega)
    obtain ⟨x, hx⟩ : ∃ x, x = (s + n - 1) % n := ⟨_, rfl⟩
    rw [← hx] at e1 hxl
    have HX := Lib.hid hx
    have kk : r * n + x < 40 := by rw [hx]; assumption
    clear hx k1 k2 k3 k4
    have j0 : (0 : Int) ≤ (r : Int) * (n : Int) := Int.mul_nonneg (by omega) (by omega)
    have j1 : (r : Int) * (n : Int) ≤ 40 := by rw [← Int.natCast_mul]; omega
    have HV := Lib.hid (show ((r * n + x : Nat) : Int) = (r : Int) * (n : Int) + (x : Int) by rw [Int.natCast_add, Int.natCast_mul])
    have hxo : bits BinOp.xor IntKind.i64 1 1 = 0 := bits_xor_i64_nat 1 1 (by omega) (by omega)
    go_wp2_with fail
    refine bodyPost_ret (v := .agg #[.int .i64 ((r : Int) * (n : Int) + (x : Int)), .int .i64 0]) (by simp [results, Try.results58, go_sem]) rfl ?_
    rw [HE.out, HA.out, ← HX.out, HV.out]
    exact ⟨rfl, b0 _⟩
  · have HA := Lib.hid (show torA m n r s 2 = ((((r + 1) % m * n + s : Nat) : Int), 3) from rfl)
    have e1 : ((r : Int) + 1) % (m : Int) = (((r + 1) % m : Nat) : Int) := emod_nat _ _ _ (by omega)
    have hxl : (r + 1) % m < m := Nat.mod_lt _ (by omega)
    obtain ⟨x, hx⟩ : ∃ x, x = (r + 1) % m := ⟨_, rfl⟩
    rw [← hx] at e1 hxl
    have HX := Lib.hid hx
    have kk : x * n + s < 40 := by rw [hx]; assumption
    clear hx k1 k2 k3 k4
    have j0 : (0 : Int) ≤ (x : Int) * (n : Int) := Int.mul_nonneg (by omega) (by omega)
    have j1 : (x : Int) * (n : Int) ≤ 40 := by rw [← Int.natCast_mul]; omega
    have HV := Lib.hid (show ((x * n + s : Nat) : Int) = (x : Int) * (n : Int) + (s : Int) by rw [Int.natCast_add, Int.natCast_mul])
    have hxo : bits BinOp.xor IntKind.i64 2 1 = 3 := bits_xor_i64_nat 2 1 (by omega) (by omega)
    go_wp2_with fail
    refine bodyPost_ret (v := .agg #[.int .i64 ((x : Int) * (n : Int) + (s : Int)), .int .i64 3]) (by simp [results, Try.results58, go_sem]) rfl ?_
    rw [HE.out, HA.out, ← HX.out, HV.out]
    exact ⟨rfl, b0 _⟩
  · have HA := Lib.hid (show torA m n r s 3 = ((((r + m - 1) % m * n + s : Nat) : Int), 2) from rfl)
    have e1 : ((r : Int) + (m : Int) - 1) % (m : Int) = (((r + m - 1) % m : Nat) : Int) := emod_nat _ _ _ (by omega)
    have hxl : (r + m - 1) % m < m := Nat.mod_lt _ (by omega)
    obtain ⟨x, hx⟩ : ∃ x, x = (r + m - 1) % m := ⟨_, rfl⟩
    rw [← hx] at e1 hxl
    have HX := Lib.hid hx
    have kk : x * n + s < 40 := by rw [hx]; assumption
    clear hx k1 k2 k3 k4
    have j0 : (0 : Int) ≤ (x : Int) * (n : Int) := Int.mul_nonneg (by omega) (by omega)
    have j1 : (x : Int) * (n : Int) ≤ 40 := by rw [← Int.natCast_mul]; omega
    have HV := Lib.hid (show ((x * n + s : Nat) : Int) = (x : Int) * (n : Int) + (s : Int) by rw [Int.natCast_add, Int.natCast_mul])
    have hxo : bits BinOp.xor IntKind.i64 3 1 = 2 := bits_xor_i64_nat 3 1 (by omega) (by omega)
    go_wp2_with fail
    refine bodyPost_ret (v := .agg #[.int .i64 ((x : Int) * (n : Int) + (s : Int)), .int .i64 2]) (by simp [results, Try.results58, go_sem]) rfl ?_
    rw [HE.out, HA.out, ← HX.out, HV.out]
    exact ⟨rfl, b0 _⟩
set_option maxRecDepth 100000 in
set_option maxHeartbeats 400000 in
theorem implTor_any (x y : Int) (w : World) (hx : -9223372036854775808 ≤ x ∧ x ≤ 9223372036854775807) (hy : -9223372036854775808 ≤ y ∧ y ≤ 9223372036854775807) : Calls Try.prog 21 #[.int .i64 x, .int .i64 y] w (PostN (trR x y) (sidesB x y) w) := by
  have BP := ((Bx.made w 3 #[.int .i64 x]).alloc (.cells #[.int .i64 y] 3)).alloc (.cells #[.slice none 0 0, .slice none 0 0, .slice none 0 0] 25)
  have BQ := (Bx.made (w.alloc (.cells #[.int .i64 x] 3)) 3 #[.int .i64 y]).alloc (.cells #[.slice none 0 0, .slice none 0 0, .slice none 0 0] 25)
  have BR := Bx.made ((w.alloc (.cells #[.int .i64 x] 3)).alloc (.cells #[.int .i64 y] 3)) 25 #[.slice none 0 0, .slice none 0 0, .slice none 0 0]
  have b0 : Below w.heap.size w (((w.alloc (.cells #[.int .i64 x] 3)).alloc (.cells #[.int .i64 y] 3)).alloc (.cells #[.slice none 0 0, .slice none 0 0, .slice none 0 0] 25)) := (by repeat (first | exact Below.refl _ _ | assumption | refine Below.alloc ?_ (by first | (simp; done) | (simp; omega) | omega) _ | refine Below.setCell ?_ (by first | (simp; done) | (simp; omega) | omega) _ | refine Below.drew ?_ | refine Below.drewN ?_ _))
  have z0 : w.heap.size + 1 + 1 + 1 ≤ (((w.alloc (.cells #[.int .i64 x] 3)).alloc (.cells #[.int .i64 y] 3)).alloc (.cells #[.slice none 0 0, .slice none 0 0, .slice none 0 0] 25)).heap.size := by simp
  simp only [World.size_alloc] at BQ BR
  have e0 := BR.cell 0 _ rfl
  have e1 := BR.cell 1 _ rfl
  have e2 := BR.cell 2 _ rfl
  have f0 := BR.frozen 0
  have f1 := BR.frozen 1
  have f2 := BR.frozen 2
  have ca := BP.cell 0 _ rfl
  have cb := BQ.cell 0 _ rfl
  cases hk : sidesB x y with
  | false =>
    have HK := Lib.hid hk
    have HG := Lib.hid (show trR x y = nilN by rw [trR, hk]; rfl)
    clear hk
    go_enter Try.func21, Try.ntmps21
    go_wp2_with fail
    refine (gridOk_any _ _ _ hx hy).mono ?_
    rintro e w' ⟨rfl, rfl⟩
    rw [HK.out]
    generalize ((w.alloc (.cells #[.int .i64 x] 3)).alloc (.cells #[.int .i64 y] 3)).alloc (.cells #[.slice none 0 0, .slice none 0 0, .slice none 0 0] 25) = w0 at *
    go_wp2_with fail
    clear e0 e1 e2 f0 f1 f2
    generalize hW : World.setCell _ _ _ = W
    have B6 : Bx W (w.heap.size + 1 + 1) 25 #[.slice none 0 0, .slice none 0 0, .slice none 0 0] := by rw [← hW]; exact ((BR.set 0 _).set 1 _).set 2 _
    have fr6 : Fr (fun k => k = w.heap.size + 1 + 1) w0 W := by rw [← hW]; exact fr3 _ _ _ _ _
    clear hW
    have z6 := fr6.size
    have d0 := B6.cell 0 _ rfl
    have d1 := B6.cell 1 _ rfl
    have d2 := B6.cell 2 _ rfl
    refine bodyPost_ret (v := .tuple #[.agg #[.slice none 0 0, .slice none 0 0, .slice none 0 0], .bool false]) (by simp [results, Try.results21, go_sem, d0, d1, d2]) rfl ?_
    rw [HG.out]
    exact ⟨_, rfl, NetAt.nilN _ _ _, b0.trans (fr6.below (fun k h1 h2 hc => by omega) b0.size)⟩
  | true =>
    have HK := Lib.hid hk
    obtain ⟨m, n, rfl, rfl, hm1, hn1, hm2, hn2, hmn⟩ := sidesB_t hk
    have HG := Lib.hid (show trR (m : Int) (n : Int) = wireN (m * n) 4 (torE m n) by rw [trR, hk]; rfl)
    have i0 : (1 : Int) ≤ (m : Int) * (n : Int) := by have := Nat.mul_le_mul hm1 hn1; rw [← Int.natCast_mul]; omega
    have i1 : (m : Int) * (n : Int) ≤ 40 := by exact_mod_cast hmn
    have HMN := Lib.hid hmn
    clear hk hmn
    go_enter Try.func21, Try.ntmps21
    go_wp2_with fail
    refine (gridOk_any _ _ _ hx hy).mono ?_
    rintro e w' ⟨rfl, rfl⟩
    rw [HK.out]
    generalize ((w.alloc (.cells #[.int .i64 (m : Int)] 3)).alloc (.cells #[.int .i64 (n : Int)] 3)).alloc (.cells #[.slice none 0 0, .slice none 0 0, .slice none 0 0] 25) = w0 at *
    have HW := Lib.hid (wiredTor_any ((m : Int) * (n : Int)) 4 (torE m n) w.heap.size (w.heap.size + 1) w0 (by omega) (fun X v i bX hv hk hi _ => tor1_any m n w.heap.size (w.heap.size + 1) v i X ((BP.new bX).cell 0 _ rfl) ((BQ.new bX).cell 0 _ rfl) hm1 hn1 HMN.out hm2 hn2 (lt_mul_nat hv) hi))
    have HB := Lib.hid (And.intro (tor_wdB hm1 hn1 HMN.out) (tor_wdR hm1 hn1 HMN.out))
    clear e0 e1 e2 f0 f1 f2
    go_wp2_with fail
    refine HW.out.mono ?_
    rw [HB.out.1, HB.out.2]
    rintro e w7 ⟨x7, rfl, own7, bel7⟩
    replace BR := BR.new bel7
    have bb := b0.trans (bel7.mono b0.size)
    have z7 := bel7.size
    clear bel7 HW
    obtain ⟨ay, cy, aiy, ciy, apy, cpy, rfl, own7⟩ := own7.shape
    generalize hRR : wireN (m * n) 4 (torE m n) = RR at *
    have e0 := BR.cell 0 _ rfl
    have e1 := BR.cell 1 _ rfl
    have e2 := BR.cell 2 _ rfl
    have f0 := BR.frozen 0
    have f1 := BR.frozen 1
    have f2 := BR.frozen 2
    go_wp2_with fail
    clear e0 e1 e2 f0 f1 f2
    generalize hW : World.setCell _ _ _ = W
    have B6 : Bx W (w.heap.size + 1 + 1) 25 #[.slice ay RR.ends.length cy, .slice aiy RR.ids.length ciy, .slice apy RR.inputs.length cpy] := by rw [← hW]; exact ((BR.set 0 _).set 1 _).set 2 _
    have fr6 : Fr (fun k => k = w.heap.size + 1 + 1) w7 W := by rw [← hW]; exact fr3 _ _ _ _ _
    clear hW
    have z6 := fr6.size
    have d0 := B6.cell 0 _ rfl
    have d1 := B6.cell 1 _ rfl
    have d2 := B6.cell 2 _ rfl
    refine bodyPost_ret (v := .tuple #[.agg #[.slice ay RR.ends.length cy, .slice aiy RR.ids.length ciy, .slice apy RR.inputs.length cpy], .bool true]) (by simp [results, Try.results21, go_sem, d0, d1, d2]) rfl ?_
    rw [HG.out]
    exact ⟨_, rfl, (own7.fr fr6 (fun k h1 h2 hc => by omega)).wide (lo' := w.heap.size) (hi' := W.heap.size) (by omega) (by omega), bb.trans (fr6.below (fun k h1 h2 hc => by omega) bb.size)⟩
set_option maxRecDepth 100000 in
set_option maxHeartbeats 1600000 in
theorem specTor_any (x y : Int) (w : World) (hx : -9223372036854775808 ≤ x ∧ x ≤ 9223372036854775807) (hy : -9223372036854775808 ≤ y ∧ y ≤ 9223372036854775807) : Calls Try.prog 20 #[.int .i64 x, .int .i64 y] w (PostN (trR x y) (sidesB x y) w) := by
  have BR := Bx.made w 25 #[.slice none 0 0, .slice none 0 0, .slice none 0 0]
  have b0 : Below w.heap.size w (w.alloc (.cells #[.slice none 0 0, .slice none 0 0, .slice none 0 0] 25)) := (by repeat (first | exact Below.refl _ _ | assumption | refine Below.alloc ?_ (by first | (simp; done) | (simp; omega) | omega) _ | refine Below.setCell ?_ (by first | (simp; done) | (simp; omega) | omega) _ | refine Below.drew ?_ | refine Below.drewN ?_ _))
  have z0 : w.heap.size + 1 ≤ (w.alloc (.cells #[.slice none 0 0, .slice none 0 0, .slice none 0 0] 25)).heap.size := by simp
  cases hk : sidesB x y with
  | false =>
    have HK := Lib.hid hk
    have HG := Lib.hid (show trR x y = nilN by rw [trR, hk]; rfl)
    clear hk
    go_enter Try.func20, Try.ntmps20
    go_wp2_with fail
    refine (buSides_any _ _ _ hx hy).mono ?_
    rintro e w' ⟨rfl, rfl⟩
    rw [HK.out]
    generalize w.alloc (.cells #[.slice none 0 0, .slice none 0 0, .slice none 0 0] 25) = w0 at *
    have e0 := BR.cell 0 _ rfl
    have e1 := BR.cell 1 _ rfl
    have e2 := BR.cell 2 _ rfl
    have f0 := BR.frozen 0
    have f1 := BR.frozen 1
    have f2 := BR.frozen 2
    go_wp2_with fail
    clear e0 e1 e2 f0 f1 f2
    generalize hW : World.setCell _ _ _ = W
    have B6 : Bx W (w.heap.size) 25 #[.slice none 0 0, .slice none 0 0, .slice none 0 0] := by rw [← hW]; exact ((BR.set 0 _).set 1 _).set 2 _
    have fr6 : Fr (fun k => k = w.heap.size) w0 W := by rw [← hW]; exact fr3 _ _ _ _ _
    clear hW
    have z6 := fr6.size
    have d0 := B6.cell 0 _ rfl
    have d1 := B6.cell 1 _ rfl
    have d2 := B6.cell 2 _ rfl
    refine bodyPost_ret (v := .tuple #[.agg #[.slice none 0 0, .slice none 0 0, .slice none 0 0], .bool false]) (by simp [results, Try.results20, go_sem, d0, d1, d2]) rfl ?_
    rw [HG.out]
    exact ⟨_, rfl, NetAt.nilN _ _ _, b0.trans (fr6.below (fun k h1 h2 hc => by omega) b0.size)⟩
  | true =>
    have HK := Lib.hid hk
    obtain ⟨m, n, rfl, rfl, hm1, hn1, hm2, hn2, hmn⟩ := sidesB_t hk
    have HG := Lib.hid (show trR (m : Int) (n : Int) = wireN (m * n) 4 (torE m n) by rw [trR, hk]; rfl)
    have i0 : (1 : Int) ≤ (m : Int) * (n : Int) := by have := Nat.mul_le_mul hm1 hn1; rw [← Int.natCast_mul]; omega
    have i1 : (m : Int) * (n : Int) ≤ 40 := by exact_mod_cast hmn
    have HMC := Lib.hid (show ((m * n : Nat) : Int) = (m : Int) * (n : Int) from Int.natCast_mul ..)
    have HMN := Lib.hid hmn
    have HP1 := Lib.hid (Nat.mul_le_mul hm1 hn1)
    clear hk hmn
    go_enter Try.func20, Try.ntmps20
    go_wp2_with fail
    refine (buSides_any _ _ _ hx hy).mono ?_
    rintro e w' ⟨rfl, rfl⟩
    rw [HK.out]
    generalize w.alloc (.cells #[.slice none 0 0, .slice none 0 0, .slice none 0 0] 25) = w0 at *
    have HC0 := Lib.hid (neEmpty_any (m * n) w0 (by have := HMN.out; omega))
    rw [HMC.out] at HC0
    go_wp2_with fail
    refine HC0.out.mono ?_
    rintro e w1 ⟨v1, rfl, own1, bel1⟩
    obtain ⟨a1, c1, ai1, ci1, ap1, cp1, rfl, own1⟩ := own1.shape
    replace BR := BR.new bel1
    have z1 : w.heap.size + 1 ≤ w1.heap.size := by have := bel1.size; omega
    have b1 := b0.trans (bel1.mono b0.size)
    replace own1 := own1.wide (lo' := w.heap.size + 1) z0 (Nat.le_refl _)
    clear b0 bel1 HC0
    obtain ⟨K0, hK0⟩ : ∃ K0, K0 = m * n := ⟨_, rfl⟩
    have HKK := Lib.hid hK0
    have hK40 : K0 ≤ 40 := by have := HMN.out; omega
    have hK1 : 1 ≤ K0 := by have := HP1.out; omega
    rw [← hK0] at own1 ⊢
    clear hK0
    have HEL := Lib.hid (show (emptyN K0).ends.length = K0 from List.length_replicate ..)
    have BO := Bx.made w1 25 #[.slice a1 (emptyN K0).ends.length c1, .slice ai1 (emptyN K0).ids.length ci1, .slice ap1 (emptyN K0).inputs.length cp1]
    have b2 : Below w1.heap.size w1 (w1.alloc (.cells #[.slice a1 (emptyN K0).ends.length c1, .slice ai1 (emptyN K0).ids.length ci1, .slice ap1 (emptyN K0).inputs.length cp1] 25)) := (by repeat (first | exact Below.refl _ _ | assumption | refine Below.alloc ?_ (by first | (simp; done) | (simp; omega) | omega) _ | refine Below.setCell ?_ (by first | (simp; done) | (simp; omega) | omega) _ | refine Below.drew ?_ | refine Below.drewN ?_ _))
    go_upto_region 4 with fail
    have z2 : w1.heap.size + 1 ≤ (w1.alloc (.cells #[.slice a1 (emptyN K0).ends.length c1, .slice ai1 (emptyN K0).ids.length ci1, .slice ap1 (emptyN K0).inputs.length cp1] 25)).heap.size := by simp
    generalize w1.alloc (.cells #[.slice a1 (emptyN K0).ends.length c1, .slice ai1 (emptyN K0).ids.length ci1, .slice ap1 (emptyN K0).inputs.length cp1] 25) = w2 at *
    obtain ⟨b, hb⟩ : ∃ b, b = w1.heap.size := ⟨_, rfl⟩
    rw [← hb] at BO ⊢
    replace BR := BR.new b2
    replace own1 := (own1.new b2).wide (Nat.le_refl _) b2.size
    have bb := b1.trans (b2.mono b1.size)
    have zb : w.heap.size + 1 ≤ b := by omega
    have zlo : w.heap.size + 1 ≤ w2.heap.size := by omega
    clear hb b1 b2 z2
    obtain ⟨aq, c, vs, ai, ci, ap, cp, hvq, hE, owni, ownp, hdis⟩ := own1
    simp only [Value.agg.injEq, Array.mk.injEq, List.cons.injEq, Value.slice.injEq, true_and, and_true] at hvq
    obtain ⟨⟨rfl, rfl⟩, ⟨rfl, rfl⟩, rfl, rfl⟩ := hvq
    rw [HEL.out] at BO ⊢
    obtain ⟨A, hA, _, _⟩ := Ow.addr hE.1 (by rw [HEL.out]; omega)
    subst hA
    have hE0 : RowsE w2 (w.heap.size + 1) w2.heap.size (some ⟨A, 0, none⟩) c1 (wireT K0 4 (torE m n) (0 * n) 0) vs := by rw [Nat.zero_mul, wireT_zero]; exact hE
    clear hE
    go_wp2_with fail
    go_loopw [7] (fun iv wr => ∃ r : Nat, r ≤ m ∧ iv = .int .i64 r ∧ ∃ vs, Bx wr b 25 #[.slice (some ⟨A, 0, none⟩) K0 c1, .slice ai1 (emptyN K0).ids.length ci1, .slice ap1 (emptyN K0).inputs.length cp1] ∧ RowsE wr (w.heap.size + 1) wr.heap.size (some ⟨A, 0, none⟩) c1 (wireT K0 4 (torE m n) (r * n) 0) vs ∧ OwI wr (w.heap.size + 1) wr.heap.size ai1 ci1 (emptyN K0).ids ∧ OwI wr (w.heap.size + 1) wr.heap.size ap1 cp1 (emptyN K0).inputs ∧ Bx wr w.heap.size 25 #[.slice none 0 0, .slice none 0 0, .slice none 0 0] ∧ Below w.heap.size w wr ∧ w.heap.size + 1 ≤ wr.heap.size) (fun iv _ => m - (intOf iv).toNat)
    case atStart => exact ⟨0, Nat.zero_le _, rfl, vs, BO, hE0, owni, ownp, BR, bb, zlo⟩
    case round =>
      clear BO hE0 owni ownp BR bb zlo
      obtain ⟨r, hr, rfl, vs, hbx, hE, owni, ownp, BR, bb, zlo⟩ := hrel
      by_cases hlt : r < m
      · go_wp2_with fail
        go_loopw [8] (fun iv wr => ∃ s : Nat, s ≤ n ∧ iv = .int .i64 s ∧ ∃ vs, Bx wr b 25 #[.slice (some ⟨A, 0, none⟩) K0 c1, .slice ai1 (emptyN K0).ids.length ci1, .slice ap1 (emptyN K0).inputs.length cp1] ∧ RowsE wr (w.heap.size + 1) wr.heap.size (some ⟨A, 0, none⟩) c1 (wireT K0 4 (torE m n) (r * n + s) 0) vs ∧ OwI wr (w.heap.size + 1) wr.heap.size ai1 ci1 (emptyN K0).ids ∧ OwI wr (w.heap.size + 1) wr.heap.size ap1 cp1 (emptyN K0).inputs ∧ Bx wr w.heap.size 25 #[.slice none 0 0, .slice none 0 0, .slice none 0 0] ∧ Below w.heap.size w wr ∧ w.heap.size + 1 ≤ wr.heap.size) (fun iv _ => n - (intOf iv).toNat)
        case atStart => exact ⟨0, Nat.zero_le _, rfl, vs, hbx, hE, owni, ownp, BR, bb, zlo⟩
        case round =>
          clear hbx hE owni ownp BR bb zlo
          obtain ⟨s, hs, rfl, vs, hbx, hE, owni, ownp, BR, bb, zlo⟩ := hrel
          by_cases hsl : s < n
          · have HRC := Lib.hid (show ((r * n + s : Nat) : Int) = (r : Int) * (n : Int) + (s : Int) by rw [Int.natCast_add, Int.natCast_mul])
            have HRW := Lib.hid (show rowW (torE m n) (r * n + s) 4 = [torA m n r s 0, torA m n r s 1, torA m n r s 2, torA m n r s 3] by
              show [torE m n (r * n + s) 0, torE m n (r * n + s) 1, torE m n (r * n + s) 2, torE m n (r * n + s) 3] = _
              unfold torE
              rw [grid_div hsl, grid_mod hsl])
            have hvK : r * n + s < K0 := by
              have h1 : r * n + n ≤ m * n := by rw [← Nat.succ_mul]; exact Nat.mul_le_mul_right _ hlt
              have := HKK.out; omega
            have k1 := mul_row hlt (Nat.mod_lt (s + 1) hn1) HMN.out
            have k2 := mul_row hlt (Nat.mod_lt (s + n - 1) hn1) HMN.out
            have k3 := mul_row (Nat.mod_lt (r + 1) hm1) hsl HMN.out
            have k4 := mul_row (Nat.mod_lt (r + m - 1) hm1) hsl HMN.out
            have g1 : Int.tmod ((s : Int) + 1) (n : Int) = (((s + 1) % n : Nat) : Int) := by rw [Int.tmod_eq_emod_of_nonneg (by omega)]; exact emod_nat _ _ _ (by omega)
            have g2 : Int.tmod ((s : Int) + (n : Int) - 1) (n : Int) = (((s + n - 1) % n : Nat) : Int) := by rw [Int.tmod_eq_emod_of_nonneg (by omega)]; exact emod_nat _ _ _ (by omega)
            have g3 : Int.tmod ((r : Int) + 1) (m : Int) = (((r + 1) % m : Nat) : Int) := by rw [Int.tmod_eq_emod_of_nonneg (by omega)]; exact emod_nat _ _ _ (by omega)
            have g4 : Int.tmod ((r : Int) + (m : Int) - 1) (m : Int) = (((r + m - 1) % m : Nat) : Int) := by rw [Int.tmod_eq_emod_of_nonneg (by omega)]; exact emod_nat _ _ _ (by omega)
            have HA := Lib.hid (show [torA m n r s 0, torA m n r s 1, torA m n r s 2, torA m n r s 3] = [(((r * n + (s + 1) % n : Nat) : Int), 1), (((r * n + (s + n - 1) % n : Nat) : Int), 0), ((((r + 1) % m * n + s : Nat) : Int), 3), ((((r + m - 1) % m * n + s : Nat) : Int), 2)] from rfl)
            generalize (s + 1) % n = x0 at *
            generalize (s + n - 1) % n = x1 at *
            generalize (r + 1) % m = x2 at *
            generalize (r + m - 1) % m = x3 at *
            have HWS := Lib.hid (wireT_set K0 4 (torE m n) (r * n + s) hvK)
            have hv1 : r * n + s < (wireT K0 4 (torE m n) (r * n + s) 0).length := by rw [wireT_length]; exact hvK
            have c0 := Int.natCast_mul r n
            have c2 := Int.natCast_mul x2 n
            have c3 := Int.natCast_mul x3 n
            have hw1 : IntKind.i64.wrap ((r : Int) * (n : Int)) = (r : Int) * (n : Int) := wrapI _ (by rw [← c0]; omega)
            have hw2 : IntKind.i64.wrap ((s : Int) + 1) = (s : Int) + 1 := wrapI _ (by omega)
            have hw3 : IntKind.i64.wrap ((r : Int) * (n : Int) + (x0 : Int)) = (r : Int) * (n : Int) + (x0 : Int) := wrapI _ (by rw [← c0]; omega)
            have hw4 : IntKind.i64.wrap ((s : Int) + (n : Int)) = (s : Int) + (n : Int) := wrapI _ (by omega)
            have hw5 : IntKind.i64.wrap ((s : Int) + (n : Int) - 1) = (s : Int) + (n : Int) - 1 := wrapI _ (by omega)
            have hw6 : IntKind.i64.wrap ((r : Int) * (n : Int) + (x1 : Int)) = (r : Int) * (n : Int) + (x1 : Int) := wrapI _ (by rw [← c0]; omega)
            have hw7 : IntKind.i64.wrap ((r : Int) + 1) = (r : Int) + 1 := wrapI _ (by omega)
            have hw8 : IntKind.i64.wrap ((x2 : Int) * (n : Int)) = (x2 : Int) * (n : Int) := wrapI _ (by rw [← c2]; omega)
            have hw9 : IntKind.i64.wrap ((x2 : Int) * (n : Int) + (s : Int)) = (x2 : Int) * (n : Int) + (s : Int) := wrapI _ (by rw [← c2]; omega)
            have hwa : IntKind.i64.wrap ((r : Int) + (m : Int)) = (r : Int) + (m : Int) := wrapI _ (by omega)
            have hwb : IntKind.i64.wrap ((r : Int) + (m : Int) - 1) = (r : Int) + (m : Int) - 1 := wrapI _ (by omega)
            have hwc : IntKind.i64.wrap ((x3 : Int) * (n : Int)) = (x3 : Int) * (n : Int) := wrapI _ (by rw [← c3]; omega)
            have hwd : IntKind.i64.wrap ((x3 : Int) * (n : Int) + (s : Int)) = (x3 : Int) * (n : Int) + (s : Int) := wrapI _ (by rw [← c3]; omega)
            have HPA := Lib.hid (show (((r * n + x0 : Nat) : Int) = (r : Int) * (n : Int) + (x0 : Int) ∧ ((r * n + x1 : Nat) : Int) = (r : Int) * (n : Int) + (x1 : Int)) ∧ ((x2 * n + s : Nat) : Int) = (x2 : Int) * (n : Int) + (s : Int) ∧ ((x3 * n + s : Nat) : Int) = (x3 : Int) * (n : Int) + (s : Int) by refine ⟨⟨?_, ?_⟩, ?_, ?_⟩ <;> rw [Int.natCast_add, Int.natCast_mul])
            have hn0 : ¬ n = 0 := by omega
            have hm0 : ¬ m = 0 := by omega
            have j0 : (0 : Int) ≤ (r : Int) * (n : Int) := by rw [← c0]; omega
            have j1 : (r : Int) * (n : Int) ≤ 40 := by rw [← c0]; omega
            clear c0 c2 c3 k1 k2 k3 k4
            go_wp2_with fail
            refine wp_region_held_drew (S := fun _ => True) (by kernel_rfl) trivial (fun hHeld => ?_)
            refine wpAnyH_take (i := 0) (v := ?_) rfl (by kernel_rfl) (by kernel_rfl) (by kernel_rfl) (fun _ _ _ h => h) (Or.inl ⟨by rfl, ?_⟩) (by assumption) ?_
            rotate_left
            · (intro w hSw; (try dsimp only at hSw); go_simp; try with_reducible rfl)
            try simp only [Act.put, List.getElem_toArray, List.getElem_cons_zero, List.getElem_cons_succ, List.setIfInBounds_toArray, List.set_cons_zero, List.set_cons_succ]
            refine wpAnyH_take (i := 1) (v := ?_) rfl (by kernel_rfl) (by kernel_rfl) (by kernel_rfl) (fun _ _ _ h => h) (Or.inl ⟨by rfl, ?_⟩) (by assumption) ?_
            rotate_left
            · (intro w hSw; (try dsimp only at hSw); go_simp; try with_reducible rfl)
            try simp only [Act.put, List.getElem_toArray, List.getElem_cons_zero, List.getElem_cons_succ, List.setIfInBounds_toArray, List.set_cons_zero, List.set_cons_succ]
            refine wpAnyH_take (i := 2) (v := ?_) rfl (by kernel_rfl) (by kernel_rfl) (by kernel_rfl) (fun _ _ _ h => h) (Or.inl ⟨by rfl, ?_⟩) (by assumption) ?_
            rotate_left
            · (intro w hSw; (try dsimp only at hSw); go_simp; try with_reducible rfl)
            try simp only [Act.put, List.getElem_toArray, List.getElem_cons_zero, List.getElem_cons_succ, List.setIfInBounds_toArray, List.set_cons_zero, List.set_cons_succ]
            refine wpAnyH_take (i := 3) (v := ?_) rfl (by kernel_rfl) (by kernel_rfl) (by kernel_rfl) (fun _ _ _ h => h) (Or.inl ⟨by rfl, ?_⟩) (by assumption) ?_
            rotate_left
            · (intro w hSw; (try dsimp only at hSw); go_simp; try with_reducible rfl)
            try simp only [Act.put, List.getElem_toArray, List.getElem_cons_zero, List.getElem_cons_succ, List.setIfInBounds_toArray, List.set_cons_zero, List.set_cons_succ]
            refine wpAnyH_take (i := 4) (v := ?_) rfl (by kernel_rfl) (by kernel_rfl) (by kernel_rfl) (fun _ _ _ h => h) (Or.inl ⟨by rfl, ?_⟩) (by assumption) ?_
            rotate_left
            · (intro w hSw; (try dsimp only at hSw); go_simp; try with_reducible rfl)
            try simp only [Act.put, List.getElem_toArray, List.getElem_cons_zero, List.getElem_cons_succ, List.setIfInBounds_toArray, List.set_cons_zero, List.set_cons_succ]
            refine wpAnyH_take (i := 5) (v := ?_) rfl (by kernel_rfl) (by kernel_rfl) (by kernel_rfl) (fun _ _ _ h => h) (Or.inl ⟨by rfl, ?_⟩) (by assumption) ?_
            rotate_left
            · (intro w hSw; (try dsimp only at hSw); go_simp; try with_reducible rfl)
            try simp only [Act.put, List.getElem_toArray, List.getElem_cons_zero, List.getElem_cons_succ, List.setIfInBounds_toArray, List.set_cons_zero, List.set_cons_succ]
            refine wpAnyH_take (i := 6) (v := ?_) rfl (by kernel_rfl) (by kernel_rfl) (by kernel_rfl) (fun _ _ _ h => h) (Or.inl ⟨by rfl, ?_⟩) (by assumption) ?_
            rotate_left
            · (intro w hSw; (try dsimp only at hSw); go_simp; try with_reducible rfl)
            try simp only [Act.put, List.getElem_toArray, List.getElem_cons_zero, List.getElem_cons_succ, List.setIfInBounds_toArray, List.set_cons_zero, List.set_cons_succ]
            refine wpAnyH_take (i := 7) (v := ?_) rfl (by kernel_rfl) (by kernel_rfl) (by kernel_rfl) (fun _ _ _ h => h) (Or.inl ⟨by rfl, ?_⟩) (by assumption) ?_
            rotate_left
            · (intro w hSw; (try dsimp only at hSw); go_simp; try with_reducible rfl)
            try simp only [Act.put, List.getElem_toArray, List.getElem_cons_zero, List.getElem_cons_succ, List.setIfInBounds_toArray, List.set_cons_zero, List.set_cons_succ]
            refine wpAnyH_take (i := 8) (v := ?_) rfl (by kernel_rfl) (by kernel_rfl) (by kernel_rfl) (fun _ _ _ h => h) (Or.inl ⟨by rfl, ?_⟩) (by assumption) ?_
            rotate_left
            · (intro w hSw; (try dsimp only at hSw); go_simp; try with_reducible rfl)
            try simp only [Act.put, List.getElem_toArray, List.getElem_cons_zero, List.getElem_cons_succ, List.setIfInBounds_toArray, List.set_cons_zero, List.set_cons_succ]
            refine wpAnyH_take (i := 9) (v := ?_) rfl (by kernel_rfl) (by kernel_rfl) (by kernel_rfl) (fun _ _ _ h => h) (Or.inl ⟨by rfl, ?_⟩) (by assumption) ?_
            rotate_left
            · (intro w hSw; (try dsimp only at hSw); go_simp; try with_reducible rfl)
            try simp only [Act.put, List.getElem_toArray, List.getElem_cons_zero, List.getElem_cons_succ, List.setIfInBounds_toArray, List.set_cons_zero, List.set_cons_succ]
            refine wpAnyH_take (i := 10) (v := ?_) rfl (by kernel_rfl) (by kernel_rfl) (by kernel_rfl) (fun _ _ _ h => h) (Or.inl ⟨by rfl, ?_⟩) (by assumption) ?_
            rotate_left
            · (intro w hSw; (try dsimp only at hSw); go_simp; try with_reducible rfl)
            try simp only [Act.put, List.getElem_toArray, List.getElem_cons_zero, List.getElem_cons_succ, List.setIfInBounds_toArray, List.set_cons_zero, List.set_cons_succ]
            refine wpAnyH_take (i := 11) (v := ?_) rfl (by kernel_rfl) (by kernel_rfl) (by kernel_rfl) (fun _ _ _ h => h) (Or.inl ⟨by rfl, ?_⟩) (by assumption) ?_
            rotate_left
            · (intro w hSw; (try dsimp only at hSw); go_simp; try with_reducible rfl)
            try simp only [Act.put, List.getElem_toArray, List.getElem_cons_zero, List.getElem_cons_succ, List.setIfInBounds_toArray, List.set_cons_zero, List.set_cons_succ]
            refine wpAnyH_take (i := 12) (v := ?_) rfl (by kernel_rfl) (by kernel_rfl) (by kernel_rfl) (fun _ _ _ h => h) (Or.inl ⟨by rfl, ?_⟩) (by assumption) ?_
            rotate_left
            · (intro w hSw; (try dsimp only at hSw); go_simp; try with_reducible rfl)
            try simp only [Act.put, List.getElem_toArray, List.getElem_cons_zero, List.getElem_cons_succ, List.setIfInBounds_toArray, List.set_cons_zero, List.set_cons_succ]
            refine wpAnyH_take (i := 13) (v := ?_) rfl (by kernel_rfl) (by kernel_rfl) (by kernel_rfl) (fun _ _ _ h => h) (Or.inl ⟨by rfl, ?_⟩) (by assumption) ?_
            rotate_left
            · (intro w hSw; (try dsimp only at hSw); go_simp; try with_reducible rfl)
            try simp only [Act.put, List.getElem_toArray, List.getElem_cons_zero, List.getElem_cons_succ, List.setIfInBounds_toArray, List.set_cons_zero, List.set_cons_succ]
            refine wpAnyH_take (i := 14) (v := ?_) rfl (by kernel_rfl) (by kernel_rfl) (by kernel_rfl) (fun _ _ _ h => h) (Or.inl ⟨by rfl, ?_⟩) (by assumption) ?_
            rotate_left
            · (intro w hSw; (try dsimp only at hSw); go_simp; try with_reducible rfl)
            try simp only [Act.put, List.getElem_toArray, List.getElem_cons_zero, List.getElem_cons_succ, List.setIfInBounds_toArray, List.set_cons_zero, List.set_cons_succ]
            refine wpAnyH_take (i := 15) (v := ?_) rfl (by kernel_rfl) (by kernel_rfl) (by kernel_rfl) (fun _ _ _ h => h) (Or.inl ⟨by rfl, ?_⟩) (by assumption) ?_
            rotate_left
            · (intro w hSw; (try dsimp only at hSw); go_simp; try with_reducible rfl)
            try simp only [Act.put, List.getElem_toArray, List.getElem_cons_zero, List.getElem_cons_succ, List.setIfInBounds_toArray, List.set_cons_zero, List.set_cons_succ]
            refine wpAnyH_take (i := 16) (v := ?_) rfl (by kernel_rfl) (by kernel_rfl) (by kernel_rfl) (fun _ _ _ h => h) (Or.inl ⟨by rfl, ?_⟩) (by assumption) ?_
            rotate_left
            · (intro w hSw; (try dsimp only at hSw); go_simp; try with_reducible rfl)
            try simp only [Act.put, List.getElem_toArray, List.getElem_cons_zero, List.getElem_cons_succ, List.setIfInBounds_toArray, List.set_cons_zero, List.set_cons_succ]
            refine wpAnyH_take (i := 17) (v := ?_) rfl (by kernel_rfl) (by kernel_rfl) (by kernel_rfl) (fun _ _ _ h => h) (Or.inl ⟨by rfl, ?_⟩) (by assumption) ?_
            rotate_left
            · (intro w hSw; (try dsimp only at hSw); go_simp; try with_reducible rfl)
            try simp only [Act.put, List.getElem_toArray, List.getElem_cons_zero, List.getElem_cons_succ, List.setIfInBounds_toArray, List.set_cons_zero, List.set_cons_succ]
            refine wpAnyH_take (i := 18) (v := ?_) rfl (by kernel_rfl) (by kernel_rfl) (by kernel_rfl) (fun _ _ _ h => h) (Or.inl ⟨by rfl, ?_⟩) (by assumption) ?_
            rotate_left
            · (intro w hSw; (try dsimp only at hSw); go_simp; try with_reducible rfl)
            try simp only [Act.put, List.getElem_toArray, List.getElem_cons_zero, List.getElem_cons_succ, List.setIfInBounds_toArray, List.set_cons_zero, List.set_cons_succ]
            refine wpAnyH_take (i := 19) (v := ?_) rfl (by kernel_rfl) (by kernel_rfl) (by kernel_rfl) (fun _ _ _ h => h) (Or.inl ⟨by rfl, ?_⟩) (by assumption) ?_
            rotate_left
            · (intro w hSw; (try dsimp only at hSw); go_simp; try with_reducible rfl)
            try simp only [Act.put, List.getElem_toArray, List.getElem_cons_zero, List.getElem_cons_succ, List.setIfInBounds_toArray, List.set_cons_zero, List.set_cons_succ]
            refine wpAnyH_done (by kernel_rfl) ?_ _
            go_wp2_with fail
            refine wp_region_held_drew (S := fun _ => True) (by kernel_rfl) trivial (fun hHeld => ?_)
            refine wpAnyH_take (i := 0) (v := ?_) rfl (by kernel_rfl) (by kernel_rfl) (by kernel_rfl) (fun _ _ _ h => h) (Or.inl ⟨by rfl, ?_⟩) (by assumption) ?_
            rotate_left
            · (intro w hSw; (try dsimp only at hSw); go_simp; try with_reducible rfl)
            try simp only [Act.put, List.getElem_toArray, List.getElem_cons_zero, List.getElem_cons_succ, List.setIfInBounds_toArray, List.set_cons_zero, List.set_cons_succ]
            refine wpAnyH_take (i := 1) (v := ?_) rfl (by kernel_rfl) (by kernel_rfl) (by kernel_rfl) (fun _ _ _ h => h) (Or.inl ⟨by rfl, ?_⟩) (by assumption) ?_
            rotate_left
            · (intro w hSw; (try dsimp only at hSw); go_simp; try with_reducible rfl)
            try simp only [Act.put, List.getElem_toArray, List.getElem_cons_zero, List.getElem_cons_succ, List.setIfInBounds_toArray, List.set_cons_zero, List.set_cons_succ]
            refine wpAnyH_take (i := 2) (v := ?_) rfl (by kernel_rfl) (by kernel_rfl) (by kernel_rfl) (fun _ _ _ h => h) (Or.inl ⟨by rfl, ?_⟩) (by assumption) ?_
            rotate_left
            · (intro w hSw; (try dsimp only at hSw); go_simp; try with_reducible rfl)
            try simp only [Act.put, List.getElem_toArray, List.getElem_cons_zero, List.getElem_cons_succ, List.setIfInBounds_toArray, List.set_cons_zero, List.set_cons_succ]
            refine wpAnyH_take (i := 3) (v := ?_) rfl (by kernel_rfl) (by kernel_rfl) (by kernel_rfl) (fun _ _ _ h => h) (Or.inl ⟨by rfl, ?_⟩) (by assumption) ?_
            rotate_left
            · (intro w hSw; (try dsimp only at hSw); go_simp; try with_reducible rfl)
            try simp only [Act.put, List.getElem_toArray, List.getElem_cons_zero, List.getElem_cons_succ, List.setIfInBounds_toArray, List.set_cons_zero, List.set_cons_succ]
            refine wpAnyH_take (i := 4) (v := ?_) rfl (by kernel_rfl) (by kernel_rfl) (by kernel_rfl) (fun _ _ _ h => h) (Or.inl ⟨by rfl, ?_⟩) (by assumption) ?_
            rotate_left
            · (intro w hSw; (try dsimp only at hSw); go_simp; try with_reducible rfl)
            try simp only [Act.put, List.getElem_toArray, List.getElem_cons_zero, List.getElem_cons_succ, List.setIfInBounds_toArray, List.set_cons_zero, List.set_cons_succ]
            refine wpAnyH_take (i := 5) (v := ?_) rfl (by kernel_rfl) (by kernel_rfl) (by kernel_rfl) (fun _ _ _ h => h) (Or.inl ⟨by rfl, ?_⟩) (by assumption) ?_
            rotate_left
            · (intro w hSw; (try dsimp only at hSw); go_simp; try with_reducible rfl)
            try simp only [Act.put, List.getElem_toArray, List.getElem_cons_zero, List.getElem_cons_succ, List.setIfInBounds_toArray, List.set_cons_zero, List.set_cons_succ]
            refine wpAnyH_take (i := 6) (v := ?_) rfl (by kernel_rfl) (by kernel_rfl) (by kernel_rfl) (fun _ _ _ h => h) (Or.inl ⟨by rfl, ?_⟩) (by assumption) ?_
            rotate_left
            · (intro w hSw; (try dsimp only at hSw); go_simp; try with_reducible rfl)
            try simp only [Act.put, List.getElem_toArray, List.getElem_cons_zero, List.getElem_cons_succ, List.setIfInBounds_toArray, List.set_cons_zero, List.set_cons_succ]
            refine wpAnyH_take (i := 7) (v := ?_) rfl (by kernel_rfl) (by kernel_rfl) (by kernel_rfl) (fun _ _ _ h => h) (Or.inl ⟨by rfl, ?_⟩) (by assumption) ?_
            rotate_left
            · (intro w hSw; (try dsimp only at hSw); go_simp; try with_reducible rfl)
            try simp only [Act.put, List.getElem_toArray, List.getElem_cons_zero, List.getElem_cons_succ, List.setIfInBounds_toArray, List.set_cons_zero, List.set_cons_succ]
            refine wpAnyH_take (i := 8) (v := ?_) rfl (by kernel_rfl) (by kernel_rfl) (by kernel_rfl) (fun _ _ _ h => h) (Or.inl ⟨by rfl, ?_⟩) (by assumption) ?_
            rotate_left
            · (intro w hSw; (try dsimp only at hSw); go_simp; try with_reducible rfl)
            try simp only [Act.put, List.getElem_toArray, List.getElem_cons_zero, List.getElem_cons_succ, List.setIfInBounds_toArray, List.set_cons_zero, List.set_cons_succ]
            refine wpAnyH_take (i := 9) (v := ?_) rfl (by kernel_rfl) (by kernel_rfl) (by kernel_rfl) (fun _ _ _ h => h) (Or.inl ⟨by rfl, ?_⟩) (by assumption) ?_
            rotate_left
            · (intro w hSw; (try dsimp only at hSw); go_simp; try with_reducible rfl)
            try simp only [Act.put, List.getElem_toArray, List.getElem_cons_zero, List.getElem_cons_succ, List.setIfInBounds_toArray, List.set_cons_zero, List.set_cons_succ]
            refine wpAnyH_take (i := 10) (v := ?_) rfl (by kernel_rfl) (by kernel_rfl) (by kernel_rfl) (fun _ _ _ h => h) (Or.inl ⟨by rfl, ?_⟩) (by assumption) ?_
            rotate_left
            · (intro w hSw; (try dsimp only at hSw); go_simp; try with_reducible rfl)
            try simp only [Act.put, List.getElem_toArray, List.getElem_cons_zero, List.getElem_cons_succ, List.setIfInBounds_toArray, List.set_cons_zero, List.set_cons_succ]
            refine wpAnyH_take (i := 11) (v := ?_) rfl (by kernel_rfl) (by kernel_rfl) (by kernel_rfl) (fun _ _ _ h => h) (Or.inl ⟨by rfl, ?_⟩) (by assumption) ?_
            rotate_left
            · (intro w hSw; (try dsimp only at hSw); go_simp; try with_reducible rfl)
            try simp only [Act.put, List.getElem_toArray, List.getElem_cons_zero, List.getElem_cons_succ, List.setIfInBounds_toArray, List.set_cons_zero, List.set_cons_succ]
            refine wpAnyH_take (i := 12) (v := ?_) rfl (by kernel_rfl) (by kernel_rfl) (by kernel_rfl) (fun _ _ _ h => h) (Or.inl ⟨by rfl, ?_⟩) (by assumption) ?_
            rotate_left
            · (intro w hSw; (try dsimp only at hSw); go_simp; try with_reducible rfl)
            try simp only [Act.put, List.getElem_toArray, List.getElem_cons_zero, List.getElem_cons_succ, List.setIfInBounds_toArray, List.set_cons_zero, List.set_cons_succ]
            refine wpAnyH_take (i := 13) (v := ?_) rfl (by kernel_rfl) (by kernel_rfl) (by kernel_rfl) (fun _ _ _ h => h) (Or.inl ⟨by rfl, ?_⟩) (by assumption) ?_
            rotate_left
            · (intro w hSw; (try dsimp only at hSw); go_simp; try with_reducible rfl)
            try simp only [Act.put, List.getElem_toArray, List.getElem_cons_zero, List.getElem_cons_succ, List.setIfInBounds_toArray, List.set_cons_zero, List.set_cons_succ]
            refine wpAnyH_take (i := 14) (v := ?_) rfl (by kernel_rfl) (by kernel_rfl) (by kernel_rfl) (fun _ _ _ h => h) (Or.inl ⟨by rfl, ?_⟩) (by assumption) ?_
            rotate_left
            · (intro w hSw; (try dsimp only at hSw); go_simp; try with_reducible rfl)
            try simp only [Act.put, List.getElem_toArray, List.getElem_cons_zero, List.getElem_cons_succ, List.setIfInBounds_toArray, List.set_cons_zero, List.set_cons_succ]
            refine wpAnyH_take (i := 15) (v := ?_) rfl (by kernel_rfl) (by kernel_rfl) (by kernel_rfl) (fun _ _ _ h => h) (Or.inl ⟨by rfl, ?_⟩) (by assumption) ?_
            rotate_left
            · (intro w hSw; (try dsimp only at hSw); go_simp; try with_reducible rfl)
            try simp only [Act.put, List.getElem_toArray, List.getElem_cons_zero, List.getElem_cons_succ, List.setIfInBounds_toArray, List.set_cons_zero, List.set_cons_succ]
            refine wpAnyH_take (i := 16) (v := ?_) rfl (by kernel_rfl) (by kernel_rfl) (by kernel_rfl) (fun _ _ _ h => h) (Or.inl ⟨by rfl, ?_⟩) (by assumption) ?_
            rotate_left
            · (intro w hSw; (try dsimp only at hSw); go_simp; try with_reducible rfl)
            try simp only [Act.put, List.getElem_toArray, List.getElem_cons_zero, List.getElem_cons_succ, List.setIfInBounds_toArray, List.set_cons_zero, List.set_cons_succ]
            refine wpAnyH_take (i := 17) (v := ?_) rfl (by kernel_rfl) (by kernel_rfl) (by kernel_rfl) (fun _ _ _ h => h) (Or.inl ⟨by rfl, ?_⟩) (by assumption) ?_
            rotate_left
            · (intro w hSw; (try dsimp only at hSw); go_simp; try with_reducible rfl)
            try simp only [Act.put, List.getElem_toArray, List.getElem_cons_zero, List.getElem_cons_succ, List.setIfInBounds_toArray, List.set_cons_zero, List.set_cons_succ]
            refine wpAnyH_take (i := 18) (v := ?_) rfl (by kernel_rfl) (by kernel_rfl) (by kernel_rfl) (fun _ _ _ h => h) (Or.inl ⟨by rfl, ?_⟩) (by assumption) ?_
            rotate_left
            · (intro w hSw; (try dsimp only at hSw); go_simp; try with_reducible rfl)
            try simp only [Act.put, List.getElem_toArray, List.getElem_cons_zero, List.getElem_cons_succ, List.setIfInBounds_toArray, List.set_cons_zero, List.set_cons_succ]
            refine wpAnyH_take (i := 19) (v := ?_) rfl (by kernel_rfl) (by kernel_rfl) (by kernel_rfl) (fun _ _ _ h => h) (Or.inl ⟨by rfl, ?_⟩) (by assumption) ?_
            rotate_left
            · (intro w hSw; (try dsimp only at hSw); go_simp; try with_reducible rfl)
            try simp only [Act.put, List.getElem_toArray, List.getElem_cons_zero, List.getElem_cons_succ, List.setIfInBounds_toArray, List.set_cons_zero, List.set_cons_succ]
            refine wpAnyH_done (by kernel_rfl) ?_ _
            obtain ⟨v, hv⟩ : ∃ v, v = r * n + s := ⟨_, rfl⟩
            have HVV := Lib.hid hv
            rw [← hv] at hE hv1 hvK
            have hvv : (r : Int) * (n : Int) + (s : Int) = (v : Int) := by rw [hv]; exact HRC.out.symm
            clear hv
            obtain ⟨p0, hp0⟩ : ∃ p0, p0 = (r : Int) * (n : Int) + (x0 : Int) := ⟨_, rfl⟩
            obtain ⟨p1, hp1⟩ : ∃ p1, p1 = (r : Int) * (n : Int) + (x1 : Int) := ⟨_, rfl⟩
            obtain ⟨p2, hp2⟩ : ∃ p2, p2 = (x2 : Int) * (n : Int) + (s : Int) := ⟨_, rfl⟩
            obtain ⟨p3, hp3⟩ : ∃ p3, p3 = (x3 : Int) * (n : Int) + (s : Int) := ⟨_, rfl⟩
            have HROW := Lib.hid (show rowW (torE m n) v 4 = [(p0, 1), (p1, 0), (p2, 3), (p3, 2)] by rw [HVV.out, HRW.out, HA.out, HPA.out.1.1, HPA.out.1.2, HPA.out.2.1, HPA.out.2.2, ← hp0, ← hp1, ← hp2, ← hp3])
            have HWS2 := Lib.hid (show (wireT K0 4 (torE m n) v 0).set v (rowW (torE m n) v 4) = wireT K0 4 (torE m n) (r * n + (s + 1)) 0 by rw [HVV.out]; exact HWS.out)
            rw [← hp0, ← hp1, ← hp2, ← hp3]
            clear hp0 hp1 hp2 hp3 hw1 hw2 hw3 hw4 hw5 hw6 hw7 hw8 hw9 hwa hwb hwc hwd g1 g2 g3 g4 HPA HA HRW HWS
            replace hbx : Bx wr.drew.drew b 25 #[.slice (some ⟨A, 0, none⟩) K0 c1, .slice ai1 (emptyN K0).ids.length ci1, .slice ap1 (emptyN K0).inputs.length cp1] := hbx
            replace hE : RowsE wr.drew.drew (w.heap.size + 1) wr.drew.drew.heap.size (some ⟨A, 0, none⟩) c1 (wireT K0 4 (torE m n) v 0) vs := hE
            replace owni : OwI wr.drew.drew (w.heap.size + 1) wr.drew.drew.heap.size ai1 ci1 (emptyN K0).ids := owni
            replace ownp : OwI wr.drew.drew (w.heap.size + 1) wr.drew.drew.heap.size ap1 cp1 (emptyN K0).inputs := ownp
            replace BR : Bx wr.drew.drew w.heap.size 25 #[.slice none 0 0, .slice none 0 0, .slice none 0 0] := BR
            replace bb := bb.drew.drew
            replace zlo : w.heap.size + 1 ≤ wr.drew.drew.heap.size := zlo
            generalize wr.drew.drew = wq at *
            have hw1 : Below wq.heap.size wq (wq.alloc (.cells #[.int .i64 p0, .int .i64 1, .int .i64 p1, .int .i64 0, .int .i64 p2, .int .i64 3, .int .i64 p3, .int .i64 2] 57)) := (by repeat (first | exact Below.refl _ _ | assumption | refine Below.alloc ?_ (by first | (simp; done) | (simp; omega) | omega) _ | refine Below.setCell ?_ (by first | (simp; done) | (simp; omega) | omega) _ | refine Below.drew ?_ | refine Below.drewN ?_ _))
            have hbn := Bx.made wq 57 #[.int .i64 p0, .int .i64 1, .int .i64 p1, .int .i64 0, .int .i64 p2, .int .i64 3, .int .i64 p3, .int .i64 2]
            have zn : wq.heap.size + 1 ≤ (wq.alloc (.cells #[.int .i64 p0, .int .i64 1, .int .i64 p1, .int .i64 0, .int .i64 p2, .int .i64 3, .int .i64 p3, .int .i64 2] 57)).heap.size := by simp
            have how := Ow.endsOf (lo := w.heap.size + 1) (hi := (wq.alloc (.cells #[.int .i64 p0, .int .i64 1, .int .i64 p1, .int .i64 0, .int .i64 p2, .int .i64 3, .int .i64 p3, .int .i64 2] 57)).heap.size) (es := [(p0, 1), (p1, 0), (p2, 3), (p3, 2)]) (n := 4) hbn zlo zn rfl rfl (by decide) (fun i hi => match i, hi with | 0, _ => rfl | 1, _ => rfl | 2, _ => rfl | 3, _ => rfl | 4, _ => rfl | 5, _ => rfl | 6, _ => rfl | 7, _ => rfl)
            obtain ⟨hbx2, hc2, hf2, vt, hE', hbx', hfr'⟩ := setR_mem (r := [(p0, 1), (p1, 0), (p2, 3), (p3, 2)]) hbx hE hv1 hw1 (by omega) rfl how
            have q0 := hbx.cell 0 _ rfl
            have hvK2 : (v : Int) < (K0 : Int) := by omega
            go_wp2_with fail
            have hrbA : ∀ x, blk ai1 ci1 = some x → ¬ x = A := fun x hx hc => rb_ne hE (by omega) owni hx (.inl hc)
            have hrbB : ∀ x, blk ap1 cp1 = some x → ¬ x = A := fun x hx hc => rb_ne hE (by omega) ownp hx (.inl hc)
            have hAin := rb_in hE (by omega) (k := A) (.inl rfl)
            replace owni := Ow.top (Ow.frB owni hfr' hrbA)
            replace ownp := Ow.top (Ow.frB ownp hfr' hrbB)
            replace BR := BR.fr hfr' (by omega)
            replace bb := bb.trans (hfr'.below (B := w.heap.size) (fun x h1 h2 hc => by omega) bb.size)
            have z6' := hfr'.size
            replace hE' := RowsAt.top hE'
            clear hE hbx hfr' hbx2 hc2 hf2 how hbn hw1 q0
            generalize (wq.alloc (.cells #[.int .i64 p0, .int .i64 1, .int .i64 p1, .int .i64 0, .int .i64 p2, .int .i64 3, .int .i64 p3, .int .i64 2] 57)).setCell ⟨A, v, none⟩ (.slice (some ⟨wq.heap.size, 0, none⟩) [(p0, 1), (p1, 0), (p2, 3), (p3, 2)].length 4) = w8 at *
            rw [← HROW.out, HWS2.out] at hE'
            go_roundw
            case rel => exact ⟨s + 1, by omega, by go_num, vt, hbx', hE', owni, ownp, BR, bb, by omega⟩
            case measure => simp [intOf]; omega
          · have HSN := Lib.hid (show r * n + s = (r + 1) * n by rw [Nat.succ_mul, show s = n by omega])
            rw [HSN.out] at hE
            go_wp2_with fail
            go_roundw
            case rel => exact ⟨r + 1, by omega, by go_num, vs, hbx, hE, owni, ownp, BR, bb, zlo⟩
            case measure => simp [intOf]; omega
      · have HRM := Lib.hid (show r * n = K0 by rw [HKK.out, show r = m by omega])
        rw [HRM.out, wireT_all] at hE
        have q0 := hbx.cell 0 _ rfl
        have q1 := hbx.cell 1 _ rfl
        have q2 := hbx.cell 2 _ rfl
        have e0 := BR.cell 0 _ rfl
        have e1 := BR.cell 1 _ rfl
        have e2 := BR.cell 2 _ rfl
        have f0 := BR.frozen 0
        have f1 := BR.frozen 1
        have f2 := BR.frozen 2
        go_wp2_with fail
        clear q0 q1 q2 e0 e1 e2 f0 f1 f2
        generalize hW : World.setCell _ _ _ = W
        have B6 : Bx W (w.heap.size) 25 #[.slice (some ⟨A, 0, none⟩) K0 c1, .slice ai1 (emptyN K0).ids.length ci1, .slice ap1 (emptyN K0).inputs.length cp1] := by rw [← hW]; exact ((BR.set 0 _).set 1 _).set 2 _
        have fr6 : Fr (fun k => k = w.heap.size) wr W := by rw [← hW]; exact fr3 _ _ _ _ _
        clear hW
        have z6 := fr6.size
        have d0 := B6.cell 0 _ rfl
        have d1 := B6.cell 1 _ rfl
        have d2 := B6.cell 2 _ rfl
        refine bodyPost_ret (v := .tuple #[.agg #[.slice (some ⟨A, 0, none⟩) K0 c1, .slice ai1 (emptyN K0).ids.length ci1, .slice ap1 (emptyN K0).inputs.length cp1], .bool true]) (by simp [results, Try.results20, go_sem, d0, d1, d2]) rfl ?_
        rw [HG.out, ← HKK.out]
        refine ⟨_, rfl, ⟨some ⟨A, 0, none⟩, c1, vs, ai1, ci1, ap1, cp1, ?_, RowsAt.wide (RowsAt.fr hE fr6 (fun k h1 h2 hc => by omega)) (by omega) (by omega), Ow.wide (Ow.fr owni fr6 (fun k h1 h2 hc => by omega)) (by omega) (by omega), Ow.wide (Ow.fr ownp fr6 (fun k h1 h2 hc => by omega)) (by omega) (by omega), hdis⟩, bb.trans (fr6.below (fun k h1 h2 hc => by omega) bb.size)⟩
        have hl : (wireN K0 4 (torE m n)).ends.length = K0 := by show ((List.range K0).map _).length = K0; simp
        rw [hl]
        rfl
set_option maxRecDepth 100000 in
set_option maxHeartbeats 1000000 in
theorem FnExactTorusNetwork_walk (x y : Int) (w : World) (hx0 : -9223372036854775808 ≤ x) (hx1 : x ≤ 9223372036854775807) (hy0 : -9223372036854775808 ≤ y) (hy1 : y ≤ 9223372036854775807) :
    Calls Try.prog 4 #[.int .i64 x, .int .i64 y] w fun e w' => e = .returned (.bool true) ∧ Below w.heap.size w w' := by
  have HS : Hid (∀ w, Calls Try.prog 20 #[.int .i64 x, .int .i64 y] w (PostN (trR x y) (sidesB x y) w)) := (fun w => specTor_any x y w ⟨hx0, hx1⟩ ⟨hy0, hy1⟩)
  have HI : Hid (∀ w, Calls Try.prog 21 #[.int .i64 x, .int .i64 y] w (PostN (trR x y) (sidesB x y) w)) := (fun w => implTor_any x y w ⟨hx0, hx1⟩ ⟨hy0, hy1⟩)
  have hR : NetSmall (trR x y) := trR_sm
  generalize trR x y = R at *
  generalize sidesB x y = ok at *
  go_enter Try.func4, Try.ntmps4
  go_wp2_with fail
  refine (HS.out _).mono ?_
  rintro e w1 ⟨vw, rfl, ownw, bel1⟩
  obtain ⟨aw, cw, aiw, ciw, apw, cpw, rfl, ownw⟩ := ownw.shape
  have z1 := bel1.size
  have BW := Bx.made w1 25 #[.slice aw R.ends.length cw, .slice aiw R.ids.length ciw, .slice apw R.inputs.length cpw]
  have bx1 : Below w1.heap.size w1 (w1.alloc (.cells #[.slice aw R.ends.length cw, .slice aiw R.ids.length ciw, .slice apw R.inputs.length cpw] 25)) := (by repeat (first | exact Below.refl _ _ | assumption | refine Below.alloc ?_ (by first | (simp; done) | (simp; omega) | omega) _ | refine Below.setCell ?_ (by first | (simp; done) | (simp; omega) | omega) _ | refine Below.drew ?_ | refine Below.drewN ?_ _))
  go_wp2_with fail
  refine (HI.out _).mono ?_
  rintro e w2 ⟨vg, rfl, owng, bel2⟩
  obtain ⟨ag, cg, aig, cig, apg, cpg, rfl, owng⟩ := owng.shape
  simp only [World.size_alloc] at owng
  have z2 : w1.heap.size + 1 ≤ w2.heap.size := by have := bel2.size; simpa using this
  replace ownw := (ownw.new bx1).new bel2
  replace BW := BW.new bel2
  have b2 := bel1.trans ((bx1.mono z1).trans (bel2.mono (by have := bx1.size; omega)))
  clear bel1 bx1 bel2
  have BG := Bx.made w2 25 #[.slice ag R.ends.length cg, .slice aig R.ids.length cig, .slice apg R.inputs.length cpg]
  have bx2 : Below w2.heap.size w2 (w2.alloc (.cells #[.slice ag R.ends.length cg, .slice aig R.ids.length cig, .slice apg R.inputs.length cpg] 25)) := (by repeat (first | exact Below.refl _ _ | assumption | refine Below.alloc ?_ (by first | (simp; done) | (simp; omega) | omega) _ | refine Below.setCell ?_ (by first | (simp; done) | (simp; omega) | omega) _ | refine Below.drew ?_ | refine Below.drewN ?_ _))
  replace BW := BW.new bx2
  have cW0 := BW.cell 0 _ rfl
  have cW1 := BW.cell 1 _ rfl
  have cW2 := BW.cell 2 _ rfl
  go_wp2_with fail
  clear cW0 cW1 cW2
  have zx2 : w2.heap.size + 1 ≤ (w2.alloc (.cells #[.slice ag R.ends.length cg, .slice aig R.ids.length cig, .slice apg R.inputs.length cpg] 25)).heap.size := by simp
  replace ownw := ownw.new bx2
  replace owng := owng.new bx2
  have b3 := b2.trans (bx2.mono b2.size)
  have HBB : Hid ((ok != ok) = false) := by show _ = _; simp
  generalize w2.alloc (.cells #[.slice ag R.ends.length cg, .slice aig R.ids.length cig, .slice apg R.inputs.length cpg] 25) = x2 at *
  clear bx2 b2
  refine (eqNetwork_any _ _ R _ _ _ _ _ owng ownw (by omega) (by omega) hR).mono ?_
  rintro e w3 ⟨rfl, bel3⟩
  replace ownw := ownw.new bel3
  replace owng := owng.new bel3
  replace BW := BW.new bel3
  replace BG := BG.new bel3
  have z3 := bel3.size
  have b4 := b3.trans (bel3.mono b3.size)
  clear b3 bel3
  have cG0 := BG.cell 0 _ rfl
  have cG1 := BG.cell 1 _ rfl
  have cG2 := BG.cell 2 _ rfl
  have hbb := HBB.out
  go_wp2_with fail
  clear cG0 cG1 cG2
  refine (markNetwork_any _ R 1 _ _ _ owng (by omega) hR (by omega)).mono ?_
  rintro e w4 ⟨rfl, owngm, fr4⟩
  replace ownw := ownw.fr fr4 (fun k h1 h2 hc => by omega)
  replace BW := BW.fr fr4 (by omega)
  replace BG := BG.fr fr4 (by omega)
  have z4 := fr4.size
  have b5 := b4.trans (fr4.below (B := w.heap.size) (fun k h1 h2 hc => by omega) (by omega))
  clear b4 fr4 owng
  have cG0 := BG.cell 0 _ rfl
  have cG1 := BG.cell 1 _ rfl
  have cG2 := BG.cell 2 _ rfl
  go_wp2_with fail
  clear cG0 cG1 cG2
  refine (heldNetwork_any _ R 1 _ _ _ owngm (by omega) hR (by omega)).mono ?_
  rintro e w5 ⟨rfl, bel5⟩
  replace ownw := ownw.new bel5
  replace owngm := owngm.new bel5
  replace BW := BW.new bel5
  replace BG := BG.new bel5
  have z5 := bel5.size
  have b6 := b5.trans (bel5.mono b5.size)
  clear b5 bel5
  have hlt : ¬ (((1 + netTot R : Nat) : Int) < 0) := by omega
  go_wp2_with fail
  refine (HI.out _).mono ?_
  rintro e w6 ⟨vh, rfl, ownh, bel6⟩
  obtain ⟨ah, chh, aih, cih, aph, cph, rfl, ownh⟩ := ownh.shape
  replace ownw := ownw.new bel6
  replace owngm := owngm.new bel6
  replace BW := BW.new bel6
  replace BG := BG.new bel6
  have z6 := bel6.size
  have b7 := b6.trans (bel6.mono b6.size)
  clear b6 bel6
  have bx6 : Below w6.heap.size w6 (w6.alloc (.cells #[.slice ah R.ends.length chh, .slice aih R.ids.length cih, .slice aph R.inputs.length cph] 25)) := (by repeat (first | exact Below.refl _ _ | assumption | refine Below.alloc ?_ (by first | (simp; done) | (simp; omega) | omega) _ | refine Below.setCell ?_ (by first | (simp; done) | (simp; omega) | omega) _ | refine Below.drew ?_ | refine Below.drewN ?_ _))
  replace BW := BW.new bx6
  replace BG := BG.new bx6
  have cW0 := BW.cell 0 _ rfl
  have cW1 := BW.cell 1 _ rfl
  have cW2 := BW.cell 2 _ rfl
  go_wp2_with fail
  clear cW0 cW1 cW2
  replace ownw := ownw.new bx6
  replace owngm := owngm.new bx6
  replace ownh := ownh.new bx6
  have b8 := b7.trans (bx6.mono b7.size)
  have zx6 := bx6.size
  generalize w6.alloc (.cells #[.slice ah R.ends.length chh, .slice aih R.ids.length cih, .slice aph R.inputs.length cph] 25) = x6 at *
  clear bx6 b7
  refine (eqNetwork_any _ _ R _ _ _ _ _ ownh ownw (by omega) (by omega) hR).mono ?_
  rintro e w7 ⟨rfl, bel7⟩
  replace owngm := owngm.new bel7
  replace BG := BG.new bel7
  have z7 := bel7.size
  have b9 := b8.trans (bel7.mono b8.size)
  clear b8 bel7
  have cG0 := BG.cell 0 _ rfl
  have cG1 := BG.cell 1 _ rfl
  have cG2 := BG.cell 2 _ rfl
  go_wp2_with fail
  clear cG0 cG1 cG2
  refine (heldNetwork_any _ R 1 _ _ _ owngm (by omega) hR (by omega)).mono ?_
  rintro e w8 ⟨rfl, bel8⟩
  go_wp2_with fail
  go_ret
  exact ⟨rfl, b9.trans (bel8.mono b9.size)⟩
end Go.Proofs.Ytdchomjdimbenaa
