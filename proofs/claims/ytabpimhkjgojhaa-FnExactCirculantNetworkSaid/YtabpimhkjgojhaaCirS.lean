/- CirculantNetwork: spec's walk. -/
import Derived.Test.YtabpimhkjgojhaaCirI
import Derived.Test.YtabpimhkjgojhaaAdd2
namespace Go.Proofs.Ytabpimhkjgojhaa
open Go.RowKit
set_option linter.unusedVariables false
set_option linter.unusedSimpArgs false

theorem wrapI (n : Int) (h : -9223372036854775808 ≤ n ∧ n ≤ 9223372036854775807) : IntKind.i64.wrap n = n := by
  simp [IntKind.wrap, IntKind.bits, IntKind.signed]
  omega
theorem news4c (w : World) (t : TypeId) (x y p q : Value) : ∀ j u, [x, y, p, q][j]? = some u → (w.alloc (.cells #[x, y, p, q] t)).cell? (Addr.add ⟨w.heap.size, 0, none⟩ j) = some u := by
  intro j u hj
  have hB := Bx.made w t #[x, y, p, q]
  match j, hj with
  | 0, hj => rw [Addr.add_lit]; exact hB.cell 0 _ hj
  | 1, hj => rw [Addr.add_lit]; exact hB.cell 1 _ hj
  | 2, hj => rw [Addr.add_lit]; exact hB.cell 2 _ hj
  | 3, hj => rw [Addr.add_lit]; exact hB.cell 3 _ hj
  | n + 4, hj => simp at hj
theorem wireT_add2 (k d : Nat) (E : Nat → Nat → Int × Int) (v i : Nat) (hv : v < k) : (wireT k d E v i).set v (rowOf (wireT k d E v i) v ++ [E v i, E v (i + 1)]) = wireT k d E v (i + 2) := by
  refine rows_ext (by rw [List.length_set, wireT_length, wireT_length]) fun j hj => ?_
  rw [List.length_set, wireT_length] at hj
  rw [rowOf_set _ _ _ _ (by rw [wireT_length]; exact hv), wireT_row _ _ _ _ _ _ hj, wireT_row _ _ _ _ _ _ hj, wireT_row _ _ _ _ _ _ hv]
  by_cases e : j = v
  · subst e
    rw [if_pos rfl, if_neg (by omega), if_pos rfl, if_neg (by omega), if_pos rfl, rowW_succ, rowW_succ, List.append_assoc]
    rfl
  · rw [if_neg e]
    by_cases h : j < v
    · rw [if_pos h, if_pos h]
    · rw [if_neg h, if_neg h, if_neg e, if_neg e]
set_option maxRecDepth 100000 in
set_option maxHeartbeats 1600000 in
theorem specCir_any (k : Int) (a : Option Addr) (cap : Nat) (st : List Int) (w : World) (B : Nat) (ha : RdI w B a st) (hB : B ≤ w.heap.size) (hl : st.length ≤ 1048576) (hr : -9223372036854775808 ≤ k ∧ k ≤ 9223372036854775807) :
    Calls Try.prog 15 #[.int .i64 k, .slice a st.length cap] w (PostN (ciR k st) (ciB k st) w) := by
  have BR := Bx.made w 25 #[.slice none 0 0, .slice none 0 0, .slice none 0 0]
  have b0 : Below w.heap.size w (w.alloc (.cells #[.slice none 0 0, .slice none 0 0, .slice none 0 0] 25)) := (by repeat (first | exact Below.refl _ _ | assumption | refine Below.alloc ?_ (by first | (simp; done) | (simp; omega) | omega) _ | refine Below.setCell ?_ (by first | (simp; done) | (simp; omega) | omega) _ | refine Below.drew ?_ | refine Below.drewN ?_ _))
  have z0 : w.heap.size + 1 ≤ (w.alloc (.cells #[.slice none 0 0, .slice none 0 0, .slice none 0 0] 25)).heap.size := by simp
  cases hk : inR k 1 40 with
  | false =>
    have HK := Lib.hid hk
    have HF := Lib.hid (ciB_f0 (st := st) hk)
    clear hk
    go_enter Try.func15, Try.ntmps15
    go_wp2_with fail
    refine (l1In_any _ _ _ _).mono ?_
    rintro e w' ⟨rfl, rfl⟩
    rw [HK.out]
    generalize w.alloc (.cells #[.slice none 0 0, .slice none 0 0, .slice none 0 0] 25) = w0 at *
    have e0 := BR.cell 0 _ rfl
    have e1 := BR.cell 1 _ rfl
    have e2 := BR.cell 2 _ rfl
    have f0 := BR.frozen 0
    have f1 := BR.frozen 1
    have f2 := BR.frozen 2
    go_wp2_with fail
    clear e0 e1 e2 f0 f1 f2
    generalize hW : World.setCell _ _ _ = W
    have B6 : Bx W (w.heap.size) 25 #[.slice none 0 0, .slice none 0 0, .slice none 0 0] := by rw [← hW]; exact ((BR.set 0 _).set 1 _).set 2 _
    have fr6 : Fr (fun k => k = w.heap.size) w0 W := by rw [← hW]; exact fr3 _ _ _ _ _
    clear hW
    have z6 := fr6.size
    have d0 := B6.cell 0 _ rfl
    have d1 := B6.cell 1 _ rfl
    have d2 := B6.cell 2 _ rfl
    refine bodyPost_ret (v := .tuple #[.agg #[.slice none 0 0, .slice none 0 0, .slice none 0 0], .bool false]) (by simp [results, Try.results15, go_sem, d0, d1, d2]) rfl ?_
    rw [ciR_f HF.out, HF.out]
    exact ⟨_, rfl, NetAt.nilN _ _ _, b0.trans (fr6.below (fun k h1 h2 hc => by omega) b0.size)⟩
  | true =>
    have HK := Lib.hid hk
    have hk2 := inR_iff.1 hk
    obtain ⟨kn, rfl⟩ := Int.eq_ofNat_of_zero_le (show 0 ≤ k by omega)
    clear hk hr
    by_cases h6 : 2 * st.length ≤ 6
    case neg =>
      have HF := Lib.hid (ciB_f1 (k := (kn : Int)) (st := st) h6)
      have hgt : (6 : Int) < 2 * (st.length : Int) := by omega
      go_enter Try.func15, Try.ntmps15
      go_wp2_with fail
      refine (l1In_any _ _ _ _).mono ?_
      rintro e w' ⟨rfl, rfl⟩
      rw [HK.out]
      generalize w.alloc (.cells #[.slice none 0 0, .slice none 0 0, .slice none 0 0] 25) = w0 at *
      have e0 := BR.cell 0 _ rfl
      have e1 := BR.cell 1 _ rfl
      have e2 := BR.cell 2 _ rfl
      have f0 := BR.frozen 0
      have f1 := BR.frozen 1
      have f2 := BR.frozen 2
      go_wp2_with fail
      clear e0 e1 e2 f0 f1 f2
      generalize hW : World.setCell _ _ _ = W
      have B6 : Bx W (w.heap.size) 25 #[.slice none 0 0, .slice none 0 0, .slice none 0 0] := by rw [← hW]; exact ((BR.set 0 _).set 1 _).set 2 _
      have fr6 : Fr (fun k => k = w.heap.size) w0 W := by rw [← hW]; exact fr3 _ _ _ _ _
      clear hW
      have z6 := fr6.size
      have d0 := B6.cell 0 _ rfl
      have d1 := B6.cell 1 _ rfl
      have d2 := B6.cell 2 _ rfl
      refine bodyPost_ret (v := .tuple #[.agg #[.slice none 0 0, .slice none 0 0, .slice none 0 0], .bool false]) (by simp [results, Try.results15, go_sem, d0, d1, d2]) rfl ?_
      rw [ciR_f HF.out, HF.out]
      exact ⟨_, rfl, NetAt.nilN _ _ _, b0.trans (fr6.below (fun k h1 h2 hc => by omega) b0.size)⟩
    have hgt : ¬ (6 : Int) < 2 * (st.length : Int) := by omega
    go_enter Try.func15, Try.ntmps15
    go_wp2_with fail
    refine (l1In_any _ _ _ _).mono ?_
    rintro e w' ⟨rfl, rfl⟩
    rw [HK.out]
    generalize w.alloc (.cells #[.slice none 0 0, .slice none 0 0, .slice none 0 0] 25) = w0 at *
    go_wp2_with fail
    refine (l1All_any a cap st 0 ((kn : Int) - 1) w0 B (Rd.below ha (b0.mono hB)) (by omega)).mono ?_
    rintro e w1 ⟨rfl, m1, h1⟩
    have bel1 : Below w0.heap.size w0 w1 := below_of_drewN h1
    clear h1
    replace BR := BR.new bel1
    replace b0 := b0.trans (bel1.mono b0.size)
    replace z0 : w.heap.size + 1 ≤ w1.heap.size := by have := bel1.size; omega
    clear bel1
    cases hall : allB st 0 ((kn : Int) - 1) with
    | false =>
      have HF := Lib.hid (ciB_f2 hall)
      clear hall
      have e0 := BR.cell 0 _ rfl
      have e1 := BR.cell 1 _ rfl
      have e2 := BR.cell 2 _ rfl
      have f0 := BR.frozen 0
      have f1 := BR.frozen 1
      have f2 := BR.frozen 2
      go_wp2_with fail
      clear e0 e1 e2 f0 f1 f2
      generalize hW : World.setCell _ _ _ = W
      have B6 : Bx W (w.heap.size) 25 #[.slice none 0 0, .slice none 0 0, .slice none 0 0] := by rw [← hW]; exact ((BR.set 0 _).set 1 _).set 2 _
      have fr6 : Fr (fun k => k = w.heap.size) w1 W := by rw [← hW]; exact fr3 _ _ _ _ _
      clear hW
      have z6 := fr6.size
      have d0 := B6.cell 0 _ rfl
      have d1 := B6.cell 1 _ rfl
      have d2 := B6.cell 2 _ rfl
      refine bodyPost_ret (v := .tuple #[.agg #[.slice none 0 0, .slice none 0 0, .slice none 0 0], .bool false]) (by simp [results, Try.results15, go_sem, d0, d1, d2]) rfl ?_
      rw [ciR_f HF.out, HF.out]
      exact ⟨_, rfl, NetAt.nilN _ _ _, b0.trans (fr6.below (fun k h1 h2 hc => by omega) b0.size)⟩
    | true =>
    have HST := Lib.hid (fun j (hj : j < st.length) => allB_at hall j hj)
    have HOK := Lib.hid (show ciB (kn : Int) st = true by rw [ciB, HK.out, hall, decide_eq_true h6]; rfl)
    have HG := Lib.hid (show ciR (kn : Int) st = wireN kn (2 * st.length) (cirE kn st) by rw [ciR, HOK.out]; rfl)
    clear hall
    generalize w1 = w0 at *
    go_wp2_with fail
    refine (neEmpty_any kn _ (by omega)).mono ?_
    rintro e w1 ⟨v1, rfl, own1, bel1⟩
    obtain ⟨a1, c1, ai1, ci1, ap1, cp1, rfl, own1⟩ := own1.shape
    replace BR := BR.new bel1
    have z1 : w.heap.size + 1 ≤ w1.heap.size := by have := bel1.size; omega
    have b1 := b0.trans (bel1.mono b0.size)
    replace own1 := own1.wide (lo' := w.heap.size + 1) z0 (Nat.le_refl _)
    clear b0 bel1
    have HEL := Lib.hid (show (emptyN (kn)).ends.length = kn from List.length_replicate ..)
    have BO := Bx.made w1 25 #[.slice a1 (emptyN (kn)).ends.length c1, .slice ai1 (emptyN (kn)).ids.length ci1, .slice ap1 (emptyN (kn)).inputs.length cp1]
    have b2 : Below w1.heap.size w1 (w1.alloc (.cells #[.slice a1 (emptyN (kn)).ends.length c1, .slice ai1 (emptyN (kn)).ids.length ci1, .slice ap1 (emptyN (kn)).inputs.length cp1] 25)) := (by repeat (first | exact Below.refl _ _ | assumption | refine Below.alloc ?_ (by first | (simp; done) | (simp; omega) | omega) _ | refine Below.setCell ?_ (by first | (simp; done) | (simp; omega) | omega) _ | refine Below.drew ?_ | refine Below.drewN ?_ _))
    go_upto_region 4 with fail
    have z2 : w1.heap.size + 1 ≤ (w1.alloc (.cells #[.slice a1 (emptyN (kn)).ends.length c1, .slice ai1 (emptyN (kn)).ids.length ci1, .slice ap1 (emptyN (kn)).inputs.length cp1] 25)).heap.size := by simp
    generalize w1.alloc (.cells #[.slice a1 (emptyN (kn)).ends.length c1, .slice ai1 (emptyN (kn)).ids.length ci1, .slice ap1 (emptyN (kn)).inputs.length cp1] 25) = w2 at *
    obtain ⟨b, hb⟩ : ∃ b, b = w1.heap.size := ⟨_, rfl⟩
    rw [← hb] at BO ⊢
    replace BR := BR.new b2
    replace own1 := (own1.new b2).wide (Nat.le_refl _) b2.size
    have bb := b1.trans (b2.mono b1.size)
    have zb : w.heap.size + 1 ≤ b := by omega
    have zlo : w.heap.size + 1 ≤ w2.heap.size := by omega
    clear hb b1 b2 z2
    obtain ⟨E, hEE⟩ : ∃ E, E = (cirE kn st) := ⟨_, rfl⟩
    obtain ⟨d, hdd⟩ : ∃ d, d = (2 * st.length) := ⟨_, rfl⟩
    obtain ⟨K0, hKK⟩ : ∃ K0, K0 = kn := ⟨_, rfl⟩
    have HEE := Lib.hid hEE
    have HDD := Lib.hid hdd
    have HKK := Lib.hid hKK
    have hK40 : K0 ≤ 40 := by omega
    have hd6 : d ≤ 6 := by omega
    have hNB : NBx w2 (w.heap.size + 1) b (tN K0 d E 0 0) := by
      have hE0 : tN K0 d E 0 0 = emptyN K0 := by unfold tN emptyN; rw [wireT_zero]
      rw [hE0, hKK]
      exact NBx.of BO own1 (Nat.le_refl _)
    rw [HEL.out] at BO ⊢
    rw [← hKK] at BO ⊢
    have q0 := BO.cell 0 _ rfl
    clear own1 BO hEE hKK hdd
    have hKn1 : kn ≤ K0 := by have := HKK.out; omega
    have hKn2 : K0 ≤ kn := by have := HKK.out; omega
    have hDn1 : d ≤ 2 * st.length := by have := HDD.out; omega
    have hDn2 : 2 * st.length ≤ d := by have := HDD.out; omega
    go_wp2_with fail
    clear q0
    go_loopw [32] (fun iv wr => ∃ v : Nat, v ≤ K0 ∧ iv = .int .i64 v ∧ NBx wr (w.heap.size + 1) b (tN K0 d E v 0) ∧ Bx wr w.heap.size 25 #[.slice none 0 0, .slice none 0 0, .slice none 0 0] ∧ Below w.heap.size w wr ∧ w.heap.size + 1 ≤ wr.heap.size) (fun iv _ => K0 - (intOf iv).toNat)
    case atStart => exact ⟨0, Nat.zero_le _, rfl, hNB, BR, bb, zlo⟩
    case round =>
      clear hNB BR bb zlo
      obtain ⟨v, hv, rfl, hNB, BR, bb, zlo⟩ := hrel
      by_cases hlt : v < K0
      · go_wp2_with fail
        go_loopw [37] (fun iv wr => ∃ i : Nat, i ≤ st.length ∧ iv = .int .i64 i ∧ NBx wr (w.heap.size + 1) b (tN K0 d E v (2 * i)) ∧ Bx wr w.heap.size 25 #[.slice none 0 0, .slice none 0 0, .slice none 0 0] ∧ Below w.heap.size w wr ∧ w.heap.size + 1 ≤ wr.heap.size) (fun iv _ => st.length - (intOf iv).toNat)
        case atStart => exact ⟨0, Nat.zero_le _, rfl, hNB, BR, bb, zlo⟩
        case round =>
          clear hNB BR bb zlo
          obtain ⟨i, hi, rfl, hNB, BR, bb, zlo⟩ := hrel
          skip
          by_cases hil : i < st.length
          · obtain ⟨aq, c, vs, ai, ci, ap, cp, hbx, hE, owni, ownp, hdis⟩ := hNB
            have hWL : (tN K0 d E v (2 * i)).ends.length = K0 := wireT_length ..
            have hrl : (rowOf (wireT K0 d E v (2 * i)) v).length ≤ 6 := by rw [wireT_row _ _ _ _ _ _ hlt, if_neg (by omega), if_pos rfl, rowW_length]; omega
            replace hE : RowsE wr (w.heap.size + 1) wr.heap.size aq c (wireT K0 d E v (2 * i)) vs := hE
            have hv1 : v < (wireT K0 d E v (2 * i)).length := by rw [wireT_length]; exact hlt
            obtain ⟨A, hA, _, _⟩ := Ow.addr hE.1 (by omega)
            subst hA
            obtain ⟨lo, hlo0⟩ : ∃ lo, lo = w.heap.size + 1 := ⟨_, rfl⟩
            rw [← hlo0] at hE owni ownp
            have zl1 : w.heap.size + 1 ≤ lo := by omega
            have hlo : lo ≤ wr.heap.size := by omega
            have HLO := Lib.hid hlo0
            clear hlo0
            rw [hWL] at hbx
            obtain ⟨n, hn⟩ : ∃ n, n = K0 := ⟨_, rfl⟩
            rw [← hn] at hbx
            have HNK := Lib.hid hn
            have hvn : v < n := by omega
            clear hn
            have HNI := Lib.hid (fun (x : Nat) (hx : blk ai ci = some x) => rb_ne hE (by omega) owni hx)
            have HNP := Lib.hid (fun (x : Nat) (hx : blk ap cp = some x) => rb_ne hE (by omega) ownp hx)
            have HIN := Lib.hid (fun (x : Nat) (h : RB A (wireT K0 d E v (2 * i)) vs x) => rb_in hE (by omega) h)
            have hWA2 := Lib.hid (wireT_add2 K0 d E v (2 * i) hlt)
            have hrd := Rd.below ha (bb.mono hB)
            obtain ⟨gs, os, hsa, _, hcs⟩ := Rd.at hrd hil
            subst hsa
            clear hWL hrd
            have hst := HST.out i hil
            obtain ⟨s, hs⟩ := Int.eq_ofNat_of_zero_le hst.1
            have hs1 : s < kn := by omega
            have HSS := Lib.hid (show stp st i = s by unfold stp; omega)
            rw [hs] at hcs
            have HNS := Lib.hid hs
            clear hs hst
            have e1 : ((v : Int) + (s : Int)) % (kn : Int) = (((v + s) % kn : Nat) : Int) := by rw [Int.natCast_emod, Int.natCast_add]
            have e2 : ((v : Int) + (kn : Int) - (s : Int)) % (kn : Int) = (((v + (kn - s)) % kn : Nat) : Int) := by rw [Int.natCast_emod, show ((v + (kn - s) : Nat) : Int) = (v : Int) + (kn : Int) - (s : Int) by omega]
            have HXY := Lib.hid (show ((((v + s) % kn : Nat) : Int), ((2 * i + 1 : Nat) : Int)) = E v (2 * i) ∧ ((((v + (kn - s)) % kn : Nat) : Int), ((2 * i : Nat) : Int)) = E v (2 * i + 1) by
              rw [HEE.out]
              unfold cirE
              rw [if_neg (by omega), if_pos (by omega), show 2 * i / 2 = i by omega, show (2 * i + 1) / 2 = i by omega, HSS.out, show 2 * i + 1 - 1 = 2 * i by omega]
              exact ⟨rfl, rfl⟩)
            have m1 := Nat.mod_lt (v + s) (show 0 < kn by omega)
            have m2 := Nat.mod_lt (v + (kn - s)) (show 0 < kn by omega)
            generalize (v + s) % kn = x0 at *
            generalize (v + (kn - s)) % kn = y0 at *
            have hkn0 : ¬ K0 = 0 := by omega
            have hwr1 : IntKind.i64.wrap ((v : Int) + (s : Int)) = (v : Int) + (s : Int) := wrapI _ (by omega)
            have hwr2 : IntKind.i64.wrap ((v : Int) + (K0 : Int)) = (v : Int) + (K0 : Int) := wrapI _ (by omega)
            have hwr3 : IntKind.i64.wrap ((v : Int) + (K0 : Int) - (s : Int)) = (v : Int) + (K0 : Int) - (s : Int) := wrapI _ (by omega)
            have hwr4 : IntKind.i64.wrap (2 * (i : Int)) = 2 * (i : Int) := wrapI _ (by omega)
            have hwr5 : IntKind.i64.wrap (2 * (i : Int) + 1) = 2 * (i : Int) + 1 := wrapI _ (by omega)
            have htm1 : Int.tmod ((v : Int) + (s : Int)) (K0 : Int) = (x0 : Int) := by rw [HKK.out, Int.tmod_eq_emod_of_nonneg (by omega)]; exact e1
            have htm2 : Int.tmod ((v : Int) + (K0 : Int) - (s : Int)) (K0 : Int) = (y0 : Int) := by rw [HKK.out, Int.tmod_eq_emod_of_nonneg (by omega)]; exact e2
            clear e1 e2
            go_wp2_with fail
            have hS0 : wr.drew.cell? ⟨b, 0, none⟩ = some (.slice (some ⟨A, 0, none⟩) n c) := hbx.cell 0 _ rfl
            have hw1 : Below wr.heap.size wr (wr.drew.alloc (.cells #[.int .i64 (x0 : Int), .int .i64 (2 * (i : Int) + 1), .int .i64 (y0 : Int), .int .i64 (2 * (i : Int))] 62)) := (by repeat (first | exact Below.refl _ _ | assumption | refine Below.alloc ?_ (by first | (simp; done) | (simp; omega) | omega) _ | refine Below.setCell ?_ (by first | (simp; done) | (simp; omega) | omega) _ | refine Below.drew ?_ | refine Below.drewN ?_ _))
            have hS1 := (hbx.new hw1).cell 0 _ rfl
            have hrow1 : Ow (wr.drew.alloc (.cells #[.int .i64 (x0 : Int), .int .i64 (2 * (i : Int) + 1), .int .i64 (y0 : Int), .int .i64 (2 * (i : Int))] 62)) lo wr.heap.size 62 2 (vs v).1 (rowOf (wireT K0 d E v (2 * i)) v).length (vs v).2 (cellE (rowOf (wireT K0 d E v (2 * i)) v)) := Ow.new (hE.2.1 v hv1) hw1
            have hnews : ∀ jj uu, [Value.int .i64 (x0 : Int), Value.int .i64 (2 * (i : Int) + 1), Value.int .i64 (y0 : Int), Value.int .i64 (2 * (i : Int))][jj]? = some uu → (wr.drew.alloc (.cells #[.int .i64 (x0 : Int), .int .i64 (2 * (i : Int) + 1), .int .i64 (y0 : Int), .int .i64 (2 * (i : Int))] 62)).cell? (Addr.add ⟨wr.heap.size, 0, none⟩ jj) = some uu := news4c _ _ _ _ _ _
            obtain ⟨gq, offq, haeq, _, hcv⟩ := Rd.at (Ow.rd hE.1) hv1
            obtain ⟨rfl, rfl⟩ : A = gq ∧ 0 = offq := by injection haeq with h; injection h with h1 h2; exact ⟨h1, h2⟩
            clear haeq
            rw [Nat.zero_add] at hcv
            refine wp_region_held_drew (S := fun X => X.cell? ⟨b, 0, none⟩ = some (.slice (some ⟨A, 0, none⟩) n c)) (by kernel_rfl) hS0 (fun hHeld => ?_)
            refine wpAnyH_take (i := 0) (v := ?_) rfl (by kernel_rfl) (by kernel_rfl) (by kernel_rfl) (fun _ _ _ h => h) (Or.inl ⟨by rfl, ?_⟩) (by assumption) ?_
            rotate_left
            · (intro w hSw; (try dsimp only at hSw); go_simp; try with_reducible rfl)
            try simp only [Act.put, List.getElem_toArray, List.getElem_cons_zero, List.getElem_cons_succ, List.setIfInBounds_toArray, List.set_cons_zero, List.set_cons_succ]
            refine wpAnyH_take (i := 1) (v := ?_) rfl (by kernel_rfl) (by kernel_rfl) (by kernel_rfl) (fun _ _ _ h => h) (Or.inl ⟨by rfl, ?_⟩) (by assumption) ?_
            rotate_left
            · (intro w hSw; (try dsimp only at hSw); go_simp; try with_reducible rfl)
            try simp only [Act.put, List.getElem_toArray, List.getElem_cons_zero, List.getElem_cons_succ, List.setIfInBounds_toArray, List.set_cons_zero, List.set_cons_succ]
            refine wpAnyH_take (i := 2) (v := ?_) rfl (by kernel_rfl) (by kernel_rfl) (by kernel_rfl) (fun _ _ _ h => h) (Or.inl ⟨by rfl, ?_⟩) (by assumption) ?_
            rotate_left
            · (intro w hSw; (try dsimp only at hSw); go_simp; try with_reducible rfl)
            try simp only [Act.put, List.getElem_toArray, List.getElem_cons_zero, List.getElem_cons_succ, List.setIfInBounds_toArray, List.set_cons_zero, List.set_cons_succ]
            refine wpAnyH_take (i := 3) (v := ?_) rfl (by kernel_rfl) (by kernel_rfl) (by kernel_rfl) (fun _ _ _ h => h) (Or.inl ⟨by rfl, ?_⟩) (by assumption) ?_
            rotate_left
            · (intro w hSw; (try dsimp only at hSw); go_simp; try with_reducible rfl)
            try simp only [Act.put, List.getElem_toArray, List.getElem_cons_zero, List.getElem_cons_succ, List.setIfInBounds_toArray, List.set_cons_zero, List.set_cons_succ]
            refine wpAnyH_take (i := 4) (v := ?_) rfl (by kernel_rfl) (by kernel_rfl) (by kernel_rfl) (fun _ _ _ h => h) (Or.inl ⟨by rfl, ?_⟩) (by assumption) ?_
            rotate_left
            · (intro w hSw; (try dsimp only at hSw); go_simp; try with_reducible rfl)
            try simp only [Act.put, List.getElem_toArray, List.getElem_cons_zero, List.getElem_cons_succ, List.setIfInBounds_toArray, List.set_cons_zero, List.set_cons_succ]
            refine wpAnyH_take (i := 5) (v := ?_) rfl (by kernel_rfl) (by kernel_rfl) (by kernel_rfl) (fun _ _ _ h => h) (Or.inl ⟨by rfl, ?_⟩) (by assumption) ?_
            rotate_left
            · (intro w hSw; (try dsimp only at hSw); go_simp; try with_reducible rfl)
            try simp only [Act.put, List.getElem_toArray, List.getElem_cons_zero, List.getElem_cons_succ, List.setIfInBounds_toArray, List.set_cons_zero, List.set_cons_succ]
            refine wpAnyH_take (i := 6) (v := ?_) rfl (by kernel_rfl) (by kernel_rfl) (by kernel_rfl) (fun _ _ _ h => h) (Or.inl ⟨by rfl, ?_⟩) (by assumption) ?_
            rotate_left
            · (intro w hSw; (try dsimp only at hSw); go_simp; try with_reducible rfl)
            try simp only [Act.put, List.getElem_toArray, List.getElem_cons_zero, List.getElem_cons_succ, List.setIfInBounds_toArray, List.set_cons_zero, List.set_cons_succ]
            refine wpAnyH_take (i := 8) (v := ?_) rfl (by kernel_rfl) (by kernel_rfl) (by kernel_rfl) (fun _ _ _ h => h) (Or.inl ⟨by rfl, ?_⟩) (by assumption) ?_
            rotate_left
            · (intro w hSw; (try dsimp only at hSw); go_simp; try with_reducible rfl)
            try simp only [Act.put, List.getElem_toArray, List.getElem_cons_zero, List.getElem_cons_succ, List.setIfInBounds_toArray, List.set_cons_zero, List.set_cons_succ]
            refine wpAnyH_take (i := 9) (v := ?_) rfl (by kernel_rfl) (by kernel_rfl) (by kernel_rfl) (fun _ _ _ h => h) (Or.inl ⟨by rfl, ?_⟩) (by assumption) ?_
            rotate_left
            · (intro w hSw; (try dsimp only at hSw); go_simp; try with_reducible rfl)
            try simp only [Act.put, List.getElem_toArray, List.getElem_cons_zero, List.getElem_cons_succ, List.setIfInBounds_toArray, List.set_cons_zero, List.set_cons_succ]
            refine wpAnyH_take (i := 10) (v := ?_) rfl (by kernel_rfl) (by kernel_rfl) (by kernel_rfl) (fun _ _ _ h => h) (Or.inl ⟨by rfl, ?_⟩) (by assumption) ?_
            rotate_left
            · (intro w hSw; (try dsimp only at hSw); go_simp; try with_reducible rfl)
            try simp only [Act.put, List.getElem_toArray, List.getElem_cons_zero, List.getElem_cons_succ, List.setIfInBounds_toArray, List.set_cons_zero, List.set_cons_succ]
            refine wpAnyH_take (i := 11) (v := ?_) rfl (by kernel_rfl) (by kernel_rfl) (by kernel_rfl) (fun _ _ _ h => h) (Or.inl ⟨by rfl, ?_⟩) (by assumption) ?_
            rotate_left
            · (intro w hSw; (try dsimp only at hSw); go_simp; try with_reducible rfl)
            try simp only [Act.put, List.getElem_toArray, List.getElem_cons_zero, List.getElem_cons_succ, List.setIfInBounds_toArray, List.set_cons_zero, List.set_cons_succ]
            refine wpAnyH_take (i := 12) (v := ?_) rfl (by kernel_rfl) (by kernel_rfl) (by kernel_rfl) (fun _ _ _ h => h) (Or.inl ⟨by rfl, ?_⟩) (by assumption) ?_
            rotate_left
            · (intro w hSw; (try dsimp only at hSw); go_simp; try with_reducible rfl)
            try simp only [Act.put, List.getElem_toArray, List.getElem_cons_zero, List.getElem_cons_succ, List.setIfInBounds_toArray, List.set_cons_zero, List.set_cons_succ]
            refine wpAnyH_take (i := 13) (v := ?_) rfl (by kernel_rfl) (by kernel_rfl) (by kernel_rfl) (fun _ _ _ h => h) (Or.inl ⟨by rfl, ?_⟩) (by assumption) ?_
            rotate_left
            · (intro w hSw; (try dsimp only at hSw); go_simp; try with_reducible rfl)
            try simp only [Act.put, List.getElem_toArray, List.getElem_cons_zero, List.getElem_cons_succ, List.setIfInBounds_toArray, List.set_cons_zero, List.set_cons_succ]
            refine wpAnyH_take (i := 14) (v := ?_) rfl (by kernel_rfl) (by kernel_rfl) (by kernel_rfl) (fun _ _ _ h => h) (Or.inl ⟨by rfl, ?_⟩) (by assumption) ?_
            rotate_left
            · (intro w hSw; (try dsimp only at hSw); go_simp; try with_reducible rfl)
            try simp only [Act.put, List.getElem_toArray, List.getElem_cons_zero, List.getElem_cons_succ, List.setIfInBounds_toArray, List.set_cons_zero, List.set_cons_succ]
            refine wpAnyH_take (i := 15) (v := ?_) rfl (by kernel_rfl) (by kernel_rfl) (by kernel_rfl) (fun _ _ _ h => h) (Or.inl ⟨by rfl, ?_⟩) (by assumption) ?_
            rotate_left
            · (intro w hSw; (try dsimp only at hSw); go_simp; try with_reducible rfl)
            try simp only [Act.put, List.getElem_toArray, List.getElem_cons_zero, List.getElem_cons_succ, List.setIfInBounds_toArray, List.set_cons_zero, List.set_cons_succ]
            refine wpAnyH_take (i := 16) (v := ?_) rfl (by kernel_rfl) (by kernel_rfl) (by kernel_rfl) (fun _ _ _ h => h) (Or.inl ⟨by rfl, ?_⟩) (by assumption) ?_
            rotate_left
            · (intro w hSw; (try dsimp only at hSw); go_simp; try with_reducible rfl)
            try simp only [Act.put, List.getElem_toArray, List.getElem_cons_zero, List.getElem_cons_succ, List.setIfInBounds_toArray, List.set_cons_zero, List.set_cons_succ]
            refine wpAnyH_take (i := 17) (v := ?_) rfl (by kernel_rfl) (by kernel_rfl) (by kernel_rfl) (fun _ _ _ h => h) (Or.inl ⟨by rfl, ?_⟩) (by assumption) ?_
            rotate_left
            · (intro w hSw; (try dsimp only at hSw); go_simp; try with_reducible rfl)
            try simp only [Act.put, List.getElem_toArray, List.getElem_cons_zero, List.getElem_cons_succ, List.setIfInBounds_toArray, List.set_cons_zero, List.set_cons_succ]
            refine wpAnyH_take (i := 18) (v := ?_) rfl (by kernel_rfl) (by kernel_rfl) (by kernel_rfl) (fun _ _ _ h => h) (Or.inl ⟨by rfl, ?_⟩) (by assumption) ?_
            rotate_left
            · (intro w hSw; (try dsimp only at hSw); go_simp; try with_reducible rfl)
            try simp only [Act.put, List.getElem_toArray, List.getElem_cons_zero, List.getElem_cons_succ, List.setIfInBounds_toArray, List.set_cons_zero, List.set_cons_succ]
            refine wpAnyH_take (i := 19) (v := ?_) rfl (by kernel_rfl) (by kernel_rfl) (by kernel_rfl) (fun _ _ _ h => h) (Or.inl ⟨by rfl, ?_⟩) (by assumption) ?_
            rotate_left
            · (intro w hSw; (try dsimp only at hSw); go_simp; try with_reducible rfl)
            try simp only [Act.put, List.getElem_toArray, List.getElem_cons_zero, List.getElem_cons_succ, List.setIfInBounds_toArray, List.set_cons_zero, List.set_cons_succ]
            refine wpAnyH_take (i := 20) (v := ?_) rfl (by kernel_rfl) (by kernel_rfl) (by kernel_rfl) (fun _ _ _ h => h) (Or.inl ⟨by rfl, ?_⟩) (by assumption) ?_
            rotate_left
            · (intro w hSw; (try dsimp only at hSw); go_simp; try with_reducible rfl)
            try simp only [Act.put, List.getElem_toArray, List.getElem_cons_zero, List.getElem_cons_succ, List.setIfInBounds_toArray, List.set_cons_zero, List.set_cons_succ]
            refine wpAnyH_take (i := 21) (v := ?_) rfl (by kernel_rfl) (by kernel_rfl) (by kernel_rfl) (fun _ _ _ h => h) (Or.inl ⟨by rfl, ?_⟩) (by assumption) ?_
            rotate_left
            · (intro w hSw; (try dsimp only at hSw); go_simp; try with_reducible rfl)
            try simp only [Act.put, List.getElem_toArray, List.getElem_cons_zero, List.getElem_cons_succ, List.setIfInBounds_toArray, List.set_cons_zero, List.set_cons_succ]
            refine wpAnyH_take (i := 22) (v := ?_) rfl (by kernel_rfl) (by kernel_rfl) (by kernel_rfl) (fun _ _ _ h => h) (Or.inl ⟨by rfl, ?_⟩) (by assumption) ?_
            rotate_left
            · (intro w hSw; (try dsimp only at hSw); go_simp; try with_reducible rfl)
            try simp only [Act.put, List.getElem_toArray, List.getElem_cons_zero, List.getElem_cons_succ, List.setIfInBounds_toArray, List.set_cons_zero, List.set_cons_succ]
            refine wpAnyH_take (i := 23) (v := ?_) rfl (by kernel_rfl) (by kernel_rfl) (by kernel_rfl) (fun _ _ _ h => h) (Or.inl ⟨by rfl, ?_⟩) (by assumption) ?_
            rotate_left
            · (intro w hSw; (try dsimp only at hSw); go_simp; try with_reducible rfl)
            try simp only [Act.put, List.getElem_toArray, List.getElem_cons_zero, List.getElem_cons_succ, List.setIfInBounds_toArray, List.set_cons_zero, List.set_cons_succ]
            refine wpAnyH_take (i := 24) (v := ?_) rfl (by kernel_rfl) (by kernel_rfl) (by kernel_rfl) (fun _ _ _ h => h) (Or.inl ⟨by rfl, ?_⟩) (by assumption) ?_
            rotate_left
            · (intro w hSw; (try dsimp only at hSw); go_simp; try with_reducible rfl)
            try simp only [Act.put, List.getElem_toArray, List.getElem_cons_zero, List.getElem_cons_succ, List.setIfInBounds_toArray, List.set_cons_zero, List.set_cons_succ]
            refine wpAnyH_take (i := 25) (v := ?_) rfl (by kernel_rfl) (by kernel_rfl) (by kernel_rfl) (fun _ _ _ h => h) (Or.inl ⟨by rfl, ?_⟩) (by assumption) ?_
            rotate_left
            · (intro w hSw; (try dsimp only at hSw); go_simp; try with_reducible rfl)
            try simp only [Act.put, List.getElem_toArray, List.getElem_cons_zero, List.getElem_cons_succ, List.setIfInBounds_toArray, List.set_cons_zero, List.set_cons_succ]
            refine wpAnyH_take (i := 26) (v := ?_) rfl (by kernel_rfl) (by kernel_rfl) (by kernel_rfl) (fun _ _ _ h => h) (Or.inl ⟨by rfl, ?_⟩) (by assumption) ?_
            rotate_left
            · (intro w hSw; (try dsimp only at hSw); go_simp; try with_reducible rfl)
            try simp only [Act.put, List.getElem_toArray, List.getElem_cons_zero, List.getElem_cons_succ, List.setIfInBounds_toArray, List.set_cons_zero, List.set_cons_succ]
            refine wpAnyH_ready (rs := [7, 27]) (by kernel_rfl) (by simp) ?_
            refine AllReadyH.cons (o := _) rfl (fun K hK => ?_) (AllReadyH.cons (o := _) rfl (fun K hK => ?_) AllReadyH.nil)
            go_simp
            refine hK.out _ _ (hS0) (fun hHeld => ?_)
            clear hK K
            try simp only [Act.put, List.getElem_toArray, List.getElem_cons_zero, List.getElem_cons_succ, List.setIfInBounds_toArray, List.set_cons_zero, List.set_cons_succ]
            refine wpAnyH_ready (rs := [27]) (by kernel_rfl) (by simp) ?_
            refine AllReadyH.cons (o := _) rfl (fun K hK => ?_) AllReadyH.nil
            go_simp
            refine hK.out _ _ (hS1) (fun hHeld => ?_)
            clear hK K
            try simp only [Act.put, List.getElem_toArray, List.getElem_cons_zero, List.getElem_cons_succ, List.setIfInBounds_toArray, List.set_cons_zero, List.set_cons_succ]
            refine wpAnyH_ready (rs := [28]) (by kernel_rfl) (by simp) ?_
            refine AllReadyH.cons (o := _) rfl (fun K hK => ?_) AllReadyH.nil
            rw [if_pos (by rfl)]
            refine step_app _ _ _ rfl 62 (.agg #[.int .i64 0, .int .i64 0]) 2 16 Try.underlying60 end_info rfl (by decide) lo wr.heap.size (vs v).1 (rowOf (wireT K0 d E v (2 * i)) v).length (vs v).2 _ rfl hrow1 ⟨wr.heap.size, 0, none⟩ 2 2 [.int .i64 (x0 : Int), .int .i64 (2 * (i : Int) + 1), .int .i64 (y0 : Int), .int .i64 (2 * (i : Int))] rfl rfl hnews (by simp [Value.oneCell']) (by decide) (by unfold maxLen; omega) (by omega) (by simp; omega) ?_
            intro g' cap' w2 own2 hgr hbg _
            obtain ⟨hbx2, hc2, hf2, vt, hE', hbx', hfr', hrb'⟩ := addP2_mem hbx hE hv1 hw1 hlo hgr own2 hbg
            have hS2 := hbx2.cell 0 _ rfl
            have hS3 := hbx'.cell 0 _ rfl
            refine hK.out _ _ hS2 (fun hHeld => ?_)
            clear hK K
            try simp only [Act.put, List.getElem_toArray, List.getElem_cons_zero, List.getElem_cons_succ, List.setIfInBounds_toArray, List.set_cons_zero, List.set_cons_succ]
            refine wpAnyH_take (i := 29) (v := ?_) rfl (by kernel_rfl) (by kernel_rfl) (by kernel_rfl) (fun _ _ _ h => h) (Or.inl ⟨by rfl, ?_⟩) (by assumption) ?_
            rotate_left
            · (intro w hSw; (try dsimp only at hSw); go_simp; try with_reducible rfl)
            try simp only [Act.put, List.getElem_toArray, List.getElem_cons_zero, List.getElem_cons_succ, List.setIfInBounds_toArray, List.set_cons_zero, List.set_cons_succ]
            refine wpAnyH_ready (rs := [30]) (by kernel_rfl) (by simp) ?_
            refine AllReadyH.cons (o := _) rfl (fun K hK => ?_) AllReadyH.nil
            go_simp
            refine hK.out _ _ (hS3) (fun hHeld => ?_)
            clear hK K
            try simp only [Act.put, List.getElem_toArray, List.getElem_cons_zero, List.getElem_cons_succ, List.setIfInBounds_toArray, List.set_cons_zero, List.set_cons_succ]
            refine wpAnyH_done (by kernel_rfl) ?_ _
            clear hHeld hS2 hS3 hc2 hf2 hbx2 own2 hgr hbg
            rotate_left
            go_simp
            refine hK.out _ _ (hS1) (fun hHeld => ?_)
            clear hK K
            try simp only [Act.put, List.getElem_toArray, List.getElem_cons_zero, List.getElem_cons_succ, List.setIfInBounds_toArray, List.set_cons_zero, List.set_cons_succ]
            refine wpAnyH_ready (rs := [7]) (by kernel_rfl) (by simp) ?_
            refine AllReadyH.cons (o := _) rfl (fun K hK => ?_) AllReadyH.nil
            go_simp
            refine hK.out _ _ (hS1) (fun hHeld => ?_)
            clear hK K
            try simp only [Act.put, List.getElem_toArray, List.getElem_cons_zero, List.getElem_cons_succ, List.setIfInBounds_toArray, List.set_cons_zero, List.set_cons_succ]
            refine wpAnyH_ready (rs := [28]) (by kernel_rfl) (by simp) ?_
            refine AllReadyH.cons (o := _) rfl (fun K hK => ?_) AllReadyH.nil
            rw [if_pos (by rfl)]
            refine step_app _ _ _ rfl 62 (.agg #[.int .i64 0, .int .i64 0]) 2 16 Try.underlying60 end_info rfl (by decide) lo wr.heap.size (vs v).1 (rowOf (wireT K0 d E v (2 * i)) v).length (vs v).2 _ rfl hrow1 ⟨wr.heap.size, 0, none⟩ 2 2 [.int .i64 (x0 : Int), .int .i64 (2 * (i : Int) + 1), .int .i64 (y0 : Int), .int .i64 (2 * (i : Int))] rfl rfl hnews (by simp [Value.oneCell']) (by decide) (by unfold maxLen; omega) (by omega) (by simp; omega) ?_
            intro g' cap' w2 own2 hgr hbg _
            obtain ⟨hbx2, hc2, hf2, vt, hE', hbx', hfr', hrb'⟩ := addP2_mem hbx hE hv1 hw1 hlo hgr own2 hbg
            have hS2 := hbx2.cell 0 _ rfl
            have hS3 := hbx'.cell 0 _ rfl
            refine hK.out _ _ hS2 (fun hHeld => ?_)
            clear hK K
            try simp only [Act.put, List.getElem_toArray, List.getElem_cons_zero, List.getElem_cons_succ, List.setIfInBounds_toArray, List.set_cons_zero, List.set_cons_succ]
            refine wpAnyH_take (i := 29) (v := ?_) rfl (by kernel_rfl) (by kernel_rfl) (by kernel_rfl) (fun _ _ _ h => h) (Or.inl ⟨by rfl, ?_⟩) (by assumption) ?_
            rotate_left
            · (intro w hSw; (try dsimp only at hSw); go_simp; try with_reducible rfl)
            try simp only [Act.put, List.getElem_toArray, List.getElem_cons_zero, List.getElem_cons_succ, List.setIfInBounds_toArray, List.set_cons_zero, List.set_cons_succ]
            refine wpAnyH_ready (rs := [30]) (by kernel_rfl) (by simp) ?_
            refine AllReadyH.cons (o := _) rfl (fun K hK => ?_) AllReadyH.nil
            go_simp
            refine hK.out _ _ (hS3) (fun hHeld => ?_)
            clear hK K
            try simp only [Act.put, List.getElem_toArray, List.getElem_cons_zero, List.getElem_cons_succ, List.setIfInBounds_toArray, List.set_cons_zero, List.set_cons_succ]
            refine wpAnyH_done (by kernel_rfl) ?_ _
            clear hHeld hS2 hS3 hc2 hf2 hbx2 own2 hgr hbg
            rotate_left
            all_goals
              clear hS0 hS1 hw1 hrow1 hnews hcv hbx hE
              generalize hWW : World.setCell w2 _ _ = w4 at hE' hbx' hfr' ⊢
              clear hWW
              replace hE' := RowsAt.top hE'
              obtain ⟨hE, hbx, hfr, hrb⟩ := (⟨hE', hbx', hfr', hrb'⟩ : _ ∧ _ ∧ _ ∧ _)
              clear hE' hbx' hfr' hrb'
              replace owni := Ow.top (Ow.frB owni hfr HNI.out)
              replace ownp := Ow.top (Ow.frB ownp hfr HNP.out)
              replace BR := BR.fr hfr (fun h => by have := HIN.out _ h; omega)
              replace bb := bb.trans (hfr.below (B := w.heap.size) (fun x h1 h2 hc => by have := HIN.out _ hc; omega) bb.size)
              have z6' := hfr.size
              clear hfr hrb HNI HNP HIN
              rw [HLO.out] at hE owni ownp
              rw [HNK.out] at hbx
              have hEn := HXY.out
              rw [show (wireT K0 d E v (2 * i)).set v (rowOf (wireT K0 d E v (2 * i)) v ++ [((x0 : Int), 2 * (i : Int) + 1), ((y0 : Int), 2 * (i : Int))]) = wireT K0 d E v (2 * (i + 1)) by rw [show 2 * (i + 1) = 2 * i + 2 by omega, ← hWA2.out, ← hEn.1, ← hEn.2]; rfl] at hE
              have hNB5 : NBx w4 (w.heap.size + 1) b (tN K0 d E v (2 * (i + 1))) := ⟨_, c, vt, ai, ci, ap, cp, by rw [show (tN K0 d E v (2 * (i + 1))).ends.length = K0 from wireT_length ..]; exact hbx, hE, owni, ownp, hdis⟩
              clear hEn
              go_wp2_with fail
              go_roundw
              case rel => exact ⟨i + 1, by omega, by go_num, hNB5, BR, bb, by omega⟩
              case measure => simp [intOf]; omega
          · have HID := Lib.hid (show 2 * i = d by omega)
            rw [HID.out] at hNB
            go_wp2_with fail
            go_roundw
            case rel => exact ⟨v + 1, by omega, by go_num, by unfold tN; rw [← wireT_next]; exact hNB, BR, bb, zlo⟩
            case measure => simp [intOf]; omega
      · have HVK := Lib.hid (show v = K0 by omega)
        rw [HVK.out] at hNB
        have HTN := Lib.hid (show tN K0 d E K0 0 = wireN K0 d E by unfold tN wireN; rw [wireT_all])
        rw [HTN.out] at hNB
        have HNN := Lib.hid (show wireN K0 d E = wireN (kn) ((2 * st.length)) ((cirE kn st)) by rw [HKK.out, HDD.out, HEE.out])
        clear HTN
        generalize wireN K0 d E = Nk at *
        obtain ⟨ax, cx, vx, aix, cix, apx, cpx, BO, hE, owni, ownp, hdis⟩ := hNB
        have q0 := BO.cell 0 _ rfl
        have q1 := BO.cell 1 _ rfl
        have q2 := BO.cell 2 _ rfl
        have e0 := BR.cell 0 _ rfl
        have e1 := BR.cell 1 _ rfl
        have e2 := BR.cell 2 _ rfl
        have f0 := BR.frozen 0
        have f1 := BR.frozen 1
        have f2 := BR.frozen 2
        go_wp2_with fail
        clear q0 q1 q2 e0 e1 e2 f0 f1 f2
        generalize hW : World.setCell _ _ _ = W
        have B6 : Bx W (w.heap.size) 25 #[.slice ax Nk.ends.length cx, .slice aix Nk.ids.length cix, .slice apx Nk.inputs.length cpx] := by rw [← hW]; exact ((BR.set 0 _).set 1 _).set 2 _
        have fr6 : Fr (fun k => k = w.heap.size) wr W := by rw [← hW]; exact fr3 _ _ _ _ _
        clear hW
        have z6 := fr6.size
        have d0 := B6.cell 0 _ rfl
        have d1 := B6.cell 1 _ rfl
        have d2 := B6.cell 2 _ rfl
        refine bodyPost_ret (v := .tuple #[.agg #[.slice ax Nk.ends.length cx, .slice aix Nk.ids.length cix, .slice apx Nk.inputs.length cpx], .bool true]) (by simp [results, Try.results15, go_sem, d0, d1, d2]) rfl ?_
        rw [HOK.out, HG.out, ← HNN.out]
        exact ⟨_, rfl, ⟨ax, cx, vx, aix, cix, apx, cpx, rfl, RowsAt.wide (RowsAt.fr hE fr6 (fun k h1 h2 hc => by omega)) (by omega) (by omega), Ow.wide (Ow.fr owni fr6 (fun k h1 h2 hc => by omega)) (by omega) (by omega), Ow.wide (Ow.fr ownp fr6 (fun k h1 h2 hc => by omega)) (by omega) (by omega), hdis⟩, bb.trans (fr6.below (fun k h1 h2 hc => by omega) bb.size)⟩
theorem ciR_sm {k : Int} {st : List Int} : NetSmall (ciR k st) := ifN_small fun h => by
  unfold ciB at h
  simp only [Bool.and_eq_true] at h
  have h1 := inR_iff.1 h.1.1
  have h2 := of_decide_eq_true h.1.2
  have h5 := tN_small (v := k.toNat) (i := 0) (E := cirE k.toNat st) (show k.toNat ≤ 40 by omega) h2 (Nat.zero_le _)
  have h6 : tN k.toNat (2 * st.length) (cirE k.toNat st) k.toNat 0 = wireN k.toNat (2 * st.length) (cirE k.toNat st) := by unfold tN wireN; rw [wireT_all]
  rwa [h6] at h5
end Go.Proofs.Ytabpimhkjgojhaa
