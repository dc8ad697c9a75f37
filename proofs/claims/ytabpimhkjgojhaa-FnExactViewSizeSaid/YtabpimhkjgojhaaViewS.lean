/- ViewSize: spec's walk. -/
import Derived.Test.YtabpimhkjgojhaaView
namespace Go.Proofs.Ytabpimhkjgojhaa
open Go.RowKit
set_option linter.unusedVariables false
set_option linter.unusedSimpArgs false
theorem viDepth_any (t : Int) (w : World) : Calls Try.prog 96 #[.int .i64 t] w fun e w' => e = .returned (.bool (inR t 0 80)) ∧ w' = w := by
  go_enter Try.func96, Try.ntmps96
  go_wp2_with (go_at_call 48; refine (l1In_any _ _ _ _).mono ?_; rintro e w' ⟨rfl, rfl⟩)
  go_ret
  exact ⟨rfl, rfl⟩
theorem l1Least_any (a b : Int) (w : World) : Calls Try.prog 97 #[.int .i64 a, .int .i64 b] w fun e w' => e = .returned (.int .i64 (min a b)) ∧ w' = w := by
  by_cases h : a < b
  · go_enter Try.func97, Try.ntmps97
    go_wp2_with fail
    go_ret
    exact ⟨ret_int (by omega), rfl⟩
  · go_enter Try.func97, Try.ntmps97
    go_wp2_with fail
    go_ret
    exact ⟨ret_int (by omega), rfl⟩
theorem wrapV (n : Int) (h : -9223372036854775808 ≤ n ∧ n ≤ 9223372036854775807) : IntKind.i64.wrap n = n := by
  simp [IntKind.wrap, IntKind.bits, IntKind.signed]
  omega
/-- what stands at a node when j ends have been added -/
def vsP (am : List Int) (es : List (Int × Int)) (j : Nat) : Int := vsCap (1 + vsSum am es j)
def vsL (rows : Rows2) (am : List Int) (k j : Nat) : List Int := (upF (vsF rows am) rows.length k).set k (vsP am (rowOf rows k) j)
theorem vsL_length (rows : Rows2) (am : List Int) (k j : Nat) : (vsL rows am k j).length = rows.length := by rw [vsL, List.length_set, upF_length]
theorem vsL_set (rows : Rows2) (am : List Int) (k j i : Nat) : (vsL rows am k j).set k (vsP am (rowOf rows k) i) = vsL rows am k i := by unfold vsL; rw [List.set_set]
theorem vsL_all (rows : Rows2) (am : List Int) (k : Nat) (h : k < rows.length) : vsL rows am k (rowOf rows k).length = upF (vsF rows am) rows.length (k + 1) := upF_set _ _ _ h
theorem vsL_at (rows : Rows2) (am : List Int) (k j : Nat) (h : k < rows.length) : nth (vsL rows am k j) k = vsP am (rowOf rows k) j := by unfold vsL; rw [nth_set _ _ _ _ (by rw [upF_length]; exact h), if_pos rfl]
theorem vsP_step (am : List Int) (h : vsB am) (es : List (Int × Int)) (j : Nat) : min (vsP am es j + nth am (nthE es j).1.toNat) 1000001 = vsP am es (j + 1) := by
  have h1 := (h (nthE es j).1.toNat).1
  unfold vsP
  rw [vsSum]
  unfold vsCap
  omega
theorem vsP_zero (am : List Int) (es : List (Int × Int)) : vsP am es 0 = 1 := by unfold vsP vsCap; rw [vsSum]; omega
theorem vsP_bd (am : List Int) (h : vsB am) (es : List (Int × Int)) (j : Nat) : 0 ≤ vsP am es j ∧ vsP am es j ≤ 1000001 := vsCap_bd (by have := (vsSum_bd h es j).1; omega)
set_option maxRecDepth 100000 in
set_option maxHeartbeats 1600000 in
theorem viewSizeS_any (V : Value) (N : Net) (v t : Int) (w : World) (B : Nat) (hv : NetIn w B V N) (hB : B ≤ w.heap.size) (hs : NetSmall N) :
    Calls Try.prog 41 #[V, .int .i64 v, .int .i64 t] w (PostV (vzR N v t) (vzOk N v t) w) := by
  have HV := Lib.hid hv
  have HS := Lib.hid hs
  obtain ⟨a, c, vs, ai, ci, ap, cp, rfl, h1, h2, h3, _⟩ := hv
  have hl : N.ends.length ≤ 1048576 := by unfold NetSmall at hs; omega
  have BA := Bx.made w 25 #[.slice a N.ends.length c, .slice ai N.ids.length ci, .slice ap N.inputs.length cp]
  have b0 : Below w.heap.size w (w.alloc (.cells #[.slice a N.ends.length c, .slice ai N.ids.length ci, .slice ap N.inputs.length cp] 25)) := (by repeat (first | exact Below.refl _ _ | assumption | refine Below.alloc ?_ (by first | (simp; done) | (simp; omega) | omega) _ | refine Below.setCell ?_ (by first | (simp; done) | (simp; omega) | omega) _ | refine Below.drew ?_ | refine Below.drewN ?_ _))
  clear hs h1 h2 h3
  go_enter Try.func41, Try.ntmps41
  go_wp2_with fail
  generalize w.alloc (.cells #[.slice a N.ends.length c, .slice ai N.ids.length ci, .slice ap N.inputs.length cp] 25) = w0 at *
  refine (neNode_any _ N _ _ B (HV.out.below (b0.mono hB)) (Nat.le_trans hB b0.size) HS.out).mono ?_
  rintro e w1 ⟨rfl, bel1⟩
  replace BA := BA.new bel1
  have bb := b0.trans (bel1.mono b0.size)
  clear b0 bel1
  cases hn : ndB N v with
  | false =>
    have HF := Lib.hid (show vzP N v t = false by rw [vzP]; rw [ndB] at hn; rw [hn]; rfl)
    clear hn
    go_wp2_with fail
    refine bodyPost_ret (v := .tuple #[.int .i64 0, .bool false]) (by simp [results, Try.results41, go_sem]) rfl ?_
    exact ⟨by rw [vzR_f (vzOk_f HF.out), vzOk_f HF.out], bb⟩
  | true =>
    have hnb : netB N = true ∧ hasN N.ends v = true := by rw [ndB, Bool.and_eq_true] at hn; exact hn
    have HN := Lib.hid hnb.1
    have HND := Lib.hid hn
    obtain ⟨vn, rfl, hvn⟩ := hasN_nat hnb.2
    clear hn hnb
    go_wp2_with fail
    refine (viDepth_any t w1).mono ?_
    rintro e w3 ⟨rfl, hww⟩
    subst w3
    cases ht : inR t 0 80 with
    | false =>
      have HF := Lib.hid (vzP_f2 (N := N) (v := (vn : Int)) ht)
      clear ht
      go_wp2_with fail
      refine bodyPost_ret (v := .tuple #[.int .i64 0, .bool false]) (by simp [results, Try.results41, go_sem]) rfl ?_
      exact ⟨by rw [vzR_f (vzOk_f HF.out), vzOk_f HF.out], bb⟩
    | true =>
      have HP := Lib.hid (show vzP N (vn : Int) t = true by rw [vzP, ht]; have := HND.out; rw [ndB] at this; rw [this]; rfl)
      have ht2 := inR_iff.1 ht
      obtain ⟨tn, rfl⟩ := Int.eq_ofNat_of_zero_le ht2.1
      have htn : tn ≤ 80 := by omega
      clear ht ht2
      obtain ⟨a9, c9, vs9, ai9, ci9, ap9, cp9, he9, h1, _⟩ := HV.out
      simp only [Value.agg.injEq, Array.mk.injEq, List.cons.injEq, Value.slice.injEq, true_and, and_true] at he9
      obtain ⟨⟨rfl, rfl⟩, ⟨rfl, rfl⟩, rfl, rfl⟩ := he9
      have hle : N.ends.length ≤ 40 := (netB_small HN.out).1
      have hle1 : 1 ≤ N.ends.length := (netB_small HN.out).2.1
      have HVL := Lib.hid (fun k => vsT_length N.ends k)
      obtain ⟨g0, off0, rfl, hg0, hc0⟩ := h1.1 (by omega)
      have HC0 := Lib.hid hc0
      have HR0 := Lib.hid h1.2
      clear h1 hc0
      have q0 := BA.cell 0 _ rfl
      have zA := BA.lt
      obtain ⟨d0, hd0⟩ : ∃ d, d = w1.heap.size := ⟨_, rfl⟩
      have HD := Lib.hid hd0
      have zd : w.heap.size < d0 := by omega
      clear hd0
      go_wp2_with (at_make; refine wpList_mk _ rfl _ _ _ rfl 3 (.int .i64 0) 8 Try.underlying22 int_info rfl .i64 .i64 _ _ N.ends.length rfl rfl rfl rfl (by omega) (by omega) ?_; intro w2 hrow hsz hbel; rw [← HD.out] at hrow hbel hsz ⊢)
      have hown : OwI w2 w.heap.size w2.heap.size (some ⟨d0, 0, none⟩) N.ends.length (upF (fun _ => 1) N.ends.length 0) := by rw [upF_zero]; exact OwI.zeros hrow (by omega) (by omega) (by unfold maxLen; omega)
      have hbel' : Below w1.heap.size w1 w2 := by rw [HD.out] at hbel; exact hbel
      have bel1 := bb.trans (hbel'.mono bb.size)
      have BA1 := BA.new hbel'
      clear q0 hrow hsz hbel BA bb zA hbel'
      go_loopw [30] (fun iv wr => ∃ k : Nat, k ≤ N.ends.length ∧ iv = .int .i64 k ∧ OwI wr w.heap.size wr.heap.size (some ⟨d0, 0, none⟩) N.ends.length (upF (fun _ => 1) N.ends.length k) ∧ Bx wr w.heap.size 25 #[.slice (some ⟨g0, off0, none⟩) N.ends.length c, .slice ai N.ids.length ci, .slice ap N.inputs.length cp] ∧ Below w.heap.size w wr) (fun iv _ => N.ends.length - (intOf iv).toNat)
      case atStart => exact ⟨0, Nat.zero_le _, rfl, hown, BA1, bel1⟩
      case round =>
        clear hown BA1 bel1
        obtain ⟨k, hk, rfl, hown, BA, bel⟩ := hrel
        by_cases hlt : k < N.ends.length
        · obtain ⟨g9, hg9, _, _, _, hc, hf⟩ := OwI.at hown (by rw [upF_length]; exact hlt)
          obtain rfl : d0 = g9 := by injection hg9 with h; injection h
          have hput := OwI.put 1 hown (by rw [upF_length]; exact hlt)
          rw [upF_set (fun _ => 1) _ _ hlt] at hput
          clear hg9
          go_wp2_with fail
          have hfr := fr_set wr d0 k (.int .i64 1)
          go_roundw
          case rel => exact ⟨k + 1, by omega, by go_num, Ow.wide hput (Nat.le_refl _) (by rw [size_set]; exact Nat.le_refl _), BA.fr hfr (by omega), bel.trans (hfr.below (B := w.heap.size) (fun x h1 h2 hc => by omega) bel.size)⟩
          case measure => simp [intOf]; omega
        · have HKE := Lib.hid (show k = N.ends.length by omega)
          rw [HKE.out] at hown
          have hown0 : OwI wr w.heap.size wr.heap.size (some ⟨d0, 0, none⟩) N.ends.length (vsT N.ends 0) := hown
          clear hown
          go_wp2_with fail
          go_loopw [2, 8] (fun iv av wr => ∃ k : Nat, k ≤ tn ∧ iv = .int .i64 (tn - k : Nat) ∧ (∃ g, av = .slice (some ⟨g, 0, none⟩) N.ends.length N.ends.length ∧ OwI wr w.heap.size wr.heap.size (some ⟨g, 0, none⟩) N.ends.length (vsT N.ends k)) ∧ Bx wr w.heap.size 25 #[.slice (some ⟨g0, off0, none⟩) N.ends.length c, .slice ai N.ids.length ci, .slice ap N.inputs.length cp] ∧ Below w.heap.size w wr) (fun iv _ _ => (intOf iv).toNat)
          case atStart => exact ⟨0, Nat.zero_le _, by rw [Nat.sub_zero], ⟨d0, rfl, hown0⟩, BA, bel⟩
          case round =>
            clear hown0 BA bel
            obtain ⟨s, hs, rfl, ⟨g, rfl, hown⟩, BA, bel⟩ := hrel
            obtain ⟨tr, htr⟩ : ∃ tr, tr = tn - s := ⟨_, rfl⟩
            have HTR := Lib.hid htr
            have htr1 : tr ≤ 80 := by omega
            rw [← htr]
            by_cases hst : 0 < tr
            · have hs2 : s + 1 ≤ tn := by omega
              have hgt : (0 : Int) < (tr : Int) := by omega
              clear htr
              have q0 := BA.cell 0 _ rfl
              obtain ⟨d1, hd1⟩ : ∃ d, d = wr.heap.size := ⟨_, rfl⟩
              have HD1 := Lib.hid hd1
              have zd1 : d1 ≤ wr.heap.size := by omega
              have zd2 : wr.heap.size ≤ d1 := by omega
              have zw := bel.size
              have zA := BA.lt
              clear hd1
              go_upto_region 12 with (at_make; refine wpList_mk _ rfl _ _ _ rfl 3 (.int .i64 0) 8 Try.underlying22 int_info rfl .i64 .i64 _ _ N.ends.length rfl rfl rfl rfl (by omega) (by omega) ?_; intro w4 hrow hsz hbel; rw [← HD1.out] at hrow hbel hsz ⊢)
              have hnew : OwI w4 d1 w4.heap.size (some ⟨d1, 0, none⟩) N.ends.length (upF (vsF N.ends (vsT N.ends s)) N.ends.length 0) := by rw [upF_zero]; exact OwI.zeros hrow (by omega) (by omega) (by unfold maxLen; omega)
              have hbel' : Below wr.heap.size wr w4 := by rw [HD1.out] at hbel; exact hbel
              have bel1 := bel.trans (hbel'.mono bel.size)
              have BA1 := BA.new hbel'
              have hown1 := Ow.new hown hbel'
              have hgl : g < d1 := by have := Ow.addr hown (by rw [HVL.out]; omega); obtain ⟨g9, h9, h8, _⟩ := this; injection h9 with h9; injection h9 with h9; omega
              have q1 := BA1.cell 0 _ rfl
              clear q0 hrow hsz hbel BA hbel' bel hown
              go_wp2_with fail
              clear q1
              have zA1 := BA1.lt
              have z11 := bel1.size
              have zdw : d1 < w4.heap.size := by obtain ⟨_, h9, h8, _⟩ := Ow.addr hnew (by rw [upF_length]; omega); injection h9 with h9; injection h9 with h9; omega
              go_loopw [48] (fun iv wr => ∃ k : Nat, k ≤ N.ends.length ∧ iv = .int .i64 k ∧ OwI wr d1 wr.heap.size (some ⟨d1, 0, none⟩) N.ends.length (upF (vsF N.ends (vsT N.ends s)) N.ends.length k) ∧ OwI wr w.heap.size d1 (some ⟨g, 0, none⟩) N.ends.length (vsT N.ends s) ∧ Bx wr w.heap.size 25 #[.slice (some ⟨g0, off0, none⟩) N.ends.length c, .slice ai N.ids.length ci, .slice ap N.inputs.length cp] ∧ Below w.heap.size w wr ∧ d1 < wr.heap.size) (fun iv _ => N.ends.length - (intOf iv).toNat)
              case atStart => exact ⟨0, Nat.zero_le _, rfl, hnew, Ow.wide hown1 (Nat.le_refl _) zd2, BA1, bel1, zdw⟩
              case round =>
                clear hnew hown1 BA1 bel1 zdw
                obtain ⟨k, hk, rfl, hnew, hown, BA, bel, zdw⟩ := hrel
                by_cases hlt : k < N.ends.length
                · have zw2 := bel.size
                  have hc1 := (bel.cell (p := ⟨g0, off0 + k, none⟩) (by show g0 < _; omega)).trans (HC0.out k hlt)
                  have hrow := HR0.out k hlt
                  have hL1 := net_row HN.out hlt
                  have HBK := Lib.hid (fun j (hj : j < (rowOf N.ends k).length) => net_back HN.out hlt hj)
                  have HALL := Lib.hid (vsL_all N.ends (vsT N.ends s) k hlt)
                  have HSET := Lib.hid (fun j i => vsL_set N.ends (vsT N.ends s) k j i)
                  have HAT := Lib.hid (fun j => vsL_at N.ends (vsT N.ends s) k j hlt)
                  have HSTP := Lib.hid (fun j => vsP_step (vsT N.ends s) (vsT_bd N.ends s) (rowOf N.ends k) j)
                  have HBD := Lib.hid (fun j => vsP_bd (vsT N.ends s) (vsT_bd N.ends s) (rowOf N.ends k) j)
                  have HLL := Lib.hid (fun j => vsL_length N.ends (vsT N.ends s) k j)
                  have HL0 := Lib.hid (show (upF (vsF N.ends (vsT N.ends s)) N.ends.length k).set k 1 = vsL N.ends (vsT N.ends s) k 0 by unfold vsL; rw [vsP_zero])
                  obtain ⟨g9, h9, _, _, _, hc, hf⟩ := OwI.at hnew (by rw [upF_length]; exact hlt)
                  obtain rfl : d1 = g9 := by injection h9 with h; injection h
                  have hput := OwI.put 1 hnew (by rw [upF_length]; exact hlt)
                  rw [HL0.out] at hput
                  have hfr := fr_set wr d1 k (.int .i64 1)
                  generalize (vs9 k).1 = ax at *
                  generalize (vs9 k).2 = cx at *
                  generalize hes : rowOf N.ends k = es at *
                  clear hes h9
                  go_upto_region 16 with fail
                  clear hc1 hc hf
                  replace hnew : OwI (wr.setCell ⟨d1, k, none⟩ (.int .i64 1)) d1 (wr.setCell ⟨d1, k, none⟩ (.int .i64 1)).heap.size (some ⟨d1, 0, none⟩) N.ends.length (vsL N.ends (vsT N.ends s) k 0) := Ow.wide hput (Nat.le_refl _) (by rw [size_set]; exact Nat.le_refl _)
                  replace hown := Ow.fr hown hfr (fun x h1 h2 hc => by omega)
                  replace BA := BA.fr hfr (by omega)
                  replace bel := bel.trans (hfr.below (B := w.heap.size) (fun x h1 h2 hc => by omega) bel.size)
                  replace zdw := Nat.lt_of_lt_of_le zdw hfr.size
                  clear hput hfr
                  generalize wr.setCell ⟨d1, k, none⟩ (.int .i64 1) = wk at *
                  go_wp2_with fail
                  go_loopw [58] (fun iv wr => ∃ j : Nat, j ≤ es.length ∧ iv = .int .i64 j ∧ OwI wr d1 wr.heap.size (some ⟨d1, 0, none⟩) N.ends.length (vsL N.ends (vsT N.ends s) k j) ∧ OwI wr w.heap.size d1 (some ⟨g, 0, none⟩) N.ends.length (vsT N.ends s) ∧ Bx wr w.heap.size 25 #[.slice (some ⟨g0, off0, none⟩) N.ends.length c, .slice ai N.ids.length ci, .slice ap N.inputs.length cp] ∧ Below w.heap.size w wr ∧ d1 < wr.heap.size) (fun iv _ => es.length - (intOf iv).toNat)
                  case atStart => exact ⟨0, Nat.zero_le _, rfl, hnew, hown, BA, bel, zdw⟩
                  case round =>
                    clear hnew hown BA bel zdw
                    obtain ⟨j, hj, rfl, hnew, hown, BA, bel, zdw⟩ := hrel
                    by_cases hjl : j < es.length
                    · have zw3 := bel.size
                      obtain ⟨p, q, hpq, hp, hq, _⟩ := HBK.out j hjl
                      obtain ⟨g1, off1, rfl, _, e1, e2⟩ := RdE.at (RdE.below hrow (bel.mono hB)) hjl
                      obtain ⟨g8, h8, _, _, _, hcg, _⟩ := OwI.at hown (i := p) (by rw [HVL.out]; exact hp)
                      obtain rfl : g = g8 := by injection h8 with h; injection h
                      obtain ⟨g9, h9, _, _, _, hcn, hfn⟩ := OwI.at hnew (i := k) (by rw [HLL.out]; exact hlt)
                      obtain rfl : d1 = g9 := by injection h9 with h; injection h
                      rw [HAT.out] at hcn
                      have hput := OwI.put (vsP (vsT N.ends s) es (j + 1)) hnew (by rw [HLL.out]; exact hlt)
                      have HSJ0 := Lib.hid (HSET.out j (j + 1))
                      clear hput
                      have hb2 := vsT_bd N.ends s p
                      have hb1 := HBD.out j
                      have HSP := Lib.hid (show min (vsP (vsT N.ends s) es j + nth (vsT N.ends s) p) 1000001 = vsP (vsT N.ends s) es (j + 1) by have := HSTP.out j; rw [hpq] at this; exact this)
                      rw [hpq] at e1 e2
                      have BE := Bx.made wr 62 #[.int .i64 (p : Int), .int .i64 (q : Int)]
                      have bE : Below wr.heap.size wr (wr.alloc (.cells #[.int .i64 (p : Int), .int .i64 (q : Int)] 62)) := (by repeat (first | exact Below.refl _ _ | assumption | refine Below.alloc ?_ (by first | (simp; done) | (simp; omega) | omega) _ | refine Below.setCell ?_ (by first | (simp; done) | (simp; omega) | omega) _ | refine Below.drew ?_ | refine Below.drewN ?_ _))
                      have hcg' := (bE.cell (p := ⟨g, p, none⟩) (World.block_lt_of_cell? wr _ hcg)).trans hcg
                      have hcn' := (bE.cell (p := ⟨d1, k, none⟩) (World.block_lt_of_cell? wr _ hcn)).trans hcn
                      clear hpq h9 h8
                      have HSJ1 : Hid ((vsL N.ends (vsT N.ends s) k j).set k (vsP (vsT N.ends s) es (j + 1)) = vsL N.ends (vsT N.ends s) k (j + 1)) := HSJ0
                      clear HSJ0
                      generalize vsP (vsT N.ends s) es j = pj at *
                      generalize vsP (vsT N.ends s) es (j + 1) = pj1 at *
                      generalize nth (vsT N.ends s) p = apv at *
                      go_upto_region 19 with fail
                      clear e1 e2 hcg hcn
                      have zE := BE.lt
                      have zwr := bE.size
                      generalize wr.alloc (.cells #[.int .i64 (p : Int), .int .i64 (q : Int)] 62) = wy at *
                      have hS0 : wy.drew.cell? ⟨wr.heap.size, 0, none⟩ = some (.int .i64 (p : Int)) ∧ wy.drew.cell? ⟨g, p, none⟩ = some (.int .i64 apv) := ⟨BE.cell 0 _ rfl, hcg'⟩
                      have hcnd : wy.drew.cell? ⟨d1, k, none⟩ = some (.int .i64 pj) := hcn'
                      have hwr1 : IntKind.i64.wrap (pj + apv) = pj + apv := wrapV _ (by omega)
                      refine wp_region_held_drew (S := fun X => X.cell? ⟨wr.heap.size, 0, none⟩ = some (.int .i64 (p : Int)) ∧ X.cell? ⟨g, p, none⟩ = some (.int .i64 apv)) (by kernel_rfl) hS0 (fun hHeld => ?_)
                      have bEd := bE.drew
                      have hputd := Ow.new hnew bEd
                      have hownd := Ow.new hown bEd
                      have BAd := BA.new bEd
                      have beld := bel.trans (bEd.mono bel.size)
                      have zdd : d1 < wy.drew.heap.size := Nat.lt_of_lt_of_le zdw bEd.size
                      have BEd : Bx wy.drew wr.heap.size 62 #[.int .i64 (p : Int), .int .i64 (q : Int)] := BE
                      clear hcg' hcn' BE bE
                      generalize wy.drew = wd at *
                      refine wpAnyH_take (i := 0) (v := ?_) rfl (by kernel_rfl) (by kernel_rfl) (by kernel_rfl) (fun _ _ _ h => h) (Or.inl ⟨by rfl, ?_⟩) (by assumption) ?_
                      rotate_left
                      · (intro w hSw; (try dsimp only at hSw); go_simp; try with_reducible rfl)
                      try simp only [Act.put, List.getElem_toArray, List.getElem_cons_zero, List.getElem_cons_succ, List.setIfInBounds_toArray, List.set_cons_zero, List.set_cons_succ]
                      refine wpAnyH_take (i := 1) (v := ?_) rfl (by kernel_rfl) (by kernel_rfl) (by kernel_rfl) (fun _ _ _ h => h) (Or.inl ⟨by rfl, ?_⟩) (by assumption) ?_
                      rotate_left
                      · (intro w hSw; (try dsimp only at hSw); go_simp; try with_reducible rfl)
                      try simp only [Act.put, List.getElem_toArray, List.getElem_cons_zero, List.getElem_cons_succ, List.setIfInBounds_toArray, List.set_cons_zero, List.set_cons_succ]
                      refine wpAnyH_take (i := 2) (v := ?_) rfl (by kernel_rfl) (by kernel_rfl) (by kernel_rfl) (fun _ _ _ h => h) (Or.inl ⟨by rfl, ?_⟩) (by assumption) ?_
                      rotate_left
                      · (intro w hSw; (try dsimp only at hSw); go_simp; try with_reducible rfl)
                      try simp only [Act.put, List.getElem_toArray, List.getElem_cons_zero, List.getElem_cons_succ, List.setIfInBounds_toArray, List.set_cons_zero, List.set_cons_succ]
                      refine wpAnyH_take (i := 3) (v := ?_) rfl (by kernel_rfl) (by kernel_rfl) (by kernel_rfl) (fun _ _ _ h => h) (Or.inl ⟨by rfl, ?_⟩) (by assumption) ?_
                      rotate_left
                      · (intro w hSw; (try dsimp only at hSw); go_simp; try with_reducible rfl)
                      try simp only [Act.put, List.getElem_toArray, List.getElem_cons_zero, List.getElem_cons_succ, List.setIfInBounds_toArray, List.set_cons_zero, List.set_cons_succ]
                      refine wpAnyH_take (i := 4) (v := ?_) rfl (by kernel_rfl) (by kernel_rfl) (by kernel_rfl) (fun _ _ _ h => h) (Or.inl ⟨by rfl, ?_⟩) (by assumption) ?_
                      rotate_left
                      · (intro w hSw; (try dsimp only at hSw); go_simp; try with_reducible rfl)
                      try simp only [Act.put, List.getElem_toArray, List.getElem_cons_zero, List.getElem_cons_succ, List.setIfInBounds_toArray, List.set_cons_zero, List.set_cons_succ]
                      refine wpAnyH_take (i := 6) (v := ?_) rfl (by kernel_rfl) (by kernel_rfl) (by kernel_rfl) (fun _ _ _ h => h) (Or.inl ⟨by rfl, ?_⟩) (by assumption) ?_
                      rotate_left
                      · (intro w hSw; (try dsimp only at hSw); go_simp; try with_reducible rfl)
                      try simp only [Act.put, List.getElem_toArray, List.getElem_cons_zero, List.getElem_cons_succ, List.setIfInBounds_toArray, List.set_cons_zero, List.set_cons_succ]
                      refine wpAnyH_take (i := 7) (v := ?_) rfl (by kernel_rfl) (by kernel_rfl) (by kernel_rfl) (fun _ _ _ h => h) (Or.inl ⟨by rfl, ?_⟩) (by assumption) ?_
                      rotate_left
                      · (intro w hSw; (try dsimp only at hSw); go_simp; try with_reducible rfl)
                      try simp only [Act.put, List.getElem_toArray, List.getElem_cons_zero, List.getElem_cons_succ, List.setIfInBounds_toArray, List.set_cons_zero, List.set_cons_succ]
                      refine wpAnyH_take (i := 8) (v := ?_) rfl (by kernel_rfl) (by kernel_rfl) (by kernel_rfl) (fun _ _ _ h => h) (Or.inl ⟨by rfl, ?_⟩) (by assumption) ?_
                      rotate_left
                      · (intro w hSw; (try dsimp only at hSw); go_simp; try with_reducible rfl)
                      try simp only [Act.put, List.getElem_toArray, List.getElem_cons_zero, List.getElem_cons_succ, List.setIfInBounds_toArray, List.set_cons_zero, List.set_cons_succ]
                      refine wpAnyH_take (i := 9) (v := ?_) rfl (by kernel_rfl) (by kernel_rfl) (by kernel_rfl) (fun _ _ _ h => h) (Or.inl ⟨by rfl, ?_⟩) (by assumption) ?_
                      rotate_left
                      · (intro w hSw; (try dsimp only at hSw); go_simp; try with_reducible rfl)
                      try simp only [Act.put, List.getElem_toArray, List.getElem_cons_zero, List.getElem_cons_succ, List.setIfInBounds_toArray, List.set_cons_zero, List.set_cons_succ]
                      refine wpAnyH_take (i := 10) (v := ?_) rfl (by kernel_rfl) (by kernel_rfl) (by kernel_rfl) (fun _ _ _ h => h) (Or.inl ⟨by rfl, ?_⟩) (by assumption) ?_
                      rotate_left
                      · (intro w hSw; (try dsimp only at hSw); go_simp; try with_reducible rfl)
                      try simp only [Act.put, List.getElem_toArray, List.getElem_cons_zero, List.getElem_cons_succ, List.setIfInBounds_toArray, List.set_cons_zero, List.set_cons_succ]
                      refine wpAnyH_ready (rs := [5]) (by kernel_rfl) (by simp) ?_
                      refine AllReadyH.cons (o := _) rfl (fun K hK => ?_) AllReadyH.nil
                      go_simp
                      refine hK.out _ _ (hS0) (fun hHeld => ?_)
                      clear hK K
                      try simp only [Act.put, List.getElem_toArray, List.getElem_cons_zero, List.getElem_cons_succ, List.setIfInBounds_toArray, List.set_cons_zero, List.set_cons_succ]
                      refine wpAnyH_take (i := 11) (v := ?_) rfl (by kernel_rfl) (by kernel_rfl) (by kernel_rfl) (fun _ _ _ h => h) (Or.inl ⟨by rfl, ?_⟩) (by assumption) ?_
                      rotate_left
                      · (intro w hSw; (try dsimp only at hSw); go_simp; try with_reducible rfl)
                      try simp only [Act.put, List.getElem_toArray, List.getElem_cons_zero, List.getElem_cons_succ, List.setIfInBounds_toArray, List.set_cons_zero, List.set_cons_succ]
                      refine wpAnyH_ready (rs := [12]) (by kernel_rfl) (by simp) ?_
                      refine AllReadyH.cons (o := _) rfl (fun K hK => ?_) AllReadyH.nil
                      go_simp
                      refine (l1Least_any _ _ _).mono ?_
                      rintro e w9 ⟨rfl, hww⟩
                      subst w9
                      rw [HSP.out]
                      refine hK.out _ _ (hS0) (fun hHeld => ?_)
                      clear hK K
                      try simp only [Act.put, List.getElem_toArray, List.getElem_cons_zero, List.getElem_cons_succ, List.setIfInBounds_toArray, List.set_cons_zero, List.set_cons_succ]
                      refine wpAnyH_take (i := 13) (v := ?_) rfl (by kernel_rfl) (by kernel_rfl) (by kernel_rfl) (fun _ _ _ h => h) (Or.inl ⟨by rfl, ?_⟩) (by assumption) ?_
                      rotate_left
                      · (intro w hSw; (try dsimp only at hSw); go_simp; try with_reducible rfl)
                      try simp only [Act.put, List.getElem_toArray, List.getElem_cons_zero, List.getElem_cons_succ, List.setIfInBounds_toArray, List.set_cons_zero, List.set_cons_succ]
                      have hfr := fr_set wd d1 k (.int .i64 pj1)
                      have hput2 := OwI.put pj1 hputd (i := k) (by rw [HLL.out]; exact hlt)
                      have hfn2 := Ow.frozen hputd (by rw [HLL.out]; omega) k
                      have BE5 := BEd.fr hfr (by omega)
                      have hcg5 : (wd.setCell ⟨d1, k, none⟩ (.int .i64 pj1)).cell? ⟨g, p, none⟩ = some (.int .i64 apv) := ((hfr.below (B := d1) (fun x h1 h2 hc => by omega) (by omega)).cell (p := ⟨g, p, none⟩) hgl).trans hS0.2
                      refine wpAnyH_ready (rs := [14]) (by kernel_rfl) (by simp) ?_
                      refine AllReadyH.cons (o := _) rfl (fun K hK => ?_) AllReadyH.nil
                      go_simp
                      refine hK.out _ _ (⟨BE5.cell 0 _ rfl, hcg5⟩) (fun hHeld => ?_)
                      clear hK K
                      try simp only [Act.put, List.getElem_toArray, List.getElem_cons_zero, List.getElem_cons_succ, List.setIfInBounds_toArray, List.set_cons_zero, List.set_cons_succ]
                      refine wpAnyH_done (by kernel_rfl) ?_ _
                      clear hHeld hS0 hcnd BE5 hcg5 BEd
                      have hfin : OwI (wd.setCell ⟨d1, k, none⟩ (.int .i64 pj1)) d1 (wd.setCell ⟨d1, k, none⟩ (.int .i64 pj1)).heap.size (some ⟨d1, 0, none⟩) N.ends.length (vsL N.ends (vsT N.ends s) k (j + 1)) := by
                        have h8 : (vsL N.ends (vsT N.ends s) k j).set k pj1 = vsL N.ends (vsT N.ends s) k (j + 1) := HSJ1.out
                        rw [h8] at hput2
                        exact Ow.wide hput2 (Nat.le_refl _) (by rw [size_set]; exact bEd.size)
                      have hown2 := Ow.fr hownd hfr (fun x h1 h2 hc => by omega)
                      have BA2 := BAd.fr hfr (by omega)
                      have bel2 := beld.trans (hfr.below (B := w.heap.size) (fun x h1 h2 hc => by omega) beld.size)
                      have zd9 := Nat.lt_of_lt_of_le zdd hfr.size
                      go_wp2_with fail
                      go_roundw
                      case rel => exact ⟨j + 1, by omega, by go_num, hfin, hown2, BA2, bel2, zd9⟩
                      case measure => simp [intOf]; omega
                    · have HJE := Lib.hid (show j = es.length by omega)
                      rw [HJE.out, HALL.out] at hnew
                      go_wp2_with fail
                      go_roundw
                      case rel => exact ⟨k + 1, by omega, by go_num, hnew, hown, BA, bel, zdw⟩
                      case measure => simp [intOf]; omega
                · have HKE := Lib.hid (show k = N.ends.length by omega)
                  rw [HKE.out] at hnew
                  go_wp2_with fail
                  go_roundw
                  case rel => exact ⟨s + 1, hs2, by have := HTR.out; go_num, ⟨d1, rfl, Ow.wide hnew (by omega) (Nat.le_refl _)⟩, BA, bel⟩
                  case measure => simp [intOf]; omega
            · have hse : s = tn := by omega
              have hgt : ¬ (0 : Int) < (tr : Int) := by omega
              have HSE := Lib.hid hse
              clear htr hse
              rw [HSE.out] at hown
              obtain ⟨g9, h9, _, _, _, hc, _⟩ := OwI.at hown (i := vn) (by rw [HVL.out]; exact hvn)
              obtain rfl : g = g9 := by injection h9 with h; injection h
              have hc2 : wr.cell? ⟨g, vn, none⟩ = some (.int .i64 (vzN N (vn : Int) (tn : Int))) := hc
              clear hc h9 hown
              by_cases hz : vzN N (vn : Int) (tn : Int) ≤ 1000000
              · have HOK := Lib.hid (show vzOk N (vn : Int) (tn : Int) = true by rw [vzOk, HP.out, decide_eq_true hz]; rfl)
                have HRR := Lib.hid (show vzR N (vn : Int) (tn : Int) = vzN N (vn : Int) (tn : Int) by rw [vzR, HOK.out]; rfl)
                generalize vzN N (vn : Int) (tn : Int) = zz at *
                go_wp2_with fail
                refine bodyPost_ret (v := .tuple #[.int .i64 zz, .bool true]) (by simp [results, Try.results41, go_sem]) rfl ?_
                exact ⟨by rw [HRR.out, HOK.out], bel⟩
              · have HOK := Lib.hid (show vzOk N (vn : Int) (tn : Int) = false by rw [vzOk, decide_eq_false hz, Bool.and_false])
                have hz2 : (1000000 : Int) < vzN N (vn : Int) (tn : Int) := by omega
                generalize vzN N (vn : Int) (tn : Int) = zz at *
                go_wp2_with fail
                refine bodyPost_ret (v := .tuple #[.int .i64 0, .bool false]) (by simp [results, Try.results41, go_sem]) rfl ?_
                exact ⟨by rw [vzR_f HOK.out, HOK.out], bel⟩
end Go.Proofs.Ytabpimhkjgojhaa
