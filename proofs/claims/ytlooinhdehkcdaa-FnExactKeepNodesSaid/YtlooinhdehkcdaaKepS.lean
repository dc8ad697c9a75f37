/- KeepNodes: spec's walk. -/
import Derived.Test.YtlooinhdehkcdaaKepP
import Derived.Test.YtlooinhdehkcdaaRmvS
namespace Go.Proofs.Ytlooinhdehkcdaa
open Go.RowKit
set_option linter.unusedVariables false
set_option linter.unusedSimpArgs false



theorem gRow_nth {es : List (Int × Int)} {p : Nat → Bool} {f : Int × Int → Int × Int} : ∀ i j, j < (gRow es p f i).length → ∃ j', j' < i ∧ p j' = true ∧ nthE (gRow es p f i) j = f (nthE es j') := by
  intro i
  induction i with
  | zero => intro j hj; simp [gRow] at hj
  | succ i ih =>
    intro j hj
    cases hp : p i with
    | false =>
      rw [gRow_no hp] at hj ⊢
      obtain ⟨j', h1, h2, h3⟩ := ih j hj
      exact ⟨j', by omega, h2, h3⟩
    | true =>
      rw [gRow_yes hp] at hj ⊢
      rw [List.length_append, List.length_singleton] at hj
      by_cases e : j < (gRow es p f i).length
      · obtain ⟨j', h1, h2, h3⟩ := ih j e
        exact ⟨j', by omega, h2, by rw [nthE_append_left _ _ _ e]; exact h3⟩
      · refine ⟨i, by omega, hp, ?_⟩
        rw [nthE_append_right _ _ _ (by omega), show j - (gRow es p f i).length = 0 by omega]
        rfl
theorem nthE_map_ {es : List (Int × Int)} {f : Int × Int → Int × Int} {i : Nat} (h : i < es.length) : nthE (es.map f) i = f (nthE es i) := by
  unfold nthE
  rw [List.getD_eq_getElem?_getD, List.getElem?_map, List.getElem?_eq_getElem h, List.getD_eq_getElem?_getD, List.getElem?_eq_getElem h]; rfl
theorem ctRow_nth {N : Net} (h : netB N = true) {kp : Nat → Nat → Bool} {v j : Nat} (hv : v < N.ends.length) (hj : j < (ctRow N.ends kp (fun x => x) v).length) :
    ∃ p q : Nat, nthE (ctRow N.ends kp (fun x => x) v) j = ((p : Int), (q : Int)) ∧ p < N.ends.length := by
  obtain ⟨j', h1, _, h3⟩ := gRow_nth _ _ hj
  obtain ⟨p, q, e, hp, _, _⟩ := net_back h hv h1
  refine ⟨p, rkF (kp p) q, h3.trans ?_, hp⟩
  rw [e]
  unfold ctE
  simp only [Int.toNat_natCast]
set_option maxRecDepth 100000 in
set_option maxHeartbeats 6400000 in
theorem neKeep_any (V : Value) (N : Net) (al : Option Addr) (capl : Nat) (l : List Int) (w : World) (B : Nat) (hv : NetIn w B V N) (ha : RdI w w.heap.size al l) (hB : B ≤ w.heap.size) (hok : kpOk N l = true) :
    Calls Try.prog 59 #[V, .slice al l.length capl] w fun e w' => ∃ x, e = .returned x ∧ NetAt w' w.heap.size w'.heap.size x (partN N l (kpK N.ends l) (posL N.ends.length l)) ∧ Below w.heap.size w w' := by
  obtain ⟨hnet, hl0, hris⟩ := kpOk_ris hok
  have HOK := Lib.hid (kpPart hnet hris)
  have HN := Lib.hid hnet
  have HV := Lib.hid hv
  have HSM := Lib.hid (netB_small hnet)
  have HS : Hid (NetSmall N) := Lib.hid (by have := HSM.out; unfold NetSmall; omega)
  have hnl : l.length ≤ 40 := HOK.out.1
  have HA := Lib.hid ha
  have HID := Lib.hid (netB_ids hnet)
  obtain ⟨a0, c0, vs0, ai0, ci0, ap0, cp0, rfl, h1, h2, h3, _⟩ := hv
  have hle : N.ends.length ≤ 40 := HSM.out.1
  have hge : 1 ≤ N.ends.length := HSM.out.2.1
  have HIL := Lib.hid HSM.out.2.2.2.2
  have hid1 : N.ids.length ≤ 40 := HSM.out.2.2.2.1
  obtain ⟨g0, off0, rfl, hg0, hc0⟩ := h1.1 (by omega)
  obtain ⟨gp, offp, rfl, hgp, hcp⟩ := h3 (by have := HIL.out; omega)
  have HC0 := Lib.hid hc0
  have HCP := Lib.hid hcp
  have HR0 := Lib.hid h1.2
  have HI0 := Lib.hid h2
  clear hnet hok ha h1 h2 h3 hc0 hcp hris
  have BA := (Bx.made w 29 #[.slice (some ⟨g0, off0, none⟩) N.ends.length c0, .slice ai0 N.ids.length ci0, .slice (some ⟨gp, offp, none⟩) N.inputs.length cp0]).alloc (.cells #[.slice none 0 0, .slice none 0 0, .slice none 0 0] 29)
  have BR := Bx.made (w.alloc (.cells #[.slice (some ⟨g0, off0, none⟩) N.ends.length c0, .slice ai0 N.ids.length ci0, .slice (some ⟨gp, offp, none⟩) N.inputs.length cp0] 29)) 29 #[.slice none 0 0, .slice none 0 0, .slice none 0 0]
  have b0 : Below w.heap.size w ((w.alloc (.cells #[.slice (some ⟨g0, off0, none⟩) N.ends.length c0, .slice ai0 N.ids.length ci0, .slice (some ⟨gp, offp, none⟩) N.inputs.length cp0] 29)).alloc (.cells #[.slice none 0 0, .slice none 0 0, .slice none 0 0] 29)) := (by repeat (first | exact Below.refl _ _ | assumption | refine Below.alloc ?_ (by first | (simp; done) | (simp; omega) | omega) _ | refine Below.setCell ?_ (by first | (simp; done) | (simp; omega) | omega) _ | refine Below.drew ?_ | refine Below.drewN ?_ _))
  have z0 : w.heap.size + 1 + 1 ≤ ((w.alloc (.cells #[.slice (some ⟨g0, off0, none⟩) N.ends.length c0, .slice ai0 N.ids.length ci0, .slice (some ⟨gp, offp, none⟩) N.inputs.length cp0] 29)).alloc (.cells #[.slice none 0 0, .slice none 0 0, .slice none 0 0] 29)).heap.size := by simp
  rw [World.size_alloc] at BR
  have HCH : Hid (∀ (y : Int) b' X, hasB l y = b' → Below w.heap.size w X → Calls Try.prog 84 #[.slice al l.length capl, .int .i64 y] X fun e w' => e = .returned (.bool b') ∧ ∃ m, w' = X.drewN m) := Lib.hid fun y b' X hb hX => by
    rw [← hb]
    exact l1Has_any al capl l y X w.heap.size (HA.out.below hX) (by omega)
  go_enter Try.func59, Try.ntmps59
  go_wp2_with fail
  generalize (w.alloc (.cells #[.slice (some ⟨g0, off0, none⟩) N.ends.length c0, .slice ai0 N.ids.length ci0, .slice (some ⟨gp, offp, none⟩) N.inputs.length cp0] 29)).alloc (.cells #[.slice none 0 0, .slice none 0 0, .slice none 0 0] 29) = w0 at *
  refine (neAll_any _ N _ B (HV.out.below (b0.mono hB)) (Nat.le_trans hB b0.size) HS.out).mono ?_
  rintro e w2 ⟨ak, ck, vk, rfl, hKR, bt⟩
  obtain ⟨lo, hlo⟩ : ∃ lo, lo = w0.heap.size := ⟨_, rfl⟩
  rw [← hlo] at hKR bt z0
  have zl1 : lo ≤ w0.heap.size := by omega
  have zl2 : w0.heap.size ≤ lo := by omega
  clear hlo
  have bb := b0
  clear b0
  have hkl0 : (allT N.ends).length = N.ends.length := allT_length _
  obtain ⟨A, hA, _, _⟩ := Ow.addr hKR.1 (by omega)
  subst hA
  clear hkl0
  rw [← keT_zero N.ends (kpS N.ends l)] at hKR
  have BA2 := BA.below bt (by omega)
  have q0 := BA2.cell 0 _ rfl
  go_wp2_with fail
  clear q0 BA2
  go_loopw [25] (fun iv wr => ∃ v : Nat, v ≤ N.ends.length ∧ iv = .int .i64 v ∧ RowsB wr lo wr.heap.size (some ⟨A, 0, none⟩) ck (keT N.ends (kpS N.ends l) v 0) vk ∧ Below lo w0 wr) (fun iv _ => N.ends.length - (intOf iv).toNat)
  case atStart => exact ⟨0, Nat.zero_le _, rfl, hKR, bt⟩
  case round =>
    clear hKR bt
    obtain ⟨v, hvl, rfl, hKR, bt⟩ := hrel
    have zr := bt.size
    by_cases hlt : v < N.ends.length
    · have bw := bb.trans (bt.mono (by omega))
      have hc1 := (bw.cell (p := ⟨g0, off0 + v, none⟩) (by show g0 < _; omega)).trans (HC0.out v hlt)
      have HRW := Lib.hid (HR0.out v hlt)
      have hL1 := net_row HN.out hlt
      have HBK := Lib.hid (fun j (hj : j < (rowOf N.ends v).length) => net_back HN.out hlt hj)
      generalize (vs0 v).1 = ax at *
      generalize (vs0 v).2 = cx at *
      obtain ⟨wk, hwk⟩ : ∃ wk, wk = wr := ⟨_, rfl⟩
      subst hwk
      go_wp2_with fail
      clear hc1
      go_loopw [32] (fun iv wr => ∃ i : Nat, i ≤ (rowOf N.ends v).length ∧ iv = .int .i64 i ∧ RowsB wr lo wr.heap.size (some ⟨A, 0, none⟩) ck (keT N.ends (kpS N.ends l) v i) vk ∧ Below lo w0 wr) (fun iv _ => (rowOf N.ends v).length - (intOf iv).toNat)
      case atStart => exact ⟨0, Nat.zero_le _, rfl, hKR, bt⟩
      case round =>
        clear hKR bt zr bw
        obtain ⟨i, hi, rfl, hKR, bt⟩ := hrel
        have zr := bt.size
        have bw := bb.trans (bt.mono (by omega))
        by_cases hil : i < (rowOf N.ends v).length
        · obtain ⟨p, q, hpq, hp, hq, _⟩ := HBK.out i hil
          obtain ⟨g1, off1, hae, hg1B, e1, e2⟩ := RdE.at (HRW.out.below (bw.mono hB)) hil
          rw [hpq] at e1 e2
          have HF : Hid (kpS N.ends l v i = (hasB l (v : Int) && hasB l (p : Int))) := Lib.hid (by unfold kpS; rw [hpq])
          clear hpq hq
          subst hae
          have BE := Bx.made wr 62 #[.int .i64 (p : Int), .int .i64 (q : Int)]
          have bE : Below wr.heap.size wr (wr.alloc (.cells #[.int .i64 (p : Int), .int .i64 (q : Int)] 62)) := (by repeat (first | exact Below.refl _ _ | assumption | refine Below.alloc ?_ (by first | (simp; done) | (simp; omega) | omega) _ | refine Below.setCell ?_ (by first | (simp; done) | (simp; omega) | omega) _ | refine Below.drew ?_ | refine Below.drewN ?_ _))
          obtain ⟨eb, heb⟩ : ∃ eb, eb = wr.heap.size := ⟨_, rfl⟩
          go_upto_region 8 with fail
          clear e1 e2
          rw [← heb] at BE ⊢
          clear heb
          replace hKR := RowsAt.top (RowsAt.new hKR bE)
          have bt2 := bt.trans (bE.mono (by omega))
          have zy := bE.size
          clear bt bE bw
          generalize wr.alloc (.cells #[.int .i64 (p : Int), .int .i64 (q : Int)] 62) = wy at *
          replace hKR : RowsB wy lo wy.heap.size (some ⟨A, 0, none⟩) ck (keT N.ends (kpS N.ends l) v i) vk := hKR
          have bw := bb.trans (bt2.mono (by omega))
          have hsm := keT_same N.ends (kpS N.ends l) v i
          obtain ⟨g, k0, k1, f1, hg, hK2, hfr2⟩ := RowsB.setAt (kpS N.ends l v i) hKR (by rw [hsm.1]; exact hlt) (by rw [hsm.2 v hlt]; exact hil)
          rw [hsm.2 v hlt] at k0
          rw [keT_set _ hlt hil, HF.out] at hK2
          rw [HF.out] at hfr2
          have HSET : Hid (∀ X, Qt wy X → X.cell? ⟨g, i, none⟩ = some (cellB (rowOf (keT N.ends (kpS N.ends l) v i) v) i) ∧ X.frozen? ⟨g, i, none⟩ = false ∧ RowsB (X.setCell ⟨g, i, none⟩ (.bool (hasB l (v : Int) && hasB l (p : Int)))) lo wy.heap.size (some ⟨A, 0, none⟩) ck (keT N.ends (kpS N.ends l) v (i + 1)) vk ∧ Fr (fun k => k = g) wy (X.setCell ⟨g, i, none⟩ (.bool (hasB l (v : Int) && hasB l (p : Int))))) := Lib.hid fun X hX => by
            obtain ⟨m, rfl⟩ := hX
            exact ⟨k1, f1, hK2, ⟨hfr2.os, hfr2.tape, hfr2.output, hfr2.size, hfr2.block⟩⟩
          have hS0 : wy.drew.cell? ⟨A, v, none⟩ = some (.slice (some ⟨g, 0, none⟩) (rowOf N.ends v).length (vk v).2) := k0
          have hS1 : wy.drew.cell? ⟨eb, 0, none⟩ = some (.int .i64 (p : Int)) := BE.cell 0 _ rfl
          refine wp_region_until 15 (fun X => X.cell? ⟨A, v, none⟩ = some (.slice (some ⟨g, 0, none⟩) (rowOf N.ends v).length (vk v).2) ∧ X.cell? ⟨eb, 0, none⟩ = some (.int .i64 (p : Int))) (by kernel_rfl) ⟨hS0, hS1⟩ (fun hHeld => ?_)
          clear hS0 hS1 k0 k1 f1 hK2 hfr2 hsm BE hKR
          replace bw := bw.drew
          have hq : Qt wy wy.drew := (Qt.refl _).drew
          generalize wy.drew = wd at *
          refine wpU_take (i := 0) (v := ?_) rfl (by kernel_rfl) (by kernel_rfl) (by kernel_rfl) (by kernel_rfl) (by kernel_rfl) (by kernel_rfl) (fun _ _ _ h => h) (Or.inl ⟨by rfl, ?_⟩) (by assumption) ?_
          rotate_left
          · (intro w hSw; (try dsimp only at hSw); obtain ⟨hq0, hq1⟩ := hSw; go_simp; try with_reducible rfl)
          try simp only [Act.put, List.getElem_toArray, List.getElem_cons_zero, List.getElem_cons_succ, List.setIfInBounds_toArray, List.set_cons_zero, List.set_cons_succ]
          refine wpU_take (i := 1) (v := ?_) rfl (by kernel_rfl) (by kernel_rfl) (by kernel_rfl) (by kernel_rfl) (by kernel_rfl) (by kernel_rfl) (fun _ _ _ h => h) (Or.inl ⟨by rfl, ?_⟩) (by assumption) ?_
          rotate_left
          · (intro w hSw; (try dsimp only at hSw); obtain ⟨hq0, hq1⟩ := hSw; go_simp; try with_reducible rfl)
          try simp only [Act.put, List.getElem_toArray, List.getElem_cons_zero, List.getElem_cons_succ, List.setIfInBounds_toArray, List.set_cons_zero, List.set_cons_succ]
          refine wpU_take (i := 2) (v := ?_) rfl (by kernel_rfl) (by kernel_rfl) (by kernel_rfl) (by kernel_rfl) (by kernel_rfl) (by kernel_rfl) (fun _ _ _ h => h) (Or.inl ⟨by rfl, ?_⟩) (by assumption) ?_
          rotate_left
          · (intro w hSw; (try dsimp only at hSw); obtain ⟨hq0, hq1⟩ := hSw; go_simp; try with_reducible rfl)
          try simp only [Act.put, List.getElem_toArray, List.getElem_cons_zero, List.getElem_cons_succ, List.setIfInBounds_toArray, List.set_cons_zero, List.set_cons_succ]
          refine wpU_take (i := 3) (v := ?_) rfl (by kernel_rfl) (by kernel_rfl) (by kernel_rfl) (by kernel_rfl) (by kernel_rfl) (by kernel_rfl) (fun _ _ _ h => h) (Or.inl ⟨by rfl, ?_⟩) (by assumption) ?_
          rotate_left
          · (intro w hSw; (try dsimp only at hSw); obtain ⟨hq0, hq1⟩ := hSw; go_simp; try with_reducible rfl)
          try simp only [Act.put, List.getElem_toArray, List.getElem_cons_zero, List.getElem_cons_succ, List.setIfInBounds_toArray, List.set_cons_zero, List.set_cons_succ]
          refine wpU_take (i := 4) (v := ?_) rfl (by kernel_rfl) (by kernel_rfl) (by kernel_rfl) (by kernel_rfl) (by kernel_rfl) (by kernel_rfl) (fun _ _ _ h => h) (Or.inl ⟨by rfl, ?_⟩) (by assumption) ?_
          rotate_left
          · (intro w hSw; (try dsimp only at hSw); obtain ⟨hq0, hq1⟩ := hSw; go_simp; try with_reducible rfl)
          try simp only [Act.put, List.getElem_toArray, List.getElem_cons_zero, List.getElem_cons_succ, List.setIfInBounds_toArray, List.set_cons_zero, List.set_cons_succ]
          refine wpU_take (i := 5) (v := ?_) rfl (by kernel_rfl) (by kernel_rfl) (by kernel_rfl) (by kernel_rfl) (by kernel_rfl) (by kernel_rfl) (fun _ _ _ h => h) (Or.inl ⟨by rfl, ?_⟩) (by assumption) ?_
          rotate_left
          · (intro w hSw; (try dsimp only at hSw); obtain ⟨hq0, hq1⟩ := hSw; go_simp; try with_reducible rfl)
          try simp only [Act.put, List.getElem_toArray, List.getElem_cons_zero, List.getElem_cons_succ, List.setIfInBounds_toArray, List.set_cons_zero, List.set_cons_succ]
          refine wpU_take (i := 6) (v := ?_) rfl (by kernel_rfl) (by kernel_rfl) (by kernel_rfl) (by kernel_rfl) (by kernel_rfl) (by kernel_rfl) (fun _ _ _ h => h) (Or.inl ⟨by rfl, ?_⟩) (by assumption) ?_
          rotate_left
          · (intro w hSw; (try dsimp only at hSw); obtain ⟨hq0, hq1⟩ := hSw; go_simp; try with_reducible rfl)
          try simp only [Act.put, List.getElem_toArray, List.getElem_cons_zero, List.getElem_cons_succ, List.setIfInBounds_toArray, List.set_cons_zero, List.set_cons_succ]
          cases hh : hasB l (v : Int) with
          | false =>
            rw [hh] at HSET
            refine wpU_ready (rs := [7]) (by kernel_rfl) (by simp) (by kernel_rfl) ?_
            refine AllReadyU.cons (o := _) rfl (fun K hK => ?_) AllReadyU.nil
            go_simp
            refine (HCH.out _ _ _ hh bw).mono ?_
            rintro e we ⟨rfl, hm⟩
            replace hq : Qt wy we := hq.trans hm
            replace bw := bw.trans (Qt.below hm _)
            replace hHeld := (⟨Qt.cell hm hHeld.1, Qt.cell hm hHeld.2⟩ : _ ∧ _)
            clear hm
            refine hK.out _ _ hHeld (fun _ => ?_)
            clear hK K
            try simp only [Act.put, List.getElem_toArray, List.getElem_cons_zero, List.getElem_cons_succ, List.setIfInBounds_toArray, List.set_cons_zero, List.set_cons_succ]
            refine wpU_take (i := 8) (v := ?_) rfl (by kernel_rfl) (by kernel_rfl) (by kernel_rfl) (by kernel_rfl) (by kernel_rfl) (by kernel_rfl) (fun _ _ _ h => h) (Or.inl ⟨by rfl, ?_⟩) (by assumption) ?_
            rotate_left
            · (intro w hSw; (try dsimp only at hSw); obtain ⟨hq0, hq1⟩ := hSw; go_simp; try with_reducible rfl)
            try simp only [Act.put, List.getElem_toArray, List.getElem_cons_zero, List.getElem_cons_succ, List.setIfInBounds_toArray, List.set_cons_zero, List.set_cons_succ]
            refine wpU_take (i := 9) (v := undef) rfl (by kernel_rfl) (by kernel_rfl) (by kernel_rfl) (by kernel_rfl) (by kernel_rfl) (by kernel_rfl) (fun _ _ _ h => h) (Or.inr ⟨by rfl, rfl⟩) (by assumption) ?_
            try simp only [Act.put, List.getElem_toArray, List.getElem_cons_zero, List.getElem_cons_succ, List.setIfInBounds_toArray, List.set_cons_zero, List.set_cons_succ]
            refine wpU_take (i := 10) (v := undef) rfl (by kernel_rfl) (by kernel_rfl) (by kernel_rfl) (by kernel_rfl) (by kernel_rfl) (by kernel_rfl) (fun _ _ _ h => h) (Or.inr ⟨by rfl, rfl⟩) (by assumption) ?_
            try simp only [Act.put, List.getElem_toArray, List.getElem_cons_zero, List.getElem_cons_succ, List.setIfInBounds_toArray, List.set_cons_zero, List.set_cons_succ]
            refine wpU_take (i := 11) (v := undef) rfl (by kernel_rfl) (by kernel_rfl) (by kernel_rfl) (by kernel_rfl) (by kernel_rfl) (by kernel_rfl) (fun _ _ _ h => h) (Or.inr ⟨by rfl, rfl⟩) (by assumption) ?_
            try simp only [Act.put, List.getElem_toArray, List.getElem_cons_zero, List.getElem_cons_succ, List.setIfInBounds_toArray, List.set_cons_zero, List.set_cons_succ]
            refine wpU_take (i := 12) (v := undef) rfl (by kernel_rfl) (by kernel_rfl) (by kernel_rfl) (by kernel_rfl) (by kernel_rfl) (by kernel_rfl) (fun _ _ _ h => h) (Or.inr ⟨by rfl, rfl⟩) (by assumption) ?_
            try simp only [Act.put, List.getElem_toArray, List.getElem_cons_zero, List.getElem_cons_succ, List.setIfInBounds_toArray, List.set_cons_zero, List.set_cons_succ]
            refine wpU_take (i := 13) (v := ?_) rfl (by kernel_rfl) (by kernel_rfl) (by kernel_rfl) (by kernel_rfl) (by kernel_rfl) (by kernel_rfl) (fun _ _ _ h => h) (Or.inl ⟨by rfl, ?_⟩) (by assumption) ?_
            rotate_left
            · (intro w hSw; (try dsimp only at hSw); obtain ⟨hq0, hq1⟩ := hSw; go_simp; try with_reducible rfl)
            try simp only [Act.put, List.getElem_toArray, List.getElem_cons_zero, List.getElem_cons_succ, List.setIfInBounds_toArray, List.set_cons_zero, List.set_cons_succ]
            refine wpU_take (i := 14) (v := ?_) rfl (by kernel_rfl) (by kernel_rfl) (by kernel_rfl) (by kernel_rfl) (by kernel_rfl) (by kernel_rfl) (fun _ _ _ h => h) (Or.inl ⟨by rfl, ?_⟩) (by assumption) ?_
            rotate_left
            · (intro w hSw; (try dsimp only at hSw); obtain ⟨hq0, hq1⟩ := hSw; go_simp; try with_reducible rfl)
            try simp only [Act.put, List.getElem_toArray, List.getElem_cons_zero, List.getElem_cons_succ, List.setIfInBounds_toArray, List.set_cons_zero, List.set_cons_succ]
            obtain ⟨k1, f1, hK3, hfr3⟩ := HSET.out _ hq
            refine wpU_last (by kernel_rfl) ?_
            refine wpAnyH_ready (rs := [15]) (by kernel_rfl) (by simp) ?_
            refine AllReadyH.cons (o := _) rfl (fun K hK => ?_) AllReadyH.nil
            unfold cellB at k1
            go_simp
            clear k1 f1
            refine hK.out _ _ trivial (fun _ => ?_)
            clear hK K
            try simp only [Act.put, List.getElem_toArray, List.getElem_cons_zero, List.getElem_cons_succ, List.setIfInBounds_toArray, List.set_cons_zero, List.set_cons_succ]
            refine wpAnyH_done (by kernel_rfl) ?_ _
            simp only [Bool.false_and] at hK3 hfr3
            have bt3 := bt2.trans (hfr3.below (B := lo) (fun k h1 h2 hc => by omega) (by omega))
            clear hHeld HSET
            generalize hW : World.setCell _ _ _ = W at *
            have hK4 : RowsB W lo W.heap.size (some ⟨A, 0, none⟩) ck (keT N.ends (kpS N.ends l) v (i + 1)) vk := RowsAt.wide hK3 (Nat.le_refl _) hfr3.size
            clear hW hK3 hfr3
            go_wp2_with fail
            go_roundw
            case rel => exact ⟨i + 1, by omega, by go_num, hK4, bt3⟩
            case measure => simp [intOf]; omega
          | true =>
            rw [hh] at HSET
            refine wpU_ready (rs := [7]) (by kernel_rfl) (by simp) (by kernel_rfl) ?_
            refine AllReadyU.cons (o := _) rfl (fun K hK => ?_) AllReadyU.nil
            go_simp
            refine (HCH.out _ _ _ hh bw).mono ?_
            rintro e we ⟨rfl, hm⟩
            replace hq : Qt wy we := hq.trans hm
            replace bw := bw.trans (Qt.below hm _)
            replace hHeld := (⟨Qt.cell hm hHeld.1, Qt.cell hm hHeld.2⟩ : _ ∧ _)
            clear hm
            refine hK.out _ _ hHeld (fun _ => ?_)
            clear hK K
            try simp only [Act.put, List.getElem_toArray, List.getElem_cons_zero, List.getElem_cons_succ, List.setIfInBounds_toArray, List.set_cons_zero, List.set_cons_succ]
            refine wpU_take (i := 8) (v := ?_) rfl (by kernel_rfl) (by kernel_rfl) (by kernel_rfl) (by kernel_rfl) (by kernel_rfl) (by kernel_rfl) (fun _ _ _ h => h) (Or.inl ⟨by rfl, ?_⟩) (by assumption) ?_
            rotate_left
            · (intro w hSw; (try dsimp only at hSw); obtain ⟨hq0, hq1⟩ := hSw; go_simp; try with_reducible rfl)
            try simp only [Act.put, List.getElem_toArray, List.getElem_cons_zero, List.getElem_cons_succ, List.setIfInBounds_toArray, List.set_cons_zero, List.set_cons_succ]
            refine wpU_take (i := 9) (v := ?_) rfl (by kernel_rfl) (by kernel_rfl) (by kernel_rfl) (by kernel_rfl) (by kernel_rfl) (by kernel_rfl) (fun _ _ _ h => h) (Or.inl ⟨by rfl, ?_⟩) (by assumption) ?_
            rotate_left
            · (intro w hSw; (try dsimp only at hSw); obtain ⟨hq0, hq1⟩ := hSw; go_simp; try with_reducible rfl)
            try simp only [Act.put, List.getElem_toArray, List.getElem_cons_zero, List.getElem_cons_succ, List.setIfInBounds_toArray, List.set_cons_zero, List.set_cons_succ]
            refine wpU_take (i := 10) (v := ?_) rfl (by kernel_rfl) (by kernel_rfl) (by kernel_rfl) (by kernel_rfl) (by kernel_rfl) (by kernel_rfl) (fun _ _ _ h => h) (Or.inl ⟨by rfl, ?_⟩) (by assumption) ?_
            rotate_left
            · (intro w hSw; (try dsimp only at hSw); obtain ⟨hq0, hq1⟩ := hSw; go_simp; try with_reducible rfl)
            try simp only [Act.put, List.getElem_toArray, List.getElem_cons_zero, List.getElem_cons_succ, List.setIfInBounds_toArray, List.set_cons_zero, List.set_cons_succ]
            refine wpU_take (i := 11) (v := ?_) rfl (by kernel_rfl) (by kernel_rfl) (by kernel_rfl) (by kernel_rfl) (by kernel_rfl) (by kernel_rfl) (fun _ _ _ h => h) (Or.inl ⟨by rfl, ?_⟩) (by assumption) ?_
            rotate_left
            · (intro w hSw; (try dsimp only at hSw); obtain ⟨hq0, hq1⟩ := hSw; go_simp; try with_reducible rfl)
            try simp only [Act.put, List.getElem_toArray, List.getElem_cons_zero, List.getElem_cons_succ, List.setIfInBounds_toArray, List.set_cons_zero, List.set_cons_succ]
            refine wpU_ready (rs := [12]) (by kernel_rfl) (by simp) (by kernel_rfl) ?_
            refine AllReadyU.cons (o := _) rfl (fun K hK => ?_) AllReadyU.nil
            go_simp
            refine (HCH.out _ _ _ rfl bw).mono ?_
            rintro e wf ⟨rfl, hm⟩
            replace hq : Qt wy wf := hq.trans hm
            replace bw := bw.trans (Qt.below hm _)
            replace hHeld := (⟨Qt.cell hm hHeld.1, Qt.cell hm hHeld.2⟩ : _ ∧ _)
            clear hm
            refine hK.out _ _ hHeld (fun _ => ?_)
            clear hK K
            try simp only [Act.put, List.getElem_toArray, List.getElem_cons_zero, List.getElem_cons_succ, List.setIfInBounds_toArray, List.set_cons_zero, List.set_cons_succ]
            refine wpU_take (i := 13) (v := ?_) rfl (by kernel_rfl) (by kernel_rfl) (by kernel_rfl) (by kernel_rfl) (by kernel_rfl) (by kernel_rfl) (fun _ _ _ h => h) (Or.inl ⟨by rfl, ?_⟩) (by assumption) ?_
            rotate_left
            · (intro w hSw; (try dsimp only at hSw); obtain ⟨hq0, hq1⟩ := hSw; go_simp; try with_reducible rfl)
            try simp only [Act.put, List.getElem_toArray, List.getElem_cons_zero, List.getElem_cons_succ, List.setIfInBounds_toArray, List.set_cons_zero, List.set_cons_succ]
            refine wpU_take (i := 14) (v := ?_) rfl (by kernel_rfl) (by kernel_rfl) (by kernel_rfl) (by kernel_rfl) (by kernel_rfl) (by kernel_rfl) (fun _ _ _ h => h) (Or.inl ⟨by rfl, ?_⟩) (by assumption) ?_
            rotate_left
            · (intro w hSw; (try dsimp only at hSw); obtain ⟨hq0, hq1⟩ := hSw; go_simp; try with_reducible rfl)
            try simp only [Act.put, List.getElem_toArray, List.getElem_cons_zero, List.getElem_cons_succ, List.setIfInBounds_toArray, List.set_cons_zero, List.set_cons_succ]
            obtain ⟨k1, f1, hK3, hfr3⟩ := HSET.out _ hq
            refine wpU_last (by kernel_rfl) ?_
            refine wpAnyH_ready (rs := [15]) (by kernel_rfl) (by simp) ?_
            refine AllReadyH.cons (o := _) rfl (fun K hK => ?_) AllReadyH.nil
            unfold cellB at k1
            go_simp
            clear k1 f1
            refine hK.out _ _ trivial (fun _ => ?_)
            clear hK K
            try simp only [Act.put, List.getElem_toArray, List.getElem_cons_zero, List.getElem_cons_succ, List.setIfInBounds_toArray, List.set_cons_zero, List.set_cons_succ]
            refine wpAnyH_done (by kernel_rfl) ?_ _
            simp only [Bool.true_and] at hK3 hfr3
            have bt3 := bt2.trans (hfr3.below (B := lo) (fun k h1 h2 hc => by omega) (by omega))
            clear hHeld HSET
            generalize hW : World.setCell _ _ _ = W at *
            have hK4 : RowsB W lo W.heap.size (some ⟨A, 0, none⟩) ck (keT N.ends (kpS N.ends l) v (i + 1)) vk := RowsAt.wide hK3 (Nat.le_refl _) hfr3.size
            clear hW hK3 hfr3
            go_wp2_with fail
            go_roundw
            case rel => exact ⟨i + 1, by omega, by go_num, hK4, bt3⟩
            case measure => simp [intOf]; omega
        · have HIE := Lib.hid (show i = (rowOf N.ends v).length by omega)
          rw [HIE.out, keT_next] at hKR
          go_wp2_with fail
          go_roundw
          case rel => exact ⟨v + 1, by omega, by go_num, hKR, bt⟩
          case measure => simp [intOf]; omega
    · have HVE := Lib.hid (show v = N.ends.length by omega)
      rw [HVE.out] at hKR
      replace BA := BA.below bt (by omega)
      replace BR := BR.below bt (by omega)
      replace bb := bb.trans (bt.mono (by omega))
      have zr2 : lo ≤ wr.heap.size := by omega
      clear bt zr
      obtain ⟨w3, hw3⟩ : ∃ w3, w3 = wr := ⟨_, rfl⟩
      subst hw3
      have c0' := BA.cell 0 _ rfl
      have c1' := BA.cell 1 _ rfl
      have c2' := BA.cell 2 _ rfl
      go_wp2_with fail
      refine (neCut_any _ N (keT N.ends (kpS N.ends l) N.ends.length 0) _ _ vk _ w3.heap.size (netIn_more (HV.out.below (bb.mono hB)) (Nat.le_trans hB bb.size)) hKR.rdBB (Nat.le_refl _) HN.out (keT_same ..)).mono ?_
      rintro e w4 ⟨x4, rfl, own4, bel4⟩
      rw [keT_cut HN.out] at own4
      replace BA := BA.new bel4
      replace BR := BR.new bel4
      have z4 := bel4.size
      replace bb := bb.trans (bel4.mono bb.size)
      clear c0' c1' c2' bel4 hKR
      have hri : NetIn w4 w4.heap.size x4 (cutN N (kpS N.ends l)) := own4.in_
      obtain ⟨axc, cxc, vc, aic, cic, apc, cpc, rfl, hr1, _⟩ := hri
      have HCL := Lib.hid (cutN_len N (kpS N.ends l))
      have HCW := Lib.hid (fun j (hj : j < N.ends.length) => cutN_row (kpS N.ends l) hj)
      generalize cutN N (kpS N.ends l) = Nc at *
      clear own4
      obtain ⟨gc, offc, rfl, hgc, hcc⟩ := hr1.1 (by have := HCL.out; omega)
      have HCC := Lib.hid hcc
      have HCR := Lib.hid hr1.2
      clear hr1 hcc
      have BC := Bx.made w4 29 #[.slice (some ⟨gc, offc, none⟩) Nc.ends.length cxc, .slice aic Nc.ids.length cic, .slice apc Nc.inputs.length cpc]
      have b5 : Below w4.heap.size w4 (w4.alloc (.cells #[.slice (some ⟨gc, offc, none⟩) Nc.ends.length cxc, .slice aic Nc.ids.length cic, .slice apc Nc.inputs.length cpc] 29)) := (by repeat (first | exact Below.refl _ _ | assumption | refine Below.alloc ?_ (by first | (simp; done) | (simp; omega) | omega) _ | refine Below.setCell ?_ (by first | (simp; done) | (simp; omega) | omega) _ | refine Below.drew ?_ | refine Below.drewN ?_ _))
      have c0' := BA.cell 0 _ rfl
      have zc : w4.heap.size + 1 ≤ (w4.alloc (.cells #[.slice (some ⟨gc, offc, none⟩) Nc.ends.length cxc, .slice aic Nc.ids.length cic, .slice apc Nc.inputs.length cpc] 29)).heap.size := by simp
      go_upto_region 12 with fail
      clear c0'
      replace BA := BA.new b5
      replace BR := BR.new b5
      replace bb := bb.trans (b5.mono bb.size)
      replace HCC : Hid (∀ j, j < Nc.ends.length → _) := Lib.hid fun j hj => (b5.cell (p := ⟨gc, offc + j, none⟩) (by show gc < _; omega)).trans (HCC.out j hj)
      replace HCR : Hid (∀ j, j < Nc.ends.length → _) := Lib.hid fun j hj => (HCR.out j hj).below b5
      obtain ⟨bc, hbc⟩ : ∃ x, x = w4.heap.size := ⟨_, rfl⟩
      rw [← hbc] at BC HCR hgc z4 zc ⊢
      clear hbc b5
      generalize w4.alloc (.cells #[.slice (some ⟨gc, offc, none⟩) Nc.ends.length cxc, .slice aic Nc.ids.length cic, .slice apc Nc.inputs.length cpc] 29) = w5 at *
      obtain ⟨d0, hd0⟩ : ∃ d, d = w5.heap.size := ⟨_, rfl⟩
      have HD := Lib.hid hd0
      rw [← hd0] at zc
      clear hd0
      have c0' := BA.cell 0 _ rfl
      go_wp2_with (at_make; refine wpList_mk _ rfl _ _ _ rfl 3 (.int .i64 0) 8 Try.underlying23 int_info rfl .i64 .i64 _ _ N.ends.length rfl rfl rfl rfl (by omega) (by omega) ?_; intro w6 hrow hsz hbel; rw [← HD.out] at hrow hbel hsz ⊢)
      clear c0'
      have hTO : OwI w6 d0 w6.heap.size (some ⟨d0, 0, none⟩) N.ends.length (toL N.ends.length l 0) := OwI.zeros hrow (Nat.le_refl _) (by omega) (by unfold maxLen; omega)
      have bel6 : Below d0 w5 w6 := hbel
      clear hrow hsz hbel
      replace BA := BA.below bel6 (by omega)
      replace BR := BR.below bel6 (by omega)
      replace BC := BC.below bel6 (by omega)
      replace bb := bb.trans (bel6.mono (by omega))
      replace HCC : Hid (∀ j, j < Nc.ends.length → _) := Lib.hid fun j hj => (bel6.cell (p := ⟨gc, offc + j, none⟩) (by show gc < _; omega)).trans (HCC.out j hj)
      replace HCR : Hid (∀ j, j < Nc.ends.length → _) := Lib.hid fun j hj => (HCR.out j hj).below (bel6.mono (by omega))
      have z6 : d0 ≤ w6.heap.size := by have := bel6.size; have := HD.out; omega
      clear bel6 HD
      go_loopw [63] (fun iv wr => ∃ k : Nat, k ≤ l.length ∧ iv = .int .i64 k ∧ OwI wr d0 wr.heap.size (some ⟨d0, 0, none⟩) N.ends.length (toL N.ends.length l k) ∧ Below d0 w6 wr) (fun iv _ => l.length - (intOf iv).toNat)
      case atStart => exact ⟨0, Nat.zero_le _, rfl, hTO, Below.refl _ _⟩
      case round =>
        clear hTO hvl hlt
        obtain ⟨k, hkl, rfl, hTO, bt⟩ := hrel
        have zr := bt.size
        by_cases hlt : k < l.length
        · have bw := bb.trans (bt.mono (by omega))
          obtain ⟨v, hnk, hvl, _⟩ := HOK.out.2 k hlt
          obtain ⟨gn, on_, hne, _, hcn⟩ := Rd.at (HA.out.below bw) hlt
          subst hne
          rw [hnk] at hcn
          have HTS : Hid ((toL N.ends.length l k).set v (k : Int) = toL N.ends.length l (k + 1)) := Lib.hid (by rw [toL, hnk, Int.toNat_natCast])
          clear hnk
          have hvT : v < (toL N.ends.length l k).length := by rw [toL_length]; exact hvl
          obtain ⟨g9, hg9, _, _, _, hc, hf⟩ := OwI.at hTO hvT
          obtain rfl : d0 = g9 := by injection hg9 with h; injection h
          have hput := OwI.put (k : Int) hTO hvT
          rw [HTS.out] at hput
          clear hg9 hvT hTO
          go_wp2_with fail
          have hfr := fr_set wr d0 v (.int .i64 (k : Int))
          go_roundw
          case rel => exact ⟨k + 1, by omega, by go_num, Ow.wide hput (Nat.le_refl _) (by rw [size_set]; exact Nat.le_refl _), bt.trans (hfr.below (B := d0) (fun x h1 h2 hc => by omega) (by omega))⟩
          case measure => simp [intOf]; omega
        · have HKE := Lib.hid (show k = l.length by omega)
          rw [HKE.out] at hTO
          replace BA := BA.below bt (by omega)
          replace BR := BR.below bt (by omega)
          replace BC := BC.below bt (by omega)
          replace bb := bb.trans (bt.mono (by omega))
          replace HCC : Hid (∀ j, j < Nc.ends.length → _) := Lib.hid fun j hj => (bt.cell (p := ⟨gc, offc + j, none⟩) (by show gc < _; omega)).trans (HCC.out j hj)
          replace HCR : Hid (∀ j, j < Nc.ends.length → _) := Lib.hid fun j hj => (HCR.out j hj).below (bt.mono (by omega))
          have HTC : Hid (∀ p : Nat, p < N.ends.length → wr.cell? ⟨d0, p, none⟩ = some (.int .i64 (posL N.ends.length l (p : Int)))) := Lib.hid fun p hp => by
            obtain ⟨g9, hg9, _, _, _, hc, _⟩ := OwI.at hTO (show p < (toL N.ends.length l l.length).length by rw [toL_length]; exact hp)
            obtain rfl : d0 = g9 := by injection hg9 with h; injection h
            unfold posL
            rw [Int.toNat_natCast]
            exact hc
          have zdr : d0 < wr.heap.size := by
            obtain ⟨g9, hg9, _, h9, _, hc, _⟩ := OwI.at hTO (show 0 < (toL N.ends.length l l.length).length by rw [toL_length]; omega)
            obtain rfl : d0 = g9 := by injection hg9 with h; injection h
            exact World.block_lt_of_cell? wr _ hc
          clear hTO bt zr
          obtain ⟨w7, hw7⟩ : ∃ w7, w7 = wr := ⟨_, rfl⟩
          subst hw7
          have BO := Bx.made w7 29 #[.slice none 0 0, .slice none 0 0, .slice none 0 0]
          have bO : Below w7.heap.size w7 (w7.alloc (.cells #[.slice none 0 0, .slice none 0 0, .slice none 0 0] 29)) := (by repeat (first | exact Below.refl _ _ | assumption | refine Below.alloc ?_ (by first | (simp; done) | (simp; omega) | omega) _ | refine Below.setCell ?_ (by first | (simp; done) | (simp; omega) | omega) _ | refine Below.drew ?_ | refine Below.drewN ?_ _))
          have zO : w7.heap.size + 1 ≤ (w7.alloc (.cells #[.slice none 0 0, .slice none 0 0, .slice none 0 0] 29)).heap.size := by simp
          go_upto_region 19 with fail
          replace BA := BA.new bO
          replace BR := BR.new bO
          replace BC := BC.new bO
          replace bb := bb.trans (bO.mono bb.size)
          obtain ⟨b, hb⟩ : ∃ b, b = w7.heap.size := ⟨_, rfl⟩
          replace HCC : Hid (∀ j, j < Nc.ends.length → _) := Lib.hid fun j hj => (bO.cell (p := ⟨gc, offc + j, none⟩) (by show gc < _; omega)).trans (HCC.out j hj)
          replace HCR : Hid (∀ j, j < Nc.ends.length → _) := Lib.hid fun j hj => (HCR.out j hj).below (bO.mono (by omega))
          replace HTC : Hid (∀ p : Nat, p < N.ends.length → _) := Lib.hid fun p hp => (bO.cell (p := ⟨d0, p, none⟩) (by show d0 < _; omega)).trans (HTC.out p hp)
          rw [← hb] at BO zO zdr ⊢
          clear hb bO
          generalize w7.alloc (.cells #[.slice none 0 0, .slice none 0 0, .slice none 0 0] 29) = w3 at *
          have zbc : bc < b := by omega
          have zb1 : w.heap.size + 1 < b := by omega
          have hNB : NBx w3 b b (partT N l (kpK N.ends l) (posL N.ends.length l) 0) := by
            have e0 : partT N l (kpK N.ends l) (posL N.ends.length l) 0 = ⟨[], [], []⟩ := by unfold partT; split <;> rfl
            rw [e0]
            exact ⟨none, 0, fun _ => (none, 0), none, 0, none, 0, BO, RowsAt.nil _ _ _ _ _, Ow.nil _ _ _ _ _ _ _, Ow.nil _ _ _ _ _ _ _, .inl rfl⟩
          clear BO
          go_wp2_with fail
          have zb3 : b < w3.heap.size := by omega
          go_loopw [76] (fun iv wr => ∃ k : Nat, k ≤ l.length ∧ iv = .int .i64 k ∧ NBx wr b b (partT N l (kpK N.ends l) (posL N.ends.length l) k) ∧ Below b w3 wr) (fun iv _ => l.length - (intOf iv).toNat)
          case atStart => exact ⟨0, Nat.zero_le _, rfl, hNB, Below.refl _ _⟩
          case round =>
            clear hNB HKE hkl hlt
            obtain ⟨k, hkl, rfl, hNB, bt⟩ := hrel
            have zr := bt.size
            have zbr : b ≤ wr.heap.size := by omega
            by_cases hlt : k < l.length
            · have bw := bb.trans (bt.mono (by omega))
              obtain ⟨v, hnk, hvl, hpos, _⟩ := HOK.out.2 k hlt
              have HHV := Lib.hid (hasB_t hlt hnk).symm
              have HNK := Lib.hid hnk
              obtain ⟨gn, on_, hne, _, hcn⟩ := Rd.at (HA.out.below bw) hlt
              subst hne
              rw [hnk] at hcn
              clear hnk hpos
              have BCr := BC.below bt (by omega)
              have q0 := BCr.cell 0 _ rfl
              have hvc : v < Nc.ends.length := by have := HCL.out; omega
              have hc1 := (bt.cell (p := ⟨gc, offc + v, none⟩) (by show gc < _; omega)).trans (HCC.out v hvc)
              have HRW := Lib.hid (HCR.out v hvc)
              have hL1 : (rowOf Nc.ends v).length ≤ 6 := by rw [HCW.out v hvl]; exact Nat.le_trans (ctRow_len _ _ _ _) (net_row HN.out hvl)
              have HBK : Hid (∀ j, j < (rowOf Nc.ends v).length → ∃ p q : Nat, nthE (rowOf Nc.ends v) j = ((p : Int), (q : Int)) ∧ p < N.ends.length) := Lib.hid fun j hj => by
                rw [HCW.out v hvl] at hj ⊢
                exact ctRow_nth HN.out hvl hj
              have HMP : Hid ((rowOf Nc.ends v).map (fun e => (posL N.ends.length l e.1, e.2)) = ctRow N.ends (kpK N.ends l) (posL N.ends.length l) v) := Lib.hid (by rw [HCW.out v hvl]; exact kp_row HN.out hvl HHV.out)
              generalize (vc v).1 = ax at *
              generalize (vc v).2 = cx at *
              generalize rowOf Nc.ends v = R at *
              obtain ⟨wk, hwk⟩ : ∃ wk, wk = wr := ⟨_, rfl⟩
              subst hwk
              go_wp2_with fail
              clear hc1 q0 hcn BCr hvc
              go_loopw [17, 86] (fun ov iv wr => ∃ i : Nat, i ≤ R.length ∧ (∃ a c, ov = .slice a ((R.map (fun e => (posL N.ends.length l e.1, e.2))).take i).length c ∧ Ow wr wk.heap.size wr.heap.size 62 2 a ((R.map (fun e => (posL N.ends.length l e.1, e.2))).take i).length c (cellE ((R.map (fun e => (posL N.ends.length l e.1, e.2))).take i))) ∧ iv = .int .i64 i ∧ Below wk.heap.size wk wr) (fun _ iv _ => R.length - (intOf iv).toNat)
              case atStart => exact ⟨0, Nat.zero_le _, ⟨none, 0, rfl, Ow.nil _ _ _ _ _ _ _⟩, rfl, Below.refl _ _⟩
              case round =>
                obtain ⟨i, hi, ⟨ar, cr, rfl, hown⟩, rfl, bel⟩ := hrel
                have zr2 := bel.size
                have hGl : ((R.map (fun e => (posL N.ends.length l e.1, e.2))).take i).length ≤ 6 := by rw [List.length_take]; omega
                by_cases hil : i < R.length
                · obtain ⟨p, q, hpq, hp⟩ := HBK.out i hil
                  obtain ⟨g1, off1, hae, _, e1, e2⟩ := RdE.at ((HRW.out.below (bt.mono (by omega))).below (bel.mono (by omega))) hil
                  rw [hpq] at e1 e2
                  have HG : Hid ((R.map (fun e => (posL N.ends.length l e.1, e.2))).take (i + 1) = (R.map (fun e => (posL N.ends.length l e.1, e.2))).take i ++ [(posL N.ends.length l (p : Int), (q : Int))]) := Lib.hid (by
                    rw [takeE_snoc _ _ (by rw [List.length_map]; exact hil)]
                    rw [nthE_map_ hil, hpq])
                  have hct := (bel.cell (p := ⟨d0, p, none⟩) (by show d0 < _; omega)).trans ((bt.cell (p := ⟨d0, p, none⟩) (by show d0 < _; omega)).trans (HTC.out p hp))
                  generalize posL N.ends.length l (p : Int) = xx at *
                  clear hpq
                  subst hae
                  generalize (R.map (fun e => (posL N.ends.length l e.1, e.2))).take i = G at *
                  have BE := Bx.made wr 62 #[.int .i64 (p : Int), .int .i64 (q : Int)]
                  have bE : Below wr.heap.size wr (wr.alloc (.cells #[.int .i64 (p : Int), .int .i64 (q : Int)] 62)) := (by repeat (first | exact Below.refl _ _ | assumption | refine Below.alloc ?_ (by first | (simp; done) | (simp; omega) | omega) _ | refine Below.setCell ?_ (by first | (simp; done) | (simp; omega) | omega) _ | refine Below.drew ?_ | refine Below.drewN ?_ _))
                  obtain ⟨eb, heb⟩ : ∃ eb, eb = wr.heap.size := ⟨_, rfl⟩
                  go_upto_region 26 with fail
                  clear e1 e2
                  rw [← heb] at BE ⊢
                  clear heb
                  replace hown := Ow.new hown bE
                  have bel2 := bel.trans (bE.mono zr2)
                  have zy := bE.size
                  have hct2 : (wr.alloc (.cells #[.int .i64 (p : Int), .int .i64 (q : Int)] 62)).drew.cell? ⟨d0, p, none⟩ = some (.int .i64 xx) := cell_new_ bE hct
                  clear bel bE hct
                  generalize wr.alloc (.cells #[.int .i64 (p : Int), .int .i64 (q : Int)] 62) = wy at *
                  have hS0 : wy.drew.cell? ⟨eb, 0, none⟩ = some (.int .i64 (p : Int)) := BE.cell 0 _ rfl
                  have hS1 : wy.drew.cell? ⟨eb, 1, none⟩ = some (.int .i64 (q : Int)) := BE.cell 1 _ rfl
                  refine wp_region_until 10 (fun X => X.cell? ⟨eb, 0, none⟩ = some (.int .i64 (p : Int)) ∧ X.cell? ⟨eb, 1, none⟩ = some (.int .i64 (q : Int)) ∧ X.cell? ⟨d0, p, none⟩ = some (.int .i64 xx)) (by kernel_rfl) ⟨hS0, hS1, hct2⟩ (fun hHeld => ?_)
                  refine wpU_take (i := 0) (v := ?_) rfl (by kernel_rfl) (by kernel_rfl) (by kernel_rfl) (by kernel_rfl) (by kernel_rfl) (by kernel_rfl) (fun _ _ _ h => h) (Or.inl ⟨by rfl, ?_⟩) (by assumption) ?_
                  rotate_left
                  · (intro w hSw; (try dsimp only at hSw); obtain ⟨hq0, hq1, hq2⟩ := hSw; go_simp; try with_reducible rfl)
                  try simp only [Act.put, List.getElem_toArray, List.getElem_cons_zero, List.getElem_cons_succ, List.setIfInBounds_toArray, List.set_cons_zero, List.set_cons_succ]
                  refine wpU_take (i := 1) (v := ?_) rfl (by kernel_rfl) (by kernel_rfl) (by kernel_rfl) (by kernel_rfl) (by kernel_rfl) (by kernel_rfl) (fun _ _ _ h => h) (Or.inl ⟨by rfl, ?_⟩) (by assumption) ?_
                  rotate_left
                  · (intro w hSw; (try dsimp only at hSw); obtain ⟨hq0, hq1, hq2⟩ := hSw; go_simp; try with_reducible rfl)
                  try simp only [Act.put, List.getElem_toArray, List.getElem_cons_zero, List.getElem_cons_succ, List.setIfInBounds_toArray, List.set_cons_zero, List.set_cons_succ]
                  refine wpU_take (i := 2) (v := ?_) rfl (by kernel_rfl) (by kernel_rfl) (by kernel_rfl) (by kernel_rfl) (by kernel_rfl) (by kernel_rfl) (fun _ _ _ h => h) (Or.inl ⟨by rfl, ?_⟩) (by assumption) ?_
                  rotate_left
                  · (intro w hSw; (try dsimp only at hSw); obtain ⟨hq0, hq1, hq2⟩ := hSw; go_simp; try with_reducible rfl)
                  try simp only [Act.put, List.getElem_toArray, List.getElem_cons_zero, List.getElem_cons_succ, List.setIfInBounds_toArray, List.set_cons_zero, List.set_cons_succ]
                  refine wpU_take (i := 3) (v := ?_) rfl (by kernel_rfl) (by kernel_rfl) (by kernel_rfl) (by kernel_rfl) (by kernel_rfl) (by kernel_rfl) (fun _ _ _ h => h) (Or.inl ⟨by rfl, ?_⟩) (by assumption) ?_
                  rotate_left
                  · (intro w hSw; (try dsimp only at hSw); obtain ⟨hq0, hq1, hq2⟩ := hSw; go_simp; try with_reducible rfl)
                  try simp only [Act.put, List.getElem_toArray, List.getElem_cons_zero, List.getElem_cons_succ, List.setIfInBounds_toArray, List.set_cons_zero, List.set_cons_succ]
                  refine wpU_take (i := 4) (v := ?_) rfl (by kernel_rfl) (by kernel_rfl) (by kernel_rfl) (by kernel_rfl) (by kernel_rfl) (by kernel_rfl) (fun _ _ _ h => h) (Or.inl ⟨by rfl, ?_⟩) (by assumption) ?_
                  rotate_left
                  · (intro w hSw; (try dsimp only at hSw); obtain ⟨hq0, hq1, hq2⟩ := hSw; go_simp; try with_reducible rfl)
                  try simp only [Act.put, List.getElem_toArray, List.getElem_cons_zero, List.getElem_cons_succ, List.setIfInBounds_toArray, List.set_cons_zero, List.set_cons_succ]
                  refine wpU_take (i := 5) (v := ?_) rfl (by kernel_rfl) (by kernel_rfl) (by kernel_rfl) (by kernel_rfl) (by kernel_rfl) (by kernel_rfl) (fun _ _ _ h => h) (Or.inl ⟨by rfl, ?_⟩) (by assumption) ?_
                  rotate_left
                  · (intro w hSw; (try dsimp only at hSw); obtain ⟨hq0, hq1, hq2⟩ := hSw; go_simp; try with_reducible rfl)
                  try simp only [Act.put, List.getElem_toArray, List.getElem_cons_zero, List.getElem_cons_succ, List.setIfInBounds_toArray, List.set_cons_zero, List.set_cons_succ]
                  refine wpU_take (i := 6) (v := ?_) rfl (by kernel_rfl) (by kernel_rfl) (by kernel_rfl) (by kernel_rfl) (by kernel_rfl) (by kernel_rfl) (fun _ _ _ h => h) (Or.inl ⟨by rfl, ?_⟩) (by assumption) ?_
                  rotate_left
                  · (intro w hSw; (try dsimp only at hSw); obtain ⟨hq0, hq1, hq2⟩ := hSw; go_simp; try with_reducible rfl)
                  try simp only [Act.put, List.getElem_toArray, List.getElem_cons_zero, List.getElem_cons_succ, List.setIfInBounds_toArray, List.set_cons_zero, List.set_cons_succ]
                  refine wpU_take (i := 7) (v := ?_) rfl (by kernel_rfl) (by kernel_rfl) (by kernel_rfl) (by kernel_rfl) (by kernel_rfl) (by kernel_rfl) (fun _ _ _ h => h) (Or.inl ⟨by rfl, ?_⟩) (by assumption) ?_
                  rotate_left
                  · (intro w hSw; (try dsimp only at hSw); obtain ⟨hq0, hq1, hq2⟩ := hSw; go_simp; try with_reducible rfl)
                  try simp only [Act.put, List.getElem_toArray, List.getElem_cons_zero, List.getElem_cons_succ, List.setIfInBounds_toArray, List.set_cons_zero, List.set_cons_succ]
                  refine wpU_take (i := 8) (v := ?_) rfl (by kernel_rfl) (by kernel_rfl) (by kernel_rfl) (by kernel_rfl) (by kernel_rfl) (by kernel_rfl) (fun _ _ _ h => h) (Or.inl ⟨by rfl, ?_⟩) (by assumption) ?_
                  rotate_left
                  · (intro w hSw; (try dsimp only at hSw); obtain ⟨hq0, hq1, hq2⟩ := hSw; go_simp; try with_reducible rfl)
                  try simp only [Act.put, List.getElem_toArray, List.getElem_cons_zero, List.getElem_cons_succ, List.setIfInBounds_toArray, List.set_cons_zero, List.set_cons_succ]
                  replace hown : Ow wy.drew wk.heap.size wr.heap.size 62 2 ar G.length cr (cellE G) := hown
                  replace bel2 := bel2.drew
                  have zyd : wy.drew.heap.size = wy.heap.size := rfl
                  rw [← zyd] at zy
                  clear zyd BE
                  generalize wy.drew = wd at *
                  obtain ⟨xe, hxe⟩ : ∃ xe, xe = wd.alloc (.cells #[.int .i64 xx, .int .i64 (q : Int)] 62) := ⟨_, rfl⟩
                  have hnw := news2 wd 62 (.int .i64 xx) (.int .i64 (q : Int))
                  have bxe : Below wd.heap.size wd xe := by rw [hxe]; exact (by repeat (first | exact Below.refl _ _ | assumption | refine Below.alloc ?_ (by first | (simp; done) | (simp; omega) | omega) _ | refine Below.setCell ?_ (by first | (simp; done) | (simp; omega) | omega) _ | refine Below.drew ?_ | refine Below.drewN ?_ _))
                  rw [← hxe] at hnw
                  have HXE := Lib.hid hxe
                  clear hxe
                  have zxe := bxe.size
                  have bel6 := bel2.trans (bxe.mono (by omega))
                  have hown3 := Ow.wide (hi' := xe.heap.size) (Ow.new hown bxe) (Nat.le_refl _) (by omega)
                  refine wpU_ready (rs := [9]) (by kernel_rfl) (by simp) (by kernel_rfl) ?_
                  refine AllReadyU.cons (o := _) rfl (fun K hK => ?_) AllReadyU.nil
                  go_simp
                  rw [← HXE.out]
                  refine hK.out _ _ ⟨cell_new_ bxe hHeld.1, cell_new_ bxe hHeld.2.1, cell_new_ bxe hHeld.2.2⟩ (fun hHeld => ?_)
                  clear hK K
                  try simp only [Act.put, List.getElem_toArray, List.getElem_cons_zero, List.getElem_cons_succ, List.setIfInBounds_toArray, List.set_cons_zero, List.set_cons_succ]
                  refine wpU_last (by kernel_rfl) ?_
                  refine wpAnyH_ready (rs := [10]) (by kernel_rfl) (by simp) ?_
                  refine AllReadyH.cons (o := _) rfl (fun K hK => ?_) AllReadyH.nil
                  rw [if_pos (by rfl)]
                  refine step_app _ _ _ rfl 62 (.agg #[.int .i64 0, .int .i64 0]) 2 16 Try.underlying60 end_info rfl (by decide) wk.heap.size xe.heap.size ar G.length cr _ rfl hown3 ⟨wd.heap.size, 0, none⟩ 1 1 [.int .i64 xx, .int .i64 (q : Int)] rfl rfl hnw (by simp [Value.oneCell']) (by decide) (by unfold maxLen; omega) (by omega) (by omega) ?_
                  intro g' cap' w8 own8 hgr _ _
                  refine hK.out _ _ trivial (fun _ => ?_)
                  clear hK K
                  try simp only [Act.put, List.getElem_toArray, List.getElem_cons_zero, List.getElem_cons_succ, List.setIfInBounds_toArray, List.set_cons_zero, List.set_cons_succ]
                  refine wpAnyH_ready (rs := [11]) (by kernel_rfl) (by simp) ?_
                  refine AllReadyH.cons (o := _) rfl (fun K hK => ?_) AllReadyH.nil
                  go_simp
                  refine hK.out _ _ trivial (fun _ => ?_)
                  clear hK K
                  try simp only [Act.put, List.getElem_toArray, List.getElem_cons_zero, List.getElem_cons_succ, List.setIfInBounds_toArray, List.set_cons_zero, List.set_cons_succ]
                  refine wpAnyH_done (by kernel_rfl) ?_ _
                  go_wp2_with fail
                  go_roundw
                  case rel => exact ⟨i + 1, by omega, ⟨some ⟨g', 0, none⟩, cap', by rw [HG.out, List.length_append]; rfl, by rw [HG.out]; exact cellE_snoc own8⟩, by go_num, below_app bel6 hown3 hgr (Nat.le_refl _) (by omega)⟩
                  case measure => simp [intOf]; omega
                · have HIE := Lib.hid (show i = R.length by omega)
                  have HCRW : Hid ((R.map (fun e => (posL N.ends.length l e.1, e.2))).take i = ctRow N.ends (kpK N.ends l) (posL N.ends.length l) v) := Lib.hid (by rw [HIE.out, List.take_of_length_le (by rw [List.length_map]; exact Nat.le_refl _)]; exact HMP.out)
                  rw [HCRW.out] at hown hGl ⊢
                  have HPY := Lib.hid (fun hi => partT_yes (N := N) (kp := kpK N.ends l) (pos := posL N.ends.length l) hlt hi)
                  have HPN := Lib.hid (fun hi => partT_no (N := N) (kp := kpK N.ends l) (pos := posL N.ends.length l) hlt hi)
                  have HPL := Lib.hid (partT_len (N := N) (kp := kpK N.ends l) (pos := posL N.ends.length l) hkl)
                  rw [HNK.out, Int.toNat_natCast] at HPY HPN
                  generalize ctRow N.ends (kpK N.ends l) (posL N.ends.length l) v = r at *
                  obtain ⟨M, hM⟩ : ∃ M : Net, M = partT N l (kpK N.ends l) (posL N.ends.length l) k := ⟨_, rfl⟩
                  rw [← hM] at hNB HPY HPN HPL
                  clear hM
                  have hMl : M.ends.length ≤ 40 := by have := HPL.out.1; omega
                  have hMi : M.ids.length ≤ 40 := by have := HPL.out.2.1; omega
                  have hMp : M.inputs.length ≤ 40 := by have := HPL.out.2.2; omega
                  obtain ⟨a, c, vs, ai, ci, ap, cp, hbx, hE, owni, ownp, hdis⟩ := hNB
                  obtain ⟨wd, hwd⟩ : ∃ wd, wd = wr.alloc (.cells #[.slice ar r.length cr] 60) := ⟨_, rfl⟩
                  have bwd : Below wr.heap.size wr wd := by rw [hwd]; exact (by repeat (first | exact Below.refl _ _ | assumption | refine Below.alloc ?_ (by first | (simp; done) | (simp; omega) | omega) _ | refine Below.setCell ?_ (by first | (simp; done) | (simp; omega) | omega) _ | refine Below.drew ?_ | refine Below.drewN ?_ _))
                  have hnw : ∀ jj uu, [Value.slice ar r.length cr][jj]? = some uu → wd.cell? (Addr.add ⟨wr.heap.size, 0, none⟩ jj) = some uu := by
                    rw [hwd]
                    exact cell_one_new wr (.slice ar r.length cr) 60
                  have HWD := Lib.hid hwd
                  clear hwd
                  have zwd := bwd.size
                  have belk := bel.trans (bwd.mono zr2)
                  have hbxr := hbx.new bel
                  have q0 := hbxr.cell 0 _ rfl
                  have f0 := hbxr.frozen 0
                  have hEd := RowsAt.new hE belk
                  have hrd := Ow.wide (hi' := wd.heap.size) (Ow.new hown bwd) (Nat.le_refl _) zwd
                  have hid2 := Ow.new owni belk
                  have hip2 := Ow.new ownp belk
                  have hbd := hbx.new belk
                  clear hbx hE owni ownp hown
                  go_upto_region 29 with (at_builtin; rw [← HWD.out]; refine wpList_app rfl _ _ _ rfl 60 (.slice none 0 0) 1 24 Try.underlying27 ends_info rfl (by decide) b wk.heap.size a M.ends.length c _ rfl hEd.1 ⟨wr.heap.size, 0, none⟩ 1 1 [.slice ar r.length cr] rfl rfl hnw (by simp [Value.oneCell']) (by decide) (by unfold maxLen; omega) (by omega) (by omega) ?_; intro g' cap' w8 own8 hgr _ _; obtain ⟨hbx8, hNB8, hfr8⟩ := NBx.addRow (r := r) hbd hEd hid2 hip2 hdis zbr (by omega) (Nat.le_refl _) hrd hgr own8; have q8 := hbx8.cell 0 _ rfl; have f8 := hbx8.frozen 0; clear q0 f0)
                  have bt8 := (bt.trans (belk.mono zbr)).trans (hfr8.below (B := b) (fun k h1 h2 hc => hc.elim (fun h => by have := (hEd.1.blk_in h.symm).1; omega) (fun h => by omega)) (by omega))
                  clear q8 f8 hfr8 hbx8 hgr own8 hEd hid2 hip2 hbd hrd hbxr belk bwd HWD hnw hdis bel zr2 bt zwd
                  obtain ⟨w9, hw9⟩ : ∃ w9, w9 = w8.setCell ⟨b, 0, none⟩ (.slice (some ⟨g', 0, none⟩) (M.ends.length + 1) cap') := ⟨_, rfl⟩
                  rw [← hw9] at hNB8 bt8 ⊢
                  clear hw9
                  obtain ⟨a, c, vs, ai, ci, ap, cp, hbx, hE, owni, ownp, hdis⟩ := hNB8
                  have bwx := bb.trans (bt8.mono (by omega))
                  have hxb : b ≤ w9.heap.size := by have := bt8.size; omega
                  have hxc : b < w9.heap.size := by have := bt8.size; omega
                  have BAx := BA.below bt8 (by omega)
                  have hS1 : w9.drew.cell? ⟨b, 2, none⟩ = some (.slice ap ({ M with ends := M.ends ++ [r] } : Net).inputs.length cp) := hbx.cell 2 _ rfl
                  have hS2 : w9.drew.cell? ⟨w.heap.size, 2, none⟩ = some (.slice (some ⟨gp, offp, none⟩) N.inputs.length cp0) := BAx.cell 2 _ rfl
                  have hS3 : w9.drew.cell? ⟨gp, offp + v, none⟩ = some (.int .i64 (nth N.inputs v)) := (bwx.cell (p := ⟨gp, offp + v, none⟩) (by show gp < _; omega)).trans (HCP.out v (by have := HIL.out; omega))
                  refine wp_region_until 10 (fun X => X.cell? ⟨b, 2, none⟩ = some (.slice ap ({ M with ends := M.ends ++ [r] } : Net).inputs.length cp) ∧ X.cell? ⟨w.heap.size, 2, none⟩ = some (.slice (some ⟨gp, offp, none⟩) N.inputs.length cp0) ∧ X.cell? ⟨gp, offp + v, none⟩ = some (.int .i64 (nth N.inputs v))) (by kernel_rfl) ⟨hS1, hS2, hS3⟩ (fun hHeld => ?_)
                  have hxi : v < N.inputs.length := by have := HIL.out; omega
                  refine wpU_take (i := 0) (v := ?_) rfl (by kernel_rfl) (by kernel_rfl) (by kernel_rfl) (by kernel_rfl) (by kernel_rfl) (by kernel_rfl) (fun _ _ _ h => h) (Or.inl ⟨by rfl, ?_⟩) (by assumption) ?_
                  rotate_left
                  · (intro w hSw; (try dsimp only at hSw); obtain ⟨hq0, hq1, hq2⟩ := hSw; go_simp; try with_reducible rfl)
                  try simp only [Act.put, List.getElem_toArray, List.getElem_cons_zero, List.getElem_cons_succ, List.setIfInBounds_toArray, List.set_cons_zero, List.set_cons_succ]
                  refine wpU_take (i := 1) (v := ?_) rfl (by kernel_rfl) (by kernel_rfl) (by kernel_rfl) (by kernel_rfl) (by kernel_rfl) (by kernel_rfl) (fun _ _ _ h => h) (Or.inl ⟨by rfl, ?_⟩) (by assumption) ?_
                  rotate_left
                  · (intro w hSw; (try dsimp only at hSw); obtain ⟨hq0, hq1, hq2⟩ := hSw; go_simp; try with_reducible rfl)
                  try simp only [Act.put, List.getElem_toArray, List.getElem_cons_zero, List.getElem_cons_succ, List.setIfInBounds_toArray, List.set_cons_zero, List.set_cons_succ]
                  refine wpU_take (i := 2) (v := ?_) rfl (by kernel_rfl) (by kernel_rfl) (by kernel_rfl) (by kernel_rfl) (by kernel_rfl) (by kernel_rfl) (fun _ _ _ h => h) (Or.inl ⟨by rfl, ?_⟩) (by assumption) ?_
                  rotate_left
                  · (intro w hSw; (try dsimp only at hSw); obtain ⟨hq0, hq1, hq2⟩ := hSw; go_simp; try with_reducible rfl)
                  try simp only [Act.put, List.getElem_toArray, List.getElem_cons_zero, List.getElem_cons_succ, List.setIfInBounds_toArray, List.set_cons_zero, List.set_cons_succ]
                  refine wpU_take (i := 3) (v := ?_) rfl (by kernel_rfl) (by kernel_rfl) (by kernel_rfl) (by kernel_rfl) (by kernel_rfl) (by kernel_rfl) (fun _ _ _ h => h) (Or.inl ⟨by rfl, ?_⟩) (by assumption) ?_
                  rotate_left
                  · (intro w hSw; (try dsimp only at hSw); obtain ⟨hq0, hq1, hq2⟩ := hSw; go_simp; try with_reducible rfl)
                  try simp only [Act.put, List.getElem_toArray, List.getElem_cons_zero, List.getElem_cons_succ, List.setIfInBounds_toArray, List.set_cons_zero, List.set_cons_succ]
                  refine wpU_take (i := 4) (v := ?_) rfl (by kernel_rfl) (by kernel_rfl) (by kernel_rfl) (by kernel_rfl) (by kernel_rfl) (by kernel_rfl) (fun _ _ _ h => h) (Or.inl ⟨by rfl, ?_⟩) (by assumption) ?_
                  rotate_left
                  · (intro w hSw; (try dsimp only at hSw); obtain ⟨hq0, hq1, hq2⟩ := hSw; go_simp; try with_reducible rfl)
                  try simp only [Act.put, List.getElem_toArray, List.getElem_cons_zero, List.getElem_cons_succ, List.setIfInBounds_toArray, List.set_cons_zero, List.set_cons_succ]
                  refine wpU_take (i := 5) (v := ?_) rfl (by kernel_rfl) (by kernel_rfl) (by kernel_rfl) (by kernel_rfl) (by kernel_rfl) (by kernel_rfl) (fun _ _ _ h => h) (Or.inl ⟨by rfl, ?_⟩) (by assumption) ?_
                  rotate_left
                  · (intro w hSw; (try dsimp only at hSw); obtain ⟨hq0, hq1, hq2⟩ := hSw; go_simp; try with_reducible rfl)
                  try simp only [Act.put, List.getElem_toArray, List.getElem_cons_zero, List.getElem_cons_succ, List.setIfInBounds_toArray, List.set_cons_zero, List.set_cons_succ]
                  refine wpU_take (i := 6) (v := ?_) rfl (by kernel_rfl) (by kernel_rfl) (by kernel_rfl) (by kernel_rfl) (by kernel_rfl) (by kernel_rfl) (fun _ _ _ h => h) (Or.inl ⟨by rfl, ?_⟩) (by assumption) ?_
                  rotate_left
                  · (intro w hSw; (try dsimp only at hSw); obtain ⟨hq0, hq1, hq2⟩ := hSw; go_simp; try with_reducible rfl)
                  try simp only [Act.put, List.getElem_toArray, List.getElem_cons_zero, List.getElem_cons_succ, List.setIfInBounds_toArray, List.set_cons_zero, List.set_cons_succ]
                  replace hbx : Bx w9.drew b 29 #[.slice a ({ M with ends := M.ends ++ [r] } : Net).ends.length c, .slice ai ({ M with ends := M.ends ++ [r] } : Net).ids.length ci, .slice ap ({ M with ends := M.ends ++ [r] } : Net).inputs.length cp] := hbx
                  have hbd : Below b w3 w9.drew := bt8.drew
                  have hxd : w9.drew.heap.size = w9.heap.size := rfl
                  replace hE : RowsE w9.drew b w9.drew.heap.size a c ({ M with ends := M.ends ++ [r] } : Net).ends vs := hE
                  replace owni : OwI w9.drew b w9.drew.heap.size ai ci ({ M with ends := M.ends ++ [r] } : Net).ids := owni
                  replace ownp : OwI w9.drew b w9.drew.heap.size ap cp ({ M with ends := M.ends ++ [r] } : Net).inputs := ownp
                  rw [← hxd] at hxb hxc
                  clear hxd bwx BAx bt8
                  generalize w9.drew = xd at *
                  obtain ⟨xe, hxe⟩ : ∃ xe, xe = xd.alloc (.cells #[.int .i64 (nth N.inputs v)] 3) := ⟨_, rfl⟩
                  have bxe : Below xd.heap.size xd xe := by rw [hxe]; exact (by repeat (first | exact Below.refl _ _ | assumption | refine Below.alloc ?_ (by first | (simp; done) | (simp; omega) | omega) _ | refine Below.setCell ?_ (by first | (simp; done) | (simp; omega) | omega) _ | refine Below.drew ?_ | refine Below.drewN ?_ _))
                  have hnw : ∀ jj uu, [Value.int .i64 (nth N.inputs v)][jj]? = some uu → xe.cell? (Addr.add ⟨xd.heap.size, 0, none⟩ jj) = some uu := by
                    rw [hxe]
                    exact cell_one_new xd (.int .i64 (nth N.inputs v)) 3
                  have HXE := Lib.hid hxe
                  clear hxe
                  have zxe := bxe.size
                  have hm0 : ({ M with ends := M.ends ++ [r] } : Net).inputs.length ≤ 40 := hMp
                  refine wpU_ready (rs := [7]) (by kernel_rfl) (by simp) (by kernel_rfl) ?_
                  refine AllReadyU.cons (o := _) rfl (fun K hK => ?_) AllReadyU.nil
                  go_simp
                  rw [← HXE.out]
                  refine hK.out _ _ ⟨cell_new_ bxe hS1, cell_new_ bxe hS2, cell_new_ bxe hS3⟩ (fun hHeld => ?_)
                  clear hK K
                  try simp only [Act.put, List.getElem_toArray, List.getElem_cons_zero, List.getElem_cons_succ, List.setIfInBounds_toArray, List.set_cons_zero, List.set_cons_succ]
                  refine wpU_ready (rs := [8]) (by kernel_rfl) (by simp) (by kernel_rfl) ?_
                  refine AllReadyU.cons (o := _) rfl (fun K hK => ?_) AllReadyU.nil
                  rw [if_pos (by rfl)]
                  refine step_app _ _ _ rfl 3 (.int .i64 0) 1 8 Try.underlying23 int_info rfl (by decide) b xd.heap.size ap ({ M with ends := M.ends ++ [r] } : Net).inputs.length cp _ rfl (Ow.new ownp bxe) ⟨xd.heap.size, 0, none⟩ 1 1 [.int .i64 (nth N.inputs v)] rfl rfl hnw (by simp [Value.oneCell']) (by decide) (by unfold maxLen; omega) (by omega) (by omega) ?_
                  intro g' cap' xw ownw hgr hnew hcap
                  obtain ⟨hbx8, hNBn, hfr8⟩ := NBx.addInput (z := nth N.inputs v) (hbx.new bxe) (RowsAt.new hE bxe) (Ow.new owni bxe) (Ow.new ownp bxe) hdis zxe (Nat.le_refl _) hgr hnew ownw
                  have b8 : Below b xe xw := (Below.refl _ _).grown hgr (Nat.le_trans hxb zxe) (fun k hk => (Ow.blk_in ownp hk).1)
                  refine hK.out _ _ ⟨hbx8.cell 2 _ rfl, (b8.cell (p := ⟨w.heap.size, 2, none⟩) (by show w.heap.size < b; omega)).trans (cell_new_ bxe hS2), (b8.cell (p := ⟨gp, offp + v, none⟩) (by show gp < b; omega)).trans (cell_new_ bxe hS3)⟩ (fun hHeld => ?_)
                  clear hK K
                  try simp only [Act.put, List.getElem_toArray, List.getElem_cons_zero, List.getElem_cons_succ, List.setIfInBounds_toArray, List.set_cons_zero, List.set_cons_succ]
                  
                  refine wpU_take (i := 9) (v := ?_) rfl (by kernel_rfl) (by kernel_rfl) (by kernel_rfl) (by kernel_rfl) (by kernel_rfl) (by kernel_rfl) (fun _ _ _ h => h) (Or.inl ⟨by rfl, ?_⟩) (by assumption) ?_
                  rotate_left
                  · (intro w hSw; (try dsimp only at hSw); obtain ⟨hq0, hq1, hq2⟩ := hSw; go_simp; try with_reducible rfl)
                  try simp only [Act.put, List.getElem_toArray, List.getElem_cons_zero, List.getElem_cons_succ, List.setIfInBounds_toArray, List.set_cons_zero, List.set_cons_succ]
                  refine wpU_last (by kernel_rfl) ?_
                  refine wpAnyH_ready (rs := [10]) (by kernel_rfl) (by simp) ?_
                  refine AllReadyH.cons (o := _) rfl (fun K hK => ?_) AllReadyH.nil
                  have q2 := hbx8.cell 2 _ rfl
                  have f2 := hbx8.frozen 2
                  go_simp
                  clear q2 f2
                  refine hK.out _ _ trivial (fun _ => ?_)
                  clear hK K
                  try simp only [Act.put, List.getElem_toArray, List.getElem_cons_zero, List.getElem_cons_succ, List.setIfInBounds_toArray, List.set_cons_zero, List.set_cons_succ]
                  refine wpAnyH_done (by kernel_rfl) ?_ _
                  have btn := (hbd.trans (bxe.mono hxb)).trans (hfr8.below (B := b) (fun k h1 h2 hc => hc.elim (fun h => by have := (Ow.blk_in ownp h.symm).1; omega) (fun h => by omega)) (Nat.le_trans hxb zxe))
                  clear hHeld hm0 hfr8 hbx8 b8 hgr hnew hcap ownw hnw bxe HXE zxe hbd hS1 hS2 hS3 hbx hE owni ownp hdis hxb hxc hxi
                  obtain ⟨wzn, hwz⟩ : ∃ wz, wz = xw.setCell ⟨b, 2, none⟩ (.slice (some ⟨g', 0, none⟩) (({ M with ends := M.ends ++ [r] } : Net).inputs.length + 1) cap') := ⟨_, rfl⟩
                  rw [← hwz] at hNBn btn ⊢
                  clear hwz
                  replace hNBn : NBx wzn b b ({ M with ends := M.ends ++ [r], inputs := M.inputs ++ [nth N.inputs v] } : Net) := hNBn
                  have BAx := BA.below btn (by omega)
                  have q1 := BAx.cell 1 _ rfl
                  by_cases hi0 : N.ids.length = 0
                  · have hgt : decide ((N.ids.length : Int) > 0) = false := decide_eq_false (by omega)
                    go_wp2_with fail
                    clear q1 BAx
                    go_roundw
                    case rel => exact ⟨k + 1, by omega, by go_num, by rw [HPN.out hi0]; exact hNBn, btn⟩
                    case measure => simp [intOf]; omega
                  · have hgt : decide ((N.ids.length : Int) > 0) = true := decide_eq_true (by omega)
                    have hin : N.ids.length = N.ends.length := HID.out.resolve_left hi0
                    go_upto_region 31 with fail
                    clear q1 BAx
                    obtain ⟨gi, offi, hie, hgi, hci⟩ := HI0.out (by omega)
                    subst hie
                    have HCI := Lib.hid hci
                    clear hci
                    obtain ⟨a, c, vs, ai, ci, ap, cp, hbx, hE, owni, ownp, hdis⟩ := hNBn
                    have bwx := bb.trans (btn.mono (by omega))
                    have hxb : b ≤ wzn.heap.size := by have := btn.size; omega
                    have hxc : b < wzn.heap.size := by have := btn.size; omega
                    have BAx := BA.below btn (by omega)
                    have hS1 : wzn.drew.cell? ⟨b, 1, none⟩ = some (.slice ai ({ M with ends := M.ends ++ [r], inputs := M.inputs ++ [nth N.inputs v] } : Net).ids.length ci) := hbx.cell 1 _ rfl
                    have hS2 : wzn.drew.cell? ⟨w.heap.size, 1, none⟩ = some (.slice (some ⟨gi, offi, none⟩) N.ids.length ci0) := BAx.cell 1 _ rfl
                    have hS3 : wzn.drew.cell? ⟨gi, offi + v, none⟩ = some (.int .i64 (nth N.ids v)) := (bwx.cell (p := ⟨gi, offi + v, none⟩) (by show gi < _; omega)).trans (HCI.out v (by omega))
                    refine wp_region_until 10 (fun X => X.cell? ⟨b, 1, none⟩ = some (.slice ai ({ M with ends := M.ends ++ [r], inputs := M.inputs ++ [nth N.inputs v] } : Net).ids.length ci) ∧ X.cell? ⟨w.heap.size, 1, none⟩ = some (.slice (some ⟨gi, offi, none⟩) N.ids.length ci0) ∧ X.cell? ⟨gi, offi + v, none⟩ = some (.int .i64 (nth N.ids v))) (by kernel_rfl) ⟨hS1, hS2, hS3⟩ (fun hHeld => ?_)
                    have hxi : v < N.ids.length := by omega
                    refine wpU_take (i := 0) (v := ?_) rfl (by kernel_rfl) (by kernel_rfl) (by kernel_rfl) (by kernel_rfl) (by kernel_rfl) (by kernel_rfl) (fun _ _ _ h => h) (Or.inl ⟨by rfl, ?_⟩) (by assumption) ?_
                    rotate_left
                    · (intro w hSw; (try dsimp only at hSw); obtain ⟨hq0, hq1, hq2⟩ := hSw; go_simp; try with_reducible rfl)
                    try simp only [Act.put, List.getElem_toArray, List.getElem_cons_zero, List.getElem_cons_succ, List.setIfInBounds_toArray, List.set_cons_zero, List.set_cons_succ]
                    refine wpU_take (i := 1) (v := ?_) rfl (by kernel_rfl) (by kernel_rfl) (by kernel_rfl) (by kernel_rfl) (by kernel_rfl) (by kernel_rfl) (fun _ _ _ h => h) (Or.inl ⟨by rfl, ?_⟩) (by assumption) ?_
                    rotate_left
                    · (intro w hSw; (try dsimp only at hSw); obtain ⟨hq0, hq1, hq2⟩ := hSw; go_simp; try with_reducible rfl)
                    try simp only [Act.put, List.getElem_toArray, List.getElem_cons_zero, List.getElem_cons_succ, List.setIfInBounds_toArray, List.set_cons_zero, List.set_cons_succ]
                    refine wpU_take (i := 2) (v := ?_) rfl (by kernel_rfl) (by kernel_rfl) (by kernel_rfl) (by kernel_rfl) (by kernel_rfl) (by kernel_rfl) (fun _ _ _ h => h) (Or.inl ⟨by rfl, ?_⟩) (by assumption) ?_
                    rotate_left
                    · (intro w hSw; (try dsimp only at hSw); obtain ⟨hq0, hq1, hq2⟩ := hSw; go_simp; try with_reducible rfl)
                    try simp only [Act.put, List.getElem_toArray, List.getElem_cons_zero, List.getElem_cons_succ, List.setIfInBounds_toArray, List.set_cons_zero, List.set_cons_succ]
                    refine wpU_take (i := 3) (v := ?_) rfl (by kernel_rfl) (by kernel_rfl) (by kernel_rfl) (by kernel_rfl) (by kernel_rfl) (by kernel_rfl) (fun _ _ _ h => h) (Or.inl ⟨by rfl, ?_⟩) (by assumption) ?_
                    rotate_left
                    · (intro w hSw; (try dsimp only at hSw); obtain ⟨hq0, hq1, hq2⟩ := hSw; go_simp; try with_reducible rfl)
                    try simp only [Act.put, List.getElem_toArray, List.getElem_cons_zero, List.getElem_cons_succ, List.setIfInBounds_toArray, List.set_cons_zero, List.set_cons_succ]
                    refine wpU_take (i := 4) (v := ?_) rfl (by kernel_rfl) (by kernel_rfl) (by kernel_rfl) (by kernel_rfl) (by kernel_rfl) (by kernel_rfl) (fun _ _ _ h => h) (Or.inl ⟨by rfl, ?_⟩) (by assumption) ?_
                    rotate_left
                    · (intro w hSw; (try dsimp only at hSw); obtain ⟨hq0, hq1, hq2⟩ := hSw; go_simp; try with_reducible rfl)
                    try simp only [Act.put, List.getElem_toArray, List.getElem_cons_zero, List.getElem_cons_succ, List.setIfInBounds_toArray, List.set_cons_zero, List.set_cons_succ]
                    refine wpU_take (i := 5) (v := ?_) rfl (by kernel_rfl) (by kernel_rfl) (by kernel_rfl) (by kernel_rfl) (by kernel_rfl) (by kernel_rfl) (fun _ _ _ h => h) (Or.inl ⟨by rfl, ?_⟩) (by assumption) ?_
                    rotate_left
                    · (intro w hSw; (try dsimp only at hSw); obtain ⟨hq0, hq1, hq2⟩ := hSw; go_simp; try with_reducible rfl)
                    try simp only [Act.put, List.getElem_toArray, List.getElem_cons_zero, List.getElem_cons_succ, List.setIfInBounds_toArray, List.set_cons_zero, List.set_cons_succ]
                    refine wpU_take (i := 6) (v := ?_) rfl (by kernel_rfl) (by kernel_rfl) (by kernel_rfl) (by kernel_rfl) (by kernel_rfl) (by kernel_rfl) (fun _ _ _ h => h) (Or.inl ⟨by rfl, ?_⟩) (by assumption) ?_
                    rotate_left
                    · (intro w hSw; (try dsimp only at hSw); obtain ⟨hq0, hq1, hq2⟩ := hSw; go_simp; try with_reducible rfl)
                    try simp only [Act.put, List.getElem_toArray, List.getElem_cons_zero, List.getElem_cons_succ, List.setIfInBounds_toArray, List.set_cons_zero, List.set_cons_succ]
                    replace hbx : Bx wzn.drew b 29 #[.slice a ({ M with ends := M.ends ++ [r], inputs := M.inputs ++ [nth N.inputs v] } : Net).ends.length c, .slice ai ({ M with ends := M.ends ++ [r], inputs := M.inputs ++ [nth N.inputs v] } : Net).ids.length ci, .slice ap ({ M with ends := M.ends ++ [r], inputs := M.inputs ++ [nth N.inputs v] } : Net).inputs.length cp] := hbx
                    have hbd : Below b w3 wzn.drew := btn.drew
                    have hxd : wzn.drew.heap.size = wzn.heap.size := rfl
                    replace hE : RowsE wzn.drew b wzn.drew.heap.size a c ({ M with ends := M.ends ++ [r], inputs := M.inputs ++ [nth N.inputs v] } : Net).ends vs := hE
                    replace owni : OwI wzn.drew b wzn.drew.heap.size ai ci ({ M with ends := M.ends ++ [r], inputs := M.inputs ++ [nth N.inputs v] } : Net).ids := owni
                    replace ownp : OwI wzn.drew b wzn.drew.heap.size ap cp ({ M with ends := M.ends ++ [r], inputs := M.inputs ++ [nth N.inputs v] } : Net).inputs := ownp
                    rw [← hxd] at hxb hxc
                    clear hxd bwx BAx btn
                    generalize wzn.drew = xd at *
                    obtain ⟨xe, hxe⟩ : ∃ xe, xe = xd.alloc (.cells #[.int .i64 (nth N.ids v)] 3) := ⟨_, rfl⟩
                    have bxe : Below xd.heap.size xd xe := by rw [hxe]; exact (by repeat (first | exact Below.refl _ _ | assumption | refine Below.alloc ?_ (by first | (simp; done) | (simp; omega) | omega) _ | refine Below.setCell ?_ (by first | (simp; done) | (simp; omega) | omega) _ | refine Below.drew ?_ | refine Below.drewN ?_ _))
                    have hnw : ∀ jj uu, [Value.int .i64 (nth N.ids v)][jj]? = some uu → xe.cell? (Addr.add ⟨xd.heap.size, 0, none⟩ jj) = some uu := by
                      rw [hxe]
                      exact cell_one_new xd (.int .i64 (nth N.ids v)) 3
                    have HXE := Lib.hid hxe
                    clear hxe
                    have zxe := bxe.size
                    have hm0 : ({ M with ends := M.ends ++ [r], inputs := M.inputs ++ [nth N.inputs v] } : Net).ids.length ≤ 40 := hMi
                    refine wpU_ready (rs := [7]) (by kernel_rfl) (by simp) (by kernel_rfl) ?_
                    refine AllReadyU.cons (o := _) rfl (fun K hK => ?_) AllReadyU.nil
                    go_simp
                    rw [← HXE.out]
                    refine hK.out _ _ ⟨cell_new_ bxe hS1, cell_new_ bxe hS2, cell_new_ bxe hS3⟩ (fun hHeld => ?_)
                    clear hK K
                    try simp only [Act.put, List.getElem_toArray, List.getElem_cons_zero, List.getElem_cons_succ, List.setIfInBounds_toArray, List.set_cons_zero, List.set_cons_succ]
                    refine wpU_ready (rs := [8]) (by kernel_rfl) (by simp) (by kernel_rfl) ?_
                    refine AllReadyU.cons (o := _) rfl (fun K hK => ?_) AllReadyU.nil
                    rw [if_pos (by rfl)]
                    refine step_app _ _ _ rfl 3 (.int .i64 0) 1 8 Try.underlying23 int_info rfl (by decide) b xd.heap.size ai ({ M with ends := M.ends ++ [r], inputs := M.inputs ++ [nth N.inputs v] } : Net).ids.length ci _ rfl (Ow.new owni bxe) ⟨xd.heap.size, 0, none⟩ 1 1 [.int .i64 (nth N.ids v)] rfl rfl hnw (by simp [Value.oneCell']) (by decide) (by unfold maxLen; omega) (by omega) (by omega) ?_
                    intro g' cap' xw ownw hgr hnew hcap
                    obtain ⟨hbx8, hNBf, hfr8⟩ := NBx.addId (z := nth N.ids v) (hbx.new bxe) (RowsAt.new hE bxe) (Ow.new owni bxe) (Ow.new ownp bxe) hdis zxe hgr hnew hcap ownw
                    have b8 : Below b xe xw := (Below.refl _ _).grown hgr (Nat.le_trans hxb zxe) (fun k hk => (Ow.blk_in owni hk).1)
                    refine hK.out _ _ ⟨hbx8.cell 1 _ rfl, (b8.cell (p := ⟨w.heap.size, 1, none⟩) (by show w.heap.size < b; omega)).trans (cell_new_ bxe hS2), (b8.cell (p := ⟨gi, offi + v, none⟩) (by show gi < b; omega)).trans (cell_new_ bxe hS3)⟩ (fun hHeld => ?_)
                    clear hK K
                    try simp only [Act.put, List.getElem_toArray, List.getElem_cons_zero, List.getElem_cons_succ, List.setIfInBounds_toArray, List.set_cons_zero, List.set_cons_succ]
                    
                    refine wpU_take (i := 9) (v := ?_) rfl (by kernel_rfl) (by kernel_rfl) (by kernel_rfl) (by kernel_rfl) (by kernel_rfl) (by kernel_rfl) (fun _ _ _ h => h) (Or.inl ⟨by rfl, ?_⟩) (by assumption) ?_
                    rotate_left
                    · (intro w hSw; (try dsimp only at hSw); obtain ⟨hq0, hq1, hq2⟩ := hSw; go_simp; try with_reducible rfl)
                    try simp only [Act.put, List.getElem_toArray, List.getElem_cons_zero, List.getElem_cons_succ, List.setIfInBounds_toArray, List.set_cons_zero, List.set_cons_succ]
                    refine wpU_last (by kernel_rfl) ?_
                    refine wpAnyH_ready (rs := [10]) (by kernel_rfl) (by simp) ?_
                    refine AllReadyH.cons (o := _) rfl (fun K hK => ?_) AllReadyH.nil
                    have q2 := hbx8.cell 1 _ rfl
                    have f2 := hbx8.frozen 1
                    go_simp
                    clear q2 f2
                    refine hK.out _ _ trivial (fun _ => ?_)
                    clear hK K
                    try simp only [Act.put, List.getElem_toArray, List.getElem_cons_zero, List.getElem_cons_succ, List.setIfInBounds_toArray, List.set_cons_zero, List.set_cons_succ]
                    refine wpAnyH_done (by kernel_rfl) ?_ _
                    have btf := (hbd.trans (bxe.mono hxb)).trans (hfr8.below (B := b) (fun k h1 h2 hc => hc.elim (fun h => by have := (Ow.blk_in owni h.symm).1; omega) (fun h => by omega)) (Nat.le_trans hxb zxe))
                    clear hHeld hm0 hfr8 hbx8 b8 hgr hnew hcap ownw hnw bxe HXE zxe hbd hS1 hS2 hS3 hbx hE owni ownp hdis hxb hxc hxi
                    obtain ⟨wzf, hwz⟩ : ∃ wz, wz = xw.setCell ⟨b, 1, none⟩ (.slice (some ⟨g', 0, none⟩) (({ M with ends := M.ends ++ [r], inputs := M.inputs ++ [nth N.inputs v] } : Net).ids.length + 1) cap') := ⟨_, rfl⟩
                    rw [← hwz] at hNBf btf ⊢
                    clear hwz
                    go_wp2_with fail
                    go_roundw
                    case rel =>
                      have hf9 : NBx wzf b b (partT N l (kpK N.ends l) (posL N.ends.length l) (k + 1)) := by rw [HPY.out (by omega)]; exact hNBf
                      first | exact ⟨k + 1, by omega, by go_num, hf9, btf⟩ | exact ⟨_, _, _, _, ⟨k + 1, by omega, rfl, hf9⟩, rfl, rfl, rfl, by go_num⟩ | exact ⟨_, _, _, _, ⟨k + 1, by omega, rfl, hf9, btf⟩, rfl, rfl, rfl, by go_num⟩
                    case measure => simp [intOf]; omega
            · have HKE := Lib.hid (show k = l.length by omega)
              rw [HKE.out] at hNB
              have HPT : Hid (partT N l (kpK N.ends l) (posL N.ends.length l) l.length = partN N l (kpK N.ends l) (posL N.ends.length l)) := Lib.hid rfl
              rw [HPT.out] at hNB
              obtain ⟨Nk, hNk⟩ : ∃ Nk, Nk = partN N l (kpK N.ends l) (posL N.ends.length l) := ⟨_, rfl⟩
              rw [← hNk] at hNB
              have HNk := Lib.hid hNk
              clear hNk
              obtain ⟨ax, cx, aix, cix, apx, cpx, BO, own9⟩ := hNB.at_
              replace BR := BR.below bt (by omega)
              replace bb := bb.trans (bt.mono (by omega))
              have q0 := BO.cell 0 _ rfl
              have q1 := BO.cell 1 _ rfl
              have q2 := BO.cell 2 _ rfl
              have e0 := BR.cell 0 _ rfl
              have e1 := BR.cell 1 _ rfl
              have e2 := BR.cell 2 _ rfl
              have f0 := BR.frozen 0
              have f1 := BR.frozen 1
              have f2 := BR.frozen 2
              go_wp2_with fail
              clear q0 q1 q2 e0 e1 e2 f0 f1 f2
              generalize hW : World.setCell _ _ _ = W
              have B6 : Bx W (w.heap.size + 1) 29 #[.slice ax Nk.ends.length cx, .slice aix Nk.ids.length cix, .slice apx Nk.inputs.length cpx] := by rw [← hW]; exact ((BR.set 0 _).set 1 _).set 2 _
              have fr6 : Fr (fun k => k = w.heap.size + 1) wr W := by rw [← hW]; exact fr3 _ _ _ _ _
              clear hW
              have z6 := fr6.size
              have d0 := B6.cell 0 _ rfl
              have d1 := B6.cell 1 _ rfl
              have d2 := B6.cell 2 _ rfl
              refine bodyPost_ret (v := .agg #[.slice ax Nk.ends.length cx, .slice aix Nk.ids.length cix, .slice apx Nk.inputs.length cpx]) (by simp [results, Try.results59, go_sem, d0, d1, d2]) rfl ?_
              rw [← HNk.out]
              exact ⟨_, rfl, (own9.frBx BR fr6).wide (by omega) (by omega), bb.trans (fr6.below (fun k h1 h2 hc => by omega) bb.size)⟩
end Go.Proofs.Ytlooinhdehkcdaa
