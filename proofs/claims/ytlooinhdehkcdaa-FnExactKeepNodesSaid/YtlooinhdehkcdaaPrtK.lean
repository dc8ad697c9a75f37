/- RemoveEdge, KeepNodes: impl's part, for one closure. -/
import Derived.Test.YtlooinhdehkcdaaPrtP
import Derived.Test.YtlooinhdehkcdaaRmvS
namespace Go.Proofs.Ytlooinhdehkcdaa
open Go.RowKit Go.Maps
set_option linter.unusedVariables false
set_option linter.unusedSimpArgs false

set_option maxRecDepth 100000 in
set_option maxHeartbeats 6400000 in
theorem partK_any (V : Value) (N : Net) (nodes : List Int) (kp : Nat → Nat → Bool) (pos : Int → Int) (an : Option Addr) (capn : Nat) (x1 x2 : Nat) (w : World) (B : Nat) (hv : NetIn w B V N) (ha : RdI w B an nodes) (hB : B ≤ w.heap.size) (hnet : netB N = true) (hok : PartOk N nodes kp pos)
    (HFN : ∀ X (v i : Nat), Below w.heap.size w X → v < N.ends.length → i < (rowOf N.ends v).length → Calls Try.prog 85 #[.int .i64 v, .int .i64 i, .pointer (some ⟨x1, 0, none⟩), .pointer (some ⟨x2, 0, none⟩)] X fun e w' => e = .returned (.bool (kp v i)) ∧ Below X.heap.size X w') :
    Calls Try.prog 55 #[V, .slice an nodes.length capn, .func (.func 85) #[] #[.pointer (some ⟨x1, 0, none⟩), .pointer (some ⟨x2, 0, none⟩)]] w fun e w' => ∃ x, e = .returned x ∧ NetAt w' w.heap.size w'.heap.size x (partN N nodes kp pos) ∧ Below w.heap.size w w' := by
  have HN := Lib.hid hnet
  have HSM := Lib.hid (netB_small hnet)
  have HF := Lib.hid HFN
  have HOK := Lib.hid hok
  have hnl : nodes.length ≤ 40 := hok.1
  have HA := Lib.hid ha
  have HID := Lib.hid (netB_ids hnet)
  obtain ⟨a0, c0, vs0, ai0, ci0, ap0, cp0, rfl, h1, h2, h3, _⟩ := hv
  have hle : N.ends.length ≤ 40 := HSM.out.1
  have hge : 1 ≤ N.ends.length := HSM.out.2.1
  have HIL := Lib.hid HSM.out.2.2.2.2
  have hid1 : N.ids.length ≤ 40 := HSM.out.2.2.2.1
  obtain ⟨g0, off0, rfl, hg0, hc0⟩ := h1.1 (by omega)
  obtain ⟨gp, offp, rfl, hgp, hcp⟩ := h3 (by have := HIL.out; omega)
  have HC0 := Lib.hid hc0
  have HCP := Lib.hid hcp
  have HR0 := Lib.hid h1.2
  have HI0 := Lib.hid h2
  clear hnet hok HFN ha h1 h2 h3 hc0 hcp
  have BA := ((Bx.made w 29 #[.slice (some ⟨g0, off0, none⟩) N.ends.length c0, .slice ai0 N.ids.length ci0, .slice (some ⟨gp, offp, none⟩) N.inputs.length cp0]).alloc (.cells #[.slice none 0 0, .slice none 0 0, .slice none 0 0] 29)).alloc (.cells #[.slice none 0 0, .slice none 0 0, .slice none 0 0] 29)
  have BR := (Bx.made (w.alloc (.cells #[.slice (some ⟨g0, off0, none⟩) N.ends.length c0, .slice ai0 N.ids.length ci0, .slice (some ⟨gp, offp, none⟩) N.inputs.length cp0] 29)) 29 #[.slice none 0 0, .slice none 0 0, .slice none 0 0]).alloc (.cells #[.slice none 0 0, .slice none 0 0, .slice none 0 0] 29)
  have BO := Bx.made ((w.alloc (.cells #[.slice (some ⟨g0, off0, none⟩) N.ends.length c0, .slice ai0 N.ids.length ci0, .slice (some ⟨gp, offp, none⟩) N.inputs.length cp0] 29)).alloc (.cells #[.slice none 0 0, .slice none 0 0, .slice none 0 0] 29)) 29 #[.slice none 0 0, .slice none 0 0, .slice none 0 0]
  have b0 : Below w.heap.size w (((w.alloc (.cells #[.slice (some ⟨g0, off0, none⟩) N.ends.length c0, .slice ai0 N.ids.length ci0, .slice (some ⟨gp, offp, none⟩) N.inputs.length cp0] 29)).alloc (.cells #[.slice none 0 0, .slice none 0 0, .slice none 0 0] 29)).alloc (.cells #[.slice none 0 0, .slice none 0 0, .slice none 0 0] 29)) := (by repeat (first | exact Below.refl _ _ | assumption | refine Below.alloc ?_ (by first | (simp; done) | (simp; omega) | omega) _ | refine Below.setCell ?_ (by first | (simp; done) | (simp; omega) | omega) _ | refine Below.drew ?_ | refine Below.drewN ?_ _))
  have z0 : w.heap.size + 1 + 1 + 1 ≤ (((w.alloc (.cells #[.slice (some ⟨g0, off0, none⟩) N.ends.length c0, .slice ai0 N.ids.length ci0, .slice (some ⟨gp, offp, none⟩) N.inputs.length cp0] 29)).alloc (.cells #[.slice none 0 0, .slice none 0 0, .slice none 0 0] 29)).alloc (.cells #[.slice none 0 0, .slice none 0 0, .slice none 0 0] 29)).heap.size := by simp
  rw [World.size_alloc] at BR
  rw [World.size_alloc, World.size_alloc] at BO
  go_enter Try.func55, Try.ntmps55
  go_upto_region 2 with fail
  generalize ((w.alloc (.cells #[.slice (some ⟨g0, off0, none⟩) N.ends.length c0, .slice ai0 N.ids.length ci0, .slice (some ⟨gp, offp, none⟩) N.inputs.length cp0] 29)).alloc (.cells #[.slice none 0 0, .slice none 0 0, .slice none 0 0] 29)).alloc (.cells #[.slice none 0 0, .slice none 0 0, .slice none 0 0] 29) = w0 at *
  obtain ⟨b, hb⟩ : ∃ b, b = w.heap.size + 1 + 1 := ⟨_, rfl⟩
  rw [← hb] at BO z0 ⊢
  have zb1 : w.heap.size + 1 < b := by omega
  clear hb
  have hmk := fun X : World => run_makeMap (P := Try.prog) 92 X
  go_upto_region 3 with fail
  have hmap := PMap.made w0 (ctE kp pos)
  have b1 : Below w0.heap.size w0 (w0.alloc (.map #[] 0)) := (by repeat (first | exact Below.refl _ _ | assumption | refine Below.alloc ?_ (by first | (simp; done) | (simp; omega) | omega) _ | refine Below.setCell ?_ (by first | (simp; done) | (simp; omega) | omega) _ | refine Below.drew ?_ | refine Below.drewN ?_ _))
  replace BA := BA.new b1
  replace BR := BR.new b1
  replace BO := BO.new b1
  have bb := b0.trans (b1.mono b0.size)
  obtain ⟨bm, hbm⟩ : ∃ x, x = w0.heap.size := ⟨_, rfl⟩
  rw [← hbm] at hmap b1 z0 ⊢
  have z1 : bm ≤ (w0.alloc (.map #[] 0)).heap.size := by simp; omega
  generalize w0.alloc (.map #[] 0) = w1 at *
  have zbm : b < bm := by omega
  clear hmk b0 b1 hbm z0
  have HM0 : Hid (PMap w1 bm 0 (ptH N.ends nodes kp 0 0) (ctE kp pos)) := Lib.hid (hmap.mono (Nat.le_refl _) fun e h => ptH_zero h)
  clear hmap
  go_wp2_with fail
  go_loopw [21] (fun iv wr => ∃ k : Nat, k ≤ nodes.length ∧ iv = .int .i64 k ∧ PMap wr bm (6 * k) (ptH N.ends nodes kp k 0) (ctE kp pos) ∧ Below bm w1 wr) (fun iv _ => nodes.length - (intOf iv).toNat)
  case atStart => exact ⟨0, Nat.zero_le _, rfl, HM0.out, Below.refl _ _⟩
  case round =>
    clear HM0
    obtain ⟨k, hkl, rfl, hmap, bel⟩ := hrel
    have zr := bel.size
    by_cases hlt : k < nodes.length
    · have bw := bb.trans (bel.mono (by omega))
      obtain ⟨v, hnk, hvl, hpos, _⟩ := HOK.out.2 k hlt
      have HNK := Lib.hid hnk
      have HPS := Lib.hid hpos
      obtain ⟨gn, on_, hne, _, hcn⟩ := Rd.at (HA.out.below (bw.mono hB)) hlt
      subst hne
      rw [hnk] at hcn
      clear hnk hpos
      have BAr := BA.below bel (by omega)
      have q0 := BAr.cell 0 _ rfl
      have hc1 := (bw.cell (p := ⟨g0, off0 + v, none⟩) (by show g0 < _; omega)).trans (HC0.out v hvl)
      have hL1 := net_row HN.out hvl
      generalize (vs0 v).1 = ax at *
      generalize (vs0 v).2 = cx at *
      obtain ⟨wk, hwk⟩ : ∃ wk, wk = wr := ⟨_, rfl⟩
      subst hwk
      go_wp2_with fail
      clear hc1 q0 hcn
      go_loopw [11, 32] (fun pv iv wr => ∃ i : Nat, i ≤ (rowOf N.ends v).length ∧ pv = .int .i64 (rkF (kp v) i : Nat) ∧ iv = .int .i64 i ∧ PMap wr bm (6 * k + i) (ptH N.ends nodes kp k i) (ctE kp pos) ∧ Below bm w1 wr) (fun _ iv _ => (rowOf N.ends v).length - (intOf iv).toNat)
      case atStart => exact ⟨0, Nat.zero_le _, rfl, rfl, hmap, bel⟩
      case round =>
        clear hmap bel zr bw BAr
        obtain ⟨i, hi, rfl, rfl, hmap, bel⟩ := hrel
        have zr := bel.size
        have bw := bb.trans (bel.mono (by omega))
        have hkk := rkF_le (kp v) i
        by_cases hil : i < (rowOf N.ends v).length
        · have HRF := Lib.hid (show rkF (kp v) (i + 1) = rkF (kp v) i + if kp v i then 1 else 0 from rfl)
          have HCT : Hid (ctE kp pos ((v : Int), (i : Int)) = ((k : Int), (rkF (kp v) i : Int))) := Lib.hid (by unfold ctE; simp only [Int.toNat_natCast]; rw [HPS.out])
          generalize rkF (kp v) i = kk at *
          go_wp2_with fail
          refine (HF.out wr v i bw hvl hil).mono ?_
          rintro e w4 ⟨rfl, bel4⟩
          replace hmap := hmap.new bel4
          replace bel := bel.trans (bel4.mono (Nat.le_trans z1 zr))
          have z4 := Nat.le_trans z1 bel.size
          clear bel4 zr bw
          cases hkb : kp v i with
          | false =>
            rw [hkb] at HRF
            have HMX := Lib.hid (hmap.mono (Nat.le_succ _) fun e h => ptH_no (by rw [HNK.out, Int.toNat_natCast]; exact hkb) h)
            clear hmap
            go_wp2_with fail
            go_roundw
            case rel => exact ⟨i + 1, by omega, by rw [HRF.out]; go_num, by go_num, HMX.out, bel⟩
            case measure => simp [intOf]; omega
          | true =>
            rw [hkb] at HRF
            obtain ⟨D, hm1, hm2⟩ := hmap
            have HM2 := Lib.hid hm2
            clear hm2
            have hI : I64p ((v : Int), (i : Int)) := ⟨⟨by show _ ≤ (v : Int); omega, by show (v : Int) ≤ _; omega⟩, by show _ ≤ (i : Int); omega, by show (i : Int) ≤ _; omega⟩
            have hkey := keyOf_eV hI
            have hval := elE_eV ((k : Int), (kk : Int))
            unfold eV at hkey hval
            simp only at hkey hval
            have hk1b : kk + 1 ≤ 7 := by omega
            go_upto_region 12 with (at_mapUpdate; refine wpList_mapUpdate_own _ rfl _ _ _ 92 rfl 62 62 ek_law Try.underlying92 _ bm (6 * k + i) D rfl hm1 (by unfold maxLen; omega) _ _ _ rfl rfl hkey _ [] hval ?_; intro w5 hown5 hgr5)
            have HMX := Lib.hid (PMap.stored (has' := ptH N.ends nodes kp k (i + 1)) hm1.isMap HM2.out hI HCT.out (fun x hx => by have := ptH_yes hx; rwa [HNK.out] at this) hown5)
            have bel5 := bel.grown hgr5 z4 (fun x hx => by injection hx with hx; omega)
            clear hown5 hgr5 hm1 hkey hval
            go_wp2_with fail
            go_roundw
            case rel => exact ⟨i + 1, by omega, by rw [HRF.out]; go_num, by go_num, HMX.out, bel5⟩
            case measure => simp [intOf]; omega
        · have HIE := Lib.hid (show i = (rowOf N.ends v).length by omega)
          rw [HIE.out] at hmap
          have HMX := Lib.hid (hmap.mono (n' := 6 * (k + 1)) (has' := ptH N.ends nodes kp (k + 1) 0) (by omega) fun e h => by have := ptH_next h; rwa [HNK.out, Int.toNat_natCast] at this)
          clear hmap
          go_wp2_with fail
          go_roundw
          case rel => exact ⟨k + 1, by omega, by go_num, HMX.out, bel⟩
          case measure => simp [intOf]; omega
    · have HKE := Lib.hid (show k = nodes.length by omega)
      rw [HKE.out] at hmap
      have HMM := Lib.hid (hmap.mono (n' := 240) (by omega) fun e h => h)
      clear hmap
      replace BA := BA.below bel (by omega)
      replace BR := BR.below bel (by omega)
      replace BO := BO.below bel (by omega)
      replace bb := bb.trans (bel.mono (by omega))
      have z3 : bm ≤ wr.heap.size := by omega
      clear bel zr z1
      obtain ⟨w3, hw3⟩ : ∃ w3, w3 = wr := ⟨_, rfl⟩
      subst hw3
      have hNB : NBx w3 b b (partT N nodes kp pos 0) := by
        have e0 : partT N nodes kp pos 0 = ⟨[], [], []⟩ := by unfold partT; split <;> rfl
        rw [e0]
        exact ⟨none, 0, fun _ => (none, 0), none, 0, none, 0, BO, RowsAt.nil _ _ _ _ _, Ow.nil _ _ _ _ _ _ _, Ow.nil _ _ _ _ _ _ _, .inl rfl⟩
      clear BO
      go_wp2_with fail
      have zb3 : b < w3.heap.size := by omega
      go_loopw [52] (fun iv wr => ∃ k : Nat, k ≤ nodes.length ∧ iv = .int .i64 k ∧ NBx wr b b (partT N nodes kp pos k) ∧ PMap wr bm 240 (ptH N.ends nodes kp nodes.length 0) (ctE kp pos) ∧ Below b w3 wr) (fun iv _ => nodes.length - (intOf iv).toNat)
      case atStart => exact ⟨0, Nat.zero_le _, rfl, hNB, HMM.out, Below.refl _ _⟩
      case round =>
        clear hNB HMM HKE hkl hlt
        obtain ⟨k, hkl, rfl, hNB, hmap, bt⟩ := hrel
        have zr := bt.size
        have zbr : b ≤ wr.heap.size := by omega
        by_cases hlt : k < nodes.length
        · have bw := bb.trans (bt.mono (by omega))
          obtain ⟨v, hnk, hvl, hpos, _⟩ := HOK.out.2 k hlt
          have HNK := Lib.hid hnk
          obtain ⟨gn, on_, hne, _, hcn⟩ := Rd.at (HA.out.below (bw.mono hB)) hlt
          subst hne
          rw [hnk] at hcn
          clear hnk hpos
          have BAr := BA.below bt (by omega)
          have q0 := BAr.cell 0 _ rfl
          have hc1 := (bw.cell (p := ⟨g0, off0 + v, none⟩) (by show g0 < _; omega)).trans (HC0.out v hvl)
          have hrow := (HR0.out v hvl).below (bw.mono hB)
          have hL1 := net_row HN.out hvl
          have HBK := Lib.hid (fun j (hj : j < (rowOf N.ends v).length) => net_back HN.out hvl hj)
          have hBr : B ≤ wr.heap.size := by omega
          have hax0 : (vs0 v).1 = (vs0 v).1 := rfl
          generalize (vs0 v).1 = ax at *
          generalize (vs0 v).2 = cx at *
          clear hax0
          obtain ⟨wk, hwk⟩ : ∃ wk, wk = wr := ⟨_, rfl⟩
          subst hwk
          go_wp2_with fail
          clear hc1 q0 hcn
          go_loopw [15, 62] (fun ov iv wr => ∃ i : Nat, i ≤ (rowOf N.ends v).length ∧ (∃ a c, ov = .slice a (gRow (rowOf N.ends v) (kp v) (ctE kp pos) i).length c ∧ Ow wr wk.heap.size wr.heap.size 62 2 a (gRow (rowOf N.ends v) (kp v) (ctE kp pos) i).length c (cellE (gRow (rowOf N.ends v) (kp v) (ctE kp pos) i))) ∧ iv = .int .i64 i ∧ Below wk.heap.size wk wr) (fun _ iv _ => (rowOf N.ends v).length - (intOf iv).toNat)
          case atStart => exact ⟨0, Nat.zero_le _, ⟨none, 0, rfl, Ow.nil _ _ _ _ _ _ _⟩, rfl, Below.refl _ _⟩
          case round =>
            obtain ⟨i, hi, ⟨ar, cr, rfl, hown⟩, rfl, bel⟩ := hrel
            have zr2 := bel.size
            have hGl : (gRow (rowOf N.ends v) (kp v) (ctE kp pos) i).length ≤ 6 := by rw [gRow_len]; have := rkF_le (kp v) i; omega
            by_cases hil : i < (rowOf N.ends v).length
            · obtain ⟨p, q, hpq, hp, hq, _⟩ := HBK.out i hil
              obtain ⟨g1, off1, hae, _, e1, e2⟩ := RdE.at (hrow.below (bel.mono (by omega))) hil
              rw [hpq] at e1 e2
              have HG1 : Hid (kp v i = true → gRow (rowOf N.ends v) (kp v) (ctE kp pos) (i + 1) = gRow (rowOf N.ends v) (kp v) (ctE kp pos) i ++ [ctE kp pos ((p : Int), (q : Int))]) := Lib.hid fun h => by
                rw [gRow_yes h, hpq]
              have HG0 : Hid (kp v i = false → gRow (rowOf N.ends v) (kp v) (ctE kp pos) (i + 1) = gRow (rowOf N.ends v) (kp v) (ctE kp pos) i) := Lib.hid fun h => gRow_no h
              have HKEY : Hid (kp v i = true → ptH N.ends nodes kp nodes.length 0 ((p : Int), (q : Int))) := Lib.hid fun h => partOk_key HOK.out hlt HNK.out hil h hpq hq
              clear hpq
              subst hae
              generalize gRow (rowOf N.ends v) (kp v) (ctE kp pos) i = G at *
              have BE := Bx.made wr 62 #[.int .i64 (p : Int), .int .i64 (q : Int)]
              have bE : Below wr.heap.size wr (wr.alloc (.cells #[.int .i64 (p : Int), .int .i64 (q : Int)] 62)) := (by repeat (first | exact Below.refl _ _ | assumption | refine Below.alloc ?_ (by first | (simp; done) | (simp; omega) | omega) _ | refine Below.setCell ?_ (by first | (simp; done) | (simp; omega) | omega) _ | refine Below.drew ?_ | refine Below.drewN ?_ _))
              obtain ⟨eb, heb⟩ : ∃ eb, eb = wr.heap.size := ⟨_, rfl⟩
              go_upto_region 22 with fail
              clear e1 e2
              rw [← heb] at BE ⊢
              clear heb
              replace hown := Ow.new hown bE
              have bel2 := bel.trans (bE.mono zr2)
              have zy := bE.size
              clear bel bE
              generalize wr.alloc (.cells #[.int .i64 (p : Int), .int .i64 (q : Int)] 62) = wy at *
              have bwy := bw.trans (bel2.mono (by have := bw.size; omega))
              go_wp2_with fail
              refine (HF.out wy v i bwy hvl hil).mono ?_
              rintro e w4 ⟨rfl, bel4⟩
              replace hown := Ow.wide (hi' := w4.heap.size) (Ow.new hown bel4) (Nat.le_refl _) (by have := bel4.size; omega)
              replace BE := BE.new bel4
              have bel5 := bel2.trans (bel4.mono (by have := bel2.size; omega))
              have z5 := bel5.size
              clear bwy bel2 bel4 zy
              cases hkb : kp v i with
              | false =>
                have HG := Lib.hid (HG0.out hkb)
                go_wp2_with fail
                go_roundw
                case rel => exact ⟨i + 1, by omega, ⟨ar, cr, by rw [HG.out], by rw [HG.out]; exact hown⟩, by go_num, bel5⟩
                case measure => simp [intOf]; omega
              | true =>
                have HG := Lib.hid (HG1.out hkb)
                obtain ⟨D, hm1, hm2⟩ := hmap.new bel5
                have hu := (hm2 _ (HKEY.out hkb)).2
                have hkey := keyOf_eV (hm2 _ (HKEY.out hkb)).1
                clear hm2
                unfold eV at hkey
                simp only at hkey
                obtain ⟨xx, yy, hxy⟩ : ∃ xx yy, ctE kp pos ((p : Int), (q : Int)) = (xx, yy) := ⟨_, _, rfl⟩
                rw [hxy] at hu HG
                clear hxy
                have y0 := BE.cell 0 _ rfl
                have y1 := BE.cell 1 _ rfl
                have hnw := news2 w4 62 (.int .i64 xx) (.int .i64 yy)
                obtain ⟨we, hwe⟩ : ∃ we, we = w4.alloc (.cells #[.int .i64 xx, .int .i64 yy] 62) := ⟨_, rfl⟩
                have bwe : Below w4.heap.size w4 we := by rw [hwe]; exact (by repeat (first | exact Below.refl _ _ | assumption | refine Below.alloc ?_ (by first | (simp; done) | (simp; omega) | omega) _ | refine Below.setCell ?_ (by first | (simp; done) | (simp; omega) | omega) _ | refine Below.drew ?_ | refine Below.drewN ?_ _))
                rw [← hwe] at hnw
                have HWE := Lib.hid hwe
                clear hwe
                have zwe := bwe.size
                have bel6 := bel5.trans (bwe.mono z5)
                have hown3 := Ow.wide (hi' := we.heap.size) (Ow.new hown bwe) (Nat.le_refl _) zwe
                go_wp2_with (first | (at_lookup; refine wpList_lookup_ownE _ rfl _ _ 92 rfl 62 62 ek_law Try.underlying92 (end_zero9 _) bm 240 D rfl hm1 _ _ rfl hkey xx yy hu ?_) | (at_builtin; rw [← HWE.out]; refine wpList_app rfl _ _ _ rfl 62 (.agg #[.int .i64 0, .int .i64 0]) 2 16 Try.underlying60 end_info rfl (by decide) wk.heap.size we.heap.size ar G.length cr _ rfl hown3 ⟨w4.heap.size, 0, none⟩ 1 1 [.int .i64 xx, .int .i64 yy] rfl rfl hnw (by simp [Value.oneCell']) (by decide) (by unfold maxLen; omega) (by omega) (by omega) ?_; intro g' cap' w8 own8 hgr _ _))
                go_roundw
                case rel => exact ⟨i + 1, by omega, ⟨some ⟨g', 0, none⟩, cap', by rw [HG.out, List.length_append]; rfl, by rw [HG.out]; exact cellE_snoc own8⟩, by go_num, below_app bel6 hown3 hgr (Nat.le_refl _) (by omega)⟩
                case measure => simp [intOf]; omega
            · have HIE := Lib.hid (show i = (rowOf N.ends v).length by omega)
              have HCR : Hid (gRow (rowOf N.ends v) (kp v) (ctE kp pos) i = ctRow N.ends kp pos v) := Lib.hid (by rw [HIE.out]; rfl)
              rw [HCR.out] at hown hGl ⊢
              have HPY := Lib.hid (fun hi => partT_yes (N := N) (kp := kp) (pos := pos) hlt hi)
              have HPN := Lib.hid (fun hi => partT_no (N := N) (kp := kp) (pos := pos) hlt hi)
              have HPL := Lib.hid (partT_len (N := N) (kp := kp) (pos := pos) hkl)
              rw [HNK.out, Int.toNat_natCast] at HPY HPN
              generalize ctRow N.ends kp pos v = r at *
              obtain ⟨M, hM⟩ : ∃ M : Net, M = partT N nodes kp pos k := ⟨_, rfl⟩
              rw [← hM] at hNB HPY HPN HPL
              clear hM
              have hMl : M.ends.length ≤ 40 := by have := HPL.out.1; omega
              have hMi : M.ids.length ≤ 40 := by have := HPL.out.2.1; omega
              have hMp : M.inputs.length ≤ 40 := by have := HPL.out.2.2; omega
              obtain ⟨a, c, vs, ai, ci, ap, cp, hbx, hE, owni, ownp, hdis⟩ := hNB
              obtain ⟨wd, hwd⟩ : ∃ wd, wd = wr.alloc (.cells #[.slice ar r.length cr] 60) := ⟨_, rfl⟩
              have bwd : Below wr.heap.size wr wd := by rw [hwd]; exact (by repeat (first | exact Below.refl _ _ | assumption | refine Below.alloc ?_ (by first | (simp; done) | (simp; omega) | omega) _ | refine Below.setCell ?_ (by first | (simp; done) | (simp; omega) | omega) _ | refine Below.drew ?_ | refine Below.drewN ?_ _))
              have hnw : ∀ jj uu, [Value.slice ar r.length cr][jj]? = some uu → wd.cell? (Addr.add ⟨wr.heap.size, 0, none⟩ jj) = some uu := by
                rw [hwd]
                exact cell_one_new wr (.slice ar r.length cr) 60
              have HWD := Lib.hid hwd
              clear hwd
              have zwd := bwd.size
              have belk := bel.trans (bwd.mono zr2)
              have hbxr := hbx.new bel
              have q0 := hbxr.cell 0 _ rfl
              have f0 := hbxr.frozen 0
              have hEd := RowsAt.new hE belk
              have hrd := Ow.wide (hi' := wd.heap.size) (Ow.new hown bwd) (Nat.le_refl _) zwd
              have hid2 := Ow.new owni belk
              have hip2 := Ow.new ownp belk
              have hbd := hbx.new belk
              replace hmap := hmap.new belk
              clear hbx hE owni ownp hown
              go_upto_region 26 with (at_builtin; rw [← HWD.out]; refine wpList_app rfl _ _ _ rfl 60 (.slice none 0 0) 1 24 Try.underlying27 ends_info rfl (by decide) b wk.heap.size a M.ends.length c _ rfl hEd.1 ⟨wr.heap.size, 0, none⟩ 1 1 [.slice ar r.length cr] rfl rfl hnw (by simp [Value.oneCell']) (by decide) (by unfold maxLen; omega) (by omega) (by omega) ?_; intro g' cap' w8 own8 hgr _ _; obtain ⟨hbx8, hNB8, hfr8⟩ := NBx.addRow (r := r) hbd hEd hid2 hip2 hdis zbr (by omega) (Nat.le_refl _) hrd hgr own8; have q8 := hbx8.cell 0 _ rfl; have f8 := hbx8.frozen 0; clear q0 f0)
              have bt8 := (bt.trans (belk.mono zbr)).trans (hfr8.below (B := b) (fun k h1 h2 hc => hc.elim (fun h => by have := (hEd.1.blk_in h.symm).1; omega) (fun h => by omega)) (by omega))
              have hmap8 := hmap.fr hfr8 (fun hc => hc.elim (fun h => hmap.ne_row hEd.1 h.symm) (fun h => by omega))
              clear q8 f8 hmap hfr8 hbx8 hgr own8 hEd hid2 hip2 hbd hrd hbxr belk bwd HWD hnw hdis bel zr2 bt zwd
              obtain ⟨w9, hw9⟩ : ∃ w9, w9 = w8.setCell ⟨b, 0, none⟩ (.slice (some ⟨g', 0, none⟩) (M.ends.length + 1) cap') := ⟨_, rfl⟩
              rw [← hw9] at hNB8 bt8 hmap8 ⊢
              clear hw9

              obtain ⟨a, c, vs, ai, ci, ap, cp, hbx, hE, owni, ownp, hdis⟩ := hNB8
              have bwx := bb.trans (bt8.mono (by omega))
              have hxb : b ≤ w9.heap.size := by have := bt8.size; omega
              have hxc : b < w9.heap.size := by have := bt8.size; omega
              have BAx := BA.below bt8 (by omega)
              have hS1 : w9.drew.cell? ⟨b, 2, none⟩ = some (.slice ap ({ M with ends := M.ends ++ [r] } : Net).inputs.length cp) := hbx.cell 2 _ rfl
              have hS2 : w9.drew.cell? ⟨w.heap.size, 2, none⟩ = some (.slice (some ⟨gp, offp, none⟩) N.inputs.length cp0) := BAx.cell 2 _ rfl
              have hS3 : w9.drew.cell? ⟨gp, offp + v, none⟩ = some (.int .i64 (nth N.inputs v)) := (bwx.cell (p := ⟨gp, offp + v, none⟩) (by show gp < _; omega)).trans (HCP.out v (by have := HIL.out; omega))
              refine wp_region_until 10 (fun X => X.cell? ⟨b, 2, none⟩ = some (.slice ap ({ M with ends := M.ends ++ [r] } : Net).inputs.length cp) ∧ X.cell? ⟨w.heap.size, 2, none⟩ = some (.slice (some ⟨gp, offp, none⟩) N.inputs.length cp0) ∧ X.cell? ⟨gp, offp + v, none⟩ = some (.int .i64 (nth N.inputs v))) (by kernel_rfl) ⟨hS1, hS2, hS3⟩ (fun hHeld => ?_)
              have hxi : v < N.inputs.length := by have := HIL.out; omega
              refine wpU_take (i := 0) (v := ?_) rfl (by kernel_rfl) (by kernel_rfl) (by kernel_rfl) (by kernel_rfl) (by kernel_rfl) (by kernel_rfl) (fun _ _ _ h => h) (Or.inl ⟨by rfl, ?_⟩) (by assumption) ?_
              rotate_left
              · (intro w hSw; (try dsimp only at hSw); obtain ⟨hq0, hq1, hq2⟩ := hSw; go_simp; try with_reducible rfl)
              try simp only [Act.put, List.getElem_toArray, List.getElem_cons_zero, List.getElem_cons_succ, List.setIfInBounds_toArray, List.set_cons_zero, List.set_cons_succ]
              refine wpU_take (i := 1) (v := ?_) rfl (by kernel_rfl) (by kernel_rfl) (by kernel_rfl) (by kernel_rfl) (by kernel_rfl) (by kernel_rfl) (fun _ _ _ h => h) (Or.inl ⟨by rfl, ?_⟩) (by assumption) ?_
              rotate_left
              · (intro w hSw; (try dsimp only at hSw); obtain ⟨hq0, hq1, hq2⟩ := hSw; go_simp; try with_reducible rfl)
              try simp only [Act.put, List.getElem_toArray, List.getElem_cons_zero, List.getElem_cons_succ, List.setIfInBounds_toArray, List.set_cons_zero, List.set_cons_succ]
              refine wpU_take (i := 2) (v := ?_) rfl (by kernel_rfl) (by kernel_rfl) (by kernel_rfl) (by kernel_rfl) (by kernel_rfl) (by kernel_rfl) (fun _ _ _ h => h) (Or.inl ⟨by rfl, ?_⟩) (by assumption) ?_
              rotate_left
              · (intro w hSw; (try dsimp only at hSw); obtain ⟨hq0, hq1, hq2⟩ := hSw; go_simp; try with_reducible rfl)
              try simp only [Act.put, List.getElem_toArray, List.getElem_cons_zero, List.getElem_cons_succ, List.setIfInBounds_toArray, List.set_cons_zero, List.set_cons_succ]
              refine wpU_take (i := 3) (v := ?_) rfl (by kernel_rfl) (by kernel_rfl) (by kernel_rfl) (by kernel_rfl) (by kernel_rfl) (by kernel_rfl) (fun _ _ _ h => h) (Or.inl ⟨by rfl, ?_⟩) (by assumption) ?_
              rotate_left
              · (intro w hSw; (try dsimp only at hSw); obtain ⟨hq0, hq1, hq2⟩ := hSw; go_simp; try with_reducible rfl)
              try simp only [Act.put, List.getElem_toArray, List.getElem_cons_zero, List.getElem_cons_succ, List.setIfInBounds_toArray, List.set_cons_zero, List.set_cons_succ]
              refine wpU_take (i := 4) (v := ?_) rfl (by kernel_rfl) (by kernel_rfl) (by kernel_rfl) (by kernel_rfl) (by kernel_rfl) (by kernel_rfl) (fun _ _ _ h => h) (Or.inl ⟨by rfl, ?_⟩) (by assumption) ?_
              rotate_left
              · (intro w hSw; (try dsimp only at hSw); obtain ⟨hq0, hq1, hq2⟩ := hSw; go_simp; try with_reducible rfl)
              try simp only [Act.put, List.getElem_toArray, List.getElem_cons_zero, List.getElem_cons_succ, List.setIfInBounds_toArray, List.set_cons_zero, List.set_cons_succ]
              refine wpU_take (i := 5) (v := ?_) rfl (by kernel_rfl) (by kernel_rfl) (by kernel_rfl) (by kernel_rfl) (by kernel_rfl) (by kernel_rfl) (fun _ _ _ h => h) (Or.inl ⟨by rfl, ?_⟩) (by assumption) ?_
              rotate_left
              · (intro w hSw; (try dsimp only at hSw); obtain ⟨hq0, hq1, hq2⟩ := hSw; go_simp; try with_reducible rfl)
              try simp only [Act.put, List.getElem_toArray, List.getElem_cons_zero, List.getElem_cons_succ, List.setIfInBounds_toArray, List.set_cons_zero, List.set_cons_succ]
              refine wpU_take (i := 6) (v := ?_) rfl (by kernel_rfl) (by kernel_rfl) (by kernel_rfl) (by kernel_rfl) (by kernel_rfl) (by kernel_rfl) (fun _ _ _ h => h) (Or.inl ⟨by rfl, ?_⟩) (by assumption) ?_
              rotate_left
              · (intro w hSw; (try dsimp only at hSw); obtain ⟨hq0, hq1, hq2⟩ := hSw; go_simp; try with_reducible rfl)
              try simp only [Act.put, List.getElem_toArray, List.getElem_cons_zero, List.getElem_cons_succ, List.setIfInBounds_toArray, List.set_cons_zero, List.set_cons_succ]
              replace hbx : Bx w9.drew b 29 #[.slice a ({ M with ends := M.ends ++ [r] } : Net).ends.length c, .slice ai ({ M with ends := M.ends ++ [r] } : Net).ids.length ci, .slice ap ({ M with ends := M.ends ++ [r] } : Net).inputs.length cp] := hbx
              have hbd : Below b w3 w9.drew := bt8.drew
              have hmd : PMap w9.drew bm 240 (ptH N.ends nodes kp nodes.length 0) (ctE kp pos) := hmap8
              have hxd : w9.drew.heap.size = w9.heap.size := rfl
              replace hE : RowsE w9.drew b w9.drew.heap.size a c ({ M with ends := M.ends ++ [r] } : Net).ends vs := hE
              replace owni : OwI w9.drew b w9.drew.heap.size ai ci ({ M with ends := M.ends ++ [r] } : Net).ids := owni
              replace ownp : OwI w9.drew b w9.drew.heap.size ap cp ({ M with ends := M.ends ++ [r] } : Net).inputs := ownp
              rw [← hxd] at hxb hxc
              clear hxd bwx BAx bt8 hmap8
              generalize w9.drew = xd at *
              obtain ⟨xe, hxe⟩ : ∃ xe, xe = xd.alloc (.cells #[.int .i64 (nth N.inputs v)] 3) := ⟨_, rfl⟩
              have bxe : Below xd.heap.size xd xe := by rw [hxe]; exact (by repeat (first | exact Below.refl _ _ | assumption | refine Below.alloc ?_ (by first | (simp; done) | (simp; omega) | omega) _ | refine Below.setCell ?_ (by first | (simp; done) | (simp; omega) | omega) _ | refine Below.drew ?_ | refine Below.drewN ?_ _))
              have hnw : ∀ jj uu, [Value.int .i64 (nth N.inputs v)][jj]? = some uu → xe.cell? (Addr.add ⟨xd.heap.size, 0, none⟩ jj) = some uu := by
                rw [hxe]
                exact cell_one_new xd (.int .i64 (nth N.inputs v)) 3
              have HXE := Lib.hid hxe
              clear hxe
              have zxe := bxe.size
              have hm0 : ({ M with ends := M.ends ++ [r] } : Net).inputs.length ≤ 40 := hMp
              refine wpU_ready (rs := [7]) (by kernel_rfl) (by simp) (by kernel_rfl) ?_
              refine AllReadyU.cons (o := _) rfl (fun K hK => ?_) AllReadyU.nil
              go_simp
              rw [← HXE.out]
              refine hK.out _ _ ⟨cell_new_ bxe hS1, cell_new_ bxe hS2, cell_new_ bxe hS3⟩ (fun hHeld => ?_)
              clear hK K
              try simp only [Act.put, List.getElem_toArray, List.getElem_cons_zero, List.getElem_cons_succ, List.setIfInBounds_toArray, List.set_cons_zero, List.set_cons_succ]
              refine wpU_ready (rs := [8]) (by kernel_rfl) (by simp) (by kernel_rfl) ?_
              refine AllReadyU.cons (o := _) rfl (fun K hK => ?_) AllReadyU.nil
              rw [if_pos (by rfl)]
              refine step_app _ _ _ rfl 3 (.int .i64 0) 1 8 Try.underlying23 int_info rfl (by decide) b xd.heap.size ap ({ M with ends := M.ends ++ [r] } : Net).inputs.length cp _ rfl (Ow.new ownp bxe) ⟨xd.heap.size, 0, none⟩ 1 1 [.int .i64 (nth N.inputs v)] rfl rfl hnw (by simp [Value.oneCell']) (by decide) (by unfold maxLen; omega) (by omega) (by omega) ?_
              intro g' cap' xw ownw hgr hnew hcap
              obtain ⟨hbx8, hNBn, hfr8⟩ := NBx.addInput (z := nth N.inputs v) (hbx.new bxe) (RowsAt.new hE bxe) (Ow.new owni bxe) (Ow.new ownp bxe) hdis zxe (Nat.le_refl _) hgr hnew ownw
              have b8 : Below b xe xw := (Below.refl _ _).grown hgr (Nat.le_trans hxb zxe) (fun k hk => (Ow.blk_in ownp hk).1)
              refine hK.out _ _ ⟨hbx8.cell 2 _ rfl, (b8.cell (p := ⟨w.heap.size, 2, none⟩) (by show w.heap.size < b; omega)).trans (cell_new_ bxe hS2), (b8.cell (p := ⟨gp, offp + v, none⟩) (by show gp < b; omega)).trans (cell_new_ bxe hS3)⟩ (fun hHeld => ?_)
              clear hK K
              try simp only [Act.put, List.getElem_toArray, List.getElem_cons_zero, List.getElem_cons_succ, List.setIfInBounds_toArray, List.set_cons_zero, List.set_cons_succ]
              
              refine wpU_take (i := 9) (v := ?_) rfl (by kernel_rfl) (by kernel_rfl) (by kernel_rfl) (by kernel_rfl) (by kernel_rfl) (by kernel_rfl) (fun _ _ _ h => h) (Or.inl ⟨by rfl, ?_⟩) (by assumption) ?_
              rotate_left
              · (intro w hSw; (try dsimp only at hSw); obtain ⟨hq0, hq1, hq2⟩ := hSw; go_simp; try with_reducible rfl)
              try simp only [Act.put, List.getElem_toArray, List.getElem_cons_zero, List.getElem_cons_succ, List.setIfInBounds_toArray, List.set_cons_zero, List.set_cons_succ]
              refine wpU_last (by kernel_rfl) ?_
              refine wpAnyH_ready (rs := [10]) (by kernel_rfl) (by simp) ?_
              refine AllReadyH.cons (o := _) rfl (fun K hK => ?_) AllReadyH.nil
              have q2 := hbx8.cell 2 _ rfl
              have f2 := hbx8.frozen 2
              go_simp
              clear q2 f2
              refine hK.out _ _ trivial (fun _ => ?_)
              clear hK K
              try simp only [Act.put, List.getElem_toArray, List.getElem_cons_zero, List.getElem_cons_succ, List.setIfInBounds_toArray, List.set_cons_zero, List.set_cons_succ]
              refine wpAnyH_done (by kernel_rfl) ?_ _
              have btn := (hbd.trans (bxe.mono hxb)).trans (hfr8.below (B := b) (fun k h1 h2 hc => hc.elim (fun h => by have := (Ow.blk_in ownp h.symm).1; omega) (fun h => by omega)) (Nat.le_trans hxb zxe))
              have hmapn := (hmd.new bxe).fr hfr8 (fun hc => hc.elim (fun h => (hmd.new bxe).ne_row (Ow.new ownp bxe) h.symm) (fun h => by omega))
              clear hHeld hm0 hfr8 hbx8 b8 hgr hnew hcap ownw hnw bxe HXE zxe hbd hmd hS1 hS2 hS3 hbx hE owni ownp hdis hxb hxc hxi
              obtain ⟨wzn, hwz⟩ : ∃ wz, wz = xw.setCell ⟨b, 2, none⟩ (.slice (some ⟨g', 0, none⟩) (({ M with ends := M.ends ++ [r] } : Net).inputs.length + 1) cap') := ⟨_, rfl⟩
              rw [← hwz] at hNBn btn hmapn ⊢
              clear hwz
              replace hNBn : NBx wzn b b ({ M with ends := M.ends ++ [r], inputs := M.inputs ++ [nth N.inputs v] } : Net) := hNBn
              have BAx := BA.below btn (by omega)
              have q1 := BAx.cell 1 _ rfl
              by_cases hi0 : N.ids.length = 0
              · have hgt : decide ((N.ids.length : Int) > 0) = false := decide_eq_false (by omega)
                go_wp2_with fail
                clear q1 BAx
                go_roundw
                case rel => exact ⟨k + 1, by omega, by go_num, by rw [HPN.out hi0]; exact hNBn, hmapn, btn⟩
                case measure => simp [intOf]; omega
              · have hgt : decide ((N.ids.length : Int) > 0) = true := decide_eq_true (by omega)
                have hin : N.ids.length = N.ends.length := HID.out.resolve_left hi0
                go_upto_region 28 with fail
                clear q1 BAx
                obtain ⟨gi, offi, hie, hgi, hci⟩ := HI0.out (by omega)
                subst hie
                have HCI := Lib.hid hci
                clear hci
                obtain ⟨a, c, vs, ai, ci, ap, cp, hbx, hE, owni, ownp, hdis⟩ := hNBn
                have bwx := bb.trans (btn.mono (by omega))
                have hxb : b ≤ wzn.heap.size := by have := btn.size; omega
                have hxc : b < wzn.heap.size := by have := btn.size; omega
                have BAx := BA.below btn (by omega)
                have hS1 : wzn.drew.cell? ⟨b, 1, none⟩ = some (.slice ai ({ M with ends := M.ends ++ [r], inputs := M.inputs ++ [nth N.inputs v] } : Net).ids.length ci) := hbx.cell 1 _ rfl
                have hS2 : wzn.drew.cell? ⟨w.heap.size, 1, none⟩ = some (.slice (some ⟨gi, offi, none⟩) N.ids.length ci0) := BAx.cell 1 _ rfl
                have hS3 : wzn.drew.cell? ⟨gi, offi + v, none⟩ = some (.int .i64 (nth N.ids v)) := (bwx.cell (p := ⟨gi, offi + v, none⟩) (by show gi < _; omega)).trans (HCI.out v (by omega))
                refine wp_region_until 10 (fun X => X.cell? ⟨b, 1, none⟩ = some (.slice ai ({ M with ends := M.ends ++ [r], inputs := M.inputs ++ [nth N.inputs v] } : Net).ids.length ci) ∧ X.cell? ⟨w.heap.size, 1, none⟩ = some (.slice (some ⟨gi, offi, none⟩) N.ids.length ci0) ∧ X.cell? ⟨gi, offi + v, none⟩ = some (.int .i64 (nth N.ids v))) (by kernel_rfl) ⟨hS1, hS2, hS3⟩ (fun hHeld => ?_)
                have hxi : v < N.ids.length := by omega
                refine wpU_take (i := 0) (v := ?_) rfl (by kernel_rfl) (by kernel_rfl) (by kernel_rfl) (by kernel_rfl) (by kernel_rfl) (by kernel_rfl) (fun _ _ _ h => h) (Or.inl ⟨by rfl, ?_⟩) (by assumption) ?_
                rotate_left
                · (intro w hSw; (try dsimp only at hSw); obtain ⟨hq0, hq1, hq2⟩ := hSw; go_simp; try with_reducible rfl)
                try simp only [Act.put, List.getElem_toArray, List.getElem_cons_zero, List.getElem_cons_succ, List.setIfInBounds_toArray, List.set_cons_zero, List.set_cons_succ]
                refine wpU_take (i := 1) (v := ?_) rfl (by kernel_rfl) (by kernel_rfl) (by kernel_rfl) (by kernel_rfl) (by kernel_rfl) (by kernel_rfl) (fun _ _ _ h => h) (Or.inl ⟨by rfl, ?_⟩) (by assumption) ?_
                rotate_left
                · (intro w hSw; (try dsimp only at hSw); obtain ⟨hq0, hq1, hq2⟩ := hSw; go_simp; try with_reducible rfl)
                try simp only [Act.put, List.getElem_toArray, List.getElem_cons_zero, List.getElem_cons_succ, List.setIfInBounds_toArray, List.set_cons_zero, List.set_cons_succ]
                refine wpU_take (i := 2) (v := ?_) rfl (by kernel_rfl) (by kernel_rfl) (by kernel_rfl) (by kernel_rfl) (by kernel_rfl) (by kernel_rfl) (fun _ _ _ h => h) (Or.inl ⟨by rfl, ?_⟩) (by assumption) ?_
                rotate_left
                · (intro w hSw; (try dsimp only at hSw); obtain ⟨hq0, hq1, hq2⟩ := hSw; go_simp; try with_reducible rfl)
                try simp only [Act.put, List.getElem_toArray, List.getElem_cons_zero, List.getElem_cons_succ, List.setIfInBounds_toArray, List.set_cons_zero, List.set_cons_succ]
                refine wpU_take (i := 3) (v := ?_) rfl (by kernel_rfl) (by kernel_rfl) (by kernel_rfl) (by kernel_rfl) (by kernel_rfl) (by kernel_rfl) (fun _ _ _ h => h) (Or.inl ⟨by rfl, ?_⟩) (by assumption) ?_
                rotate_left
                · (intro w hSw; (try dsimp only at hSw); obtain ⟨hq0, hq1, hq2⟩ := hSw; go_simp; try with_reducible rfl)
                try simp only [Act.put, List.getElem_toArray, List.getElem_cons_zero, List.getElem_cons_succ, List.setIfInBounds_toArray, List.set_cons_zero, List.set_cons_succ]
                refine wpU_take (i := 4) (v := ?_) rfl (by kernel_rfl) (by kernel_rfl) (by kernel_rfl) (by kernel_rfl) (by kernel_rfl) (by kernel_rfl) (fun _ _ _ h => h) (Or.inl ⟨by rfl, ?_⟩) (by assumption) ?_
                rotate_left
                · (intro w hSw; (try dsimp only at hSw); obtain ⟨hq0, hq1, hq2⟩ := hSw; go_simp; try with_reducible rfl)
                try simp only [Act.put, List.getElem_toArray, List.getElem_cons_zero, List.getElem_cons_succ, List.setIfInBounds_toArray, List.set_cons_zero, List.set_cons_succ]
                refine wpU_take (i := 5) (v := ?_) rfl (by kernel_rfl) (by kernel_rfl) (by kernel_rfl) (by kernel_rfl) (by kernel_rfl) (by kernel_rfl) (fun _ _ _ h => h) (Or.inl ⟨by rfl, ?_⟩) (by assumption) ?_
                rotate_left
                · (intro w hSw; (try dsimp only at hSw); obtain ⟨hq0, hq1, hq2⟩ := hSw; go_simp; try with_reducible rfl)
                try simp only [Act.put, List.getElem_toArray, List.getElem_cons_zero, List.getElem_cons_succ, List.setIfInBounds_toArray, List.set_cons_zero, List.set_cons_succ]
                refine wpU_take (i := 6) (v := ?_) rfl (by kernel_rfl) (by kernel_rfl) (by kernel_rfl) (by kernel_rfl) (by kernel_rfl) (by kernel_rfl) (fun _ _ _ h => h) (Or.inl ⟨by rfl, ?_⟩) (by assumption) ?_
                rotate_left
                · (intro w hSw; (try dsimp only at hSw); obtain ⟨hq0, hq1, hq2⟩ := hSw; go_simp; try with_reducible rfl)
                try simp only [Act.put, List.getElem_toArray, List.getElem_cons_zero, List.getElem_cons_succ, List.setIfInBounds_toArray, List.set_cons_zero, List.set_cons_succ]
                replace hbx : Bx wzn.drew b 29 #[.slice a ({ M with ends := M.ends ++ [r], inputs := M.inputs ++ [nth N.inputs v] } : Net).ends.length c, .slice ai ({ M with ends := M.ends ++ [r], inputs := M.inputs ++ [nth N.inputs v] } : Net).ids.length ci, .slice ap ({ M with ends := M.ends ++ [r], inputs := M.inputs ++ [nth N.inputs v] } : Net).inputs.length cp] := hbx
                have hbd : Below b w3 wzn.drew := btn.drew
                have hmd : PMap wzn.drew bm 240 (ptH N.ends nodes kp nodes.length 0) (ctE kp pos) := hmapn
                have hxd : wzn.drew.heap.size = wzn.heap.size := rfl
                replace hE : RowsE wzn.drew b wzn.drew.heap.size a c ({ M with ends := M.ends ++ [r], inputs := M.inputs ++ [nth N.inputs v] } : Net).ends vs := hE
                replace owni : OwI wzn.drew b wzn.drew.heap.size ai ci ({ M with ends := M.ends ++ [r], inputs := M.inputs ++ [nth N.inputs v] } : Net).ids := owni
                replace ownp : OwI wzn.drew b wzn.drew.heap.size ap cp ({ M with ends := M.ends ++ [r], inputs := M.inputs ++ [nth N.inputs v] } : Net).inputs := ownp
                rw [← hxd] at hxb hxc
                clear hxd bwx BAx btn hmapn
                generalize wzn.drew = xd at *
                obtain ⟨xe, hxe⟩ : ∃ xe, xe = xd.alloc (.cells #[.int .i64 (nth N.ids v)] 3) := ⟨_, rfl⟩
                have bxe : Below xd.heap.size xd xe := by rw [hxe]; exact (by repeat (first | exact Below.refl _ _ | assumption | refine Below.alloc ?_ (by first | (simp; done) | (simp; omega) | omega) _ | refine Below.setCell ?_ (by first | (simp; done) | (simp; omega) | omega) _ | refine Below.drew ?_ | refine Below.drewN ?_ _))
                have hnw : ∀ jj uu, [Value.int .i64 (nth N.ids v)][jj]? = some uu → xe.cell? (Addr.add ⟨xd.heap.size, 0, none⟩ jj) = some uu := by
                  rw [hxe]
                  exact cell_one_new xd (.int .i64 (nth N.ids v)) 3
                have HXE := Lib.hid hxe
                clear hxe
                have zxe := bxe.size
                have hm0 : ({ M with ends := M.ends ++ [r], inputs := M.inputs ++ [nth N.inputs v] } : Net).ids.length ≤ 40 := hMi
                refine wpU_ready (rs := [7]) (by kernel_rfl) (by simp) (by kernel_rfl) ?_
                refine AllReadyU.cons (o := _) rfl (fun K hK => ?_) AllReadyU.nil
                go_simp
                rw [← HXE.out]
                refine hK.out _ _ ⟨cell_new_ bxe hS1, cell_new_ bxe hS2, cell_new_ bxe hS3⟩ (fun hHeld => ?_)
                clear hK K
                try simp only [Act.put, List.getElem_toArray, List.getElem_cons_zero, List.getElem_cons_succ, List.setIfInBounds_toArray, List.set_cons_zero, List.set_cons_succ]
                refine wpU_ready (rs := [8]) (by kernel_rfl) (by simp) (by kernel_rfl) ?_
                refine AllReadyU.cons (o := _) rfl (fun K hK => ?_) AllReadyU.nil
                rw [if_pos (by rfl)]
                refine step_app _ _ _ rfl 3 (.int .i64 0) 1 8 Try.underlying23 int_info rfl (by decide) b xd.heap.size ai ({ M with ends := M.ends ++ [r], inputs := M.inputs ++ [nth N.inputs v] } : Net).ids.length ci _ rfl (Ow.new owni bxe) ⟨xd.heap.size, 0, none⟩ 1 1 [.int .i64 (nth N.ids v)] rfl rfl hnw (by simp [Value.oneCell']) (by decide) (by unfold maxLen; omega) (by omega) (by omega) ?_
                intro g' cap' xw ownw hgr hnew hcap
                obtain ⟨hbx8, hNBf, hfr8⟩ := NBx.addId (z := nth N.ids v) (hbx.new bxe) (RowsAt.new hE bxe) (Ow.new owni bxe) (Ow.new ownp bxe) hdis zxe hgr hnew hcap ownw
                have b8 : Below b xe xw := (Below.refl _ _).grown hgr (Nat.le_trans hxb zxe) (fun k hk => (Ow.blk_in owni hk).1)
                refine hK.out _ _ ⟨hbx8.cell 1 _ rfl, (b8.cell (p := ⟨w.heap.size, 1, none⟩) (by show w.heap.size < b; omega)).trans (cell_new_ bxe hS2), (b8.cell (p := ⟨gi, offi + v, none⟩) (by show gi < b; omega)).trans (cell_new_ bxe hS3)⟩ (fun hHeld => ?_)
                clear hK K
                try simp only [Act.put, List.getElem_toArray, List.getElem_cons_zero, List.getElem_cons_succ, List.setIfInBounds_toArray, List.set_cons_zero, List.set_cons_succ]
                
                refine wpU_take (i := 9) (v := ?_) rfl (by kernel_rfl) (by kernel_rfl) (by kernel_rfl) (by kernel_rfl) (by kernel_rfl) (by kernel_rfl) (fun _ _ _ h => h) (Or.inl ⟨by rfl, ?_⟩) (by assumption) ?_
                rotate_left
                · (intro w hSw; (try dsimp only at hSw); obtain ⟨hq0, hq1, hq2⟩ := hSw; go_simp; try with_reducible rfl)
                try simp only [Act.put, List.getElem_toArray, List.getElem_cons_zero, List.getElem_cons_succ, List.setIfInBounds_toArray, List.set_cons_zero, List.set_cons_succ]
                refine wpU_last (by kernel_rfl) ?_
                refine wpAnyH_ready (rs := [10]) (by kernel_rfl) (by simp) ?_
                refine AllReadyH.cons (o := _) rfl (fun K hK => ?_) AllReadyH.nil
                have q2 := hbx8.cell 1 _ rfl
                have f2 := hbx8.frozen 1
                go_simp
                clear q2 f2
                refine hK.out _ _ trivial (fun _ => ?_)
                clear hK K
                try simp only [Act.put, List.getElem_toArray, List.getElem_cons_zero, List.getElem_cons_succ, List.setIfInBounds_toArray, List.set_cons_zero, List.set_cons_succ]
                refine wpAnyH_done (by kernel_rfl) ?_ _
                have btf := (hbd.trans (bxe.mono hxb)).trans (hfr8.below (B := b) (fun k h1 h2 hc => hc.elim (fun h => by have := (Ow.blk_in owni h.symm).1; omega) (fun h => by omega)) (Nat.le_trans hxb zxe))
                have hmapf := (hmd.new bxe).fr hfr8 (fun hc => hc.elim (fun h => (hmd.new bxe).ne_row (Ow.new owni bxe) h.symm) (fun h => by omega))
                clear hHeld hm0 hfr8 hbx8 b8 hgr hnew hcap ownw hnw bxe HXE zxe hbd hmd hS1 hS2 hS3 hbx hE owni ownp hdis hxb hxc hxi
                obtain ⟨wzf, hwz⟩ : ∃ wz, wz = xw.setCell ⟨b, 1, none⟩ (.slice (some ⟨g', 0, none⟩) (({ M with ends := M.ends ++ [r], inputs := M.inputs ++ [nth N.inputs v] } : Net).ids.length + 1) cap') := ⟨_, rfl⟩
                rw [← hwz] at hNBf btf hmapf ⊢
                clear hwz
                go_wp2_with fail
                go_roundw
                case rel =>
                  have hf9 : NBx wzf b b (partT N nodes kp pos (k + 1)) := by rw [HPY.out (by omega)]; exact hNBf
                  exact ⟨_, _, _, _, _, ⟨k + 1, by omega, rfl, hf9⟩, rfl, rfl, rfl, rfl, by go_num⟩
                case measure => simp [intOf]; omega
        · have HKE := Lib.hid (show k = nodes.length by omega)
          rw [HKE.out] at hNB
          have HPT : Hid (partT N nodes kp pos nodes.length = partN N nodes kp pos) := Lib.hid rfl
          rw [HPT.out] at hNB
          obtain ⟨Nk, hNk⟩ : ∃ Nk, Nk = partN N nodes kp pos := ⟨_, rfl⟩
          rw [← hNk] at hNB
          have HNk := Lib.hid hNk
          clear hNk
          obtain ⟨ax, cx, aix, cix, apx, cpx, BO, own9⟩ := hNB.at_
          replace BR := BR.below bt (by omega)
          replace bb := bb.trans (bt.mono (by omega))
          have q0 := BO.cell 0 _ rfl
          have q1 := BO.cell 1 _ rfl
          have q2 := BO.cell 2 _ rfl
          have e0 := BR.cell 0 _ rfl
          have e1 := BR.cell 1 _ rfl
          have e2 := BR.cell 2 _ rfl
          have f0 := BR.frozen 0
          have f1 := BR.frozen 1
          have f2 := BR.frozen 2
          go_wp2_with fail
          clear q0 q1 q2 e0 e1 e2 f0 f1 f2
          generalize hW : World.setCell _ _ _ = W
          have B6 : Bx W (w.heap.size + 1) 29 #[.slice ax Nk.ends.length cx, .slice aix Nk.ids.length cix, .slice apx Nk.inputs.length cpx] := by rw [← hW]; exact ((BR.set 0 _).set 1 _).set 2 _
          have fr6 : Fr (fun k => k = w.heap.size + 1) wr W := by rw [← hW]; exact fr3 _ _ _ _ _
          clear hW
          have z6 := fr6.size
          have d0 := B6.cell 0 _ rfl
          have d1 := B6.cell 1 _ rfl
          have d2 := B6.cell 2 _ rfl
          refine bodyPost_ret (v := .agg #[.slice ax Nk.ends.length cx, .slice aix Nk.ids.length cix, .slice apx Nk.inputs.length cpx]) (by simp [results, Try.results55, go_sem, d0, d1, d2]) rfl ?_
          rw [← HNk.out]
          exact ⟨_, rfl, (own9.frBx BR fr6).wide (by omega) (by omega), bb.trans (fr6.below (fun k h1 h2 hc => by omega) bb.size)⟩
end Go.Proofs.Ytlooinhdehkcdaa
