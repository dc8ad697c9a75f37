/- Classes of views: impl.viewClasses' walk. -/
import Derived.Test.YtlooinhdehkcdaaViM
import Derived.Test.YtlooinhdehkcdaaViS
import Derived.Laws.Cover3
namespace Go.Proofs.Ytlooinhdehkcdaa
open Go.RowKit Go.Maps
set_option linter.unusedVariables false
set_option linter.unusedSimpArgs false
theorem keyI_zero (rows : RowsV) (inputs cl : List Int) (has : Bool) (u : Nat) : keyI rows inputs cl has u 0 = [((rowOf rows u).length : Int), nth inputs u, 0, 0, 0, 0, 0, 0, 0, 0, 0, 0, 0, 0] := by
  cases has <;> rfl
theorem Fr.cellW {C : Nat → Prop} {w w' : World} (h : Fr C w w') {p : Addr} (hl : p.block < w.heap.size) (hc : ¬ C p.block) : w'.cell? p = w.cell? p := by
  unfold World.cell?
  rw [h.block _ hl hc]
theorem frB_ex {q : Nat → Nat → Bool} {v : Nat} (h : frB q v = false) : ∃ u, u < v ∧ q u v = true := by
  apply Classical.byContradiction
  intro hn
  have : frB q v = true := frB_t.2 fun u hu => by
    cases hq : q u v
    · rfl
    · exact absurd ⟨u, hu, hq⟩ hn
  rw [h] at this; cases this
theorem kV_lit {l : List Int} (h : l.length = 14) : kV l = .agg #[.int .i64 (nth l 0), .int .i64 (nth l 1), .int .i64 (nth l 2), .int .i64 (nth l 3), .int .i64 (nth l 4), .int .i64 (nth l 5), .int .i64 (nth l 6), .int .i64 (nth l 7), .int .i64 (nth l 8), .int .i64 (nth l 9), .int .i64 (nth l 10), .int .i64 (nth l 11), .int .i64 (nth l 12), .int .i64 (nth l 13)] := by
  match l, h with
  | [a0, a1, a2, a3, a4, a5, a6, a7, a8, a9, a10, a11, a12, a13], _ => rfl
/-- all numbers of a key are small -/
theorem key_small {N : Net} {cl : List Int} (has : Bool) (hnet : netB N = true) (hcb : ∀ j, 0 ≤ nth cl j ∧ nth cl j ≤ 1000) {u : Nat} (hu : u < N.ends.length) : KeyOk (keyV N.ends N.inputs cl has u) := by
  refine ⟨keyI_length _ _ _ _ _ _, fun z hz => ?_⟩
  have h6 := net_row hnet hu
  have hin : inpB N.inputs N.ends.length = true := by
    unfold netB at hnet
    simp only [Bool.and_eq_true] at hnet
    exact hnet.1.2
  have hi9 : 0 ≤ nth N.inputs u ∧ nth N.inputs u ≤ 9 := by
    unfold inpB at hin
    rw [Bool.and_eq_true] at hin
    have hl := of_decide_eq_true hin.1
    exact of_decide_eq_true hin.2 u (by omega)
  unfold keyV keyI at hz
  rw [List.mem_map] at hz
  obtain ⟨j, hj, rfl⟩ := hz
  have hj : j < 14 := by simpa using hj
  unfold kcF
  split
  · omega
  · split
    · omega
    · split
      · rename_i h1 h2 h3
        have hp : j / 2 - 1 < (rowOf N.ends u).length := by omega
        obtain ⟨p, q, e, hp1, hq1, _⟩ := net_back hnet hu hp
        rw [e]
        have := net_row hnet hp1
        split
        · show _ ≤ (q : Int) ∧ (q : Int) ≤ _; omega
        · have := hcb p
          show _ ≤ nth cl ((p : Int)).toNat ∧ nth cl ((p : Int)).toNat ≤ _
          rw [Int.toNat_natCast]
          omega
      · omega
set_option maxRecDepth 100000 in
set_option maxHeartbeats 3200000 in
theorem vcImpl_any (V : Value) (N : Net) (ca : Option Addr) (cc : Nat) (cl : List Int) (has : Bool) (w : World) (B : Nat) (hv : NetIn w B V N) (hcl : RdI w B ca cl) (hB : B ≤ w.heap.size) (hnet : netB N = true) (hcn : has = true → cl.length = N.ends.length) (hca : has = !ca.isNone) (hcb : ∀ j, 0 ≤ nth cl j ∧ nth cl j ≤ 1000) :
    Calls Try.prog 89 #[V, .slice ca cl.length cc] w fun e w' => ∃ g, e = .returned (.slice (some ⟨g, 0, none⟩) N.ends.length N.ends.length) ∧ OwI w' w.heap.size w'.heap.size (some ⟨g, 0, none⟩) N.ends.length (clL N.ends N.inputs cl has) ∧ Below w.heap.size w w' := by
  have HN := Lib.hid hnet
  have HCN := Lib.hid hcn
  have HCA := Lib.hid hca
  have HCL := Lib.hid hcl
  have HKO : Hid (∀ u, u < N.ends.length → KeyOk (keyV N.ends N.inputs cl has u)) := fun u hu => key_small has hnet hcb hu
  have hle : N.ends.length ≤ 40 := (netB_small hnet).1
  have hle1 : 1 ≤ N.ends.length := (netB_small hnet).2.1
  have HIL := Lib.hid (inp_of_net hnet)
  have HQ := Lib.hid (alB_eqB N.ends N.inputs cl has)
  obtain ⟨a, c, vs, ai, ci, ap, cp, rfl, h1, h2, h3, _⟩ := hv
  obtain ⟨g0, off0, rfl, hg0, hc0⟩ := h1.1 (by omega)
  obtain ⟨gp, offp, rfl, hgp, hp0⟩ := h3 (by rw [HIL.out]; omega)
  have HC0 := Lib.hid hc0
  have HP0 := Lib.hid hp0
  have HR0 := Lib.hid h1.2
  have BA := Bx.made w 29 #[.slice (some ⟨g0, off0, none⟩) N.ends.length c, .slice ai N.ids.length ci, .slice (some ⟨gp, offp, none⟩) N.inputs.length cp]
  have b0 : Below w.heap.size w (w.alloc (.cells #[.slice (some ⟨g0, off0, none⟩) N.ends.length c, .slice ai N.ids.length ci, .slice (some ⟨gp, offp, none⟩) N.inputs.length cp] 29)) := (by repeat (first | exact Below.refl _ _ | assumption | refine Below.alloc ?_ (by first | (simp; done) | (simp; omega) | omega) _ | refine Below.setCell ?_ (by first | (simp; done) | (simp; omega) | omega) _ | refine Below.drew ?_ | refine Below.drewN ?_ _))
  clear hnet h1 h2 h3 hcn hca hcl hcb hc0 hp0
  have hmk := fun X : World => run_makeMap (P := Try.prog) 102 X
  go_enter Try.func89, Try.ntmps89
  go_upto_region 1 with fail
  generalize w.alloc (.cells #[.slice (some ⟨g0, off0, none⟩) N.ends.length c, .slice ai N.ids.length ci, .slice (some ⟨gp, offp, none⟩) N.inputs.length cp] 29) = w0 at *
  have zA := BA.lt
  go_upto_region 2 with fail
  have hmap : VMap (w0.alloc (.map #[] 0)) w0.heap.size 0 0 (keyV N.ends N.inputs cl has) (fun v => (clsF (alB N.ends N.inputs cl has) v : Int)) := VMap.made _ _ _
  have BA1 := BA.alloc (.map #[] 0)
  have b1 : Below w.heap.size w (w0.alloc (.map #[] 0)) := b0.alloc b0.size _
  have zm : w0.heap.size < (w0.alloc (.map #[] 0)).heap.size := by simp
  generalize w0.alloc (.map #[] 0) = w1 at *
  obtain ⟨bm, hbm⟩ : ∃ b, b = w0.heap.size := ⟨_, rfl⟩
  rw [← hbm] at hmap zm zA ⊢
  clear hbm BA b0 w0
  have q0 := BA1.cell 0 _ rfl
  obtain ⟨d0, hd0⟩ : ∃ d, d = w1.heap.size := ⟨_, rfl⟩
  have HD := Lib.hid hd0
  have zd : bm < d0 := by omega
  clear hd0
  go_upto_region 3 with (at_make; refine wpList_mk _ rfl _ _ _ rfl 3 (.int .i64 0) 8 Try.underlying23 int_info rfl .i64 .i64 _ _ N.ends.length rfl rfl rfl rfl (by omega) (by omega) ?_; intro w2 hrow hsz hbel; rw [← HD.out] at hrow hbel hsz ⊢)
  have hbel' : Below w1.heap.size w1 w2 := by rw [HD.out] at hbel; exact hbel
  have hown : OwI w2 w.heap.size w2.heap.size (some ⟨d0, 0, none⟩) N.ends.length (upW (fun v => (clsF (alB N.ends N.inputs cl has) v : Int)) N.ends.length 0) := by rw [upW_zero]; exact OwI.zeros hrow (by omega) (by omega) (by unfold maxLen; omega)
  have bel1 : Below w.heap.size w w2 := b1.trans (hbel'.mono b1.size)
  have BA2 := BA1.new hbel'
  have hmap2 := hmap.new hbel'
  clear q0 hrow hsz hbel BA1 b1 zm hmap hbel'
  have q0 := BA2.cell 0 _ rfl
  go_wp2_with fail
  clear q0
  go_loopw [22] (fun iv wr => ∃ k : Nat, k ≤ N.ends.length ∧ iv = .int .i64 k ∧ VMap wr bm k (manyF (alB N.ends N.inputs cl has) k) (keyV N.ends N.inputs cl has) (fun v => (clsF (alB N.ends N.inputs cl has) v : Int)) ∧ OwI wr w.heap.size wr.heap.size (some ⟨d0, 0, none⟩) N.ends.length (upW (fun v => (clsF (alB N.ends N.inputs cl has) v : Int)) N.ends.length k) ∧ Bx wr w.heap.size 29 #[.slice (some ⟨g0, off0, none⟩) N.ends.length c, .slice ai N.ids.length ci, .slice (some ⟨gp, offp, none⟩) N.inputs.length cp] ∧ Below w.heap.size w wr) (fun iv _ => N.ends.length - (intOf iv).toNat)
  case atStart => exact ⟨0, Nat.zero_le _, rfl, hmap2, hown, BA2, bel1⟩
  case round =>
    clear hmap2 hown BA2 bel1
    obtain ⟨k, hk, rfl, hmap, hown, BA, bel⟩ := hrel
    by_cases hlt : k < N.ends.length
    · have zw := bel.size
      have c1 := (bel.cell (p := ⟨g0, off0 + k, none⟩) (by show g0 < _; omega)).trans (HC0.out k hlt)
      have c2 := (bel.cell (p := ⟨gp, offp + k, none⟩) (by show gp < _; omega)).trans (HP0.out k (by rw [HIL.out]; exact hlt))
      have hrow := HR0.out k hlt
      have hL6 := net_row HN.out hlt
      have q2 := BA.cell 2 _ rfl
      have hki : k < N.inputs.length := by rw [HIL.out]; exact hlt
      have HBK := Lib.hid (fun j (hj : j < (rowOf N.ends k).length) => net_back HN.out hlt hj)
      generalize (vs k).1 = ax at *
      generalize (vs k).2 = cx at *
      go_upto_region 7 with fail
      have zd1 : d0 < wr.heap.size := by
        obtain ⟨g9, h9, _, h8, _⟩ := OwI.at hown (i := k) (by rw [upW_length]; exact hlt)
        injection h9 with h9
        injection h9 with h9
        omega
      have zb1 : bm < wr.heap.size := hmap.lt
      have BK := Bx.made wr 104 #[.int .i64 ((rowOf N.ends k).length : Int), .int .i64 (nth N.inputs k), .int .i64 0, .int .i64 0, .int .i64 0, .int .i64 0, .int .i64 0, .int .i64 0, .int .i64 0, .int .i64 0, .int .i64 0, .int .i64 0, .int .i64 0, .int .i64 0]
      have bk1 : Below w.heap.size w (wr.alloc (.cells #[.int .i64 ((rowOf N.ends k).length : Int), .int .i64 (nth N.inputs k), .int .i64 0, .int .i64 0, .int .i64 0, .int .i64 0, .int .i64 0, .int .i64 0, .int .i64 0, .int .i64 0, .int .i64 0, .int .i64 0, .int .i64 0, .int .i64 0] 104)) := bel.alloc zw _
      replace BA := BA.alloc (.cells #[.int .i64 ((rowOf N.ends k).length : Int), .int .i64 (nth N.inputs k), .int .i64 0, .int .i64 0, .int .i64 0, .int .i64 0, .int .i64 0, .int .i64 0, .int .i64 0, .int .i64 0, .int .i64 0, .int .i64 0, .int .i64 0, .int .i64 0] 104)
      replace hown := (Ow.alloc hown (.cells #[.int .i64 ((rowOf N.ends k).length : Int), .int .i64 (nth N.inputs k), .int .i64 0, .int .i64 0, .int .i64 0, .int .i64 0, .int .i64 0, .int .i64 0, .int .i64 0, .int .i64 0, .int .i64 0, .int .i64 0, .int .i64 0, .int .i64 0] 104)).top
      replace hmap := hmap.new ((Below.refl _ wr).alloc (Nat.le_refl _) (.cells #[.int .i64 ((rowOf N.ends k).length : Int), .int .i64 (nth N.inputs k), .int .i64 0, .int .i64 0, .int .i64 0, .int .i64 0, .int .i64 0, .int .i64 0, .int .i64 0, .int .i64 0, .int .i64 0, .int .i64 0, .int .i64 0, .int .i64 0] 104))
      have zk : wr.heap.size < (wr.alloc (.cells #[.int .i64 ((rowOf N.ends k).length : Int), .int .i64 (nth N.inputs k), .int .i64 0, .int .i64 0, .int .i64 0, .int .i64 0, .int .i64 0, .int .i64 0, .int .i64 0, .int .i64 0, .int .i64 0, .int .i64 0, .int .i64 0, .int .i64 0] 104)).heap.size := by simp
      generalize wr.alloc (.cells #[.int .i64 ((rowOf N.ends k).length : Int), .int .i64 (nth N.inputs k), .int .i64 0, .int .i64 0, .int .i64 0, .int .i64 0, .int .i64 0, .int .i64 0, .int .i64 0, .int .i64 0, .int .i64 0, .int .i64 0, .int .i64 0, .int .i64 0] 104) = wk at *
      have HK0 : #[.int .i64 ((rowOf N.ends k).length : Int), .int .i64 (nth N.inputs k), .int .i64 0, .int .i64 0, .int .i64 0, .int .i64 0, .int .i64 0, .int .i64 0, .int .i64 0, .int .i64 0, .int .i64 0, .int .i64 0, .int .i64 0, .int .i64 0] = (cI (keyI N.ends N.inputs cl has k 0)).toArray := by rw [keyI_zero]; rfl
      rw [HK0] at BK
      obtain ⟨bk, hbk⟩ : ∃ b, b = wr.heap.size := ⟨_, rfl⟩
      rw [← hbk] at BK zk zd1 zb1 ⊢
      have zbw : w.heap.size < bk := by omega
      clear c1 c2 q2 bel hbk HK0 zw
      go_wp2_with fail
      go_loopw [37] (fun iv wr => ∃ i : Nat, i ≤ (rowOf N.ends k).length ∧ iv = .int .i64 i ∧ Bx wr bk 104 (cI (keyI N.ends N.inputs cl has k i)).toArray ∧ VMap wr bm k (manyF (alB N.ends N.inputs cl has) k) (keyV N.ends N.inputs cl has) (fun v => (clsF (alB N.ends N.inputs cl has) v : Int)) ∧ OwI wr w.heap.size wr.heap.size (some ⟨d0, 0, none⟩) N.ends.length (upW (fun v => (clsF (alB N.ends N.inputs cl has) v : Int)) N.ends.length k) ∧ Bx wr w.heap.size 29 #[.slice (some ⟨g0, off0, none⟩) N.ends.length c, .slice ai N.ids.length ci, .slice (some ⟨gp, offp, none⟩) N.inputs.length cp] ∧ Below w.heap.size w wr) (fun iv _ => (rowOf N.ends k).length - (intOf iv).toNat)
      case atStart => exact ⟨0, Nat.zero_le _, rfl, BK, hmap, hown, BA, bk1⟩
      case round =>
        clear BK hmap hown BA bk1
        obtain ⟨i, hi, rfl, BK, hmap, hown, BA, bel⟩ := hrel
        by_cases hil : i < (rowOf N.ends k).length
        · have zx := bel.size
          have zA2 := BA.lt
          obtain ⟨p, q, hpq, hp, hq, _⟩ := HBK.out i hil
          obtain ⟨g1, off1, rfl, _, e1, e2⟩ := RdE.at (RdE.below hrow (bel.mono hB)) hil
          have HPQ := Lib.hid hpq
          rw [hpq] at e1 e2
          clear hpq
          have BE := Bx.made wr 62 #[.int .i64 (p : Int), .int .i64 (q : Int)]
          have belE : Below w.heap.size w (wr.alloc (.cells #[.int .i64 (p : Int), .int .i64 (q : Int)] 62)) := bel.alloc zx _
          have BA1 := BA.alloc (.cells #[.int .i64 (p : Int), .int .i64 (q : Int)] 62)
          have BK1 := BK.alloc (.cells #[.int .i64 (p : Int), .int .i64 (q : Int)] 62)
          have hown1 := (Ow.alloc hown (.cells #[.int .i64 (p : Int), .int .i64 (q : Int)] 62)).top
          have hmap1 := hmap.new ((Below.refl _ wr).alloc (Nat.le_refl _) (.cells #[.int .i64 (p : Int), .int .i64 (q : Int)] 62))
          have zbE := BK.lt
          cases ca with
          | none =>
            obtain rfl : has = false := HCA.out
            go_upto_region 10 with fail
            clear e1 e2 BE BK BA hown hmap bel
            generalize wr.alloc (.cells #[.int .i64 (p : Int), .int .i64 (q : Int)] 62) = wy at *
            go_wp2_with fail
            go_roundw
            case rel => exact ⟨i + 1, by omega, by go_num, by rw [keyI_no _ _ _ _ (i + 1) i]; exact BK1, hmap1, hown1, BA1, belE⟩
            case measure => simp [intOf]; omega
          | some x =>
            obtain rfl : has = true := HCA.out
            have hcl := HCN.out rfl
            have hpc : p < cl.length := by omega
            obtain ⟨gc, oc, hx, hgc, hcc⟩ := Rd.at HCL.out hpc
            obtain rfl : x = ⟨gc, oc, none⟩ := by injection hx
            have h6 : i < 6 := by omega
            have HKS := Lib.hid (keyI_step N.ends N.inputs cl k i h6)
            have hcc1 := (belE.cell (p := ⟨gc, oc + p, none⟩) (by show gc < _; omega)).trans hcc
            obtain ⟨m2, hm2⟩ : ∃ m2, m2 = 2 * i := ⟨_, rfl⟩
            obtain ⟨n1, hn1⟩ : ∃ n1, n1 = 2 + 2 * i := ⟨_, rfl⟩
            obtain ⟨n2, hn2⟩ : ∃ n2, n2 = 3 + 2 * i := ⟨_, rfl⟩
            have hw1 : IntKind.i64.wrap (2 * (i : Int)) = (m2 : Int) := by simp [IntKind.wrap, IntKind.signed, IntKind.bits]; omega
            have hw2 : IntKind.i64.wrap (2 + (m2 : Int)) = (n1 : Int) := by simp [IntKind.wrap, IntKind.signed, IntKind.bits]; omega
            have hw3 : IntKind.i64.wrap (3 + (m2 : Int)) = (n2 : Int) := by simp [IntKind.wrap, IntKind.signed, IntKind.bits]; omega
            have hn1' : n1 < 14 := by omega
            have hn2' : n2 < 14 := by omega
            have HN1 := Lib.hid hn1
            have HN2 := Lib.hid hn2
            have hn12 : n1 ≠ n2 := by omega
            have zpc : (p : Int) < (cl.length : Int) := by omega
            have zi0 : (0 : Int) ≤ (n1 : Int) := by omega
            have zi1 : (n1 : Int) < 14 := by omega
            have zi2 : (0 : Int) ≤ (n2 : Int) := by omega
            have zi3 : (n2 : Int) < 14 := by omega
            have zcw : gc < w.heap.size := by omega
            clear hm2 hn1 hn2 hcl hx hcc
            go_upto_region 11 with fail
            obtain ⟨be, hbe⟩ : ∃ b, b = wr.heap.size := ⟨_, rfl⟩
            rw [← hbe] at BE zbE ⊢
            clear hbe e1 e2 BK BA hown hmap bel zx zA2
            generalize wr.alloc (.cells #[.int .i64 (p : Int), .int .i64 (q : Int)] 62) = wy at *
            have bd := belE.drew
            have BEd : Bx wy.drew be 62 #[.int .i64 (p : Int), .int .i64 (q : Int)] := BE
            have BKd : Bx wy.drew bk 104 (cI (keyI N.ends N.inputs cl true k i)).toArray := BK1
            have BAd : Bx wy.drew w.heap.size 29 #[.slice (some ⟨g0, off0, none⟩) N.ends.length c, .slice ai N.ids.length ci, .slice (some ⟨gp, offp, none⟩) N.inputs.length cp] := BA1
            have hownd : OwI wy.drew w.heap.size wy.drew.heap.size (some ⟨d0, 0, none⟩) N.ends.length (upW (fun v => (clsF (alB N.ends N.inputs cl true) v : Int)) N.ends.length k) := hown1
            have hmapd := hmap1.new (show Below wy.heap.size wy wy.drew from (Below.refl _ _).drew)
            have hccd : wy.drew.cell? ⟨gc, oc + p, none⟩ = some (.int .i64 (nth cl p)) := hcc1
            clear belE BE BK1 BA1 hown1 hmap1 hcc1
            refine wp_region_held_drew (S := fun X => X.cell? ⟨be, 0, none⟩ = some (.int .i64 (p : Int)) ∧ X.cell? ⟨be, 1, none⟩ = some (.int .i64 (q : Int)) ∧ X.cell? ⟨gc, oc + p, none⟩ = some (.int .i64 (nth cl p))) (by kernel_rfl) ⟨BEd.cell 0 _ rfl, BEd.cell 1 _ rfl, hccd⟩ (fun hHeld => ?_)
            generalize wy.drew = wd at *
            refine wpAnyH_take (i := 0) (v := ?_) rfl (by kernel_rfl) (by kernel_rfl) (by kernel_rfl) (fun _ _ _ h => h) (Or.inl ⟨by rfl, ?_⟩) (by assumption) ?_
            rotate_left
            · (intro w hSw; (try dsimp only at hSw); obtain ⟨hq0, hq1, hq2⟩ := hSw; go_simp; try with_reducible rfl)
            try simp only [Act.put, List.getElem_toArray, List.getElem_cons_zero, List.getElem_cons_succ, List.setIfInBounds_toArray, List.set_cons_zero, List.set_cons_succ]
            refine wpAnyH_take (i := 1) (v := ?_) rfl (by kernel_rfl) (by kernel_rfl) (by kernel_rfl) (fun _ _ _ h => h) (Or.inl ⟨by rfl, ?_⟩) (by assumption) ?_
            rotate_left
            · (intro w hSw; (try dsimp only at hSw); obtain ⟨hq0, hq1, hq2⟩ := hSw; go_simp; try with_reducible rfl)
            try simp only [Act.put, List.getElem_toArray, List.getElem_cons_zero, List.getElem_cons_succ, List.setIfInBounds_toArray, List.set_cons_zero, List.set_cons_succ]
            refine wpAnyH_take (i := 2) (v := ?_) rfl (by kernel_rfl) (by kernel_rfl) (by kernel_rfl) (fun _ _ _ h => h) (Or.inl ⟨by rfl, ?_⟩) (by assumption) ?_
            rotate_left
            · (intro w hSw; (try dsimp only at hSw); obtain ⟨hq0, hq1, hq2⟩ := hSw; go_simp; try with_reducible rfl)
            try simp only [Act.put, List.getElem_toArray, List.getElem_cons_zero, List.getElem_cons_succ, List.setIfInBounds_toArray, List.set_cons_zero, List.set_cons_succ]
            refine wpAnyH_take (i := 3) (v := ?_) rfl (by kernel_rfl) (by kernel_rfl) (by kernel_rfl) (fun _ _ _ h => h) (Or.inl ⟨by rfl, ?_⟩) (by assumption) ?_
            rotate_left
            · (intro w hSw; (try dsimp only at hSw); obtain ⟨hq0, hq1, hq2⟩ := hSw; go_simp; try with_reducible rfl)
            try simp only [Act.put, List.getElem_toArray, List.getElem_cons_zero, List.getElem_cons_succ, List.setIfInBounds_toArray, List.set_cons_zero, List.set_cons_succ]
            refine wpAnyH_take (i := 4) (v := ?_) rfl (by kernel_rfl) (by kernel_rfl) (by kernel_rfl) (fun _ _ _ h => h) (Or.inl ⟨by rfl, ?_⟩) (by assumption) ?_
            rotate_left
            · (intro w hSw; (try dsimp only at hSw); obtain ⟨hq0, hq1, hq2⟩ := hSw; go_simp; try with_reducible rfl)
            try simp only [Act.put, List.getElem_toArray, List.getElem_cons_zero, List.getElem_cons_succ, List.setIfInBounds_toArray, List.set_cons_zero, List.set_cons_succ]
            refine wpAnyH_take (i := 5) (v := ?_) rfl (by kernel_rfl) (by kernel_rfl) (by kernel_rfl) (fun _ _ _ h => h) (Or.inl ⟨by rfl, ?_⟩) (by assumption) ?_
            rotate_left
            · (intro w hSw; (try dsimp only at hSw); obtain ⟨hq0, hq1, hq2⟩ := hSw; go_simp; try with_reducible rfl)
            try simp only [Act.put, List.getElem_toArray, List.getElem_cons_zero, List.getElem_cons_succ, List.setIfInBounds_toArray, List.set_cons_zero, List.set_cons_succ]
            refine wpAnyH_take (i := 6) (v := ?_) rfl (by kernel_rfl) (by kernel_rfl) (by kernel_rfl) (fun _ _ _ h => h) (Or.inl ⟨by rfl, ?_⟩) (by assumption) ?_
            rotate_left
            · (intro w hSw; (try dsimp only at hSw); obtain ⟨hq0, hq1, hq2⟩ := hSw; go_simp; try with_reducible rfl)
            try simp only [Act.put, List.getElem_toArray, List.getElem_cons_zero, List.getElem_cons_succ, List.setIfInBounds_toArray, List.set_cons_zero, List.set_cons_succ]
            refine wpAnyH_take (i := 7) (v := ?_) rfl (by kernel_rfl) (by kernel_rfl) (by kernel_rfl) (fun _ _ _ h => h) (Or.inl ⟨by rfl, ?_⟩) (by assumption) ?_
            rotate_left
            · (intro w hSw; (try dsimp only at hSw); obtain ⟨hq0, hq1, hq2⟩ := hSw; go_simp; try with_reducible rfl)
            try simp only [Act.put, List.getElem_toArray, List.getElem_cons_zero, List.getElem_cons_succ, List.setIfInBounds_toArray, List.set_cons_zero, List.set_cons_succ]
            refine wpAnyH_take (i := 8) (v := ?_) rfl (by kernel_rfl) (by kernel_rfl) (by kernel_rfl) (fun _ _ _ h => h) (Or.inl ⟨by rfl, ?_⟩) (by assumption) ?_
            rotate_left
            · (intro w hSw; (try dsimp only at hSw); obtain ⟨hq0, hq1, hq2⟩ := hSw; go_simp; try with_reducible rfl)
            try simp only [Act.put, List.getElem_toArray, List.getElem_cons_zero, List.getElem_cons_succ, List.setIfInBounds_toArray, List.set_cons_zero, List.set_cons_succ]
            refine wpAnyH_take (i := 9) (v := ?_) rfl (by kernel_rfl) (by kernel_rfl) (by kernel_rfl) (fun _ _ _ h => h) (Or.inl ⟨by rfl, ?_⟩) (by assumption) ?_
            rotate_left
            · (intro w hSw; (try dsimp only at hSw); obtain ⟨hq0, hq1, hq2⟩ := hSw; go_simp; try with_reducible rfl)
            try simp only [Act.put, List.getElem_toArray, List.getElem_cons_zero, List.getElem_cons_succ, List.setIfInBounds_toArray, List.set_cons_zero, List.set_cons_succ]
            refine wpAnyH_take (i := 10) (v := ?_) rfl (by kernel_rfl) (by kernel_rfl) (by kernel_rfl) (fun _ _ _ h => h) (Or.inl ⟨by rfl, ?_⟩) (by assumption) ?_
            rotate_left
            · (intro w hSw; (try dsimp only at hSw); obtain ⟨hq0, hq1, hq2⟩ := hSw; go_simp; try with_reducible rfl)
            try simp only [Act.put, List.getElem_toArray, List.getElem_cons_zero, List.getElem_cons_succ, List.setIfInBounds_toArray, List.set_cons_zero, List.set_cons_succ]
            refine wpAnyH_take (i := 11) (v := ?_) rfl (by kernel_rfl) (by kernel_rfl) (by kernel_rfl) (fun _ _ _ h => h) (Or.inl ⟨by rfl, ?_⟩) (by assumption) ?_
            rotate_left
            · (intro w hSw; (try dsimp only at hSw); obtain ⟨hq0, hq1, hq2⟩ := hSw; go_simp; try with_reducible rfl)
            try simp only [Act.put, List.getElem_toArray, List.getElem_cons_zero, List.getElem_cons_succ, List.setIfInBounds_toArray, List.set_cons_zero, List.set_cons_succ]
            refine wpAnyH_take (i := 12) (v := ?_) rfl (by kernel_rfl) (by kernel_rfl) (by kernel_rfl) (fun _ _ _ h => h) (Or.inl ⟨by rfl, ?_⟩) (by assumption) ?_
            rotate_left
            · (intro w hSw; (try dsimp only at hSw); obtain ⟨hq0, hq1, hq2⟩ := hSw; go_simp; try with_reducible rfl)
            try simp only [Act.put, List.getElem_toArray, List.getElem_cons_zero, List.getElem_cons_succ, List.setIfInBounds_toArray, List.set_cons_zero, List.set_cons_succ]
            refine wpAnyH_take (i := 13) (v := ?_) rfl (by kernel_rfl) (by kernel_rfl) (by kernel_rfl) (fun _ _ _ h => h) (Or.inl ⟨by rfl, ?_⟩) (by assumption) ?_
            rotate_left
            · (intro w hSw; (try dsimp only at hSw); obtain ⟨hq0, hq1, hq2⟩ := hSw; go_simp; try with_reducible rfl)
            try simp only [Act.put, List.getElem_toArray, List.getElem_cons_zero, List.getElem_cons_succ, List.setIfInBounds_toArray, List.set_cons_zero, List.set_cons_succ]
            refine wpAnyH_ready (rs := [14]) (by kernel_rfl) (by simp) ?_
            refine AllReadyH.cons (o := _) rfl (fun K hK => ?_) AllReadyH.nil
            have hc14 := BKd.cell n1 _ (cI_at (keyI N.ends N.inputs cl true k i) n1 (by simp [keyI]; omega))
            have hf14 := BKd.frozen n1
            go_simp
            have hfr := fr_set wd bk n1 (.int .i64 (q : Int))
            have zz := bd.size
            have BK2 := BKd.set n1 (.int .i64 (q : Int))
            rw [cI_set] at BK2
            replace BEd := BEd.fr hfr (by omega)
            replace BAd := BAd.fr hfr (by omega)
            replace hownd := (Ow.frB hownd hfr (fun x hx hc => by rw [blk, if_neg (by omega)] at hx; injection hx with hx; simp only at hx; omega)).top
            replace hmapd := hmapd.fr hfr (by omega)
            replace hccd := (Fr.cellW hfr (p := ⟨gc, oc + p, none⟩) (by show gc < _; omega) (by show ¬ gc = _; omega)).trans hccd
            replace bd := bd.trans (hfr.below (B := w.heap.size) (fun x h1 h2 hc => by omega) bd.size)
            clear hc14 hf14 hfr BKd zz
            have BKd := BK2
            clear BK2
            refine hK.out _ _ ⟨BEd.cell 0 _ rfl, BEd.cell 1 _ rfl, hccd⟩ (fun hHeld => ?_)
            clear hK K
            try simp only [Act.put, List.getElem_toArray, List.getElem_cons_zero, List.getElem_cons_succ, List.setIfInBounds_toArray, List.set_cons_zero, List.set_cons_succ]
            generalize wd.setCell ⟨bk, n1, none⟩ (.int .i64 (q : Int)) = wd at *
            refine wpAnyH_take (i := 15) (v := ?_) rfl (by kernel_rfl) (by kernel_rfl) (by kernel_rfl) (fun _ _ _ h => h) (Or.inl ⟨by rfl, ?_⟩) (by assumption) ?_
            rotate_left
            · (intro w hSw; (try dsimp only at hSw); obtain ⟨hq0, hq1, hq2⟩ := hSw; go_simp; try with_reducible rfl)
            try simp only [Act.put, List.getElem_toArray, List.getElem_cons_zero, List.getElem_cons_succ, List.setIfInBounds_toArray, List.set_cons_zero, List.set_cons_succ]
            refine wpAnyH_ready (rs := [16]) (by kernel_rfl) (by simp) ?_
            refine AllReadyH.cons (o := _) rfl (fun K hK => ?_) AllReadyH.nil
            have hc16 := BKd.cell n2 _ (cI_at ((keyI N.ends N.inputs cl true k i).set n1 (q : Int)) n2 (by simp [keyI]; omega))
            have hf16 := BKd.frozen n2
            go_simp
            have hfr := fr_set wd bk n2 (.int .i64 (nth cl p))
            have zz := bd.size
            have BK2 := BKd.set n2 (.int .i64 (nth cl p))
            rw [cI_set] at BK2
            replace BEd := BEd.fr hfr (by omega)
            replace BAd := BAd.fr hfr (by omega)
            replace hownd := (Ow.frB hownd hfr (fun x hx hc => by rw [blk, if_neg (by omega)] at hx; injection hx with hx; simp only at hx; omega)).top
            replace hmapd := hmapd.fr hfr (by omega)
            replace hccd := (Fr.cellW hfr (p := ⟨gc, oc + p, none⟩) (by show gc < _; omega) (by show ¬ gc = _; omega)).trans hccd
            replace bd := bd.trans (hfr.below (B := w.heap.size) (fun x h1 h2 hc => by omega) bd.size)
            clear hc16 hf16 hfr BKd zz
            have BKd := BK2
            clear BK2
            refine hK.out _ _ ⟨BEd.cell 0 _ rfl, BEd.cell 1 _ rfl, hccd⟩ (fun hHeld => ?_)
            clear hK K
            try simp only [Act.put, List.getElem_toArray, List.getElem_cons_zero, List.getElem_cons_succ, List.setIfInBounds_toArray, List.set_cons_zero, List.set_cons_succ]
            generalize wd.setCell ⟨bk, n2, none⟩ (.int .i64 (nth cl p)) = wd at *
            refine wpAnyH_done (by kernel_rfl) ?_ _
            go_wp2_with fail
            go_roundw
            case rel =>
              refine ⟨i + 1, by omega, by go_num, ?_, hmapd, hownd, BAd, bd⟩
              have hks := HKS.out
              rw [HPQ.out, ← HN1.out, ← HN2.out] at hks
              rw [← hks]
              exact BKd
            case measure => simp [intOf]; omega
        · obtain rfl : i = (rowOf N.ends k).length := by omega
          have BKV : Bx wr bk 104 (cI (keyV N.ends N.inputs cl has k)).toArray := BK
          have HKL : Hid ((keyV N.ends N.inputs cl has k).length = 14) := keyI_length _ _ _ _ _ _
          obtain ⟨D, hm1, hm2, hm3, hm4⟩ := hmap
          have hkey := keyOf_kV (HKO.out k hlt)
          have HM3 := Lib.hid hm3
          have HM4 := Lib.hid hm4
          have HM2 := Lib.hid hm2
          have zx := bel.size
          have zmk : manyF (alB N.ends N.inputs cl has) k ≤ 40 := by have := manyF_le (alB N.ends N.inputs cl has) k; omega
          obtain ⟨g9, h9, _, _, _, hc, hf⟩ := OwI.at hown (i := k) (by rw [upW_length]; exact hlt)
          obtain rfl : d0 = g9 := by injection h9 with h; injection h
          have HPUT := Lib.hid (OwI.put (clsF (alB N.ends N.inputs cl has) k : Int) hown (by rw [upW_length]; exact hlt))
          have HU := Lib.hid (upW_set (fun v => (clsF (alB N.ends N.inputs cl has) v : Int)) N.ends.length k hlt)
          clear hm3 hm4 h9 hm2
          cases hfr : frB (alB N.ends N.inputs cl has) k with
          | false =>
            obtain ⟨u, hu, huk⟩ := frB_ex hfr
            have HUK := Lib.hid huk
            have HMM : Hid (manyF (alB N.ends N.inputs cl has) (k + 1) = manyF (alB N.ends N.inputs cl has) k) := by show _ = _; rw [manyF, hfr]; rfl
            have hke : keyV N.ends N.inputs cl has u = (keyV N.ends N.inputs cl has k) := of_decide_eq_true huk
            have hhas : Maps.has D (kL (keyV N.ends N.inputs cl has k)) = true := by rw [← hke]; exact (HM3.out u hu).1
            have hcs := clsF_same HQ.out (show u ≤ k by omega) huk
            have HAT : Hid (D.atKey (kL (keyV N.ends N.inputs cl has k)) (.lit (.int .i64 0)) = .lit (.int .i64 (clsF (alB N.ends N.inputs cl has) k : Int))) := by show _ = _; rw [← hke, (HM3.out u hu).2]; show DataW.lit (.int .i64 (clsF _ u : Int)) = _; rw [hcs]
            have HKN := Lib.hid (VMap.known (w := wr) (b := bm) (m := manyF (alB N.ends N.inputs cl has) k) (key := keyV N.ends N.inputs cl has) (cls := (fun v => (clsF (alB N.ends N.inputs cl has) v : Int))) ⟨D, hm1, HM2.out, HM3.out, HM4.out⟩ hu hke (by show ((clsF _ u : Nat) : Int) = _; rw [hcs]))
            clear hke hcs huk hfr
            generalize (keyV N.ends N.inputs cl has k) = kk at hhas HAT hkey BKV HKL
            rw [kV_lit HKL.out] at hkey
            have q0 := BKV.cell 0 _ (cI_at kk 0 (by rw [HKL.out]; decide))
            have q1 := BKV.cell 1 _ (cI_at kk 1 (by rw [HKL.out]; decide))
            have q2 := BKV.cell 2 _ (cI_at kk 2 (by rw [HKL.out]; decide))
            have q3 := BKV.cell 3 _ (cI_at kk 3 (by rw [HKL.out]; decide))
            have q4 := BKV.cell 4 _ (cI_at kk 4 (by rw [HKL.out]; decide))
            have q5 := BKV.cell 5 _ (cI_at kk 5 (by rw [HKL.out]; decide))
            have q6 := BKV.cell 6 _ (cI_at kk 6 (by rw [HKL.out]; decide))
            have q7 := BKV.cell 7 _ (cI_at kk 7 (by rw [HKL.out]; decide))
            have q8 := BKV.cell 8 _ (cI_at kk 8 (by rw [HKL.out]; decide))
            have q9 := BKV.cell 9 _ (cI_at kk 9 (by rw [HKL.out]; decide))
            have q10 := BKV.cell 10 _ (cI_at kk 10 (by rw [HKL.out]; decide))
            have q11 := BKV.cell 11 _ (cI_at kk 11 (by rw [HKL.out]; decide))
            have q12 := BKV.cell 12 _ (cI_at kk 12 (by rw [HKL.out]; decide))
            have q13 := BKV.cell 13 _ (cI_at kk 13 (by rw [HKL.out]; decide))
            go_upto_region 14 with (at_lookup; refine wpList_lookup_own_ok_int _ rfl _ _ 102 rfl 104 3 .i64 vk_law Try.underlying102 Try.underlying3 (int_zero _) bm k D rfl hm1 _ _ rfl hkey ?_; intro cc2 hat hwc; rw [hhas]; obtain rfl : cc2 = (clsF (alB N.ends N.inputs cl has) k : Int) := by rw [HAT.out] at hat; injection hat with hat; injection hat with _ h; exact h.symm)
            have hfr0 := fr_set wr d0 k (.int .i64 (clsF (alB N.ends N.inputs cl has) k : Int))
            have HMAP := Lib.hid (VMap.fr HKN.out hfr0 (by omega))
            have BA1 := BA.fr hfr0 (by omega)
            have bel1 := bel.trans (hfr0.below (B := w.heap.size) (fun x h1 h2 hc => by omega) zx)
            clear hm1 hkey BKV hfr0 q0 q1 q2 q3 q4 q5 q6 q7 q8 q9 q10 q11 q12 q13
            have HP2 := HPUT.out
            rw [HU.out] at HP2
            have HP3 := Lib.hid HP2
            clear HP2
            go_wp2_with fail
            go_roundw
            case rel => exact ⟨k + 1, by omega, by go_num, by rw [HMM.out]; exact HMAP.out, Ow.wide HP3.out (Nat.le_refl _) (by rw [size_set]; exact Nat.le_refl _), BA1, bel1⟩
            case measure => simp [intOf]; omega
          | true =>
            have HMM : Hid (manyF (alB N.ends N.inputs cl has) (k + 1) = manyF (alB N.ends N.inputs cl has) k + 1) := by show _ = _; rw [manyF, hfr]; rfl
            have HCF := Lib.hid (clsF_fresh hfr)
            have HNE : Hid (∀ u, u < k → keyV N.ends N.inputs cl has u ≠ (keyV N.ends N.inputs cl has k)) := fun u hu => of_decide_eq_false (frB_t.1 hfr u hu)
            have hhas : Maps.has D (kL (keyV N.ends N.inputs cl has k)) = false := HM4.out _ (HKO.out k hlt) HNE.out
            have HST : Hid (∀ X : World, X.ownsMap Try.prog 104 (plainElem Try.prog 3) bm (k + 1) (D.put (kL (keyV N.ends N.inputs cl has k)) (.lit (.int .i64 (manyF (alB N.ends N.inputs cl has) k : Int)))) → VMap X bm (k + 1) (manyF (alB N.ends N.inputs cl has) (k + 1)) (keyV N.ends N.inputs cl has) (fun v => (clsF (alB N.ends N.inputs cl has) v : Int))) := fun X hX => by
              rw [HMM.out]
              refine VMap.stored HM2.out HM3.out HM4.out (hm1.tidy vk_law) (fun u hu => HKO.out u (by omega)) HNE.out ?_
              show X.ownsMap _ _ _ bm (k + 1) (D.put _ (.lit (.int .i64 (clsF _ k : Int))))
              rw [HCF.out]
              exact hX
            have HWF : Hid ((Lit.int .i64 (manyF (alB N.ends N.inputs cl has) k : Int)).wf = true) := wf_i64 ⟨by omega, by omega⟩
            clear hfr
            generalize (keyV N.ends N.inputs cl has k) = kk at hhas hkey BKV HKL HST
            rw [kV_lit HKL.out] at hkey
            have q0 := BKV.cell 0 _ (cI_at kk 0 (by rw [HKL.out]; decide))
            have q1 := BKV.cell 1 _ (cI_at kk 1 (by rw [HKL.out]; decide))
            have q2 := BKV.cell 2 _ (cI_at kk 2 (by rw [HKL.out]; decide))
            have q3 := BKV.cell 3 _ (cI_at kk 3 (by rw [HKL.out]; decide))
            have q4 := BKV.cell 4 _ (cI_at kk 4 (by rw [HKL.out]; decide))
            have q5 := BKV.cell 5 _ (cI_at kk 5 (by rw [HKL.out]; decide))
            have q6 := BKV.cell 6 _ (cI_at kk 6 (by rw [HKL.out]; decide))
            have q7 := BKV.cell 7 _ (cI_at kk 7 (by rw [HKL.out]; decide))
            have q8 := BKV.cell 8 _ (cI_at kk 8 (by rw [HKL.out]; decide))
            have q9 := BKV.cell 9 _ (cI_at kk 9 (by rw [HKL.out]; decide))
            have q10 := BKV.cell 10 _ (cI_at kk 10 (by rw [HKL.out]; decide))
            have q11 := BKV.cell 11 _ (cI_at kk 11 (by rw [HKL.out]; decide))
            have q12 := BKV.cell 12 _ (cI_at kk 12 (by rw [HKL.out]; decide))
            have q13 := BKV.cell 13 _ (cI_at kk 13 (by rw [HKL.out]; decide))
            go_upto_region 17 with (first | (at_lookup; refine wpList_lookup_own_ok_int _ rfl _ _ 102 rfl 104 3 .i64 vk_law Try.underlying102 Try.underlying3 (int_zero _) bm k D rfl hm1 _ _ rfl hkey ?_; intro cc2 hat hwc; rw [hhas]) | (at_len; refine wpList_len_own _ rfl _ 102 rfl 104 3 Try.underlying102 _ bm k D rfl hm1 ?_; rw [HM2.out]) | (at_mapUpdate; refine wpList_mapUpdate_own _ rfl _ _ _ 102 rfl 104 3 vk_law Try.underlying102 _ bm k _ rfl hm1 (by unfold maxLen; omega) _ _ _ rfl rfl hkey _ [] (plainElem_int Try.underlying3 HWF.out) ?_; intro wm hown1 hgrow1))
            have hownm := (Ow.frB hown (Fr.of_grown hgrow1) (fun x hx hc => by rw [blk, if_neg (by omega)] at hx; injection hx with hx; injection hc with hc; simp only at hx; omega)).top
            have BAm := BA.fr (Fr.of_grown hgrow1) (fun hc => by injection hc with hc; omega)
            have HMAP0 := HST.out wm hown1
            have belm := bel.trans ((Fr.of_grown hgrow1).below (B := w.heap.size) (fun x h1 h2 hc => by injection hc with hc; omega) zx)
            clear hc hf HPUT HST hown1 hgrow1 hm1 hkey BKV q0 q1 q2 q3 q4 q5 q6 q7 q8 q9 q10 q11 q12 q13
            obtain ⟨g9, h9, _, _, _, hc, hf⟩ := OwI.at hownm (i := k) (by rw [upW_length]; exact hlt)
            obtain rfl : d0 = g9 := by injection h9 with h; injection h
            have HPUT := Lib.hid (OwI.put (clsF (alB N.ends N.inputs cl has) k : Int) hownm (by rw [upW_length]; exact hlt))
            have hfr0 := fr_set wm d0 k (.int .i64 (manyF (alB N.ends N.inputs cl has) k : Int))
            have HMAP := Lib.hid (VMap.fr HMAP0 hfr0 (by omega))
            have BA1 := BAm.fr hfr0 (by omega)
            have bel1 := belm.trans (hfr0.below (B := w.heap.size) (fun x h1 h2 hc => by omega) belm.size)
            have HP2 := HPUT.out
            rw [HU.out, HCF.out] at HP2
            have HP3 := Lib.hid HP2
            clear HP2 HPUT hownm BAm HMAP0 belm hfr0 h9 bel BA hown
            go_wp2_with fail
            go_roundw
            case rel => exact ⟨k + 1, by omega, by go_num, HMAP.out, Ow.wide HP3.out (Nat.le_refl _) (by rw [size_set]; exact Nat.le_refl _), BA1, bel1⟩
            case measure => simp [intOf]; omega
    · obtain rfl : k = N.ends.length := by omega
      go_wp2_with fail
      go_ret
      exact ⟨d0, rfl, hown, bel⟩
end Go.Proofs.Ytlooinhdehkcdaa
