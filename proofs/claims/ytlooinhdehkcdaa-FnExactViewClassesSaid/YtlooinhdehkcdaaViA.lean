/- Classes of views: spec.viAlike's walk. -/
import Derived.Test.YtlooinhdehkcdaaViP
import Derived.Test.YtlooinhdehkcdaaNet
import Derived.Deep.RegionHeld3
import Derived.Deep.DeepCutAuto
namespace Go.Proofs.Ytlooinhdehkcdaa
open Go.RowKit
set_option linter.unusedVariables false
set_option linter.unusedSimpArgs false
theorem alB_f1 {rows : RowsV} {inputs cl : List Int} {has : Bool} {u v : Nat} (hu : (rowOf rows u).length ≤ 6) (h : (rowOf rows u).length ≠ (rowOf rows v).length) : alB rows inputs cl has u v = false := by
  cases hc : alB rows inputs cl has u v
  · rfl
  · exact absurd ((alB_iff _ _ _ _ _ _ hu).1 hc).1 h
theorem alB_f2 {rows : RowsV} {inputs cl : List Int} {has : Bool} {u v : Nat} (hu : (rowOf rows u).length ≤ 6) (h : nth inputs u ≠ nth inputs v) : alB rows inputs cl has u v = false := by
  cases hc : alB rows inputs cl has u v
  · rfl
  · exact absurd ((alB_iff _ _ _ _ _ _ hu).1 hc).2.1 h
theorem alB_f3 {rows : RowsV} {inputs cl : List Int} {u v j : Nat} (hu : (rowOf rows u).length ≤ 6) (hj : j < (rowOf rows u).length) (h : (nthE (rowOf rows u) j).2 ≠ (nthE (rowOf rows v) j).2 ∨ nth cl (nthE (rowOf rows u) j).1.toNat ≠ nth cl (nthE (rowOf rows v) j).1.toNat) : alB rows inputs cl true u v = false := by
  cases hc : alB rows inputs cl true u v
  · rfl
  · have h3 := ((alB_iff _ _ _ _ _ _ hu).1 hc).2.2 rfl j hj
    rcases h with h | h
    · exact absurd h3.1 h
    · exact absurd h3.2 h
theorem alI_snoc {rows : RowsV} {cl : List Int} {u v j : Nat} (h : alI rows cl true u v j) (h1 : (nthE (rowOf rows u) j).2 = (nthE (rowOf rows v) j).2) (h2 : nth cl (nthE (rowOf rows u) j).1.toNat = nth cl (nthE (rowOf rows v) j).1.toNat) : alI rows cl true u v (j + 1) := fun hh i hi => by
  by_cases e : i = j
  · rw [e]; exact ⟨h1, h2⟩
  · exact h hh i (by omega)
set_option maxRecDepth 100000 in
set_option maxHeartbeats 1600000 in
theorem viAlike_any (a ai ap : Option Addr) (c ci cp ni : Nat) (rows : RowsV) (vs : Nat → Option Addr × Nat) (inputs : List Int) (ca : Option Addr) (cc : Nat) (cl : List Int) (u v : Nat) (w : World) (B : Nat)
    (ha : RdEE w B a rows vs) (hp : RdI w B ap inputs) (hcl : RdI w B ca cl) (hB : B ≤ w.heap.size) (hn : rows.length ≤ 40) (hin : VIn rows) (hil : inputs.length = rows.length) (has : Bool) (hhas : has = decide (0 < cl.length)) (hcn : has = true → cl.length = rows.length) (hu : u < rows.length) (hv : v < rows.length) :
    Calls Try.prog 98 #[.agg #[.slice a rows.length c, .slice ai ni ci, .slice ap inputs.length cp], .slice ca cl.length cc, .int .i64 u, .int .i64 v] w fun e w' => e = .returned (.bool (alB rows inputs cl has u v)) ∧ Below w.heap.size w w' := by
  obtain ⟨hu6, huR⟩ := hin u hu
  obtain ⟨hv6, hvR⟩ := hin v hv
  have HUR := Lib.hid huR
  have HVR := Lib.hid hvR
  have HCN := Lib.hid hcn
  have HHAS := Lib.hid hhas
  have HIL := Lib.hid hil
  have HA := Lib.hid ha
  have HP := Lib.hid hp
  have HC := Lib.hid hcl
  have BA := Bx.made w 29 #[.slice a rows.length c, .slice ai ni ci, .slice ap inputs.length cp]
  have b0 : Below w.heap.size w (w.alloc (.cells #[.slice a rows.length c, .slice ai ni ci, .slice ap inputs.length cp] 29)) := (by repeat (first | exact Below.refl _ _ | assumption | refine Below.alloc ?_ (by first | (simp; done) | (simp; omega) | omega) _ | refine Below.setCell ?_ (by first | (simp; done) | (simp; omega) | omega) _ | refine Below.drew ?_ | refine Below.drewN ?_ _))
  obtain ⟨g, off, rfl, hg, hcu⟩ := Rd.at ha.1 hu
  obtain ⟨g', off', hg2, hg', hcv⟩ := Rd.at ha.1 hv
  obtain ⟨rfl, rfl⟩ : g = g' ∧ off = off' := by injection hg2 with h; injection h with h1 h2; exact ⟨h1, h2⟩
  obtain ⟨gp, offp, rfl, hgp, hpu⟩ := Rd.at hp (show u < inputs.length by omega)
  obtain ⟨gp', offp', hgp2, hgp', hpv⟩ := Rd.at hp (show v < inputs.length by omega)
  obtain ⟨rfl, rfl⟩ : gp = gp' ∧ offp = offp' := by injection hgp2 with h; injection h with h1 h2; exact ⟨h1, h2⟩
  have hui : u < inputs.length := by omega
  have hvi : v < inputs.length := by omega
  have HU := Lib.hid (ha.2 u hu)
  have HV := Lib.hid (ha.2 v hv)
  clear hg2 hgp2 hg' hgp' hin huR hvR hcn hhas hil ha hp hcl
  have kcu := fun (X : World) (h : Below w.heap.size w X) => (h.cell (p := ⟨g, off + u, none⟩) (show g < w.heap.size by omega)).trans hcu
  have kcv := fun (X : World) (h : Below w.heap.size w X) => (h.cell (p := ⟨g, off + v, none⟩) (show g < w.heap.size by omega)).trans hcv
  have kpu := fun (X : World) (h : Below w.heap.size w X) => (h.cell (p := ⟨gp, offp + u, none⟩) (show gp < w.heap.size by omega)).trans hpu
  have kpv := fun (X : World) (h : Below w.heap.size w X) => (h.cell (p := ⟨gp, offp + v, none⟩) (show gp < w.heap.size by omega)).trans hpv
  have KCU := Lib.hid kcu
  have KCV := Lib.hid kcv
  have KPU := Lib.hid kpu
  have KPV := Lib.hid kpv
  clear hcu hcv hpu hpv kcu kcv kpu kpv HA
  generalize (vs u).1 = au at *
  generalize (vs u).2 = cu at *
  generalize (vs v).1 = av at *
  generalize (vs v).2 = cv at *
  go_enter Try.func98, Try.ntmps98
  go_upto_region 1 with fail
  generalize w.alloc (.cells #[.slice (some ⟨g, off, none⟩) rows.length c, .slice ai ni ci, .slice (some ⟨gp, offp, none⟩) inputs.length cp] 29) = w0 at *
  have q0 := BA.cell 0 _ rfl
  have q2 := BA.cell 2 _ rfl
  have c1 := KCU.out _ b0
  have c2 := KCV.out _ b0
  have c3 := KPU.out _ b0
  have c4 := KPV.out _ b0
  have z0 : (0 : Int) ≤ (u : Int) := by omega
  have z1 : (u : Int) < (rows.length : Int) := by omega
  have z2 : (0 : Int) ≤ (v : Int) := by omega
  have z3 : (v : Int) < (rows.length : Int) := by omega
  by_cases hl : (rowOf rows u).length = (rowOf rows v).length
  · have hb1 : (((rowOf rows u).length : Int) != ((rowOf rows v).length : Int)) = false := by simp [hl]
    by_cases hi : nth inputs u = nth inputs v
    · have hb2 : (nth inputs u != nth inputs v) = false := by simp [hi]
      have HL := Lib.hid hl
      have HI := Lib.hid hi
      clear hl hi
      go_quiet (fail)
      have bd := Below.drewN b0 nq
      have BD : Bx (w0.drewN nq) w.heap.size 29 #[.slice (some ⟨g, off, none⟩) rows.length c, .slice ai ni ci, .slice (some ⟨gp, offp, none⟩) inputs.length cp] := BA
      clear BA b0 q0 q2 c3 c4 hb2
      generalize w0.drewN nq = w1 at *
      have q0 := BD.cell 0 _ rfl
      replace c1 := KCU.out _ bd
      clear c2 w0
      go_wp2_with fail
      go_loopw [44] (fun iv wr => ∃ j : Nat, j ≤ (rowOf rows u).length ∧ iv = .int .i64 j ∧ alI rows cl has u v j ∧ Bx wr w.heap.size 29 #[.slice (some ⟨g, off, none⟩) rows.length c, .slice ai ni ci, .slice (some ⟨gp, offp, none⟩) inputs.length cp] ∧ Below w.heap.size w wr) (fun iv _ => (rowOf rows u).length - (intOf iv).toNat)
      case atStart => exact ⟨0, Nat.zero_le _, rfl, fun _ j hj => absurd hj (by omega), BD, bd⟩
      case round =>
        clear BD bd q0 c1
        obtain ⟨j, hj, rfl, hal, BA, bel⟩ := hrel
        have HAL := Lib.hid hal
        clear hal
        by_cases hlt : j < (rowOf rows u).length
        · have hltv : j < (rowOf rows v).length := by rw [← HL.out]; exact hlt
          obtain ⟨g1, o1, rfl, hg1, e1, e2⟩ := RdE.at HU.out hlt
          obtain ⟨g2, o2, rfl, hg2, f1, f2⟩ := RdE.at HV.out hltv
          have c1 := KCU.out _ bel
          have c2 := KCV.out _ bel
          have q0 := BA.cell 0 _ rfl
          obtain ⟨p1, p2⟩ := HUR.out j hlt
          obtain ⟨r1, r2⟩ := HVR.out j hltv
          obtain ⟨p, hp⟩ := Int.eq_ofNat_of_zero_le p1
          obtain ⟨r, hr⟩ := Int.eq_ofNat_of_zero_le r1
          have HEU := Lib.hid (show (nthE (rowOf rows u) j).1.toNat = p by rw [hp]; rfl)
          have HEV := Lib.hid (show (nthE (rowOf rows v) j).1.toNat = r by rw [hr]; rfl)
          rw [hp] at e1 p2
          rw [hr] at f1 r2
          clear hp hr p1 r1
          have KF1 := Lib.hid (fun (X : World) (h : Below w.heap.size w X) => (h.cell (p := ⟨g2, o2 + j * 2, none⟩) (show g2 < w.heap.size by omega)).trans f1)
          have KF2 := Lib.hid (fun (X : World) (h : Below w.heap.size w X) => (h.cell (p := ⟨g2, o2 + j * 2 + 1, none⟩) (show g2 < w.heap.size by omega)).trans f2)
          replace e1 := (bel.cell (p := ⟨g1, o1 + j * 2, none⟩) (show g1 < w.heap.size by omega)).trans e1
          replace e2 := (bel.cell (p := ⟨g1, o1 + j * 2 + 1, none⟩) (show g1 < w.heap.size by omega)).trans e2
          clear f1 f2
          by_cases hs : 0 < cl.length
          · obtain rfl : has = true := by rw [HHAS.out]; exact decide_eq_true hs
            have hcl := HCN.out rfl
            have hd : decide ((0 : Int) < (cl.length : Int)) = true := decide_eq_true (by omega)
            obtain ⟨gc, oc, rfl, hgc, hc1⟩ := Rd.at HC.out (show p < cl.length by omega)
            obtain ⟨gc', oc', hgc2, hgc', hc2⟩ := Rd.at HC.out (show r < cl.length by omega)
            obtain ⟨rfl, rfl⟩ : gc = gc' ∧ oc = oc' := by injection hgc2 with h; injection h with h1 h2; exact ⟨h1, h2⟩
            clear hgc2 hgc'
            have KC1 := Lib.hid (fun (X : World) (h : Below w.heap.size w X) => (h.cell (p := ⟨gc, oc + p, none⟩) (show gc < w.heap.size by omega)).trans hc1)
            have KC2 := Lib.hid (fun (X : World) (h : Below w.heap.size w X) => (h.cell (p := ⟨gc, oc + r, none⟩) (show gc < w.heap.size by omega)).trans hc2)
            have zp : (p : Int) < (cl.length : Int) := by omega
            have zr : (r : Int) < (cl.length : Int) := by omega
            have zp0 : (0 : Int) ≤ (p : Int) := by omega
            have zr0 : (0 : Int) ≤ (r : Int) := by omega
            clear hcl p2 r2 hc1 hc2
            by_cases hy : (nthE (rowOf rows u) j).2 = (nthE (rowOf rows v) j).2
            · by_cases hz : nth cl p = nth cl r
              · have HN : Hid (alI rows cl true u v (j + 1)) := alI_snoc HAL.out hy (by rw [HEU.out, HEV.out]; exact hz)
                have hb3 : ((nthE (rowOf rows u) j).2 != (nthE (rowOf rows v) j).2) = false := by simp [hy]
                have hb4 : (nth cl p != nth cl r) = false := by simp [hz]
                clear hy hz
                generalize (nthE (rowOf rows u) j).2 = yu at *
                generalize (nthE (rowOf rows v) j).2 = yv at *
                generalize nth cl p = ku at *
                generalize nth cl r = kv at *
                go_upto_region 6 with fail
                have BX := Bx.made wr 62 #[.int .i64 (p : Int), .int .i64 yu]
                have bel1 : Below w.heap.size w (wr.alloc (.cells #[.int .i64 (p : Int), .int .i64 yu] 62)) := bel.alloc bel.size _
                replace BA := BA.alloc (.cells #[.int .i64 (p : Int), .int .i64 yu] 62)
                have zx : wr.heap.size < (wr.alloc (.cells #[.int .i64 (p : Int), .int .i64 yu] 62)).heap.size := by simp
                have zw := bel.size
                generalize wr.alloc (.cells #[.int .i64 (p : Int), .int .i64 yu] 62) = wa at *
                clear q0 c1 c2 bel e1 e2
                generalize wr.heap.size = bx at *
                have q0 := BA.cell 0 _ rfl
                have c2 := KCV.out _ bel1
                have f1 := KF1.out _ bel1
                have f2 := KF2.out _ bel1
                go_upto_region 7 with fail
                have BY := Bx.made wa 62 #[.int .i64 (r : Int), .int .i64 yv]
                have bel2 : Below w.heap.size w (wa.alloc (.cells #[.int .i64 (r : Int), .int .i64 yv] 62)) := bel1.alloc bel1.size _
                replace BA := BA.alloc (.cells #[.int .i64 (r : Int), .int .i64 yv] 62)
                replace BX := BX.alloc (.cells #[.int .i64 (r : Int), .int .i64 yv] 62)
                generalize wa.alloc (.cells #[.int .i64 (r : Int), .int .i64 yv] 62) = wb at *
                clear q0 c2 bel1 f1 f2
                generalize wa.heap.size = by_ at *
                have x0 := BX.cell 0 _ rfl
                have x1 := BX.cell 1 _ rfl
                have y0 := BY.cell 0 _ rfl
                have y1 := BY.cell 1 _ rfl
                have k1 := KC1.out _ bel2
                have k2 := KC2.out _ bel2
                go_quiet (fail)
                go_wp2_with fail
                go_roundw
                case rel => exact ⟨j + 1, by omega, by go_num, HN.out, BA, Below.drewN bel2 _⟩
                case measure => simp [intOf]; omega
              · have HR := Lib.hid (alB_f3 (cl := cl) (v := v) (inputs := inputs) hu6 hlt (.inr (by rw [HEU.out, HEV.out]; exact hz)))
                have hb3 : ((nthE (rowOf rows u) j).2 != (nthE (rowOf rows v) j).2) = false := by simp [hy]
                have hb4 : (nth cl p != nth cl r) = true := by simp [hz]
                clear hy hz
                generalize (nthE (rowOf rows u) j).2 = yu at *
                generalize (nthE (rowOf rows v) j).2 = yv at *
                generalize nth cl p = ku at *
                generalize nth cl r = kv at *
                go_upto_region 6 with fail
                have BX := Bx.made wr 62 #[.int .i64 (p : Int), .int .i64 yu]
                have bel1 : Below w.heap.size w (wr.alloc (.cells #[.int .i64 (p : Int), .int .i64 yu] 62)) := bel.alloc bel.size _
                replace BA := BA.alloc (.cells #[.int .i64 (p : Int), .int .i64 yu] 62)
                have zx : wr.heap.size < (wr.alloc (.cells #[.int .i64 (p : Int), .int .i64 yu] 62)).heap.size := by simp
                have zw := bel.size
                generalize wr.alloc (.cells #[.int .i64 (p : Int), .int .i64 yu] 62) = wa at *
                clear q0 c1 c2 bel e1 e2
                generalize wr.heap.size = bx at *
                have q0 := BA.cell 0 _ rfl
                have c2 := KCV.out _ bel1
                have f1 := KF1.out _ bel1
                have f2 := KF2.out _ bel1
                go_upto_region 7 with fail
                have BY := Bx.made wa 62 #[.int .i64 (r : Int), .int .i64 yv]
                have bel2 : Below w.heap.size w (wa.alloc (.cells #[.int .i64 (r : Int), .int .i64 yv] 62)) := bel1.alloc bel1.size _
                replace BA := BA.alloc (.cells #[.int .i64 (r : Int), .int .i64 yv] 62)
                replace BX := BX.alloc (.cells #[.int .i64 (r : Int), .int .i64 yv] 62)
                generalize wa.alloc (.cells #[.int .i64 (r : Int), .int .i64 yv] 62) = wb at *
                clear q0 c2 bel1 f1 f2
                generalize wa.heap.size = by_ at *
                have x0 := BX.cell 0 _ rfl
                have x1 := BX.cell 1 _ rfl
                have y0 := BY.cell 0 _ rfl
                have y1 := BY.cell 1 _ rfl
                have k1 := KC1.out _ bel2
                have k2 := KC2.out _ bel2
                go_quiet (fail)
                go_wp2_with fail
                go_ret
                exact ⟨ret_bool HR.out.symm, Below.drewN bel2 _⟩
            · have HR := Lib.hid (alB_f3 (cl := cl) (inputs := inputs) hu6 hlt (.inl hy))
              have hb3 : ((nthE (rowOf rows u) j).2 != (nthE (rowOf rows v) j).2) = true := by simp [hy]
              clear hy
              generalize (nthE (rowOf rows u) j).2 = yu at *
              generalize (nthE (rowOf rows v) j).2 = yv at *
              go_upto_region 6 with fail
              have BX := Bx.made wr 62 #[.int .i64 (p : Int), .int .i64 yu]
              have bel1 : Below w.heap.size w (wr.alloc (.cells #[.int .i64 (p : Int), .int .i64 yu] 62)) := bel.alloc bel.size _
              replace BA := BA.alloc (.cells #[.int .i64 (p : Int), .int .i64 yu] 62)
              have zx : wr.heap.size < (wr.alloc (.cells #[.int .i64 (p : Int), .int .i64 yu] 62)).heap.size := by simp
              have zw := bel.size
              generalize wr.alloc (.cells #[.int .i64 (p : Int), .int .i64 yu] 62) = wa at *
              clear q0 c1 c2 bel e1 e2
              generalize wr.heap.size = bx at *
              have q0 := BA.cell 0 _ rfl
              have c2 := KCV.out _ bel1
              have f1 := KF1.out _ bel1
              have f2 := KF2.out _ bel1
              go_upto_region 7 with fail
              have BY := Bx.made wa 62 #[.int .i64 (r : Int), .int .i64 yv]
              have bel2 : Below w.heap.size w (wa.alloc (.cells #[.int .i64 (r : Int), .int .i64 yv] 62)) := bel1.alloc bel1.size _
              replace BA := BA.alloc (.cells #[.int .i64 (r : Int), .int .i64 yv] 62)
              replace BX := BX.alloc (.cells #[.int .i64 (r : Int), .int .i64 yv] 62)
              generalize wa.alloc (.cells #[.int .i64 (r : Int), .int .i64 yv] 62) = wb at *
              clear q0 c2 bel1 f1 f2
              generalize wa.heap.size = by_ at *
              have x0 := BX.cell 0 _ rfl
              have x1 := BX.cell 1 _ rfl
              have y0 := BY.cell 0 _ rfl
              have y1 := BY.cell 1 _ rfl
              skip
              go_quiet (fail)
              go_wp2_with fail
              go_ret
              exact ⟨ret_bool HR.out.symm, Below.drewN bel2 _⟩
          · obtain rfl : has = false := by rw [HHAS.out]; exact decide_eq_false hs
            obtain rfl : cl = [] := List.length_eq_zero_iff.1 (by omega)
            have HN : Hid (alI rows [] false u v (j + 1)) := fun hh => by cases hh
            clear hs
            generalize (nthE (rowOf rows u) j).2 = yu at *
            generalize (nthE (rowOf rows v) j).2 = yv at *
            go_upto_region 6 with fail
            have BX := Bx.made wr 62 #[.int .i64 (p : Int), .int .i64 yu]
            have bel1 : Below w.heap.size w (wr.alloc (.cells #[.int .i64 (p : Int), .int .i64 yu] 62)) := bel.alloc bel.size _
            replace BA := BA.alloc (.cells #[.int .i64 (p : Int), .int .i64 yu] 62)
            have zx : wr.heap.size < (wr.alloc (.cells #[.int .i64 (p : Int), .int .i64 yu] 62)).heap.size := by simp
            have zw := bel.size
            generalize wr.alloc (.cells #[.int .i64 (p : Int), .int .i64 yu] 62) = wa at *
            clear q0 c1 c2 bel e1 e2
            generalize wr.heap.size = bx at *
            have q0 := BA.cell 0 _ rfl
            have c2 := KCV.out _ bel1
            have f1 := KF1.out _ bel1
            have f2 := KF2.out _ bel1
            go_upto_region 7 with fail
            have BY := Bx.made wa 62 #[.int .i64 (r : Int), .int .i64 yv]
            have bel2 : Below w.heap.size w (wa.alloc (.cells #[.int .i64 (r : Int), .int .i64 yv] 62)) := bel1.alloc bel1.size _
            replace BA := BA.alloc (.cells #[.int .i64 (r : Int), .int .i64 yv] 62)
            replace BX := BX.alloc (.cells #[.int .i64 (r : Int), .int .i64 yv] 62)
            generalize wa.alloc (.cells #[.int .i64 (r : Int), .int .i64 yv] 62) = wb at *
            clear q0 c2 bel1 f1 f2
            generalize wa.heap.size = by_ at *
            have x0 := BX.cell 0 _ rfl
            have x1 := BX.cell 1 _ rfl
            have y0 := BY.cell 0 _ rfl
            have y1 := BY.cell 1 _ rfl
            skip
            refine wp_region_held_drew (S := fun _ => True) (by kernel_rfl) trivial (fun hHeld => ?_)
            refine wpAnyH_take (i := 0) (v := ?_) rfl (by kernel_rfl) (by kernel_rfl) (by kernel_rfl) (fun _ _ _ h => h) (Or.inl ⟨by rfl, ?_⟩) (by assumption) ?_
            rotate_left
            · (intro w hSw; (try dsimp only at hSw); go_simp; try with_reducible rfl)
            try simp only [Act.put, List.getElem_toArray, List.getElem_cons_zero, List.getElem_cons_succ, List.setIfInBounds_toArray, List.set_cons_zero, List.set_cons_succ]
            refine wpAnyH_take (i := 1) (v := ?_) rfl (by kernel_rfl) (by kernel_rfl) (by kernel_rfl) (fun _ _ _ h => h) (Or.inl ⟨by rfl, ?_⟩) (by assumption) ?_
            rotate_left
            · (intro w hSw; (try dsimp only at hSw); go_simp; try with_reducible rfl)
            try simp only [Act.put, List.getElem_toArray, List.getElem_cons_zero, List.getElem_cons_succ, List.setIfInBounds_toArray, List.set_cons_zero, List.set_cons_succ]
            refine wpAnyH_take (i := 2) (v := ?_) rfl (by kernel_rfl) (by kernel_rfl) (by kernel_rfl) (fun _ _ _ h => h) (Or.inl ⟨by rfl, ?_⟩) (by assumption) ?_
            rotate_left
            · (intro w hSw; (try dsimp only at hSw); go_simp; try with_reducible rfl)
            try simp only [Act.put, List.getElem_toArray, List.getElem_cons_zero, List.getElem_cons_succ, List.setIfInBounds_toArray, List.set_cons_zero, List.set_cons_succ]
            refine wpAnyH_take (i := 3) (v := ?_) rfl (by kernel_rfl) (by kernel_rfl) (by kernel_rfl) (fun _ _ _ h => h) (Or.inl ⟨by rfl, ?_⟩) (by assumption) ?_
            rotate_left
            · (intro w hSw; (try dsimp only at hSw); go_simp; try with_reducible rfl)
            try simp only [Act.put, List.getElem_toArray, List.getElem_cons_zero, List.getElem_cons_succ, List.setIfInBounds_toArray, List.set_cons_zero, List.set_cons_succ]
            refine wpAnyH_take (i := 4) (v := undef) rfl (by kernel_rfl) (by kernel_rfl) (by kernel_rfl) (fun _ _ _ h => h) (Or.inr ⟨by rfl, rfl⟩) (by assumption) ?_
            try simp only [Act.put, List.getElem_toArray, List.getElem_cons_zero, List.getElem_cons_succ, List.setIfInBounds_toArray, List.set_cons_zero, List.set_cons_succ]
            refine wpAnyH_take (i := 5) (v := undef) rfl (by kernel_rfl) (by kernel_rfl) (by kernel_rfl) (fun _ _ _ h => h) (Or.inr ⟨by rfl, rfl⟩) (by assumption) ?_
            try simp only [Act.put, List.getElem_toArray, List.getElem_cons_zero, List.getElem_cons_succ, List.setIfInBounds_toArray, List.set_cons_zero, List.set_cons_succ]
            refine wpAnyH_take (i := 6) (v := undef) rfl (by kernel_rfl) (by kernel_rfl) (by kernel_rfl) (fun _ _ _ h => h) (Or.inr ⟨by rfl, rfl⟩) (by assumption) ?_
            try simp only [Act.put, List.getElem_toArray, List.getElem_cons_zero, List.getElem_cons_succ, List.setIfInBounds_toArray, List.set_cons_zero, List.set_cons_succ]
            refine wpAnyH_take (i := 7) (v := undef) rfl (by kernel_rfl) (by kernel_rfl) (by kernel_rfl) (fun _ _ _ h => h) (Or.inr ⟨by rfl, rfl⟩) (by assumption) ?_
            try simp only [Act.put, List.getElem_toArray, List.getElem_cons_zero, List.getElem_cons_succ, List.setIfInBounds_toArray, List.set_cons_zero, List.set_cons_succ]
            refine wpAnyH_take (i := 8) (v := undef) rfl (by kernel_rfl) (by kernel_rfl) (by kernel_rfl) (fun _ _ _ h => h) (Or.inr ⟨by rfl, rfl⟩) (by assumption) ?_
            try simp only [Act.put, List.getElem_toArray, List.getElem_cons_zero, List.getElem_cons_succ, List.setIfInBounds_toArray, List.set_cons_zero, List.set_cons_succ]
            refine wpAnyH_take (i := 9) (v := undef) rfl (by kernel_rfl) (by kernel_rfl) (by kernel_rfl) (fun _ _ _ h => h) (Or.inr ⟨by rfl, rfl⟩) (by assumption) ?_
            try simp only [Act.put, List.getElem_toArray, List.getElem_cons_zero, List.getElem_cons_succ, List.setIfInBounds_toArray, List.set_cons_zero, List.set_cons_succ]
            refine wpAnyH_take (i := 10) (v := undef) rfl (by kernel_rfl) (by kernel_rfl) (by kernel_rfl) (fun _ _ _ h => h) (Or.inr ⟨by rfl, rfl⟩) (by assumption) ?_
            try simp only [Act.put, List.getElem_toArray, List.getElem_cons_zero, List.getElem_cons_succ, List.setIfInBounds_toArray, List.set_cons_zero, List.set_cons_succ]
            refine wpAnyH_take (i := 11) (v := undef) rfl (by kernel_rfl) (by kernel_rfl) (by kernel_rfl) (fun _ _ _ h => h) (Or.inr ⟨by rfl, rfl⟩) (by assumption) ?_
            try simp only [Act.put, List.getElem_toArray, List.getElem_cons_zero, List.getElem_cons_succ, List.setIfInBounds_toArray, List.set_cons_zero, List.set_cons_succ]
            refine wpAnyH_take (i := 12) (v := undef) rfl (by kernel_rfl) (by kernel_rfl) (by kernel_rfl) (fun _ _ _ h => h) (Or.inr ⟨by rfl, rfl⟩) (by assumption) ?_
            try simp only [Act.put, List.getElem_toArray, List.getElem_cons_zero, List.getElem_cons_succ, List.setIfInBounds_toArray, List.set_cons_zero, List.set_cons_succ]
            refine wpAnyH_take (i := 13) (v := undef) rfl (by kernel_rfl) (by kernel_rfl) (by kernel_rfl) (fun _ _ _ h => h) (Or.inr ⟨by rfl, rfl⟩) (by assumption) ?_
            try simp only [Act.put, List.getElem_toArray, List.getElem_cons_zero, List.getElem_cons_succ, List.setIfInBounds_toArray, List.set_cons_zero, List.set_cons_succ]
            refine wpAnyH_take (i := 14) (v := undef) rfl (by kernel_rfl) (by kernel_rfl) (by kernel_rfl) (fun _ _ _ h => h) (Or.inr ⟨by rfl, rfl⟩) (by assumption) ?_
            try simp only [Act.put, List.getElem_toArray, List.getElem_cons_zero, List.getElem_cons_succ, List.setIfInBounds_toArray, List.set_cons_zero, List.set_cons_succ]
            refine wpAnyH_take (i := 15) (v := undef) rfl (by kernel_rfl) (by kernel_rfl) (by kernel_rfl) (fun _ _ _ h => h) (Or.inr ⟨by rfl, rfl⟩) (by assumption) ?_
            try simp only [Act.put, List.getElem_toArray, List.getElem_cons_zero, List.getElem_cons_succ, List.setIfInBounds_toArray, List.set_cons_zero, List.set_cons_succ]
            refine wpAnyH_take (i := 16) (v := undef) rfl (by kernel_rfl) (by kernel_rfl) (by kernel_rfl) (fun _ _ _ h => h) (Or.inr ⟨by rfl, rfl⟩) (by assumption) ?_
            try simp only [Act.put, List.getElem_toArray, List.getElem_cons_zero, List.getElem_cons_succ, List.setIfInBounds_toArray, List.set_cons_zero, List.set_cons_succ]
            refine wpAnyH_take (i := 17) (v := undef) rfl (by kernel_rfl) (by kernel_rfl) (by kernel_rfl) (fun _ _ _ h => h) (Or.inr ⟨by rfl, rfl⟩) (by assumption) ?_
            try simp only [Act.put, List.getElem_toArray, List.getElem_cons_zero, List.getElem_cons_succ, List.setIfInBounds_toArray, List.set_cons_zero, List.set_cons_succ]
            refine wpAnyH_take (i := 18) (v := undef) rfl (by kernel_rfl) (by kernel_rfl) (by kernel_rfl) (fun _ _ _ h => h) (Or.inr ⟨by rfl, rfl⟩) (by assumption) ?_
            try simp only [Act.put, List.getElem_toArray, List.getElem_cons_zero, List.getElem_cons_succ, List.setIfInBounds_toArray, List.set_cons_zero, List.set_cons_succ]
            refine wpAnyH_take (i := 19) (v := undef) rfl (by kernel_rfl) (by kernel_rfl) (by kernel_rfl) (fun _ _ _ h => h) (Or.inr ⟨by rfl, rfl⟩) (by assumption) ?_
            try simp only [Act.put, List.getElem_toArray, List.getElem_cons_zero, List.getElem_cons_succ, List.setIfInBounds_toArray, List.set_cons_zero, List.set_cons_succ]
            refine wpAnyH_take (i := 20) (v := undef) rfl (by kernel_rfl) (by kernel_rfl) (by kernel_rfl) (fun _ _ _ h => h) (Or.inr ⟨by rfl, rfl⟩) (by assumption) ?_
            try simp only [Act.put, List.getElem_toArray, List.getElem_cons_zero, List.getElem_cons_succ, List.setIfInBounds_toArray, List.set_cons_zero, List.set_cons_succ]
            refine wpAnyH_take (i := 21) (v := undef) rfl (by kernel_rfl) (by kernel_rfl) (by kernel_rfl) (fun _ _ _ h => h) (Or.inr ⟨by rfl, rfl⟩) (by assumption) ?_
            try simp only [Act.put, List.getElem_toArray, List.getElem_cons_zero, List.getElem_cons_succ, List.setIfInBounds_toArray, List.set_cons_zero, List.set_cons_succ]
            refine wpAnyH_take (i := 22) (v := ?_) rfl (by kernel_rfl) (by kernel_rfl) (by kernel_rfl) (fun _ _ _ h => h) (Or.inl ⟨by rfl, ?_⟩) (by assumption) ?_
            rotate_left
            · (intro w hSw; (try dsimp only at hSw); go_simp; try with_reducible rfl)
            try simp only [Act.put, List.getElem_toArray, List.getElem_cons_zero, List.getElem_cons_succ, List.setIfInBounds_toArray, List.set_cons_zero, List.set_cons_succ]
            refine wpAnyH_done (by kernel_rfl) ?_ _
            go_wp2_with fail
            go_roundw
            case rel => exact ⟨j + 1, by omega, by go_num, HN.out, BA, bel2.drew⟩
            case measure => simp [intOf]; omega
        · obtain rfl : j = (rowOf rows u).length := by omega
          have HR : Hid (alB rows inputs cl has u v = true) := (alB_iff _ _ _ _ _ _ hu6).2 ⟨HL.out, HI.out, HAL.out⟩
          go_wp2_with fail
          go_ret
          exact ⟨ret_bool HR.out.symm, bel⟩
    · have HR := Lib.hid (alB_f2 (rows := rows) (cl := cl) (has := has) hu6 hi)
      have hb2 : (nth inputs u != nth inputs v) = true := by simp [hi]
      clear hl hi
      go_quiet (fail)
      go_wp2_with fail
      go_ret
      exact ⟨ret_bool HR.out.symm, Below.drewN b0 _⟩
  · have HR := Lib.hid (alB_f1 (inputs := inputs) (cl := cl) (has := has) hu6 hl)
    have hb1 : (((rowOf rows u).length : Int) != ((rowOf rows v).length : Int)) = true := by simp; omega
    clear hl
    go_quiet (fail)
    go_wp2_with fail
    go_ret
    exact ⟨ret_bool HR.out.symm, Below.drewN b0 _⟩
end Go.Proofs.Ytlooinhdehkcdaa
