/- RegularTree: spec's walk. -/
import Derived.Test.YtlooinhdehkcdaaTreM
namespace Go.Proofs.Ytlooinhdehkcdaa
open Go.RowKit
set_option linter.unusedVariables false
set_option linter.unusedSimpArgs false

set_option maxRecDepth 100000 in
set_option maxHeartbeats 3200000 in
theorem specRT_any (d p : Int) (w : World) (hd : -9223372036854775808 ≤ d ∧ d ≤ 9223372036854775807) (hp : -9223372036854775808 ≤ p ∧ p ≤ 9223372036854775807) :
    Calls Try.prog 19 #[.int .i64 d, .int .i64 p] w (PostN (rtR d p) (rtOk d p) w) := by
  have BR := Bx.made w 29 #[.slice none 0 0, .slice none 0 0, .slice none 0 0]
  have bb : Below w.heap.size w (w.alloc (.cells #[.slice none 0 0, .slice none 0 0, .slice none 0 0] 29)) := (by repeat (first | exact Below.refl _ _ | assumption | refine Below.alloc ?_ (by first | (simp; done) | (simp; omega) | omega) _ | refine Below.setCell ?_ (by first | (simp; done) | (simp; omega) | omega) _ | refine Below.drew ?_ | refine Below.drewN ?_ _))
  have z0 : w.heap.size + 1 ≤ (w.alloc (.cells #[.slice none 0 0, .slice none 0 0, .slice none 0 0] 29)).heap.size := by simp
  cases hb : rtB d p with
  | false =>
    have HF := Lib.hid (rtE_f hb)
    rcases rtB_cases hb with h1 | ⟨h1, h2⟩ | ⟨h1, h2, h3, h4⟩
    all_goals
      clear hb
      go_enter Try.func19, Try.ntmps19
      go_upto_region 2 with fail
      generalize w.alloc (.cells #[.slice none 0 0, .slice none 0 0, .slice none 0 0] 29) = w0 at *
      have e0 := BR.cell 0 _ rfl
      have e1 := BR.cell 1 _ rfl
      have e2 := BR.cell 2 _ rfl
      have f0 := BR.frozen 0
      have f1 := BR.frozen 1
      have f2 := BR.frozen 2
      go_wp2_with fail
      clear e0 e1 e2 f0 f1 f2
      generalize hW : World.setCell _ _ _ = W
      have B6 : Bx W (w.heap.size) 29 #[.slice none 0 0, .slice none 0 0, .slice none 0 0] := by rw [← hW]; exact ((BR.set 0 _).set 1 _).set 2 _
      have fr6 : Fr (fun k => k = w.heap.size) w0 W := by rw [← hW]; exact fr3 _ _ _ _ _
      clear hW
      have z6 := fr6.size
      have d0 := B6.cell 0 _ rfl
      have d1 := B6.cell 1 _ rfl
      have d2 := B6.cell 2 _ rfl
      refine bodyPost_ret (v := .tuple #[.agg #[.slice none 0 0, .slice none 0 0, .slice none 0 0], .bool false]) (by simp [results, Try.results19, go_sem, d0, d1, d2]) rfl ?_
      rw [rtR, rtOk, HF.out]
      exact ⟨_, rfl, NetAt.nilN _ _ _, bb.trans (fr6.below (fun k h1 h2 hc => by omega) bb.size)⟩
  | true =>
  have HRT := Lib.hid (rtE_hd hb)
  obtain ⟨h0, h1, h2⟩ := rtB_true hb
  have g0 : ¬ d < 0 := by omega
  have g1 : ¬ p < 0 := by omega
  obtain ⟨R, hR⟩ : ∃ R, R = rtE d p := ⟨_, rfl⟩
  rw [← hR] at HRT
  have HR := Lib.hid hR
  clear hR hb
  by_cases hp0 : 0 < p
  all_goals
    try have g2 : ¬ 6 < d := by omega
    clear h2
    go_enter Try.func19, Try.ntmps19
    go_wp2_with fail
    try clear g2
    generalize w.alloc (.cells #[.slice none 0 0, .slice none 0 0, .slice none 0 0] 29) = w0 at *
    refine (neEmpty_any 1 _ (by omega)).mono ?_
    rintro e w1 ⟨v1, rfl, own1, bel1⟩
    obtain ⟨a1, c1, ai1, ci1, ap1, cp1, rfl, own1⟩ := own1.shape
    replace BR := BR.new bel1
    have z1 := bel1.size
    replace bb := bb.trans (bel1.mono bb.size)
    obtain ⟨lo, hlo0⟩ : ∃ lo, lo = w0.heap.size := ⟨_, rfl⟩
    rw [← hlo0] at own1
    have zl : w.heap.size + 1 ≤ lo := by omega
    have zl2 : lo ≤ w1.heap.size := by omega
    clear bel1 hlo0
    rw [show (emptyN 1).ends.length = 1 from rfl, show (emptyN 1).ids.length = 0 from rfl, show (emptyN 1).inputs.length = 1 from rfl] at own1 ⊢
    have BO := Bx.made w1 29 #[.slice a1 1 c1, .slice ai1 0 ci1, .slice ap1 1 cp1]
    have b2 : Below w1.heap.size w1 (w1.alloc (.cells #[.slice a1 1 c1, .slice ai1 0 ci1, .slice ap1 1 cp1] 29)) := (by repeat (first | exact Below.refl _ _ | assumption | refine Below.alloc ?_ (by first | (simp; done) | (simp; omega) | omega) _ | refine Below.setCell ?_ (by first | (simp; done) | (simp; omega) | omega) _ | refine Below.drew ?_ | refine Below.drewN ?_ _))
    go_upto_region 4 with fail
    generalize w1.alloc (.cells #[.slice a1 1 c1, .slice ai1 0 ci1, .slice ap1 1 cp1] 29) = w2 at *
    obtain ⟨b, hb⟩ : ∃ b, b = w1.heap.size := ⟨_, rfl⟩
    rw [← hb] at BO ⊢
    replace BR := BR.new b2
    replace own1 := (own1.new b2).wide (Nat.le_refl _) b2.size
    replace bb := bb.trans (b2.mono bb.size)
    have zlo : lo ≤ w2.heap.size := Nat.le_trans zl2 b2.size
    have zb : lo ≤ b := by omega
    have hNB : NBx w2 lo b (treeN []) := NBx.of (N := treeN []) BO own1 (Nat.le_refl _)
    have hlvl : NBo w2 lo b (treeN []) (fun _ => False) := NBo.of hNB (BO.cell 2 _ rfl) (fun _ _ h => h)
    clear hb b2 zl2 own1 BO z1 z0 hNB
    have b3 : Below w2.heap.size w2 (w2.alloc (.cells #[.int .i64 0] 3)) := (by repeat (first | exact Below.refl _ _ | assumption | refine Below.alloc ?_ (by first | (simp; done) | (simp; omega) | omega) _ | refine Below.setCell ?_ (by first | (simp; done) | (simp; omega) | omega) _ | refine Below.drew ?_ | refine Below.drewN ?_ _))
    have BL := Bx.made w2 3 #[.int .i64 0]
    have hown : OwI (w2.alloc (.cells #[.int .i64 0] 3)) lo (w2.alloc (.cells #[.int .i64 0] 3)).heap.size (some ⟨w2.heap.size, 0, none⟩) 1 (lvl 0 1) := by
      refine Ow.of_row (F := fun _ => .int .i64 0) ⟨_, BL, rfl, fun i hi => ?_⟩ zlo (by simp) (Nat.le_refl _) (by decide) fun j hj => ?_
      · match i, hi with
        | 0, _ => rfl
      · obtain rfl : j = 0 := by simpa [lvl_length] using hj
        rfl
    have hTS : TS (w2.alloc (.cells #[.int .i64 0] 3)) lo b [] (some ⟨w2.heap.size, 0, none⟩) 1 (lvl 0 1) none 0 [] := by
      refine ⟨?_, hown, Ow.nil _ _ _ _ _ _ _, .inl rfl⟩
      obtain ⟨a, c, vs, ai, ci, ap, cp, g1', g2', g3', g4', g5', _⟩ := hlvl.new b3
      obtain ⟨_, _, _, _, _, ap', cp', k1, _, _, k4, _⟩ := hlvl
      have h9 := (g1'.cell 2 _ rfl).symm.trans ((k1.new b3).cell 2 _ rfl)
      simp only [Option.some.injEq, Value.slice.injEq] at h9
      obtain ⟨rfl, _, rfl⟩ := h9
      refine ⟨a, c, vs, ai, ci, _, _, g1', g2', g3', g4', g5', fun x hx hS => ?_⟩
      rcases hS with hS | hS
      · have h8 := (Ow.blk_in k4 hx).2
        have h7 : w2.heap.size = x := by simpa [blk] using hS
        omega
      · cases hS
    replace BR := BR.new b3
    replace bb := bb.trans (b3.mono bb.size)
    replace zlo := Nat.le_trans zlo b3.size
    clear hlvl BL hown b3
    go_upto_region 5 with fail
    generalize w2.alloc (.cells #[.int .i64 0] 3) = w3 at *
    obtain ⟨gl, hgl⟩ : ∃ gl, gl = w2.heap.size := ⟨_, rfl⟩
    rw [← hgl] at hTS ⊢
    clear hgl
    go_wp2_with fail
    go_loopw [7, 8] (fun lv kv wr => ∃ (es : List Nat) (s L k f : Nat) (al : Option Addr) (cl : Nat), lv = .slice al L cl ∧ kv = .int .i64 k ∧ f + es.length + s + k = 300 ∧ k ≤ s ∧ s + L = es.length + 1 ∧ es.length ≤ 39 ∧ Hang es ∧ hdS d p f es s L k = R ∧ TS wr lo b es al cl (lvl s L) none 0 [] ∧ Bx wr w.heap.size 29 #[.slice none 0 0, .slice none 0 0, .slice none 0 0] ∧ Below w.heap.size w wr ∧ lo ≤ wr.heap.size) (fun _ kv _ => 50 - (intOf kv).toNat)
    case atStart => exact ⟨[], 0, 1, 0, 300, _, _, rfl, rfl, rfl, Nat.le_refl _, rfl, by simp, fun j hj => absurd hj (by simp), HRT.out.symm, hTS, BR, bb, zlo⟩
    case round =>
      clear hTS BR bb zlo
      obtain ⟨es, s, L, k, f, al, cl, rfl, rfl, hf, hks, hsL, hes, hH, hrun, hTS, BR, bb, zlo⟩ := hrel
      have hf1 := Nat.le_of_eq hf
      have hf2 := Nat.le_of_eq hf.symm
      have hsL1 := Nat.le_of_eq hsL
      have hsL2 := Nat.le_of_eq hsL.symm
      clear hf hsL
      have HH := Lib.hid hH
      clear hH
      by_cases hrn : (k : Int) < p ∧ 0 < L
      · obtain ⟨hkp, hL⟩ := hrn
        have hL2 : (0 : Int) < (L : Int) := by omega
        have hL40 : L ≤ 40 := by omega
        rw [hdS, if_pos ⟨hkp, hL⟩] at hrun
        obtain ⟨T, hT⟩ : ∃ T, T = s + L := ⟨_, rfl⟩
        have hT0 : es.length + 1 - T = 0 := by omega
        have HT0 := Lib.hid hT0
        have HT := Lib.hid hT
        have zT : T ≤ 40 := by omega
        have zT2 : s + L ≤ T := by omega
        have zT3 : T ≤ s + L := by omega
        have hTS0 : TS wr lo b es al cl (lvl s L) none 0 (lvl T (es.length + 1 - T)) := by rw [hT0]; exact hTS
        have HRN := Lib.hid hrun
        clear hT hTS hrun hT0
        go_wp2_with fail
        go_loopw [9, 42] (fun nv iv wr => ∃ (es : List Nat) (i f : Nat) (an : Option Addr) (cn : Nat), nv = .slice an (es.length + 1 - T) cn ∧ iv = .int .i64 i ∧ i ≤ L ∧ f + es.length + s + i + k = 300 ∧ T ≤ es.length + 1 ∧ es.length ≤ 39 ∧ Hang es ∧ runS d p f es s L i k = R ∧ TS wr lo b es al cl (lvl s L) an cn (lvl T (es.length + 1 - T)) ∧ Bx wr w.heap.size 29 #[.slice none 0 0, .slice none 0 0, .slice none 0 0] ∧ Below w.heap.size w wr ∧ lo ≤ wr.heap.size) (fun _ iv _ => L - (intOf iv).toNat)
        case atStart => exact ⟨es, 0, f, none, 0, by rw [HT0.out], rfl, Nat.zero_le _, by omega, by omega, hes, HH.out, HRN.out, hTS0, BR, bb, zlo⟩
        case round =>
          clear hTS0 BR bb zlo HRN HH hes hsL1 hsL2 HT0 hf1 hf2
          obtain ⟨es, i, f, an, cn, rfl, rfl, hi, hf, hTes, hes, hH, hrun, hTS, BR, bb, zlo⟩ := hrel
          have hf1 := Nat.le_of_eq hf
          have hf2 := Nat.le_of_eq hf.symm
          clear hf
          have HH := Lib.hid hH
          have HRN := Lib.hid hrun
          clear hH hrun
          by_cases hil : i < L
          · have hlv := hTS.2.1
            obtain ⟨g5, off5, hae, hg5, hc5⟩ := Rd.at (OwI.rd hlv) (show i < (lvl s L).length by rw [lvl_length]; exact hil)
            rw [lvl_nth _ _ _ hil] at hc5
            obtain ⟨v, hv⟩ : ∃ v, v = s + i := ⟨_, rfl⟩
            rw [← hv] at hc5
            have HV := Lib.hid hv
            have zv : v ≤ 40 := by omega
            have zv2 : v < T := by omega
            subst hae
            clear hlv hv
            go_wp2_with fail
            clear hc5
            go_loopw [9] (fun nv wr => ∃ (es : List Nat) (f : Nat) (an : Option Addr) (cn : Nat), nv = .slice an (es.length + 1 - T) cn ∧ f + es.length + s + i + k = 300 ∧ T ≤ es.length + 1 ∧ es.length ≤ 39 ∧ Hang es ∧ runS d p f es s L i k = R ∧ TS wr lo b es (some ⟨g5, off5, none⟩) cl (lvl s L) an cn (lvl T (es.length + 1 - T)) ∧ Bx wr w.heap.size 29 #[.slice none 0 0, .slice none 0 0, .slice none 0 0] ∧ Below w.heap.size w wr ∧ lo ≤ wr.heap.size) (fun nv _ => 50 - slen nv)
            case atStart => exact ⟨es, f, an, cn, rfl, by omega, hTes, hes, HH.out, HRN.out, hTS, BR, bb, zlo⟩
            case round =>
              clear hTS BR bb zlo HRN HH hes hTes hf1 hf2 hg5
              obtain ⟨es, f, an, cn, rfl, hf, hTes, hes, hH, hrun, hTS, BR, bb, zlo⟩ := hrel
              have hf1 := Nat.le_of_eq hf
              have hf2 := Nat.le_of_eq hf.symm
              clear hf
              have HH := Lib.hid hH
              have HRN := Lib.hid hrun
              clear hH hrun
              obtain ⟨f, rfl⟩ : ∃ f', f = f' + 1 := ⟨f - 1, by omega⟩
              have HD := Lib.hid (And.intro zT (And.intro zT2 (And.intro zT3 (And.intro zv2 (And.intro hks (And.intro hil hL))))))
              obtain ⟨u, hu⟩ : ∃ u, u = es.length + 1 := ⟨_, rfl⟩
              have HU := Lib.hid hu
              have zu : u ≤ 40 := by omega
              have zuv : v < u := by omega
              obtain ⟨⟨aq, c, vs, ai, ci, ap, cp, hbx, hE, owni, ownp, hdis, hoff⟩, ownl, ownn, hnl⟩ := hTS
              have hel : (treeN es).ends.length = u := by rw [treeN_length]; exact hu.symm
              have hpl : (treeN es).inputs.length = u := by rw [treeN_inputs]; exact hu.symm
              have hil0 : (treeN es).ids.length = 0 := by rw [treeN_ids]; rfl
              obtain ⟨A, hA, _, _⟩ := Ow.addr hE.1 (by omega)
              subst hA
              obtain ⟨hc1, -⟩ := RowsE.head hE (show v < (treeN es).ends.length by omega)
              rw [treeN_deg HH.out v (by omega)] at hc1
              rw [hel, hpl, hil0] at hbx
              have HEL := Lib.hid hel
              have HPL := Lib.hid hpl
              have HIL0 := Lib.hid hil0
              have HOFF := Lib.hid hoff
              have hdg40 : degT es v ≤ 1000 := by
                have := treeN_deg HH.out v (by omega)
                have h9 := row_le_total (treeN es).ends v (by omega)
                have h8 := treeN_total HH.out
                omega
              have HVI := Lib.hid (show v = s + i from HV.out)
              have q0 := hbx.cell 0 _ rfl
              obtain ⟨m, hm⟩ : ∃ m, m = es.length + 1 - T := ⟨_, rfl⟩
              rw [← hm] at ownn ⊢
              have HM := Lib.hid hm
              have zm1 : T + m ≤ u := by omega
              have zm0 : u ≤ T + m := by omega
              have zm2 : m ≤ 40 := by omega
              clear hm hu hel hpl hil0 hoff zT zT2 zT3 zv2 hks hil hL hL2 hL40 hkp hi
              by_cases hdg : ((degT es v : Nat) : Int) < d
              · have HDG := Lib.hid hdg
                by_cases h40 : u = 40
                · have HF := Lib.hid (show rtE d p = none by rw [← HR.out, ← HRN.out]; exact runS_full HD.out.2.2.2.2.2.1 (by rw [← HVI.out]; exact hdg) (by have := HU.out; omega))
                  have h40' : ((u : Int) == 40) = true := beq_iff_eq.2 (by omega)
                  clear h40
                  have e0 := BR.cell 0 _ rfl
                  have e1 := BR.cell 1 _ rfl
                  have e2 := BR.cell 2 _ rfl
                  have f0 := BR.frozen 0
                  have f1 := BR.frozen 1
                  have f2 := BR.frozen 2
                  go_wp2_with fail
                  clear e0 e1 e2 f0 f1 f2
                  generalize hW : World.setCell _ _ _ = W
                  have B6 : Bx W (w.heap.size) 29 #[.slice none 0 0, .slice none 0 0, .slice none 0 0] := by rw [← hW]; exact ((BR.set 0 _).set 1 _).set 2 _
                  have fr6 : Fr (fun k => k = w.heap.size) wr W := by rw [← hW]; exact fr3 _ _ _ _ _
                  clear hW
                  have z6 := fr6.size
                  have d0 := B6.cell 0 _ rfl
                  have d1 := B6.cell 1 _ rfl
                  have d2 := B6.cell 2 _ rfl
                  refine bodyPost_ret (v := .tuple #[.agg #[.slice none 0 0, .slice none 0 0, .slice none 0 0], .bool false]) (by simp [results, Try.results19, go_sem, d0, d1, d2]) rfl ?_
                  rw [rtR, rtOk, HF.out]
                  exact ⟨_, rfl, NetAt.nilN _ _ _, bb.trans (fr6.below (fun k h1 h2 hc => by omega) bb.size)⟩
                · have h40' : ((u : Int) == 40) = false := beq_eq_false_iff_ne.2 (by omega)
                  have HST := Lib.hid (show runS d p f (es ++ [v]) s L i k = R by rw [← HRN.out, HVI.out]; exact (runS_grow HD.out.2.2.2.2.2.1 (by rw [← HVI.out]; exact hdg) (by have := HU.out; omega)).symm)
                  have zu2 : u + 1 ≤ 40 := by omega
                  have HBX := Lib.hid (show Bx wr b 29 #[.slice (some ⟨A, 0, none⟩) (treeN es).ends.length c, .slice ai (treeN es).ids.length ci, .slice ap (treeN es).inputs.length cp] by rw [HEL.out, HPL.out, HIL0.out]; exact hbx)
                  obtain ⟨wb, hwb⟩ : ∃ wb, wb = wr.alloc (.cells #[.slice none 0 0] 60) := ⟨_, rfl⟩
                  have bwb : Below wr.heap.size wr wb := by rw [hwb]; exact (by repeat (first | exact Below.refl _ _ | assumption | refine Below.alloc ?_ (by first | (simp; done) | (simp; omega) | omega) _ | refine Below.setCell ?_ (by first | (simp; done) | (simp; omega) | omega) _ | refine Below.drew ?_ | refine Below.drewN ?_ _))
                  have hnw : ∀ jj uu, [Value.slice none 0 0][jj]? = some uu → wb.cell? (Addr.add ⟨wr.heap.size, 0, none⟩ jj) = some uu := by
                    rw [hwb]
                    exact cell_one_new wr (.slice none 0 0) 60
                  have HWB := Lib.hid hwb
                  clear hwb
                  have zwb := bwb.size
                  have hE1 : Ow wb lo wr.heap.size 60 1 (some ⟨A, 0, none⟩) u c (fun j => .slice (vs j).1 (rowOf (treeN es).ends j).length (vs j).2) := by have h9 := Ow.new hE.1 bwb; rwa [HEL.out] at h9
                  go_upto_region 17 with (at_builtin; rw [← HWB.out]; refine wpList_app rfl _ _ _ rfl 60 (.slice none 0 0) 1 24 Try.underlying27 ends_info rfl (by decide) lo wr.heap.size (some ⟨A, 0, none⟩) u c _ rfl hE1 ⟨wr.heap.size, 0, none⟩ 1 1 [.slice none 0 0] rfl rfl hnw (by simp [Value.oneCell']) (by decide) (by unfold maxLen; omega) (by omega) (by omega) ?_; intro g' cap' w8 own8 hgr _ _; rw [← HEL.out] at own8; obtain ⟨hbx8, hNB8, hfr8⟩ := NBx.addRow (N := treeN es) (r := []) (x := none) (cb := 0) (HBX.out.new bwb) (RowsAt.new hE bwb) (Ow.new owni bwb) (Ow.new ownp bwb) hdis zlo bwb.size zb (Ow.nil _ _ _ _ _ _ _) hgr own8; have q8 := hbx8.cell 0 _ rfl; have f8 := hbx8.frozen 0)
                  clear q0 hc1 h40' HWB hnw
                  rw [HEL.out] at hNB8 hfr8
                  have hcell9 : (w8.setCell ⟨b, 0, none⟩ (.slice (some ⟨g', 0, none⟩) (u + 1) cap')).cell? ⟨b, 2, none⟩ = some (.slice ap (treeN es).inputs.length cp) := (hbx8.set 0 _).cell 2 _ rfl
                  have hno9 := NBo.of (S := fun x => blk (some ⟨g5, off5, none⟩) cl = some x ∨ blk an cn = some x) hNB8 hcell9 HOFF.out
                  have ownl9 := Ow.frB (Ow.new ownl bwb) hfr8 (fun x hx hc => hc.elim (fun h => ne_of_or (hE1.ne_of_type (Ow.new ownl bwb) (by decide)) h.symm hx) (fun h => (HBX.out.new bwb).ne_row (Ow.new ownl bwb) (by decide) (h ▸ hx)))
                  have ownn9 := Ow.frB (Ow.new ownn bwb) hfr8 (fun x hx hc => hc.elim (fun h => ne_of_or (hE1.ne_of_type (Ow.new ownn bwb) (by decide)) h.symm hx) (fun h => (HBX.out.new bwb).ne_row (Ow.new ownn bwb) (by decide) (h ▸ hx)))
                  have hC8 : ∀ x, (some x = blk (some (⟨A, 0, none⟩ : Addr)) c ∨ x = b) → lo ≤ x := fun x hx => hx.elim (fun h => (Ow.blk_in hE1 h.symm).1) (fun h => by omega)
                  have BR9 := (BR.new bwb).fr hfr8 (fun h => by have := hC8 _ h; omega)
                  have bb9 := (bb.trans (bwb.mono bb.size)).trans (hfr8.below (B := w.heap.size) (fun x h1 h2 hc => by have := hC8 _ hc; omega) (Nat.le_trans bb.size bwb.size))
                  have zr9 := Nat.le_trans zwb hfr8.size
                  clear hcell9 hNB8 hfr8 hC8 hgr own8 hbx8 q8 f8 hE1 zwb bwb hbx hE owni ownp hdis ownl ownn BR bb HOFF HBX
                  generalize w8.setCell ⟨b, 0, none⟩ (.slice (some ⟨g', 0, none⟩) (u + 1) cap') = w9 at *
                  obtain ⟨N1, hN1⟩ : ∃ N1 : Net, N1 = { ends := (treeN es).ends ++ [[]], ids := (treeN es).ids, inputs := (treeN es).inputs } := ⟨_, rfl⟩
                  replace hno9 : NBo w9 lo b N1 (fun x => blk (some ⟨g5, off5, none⟩) cl = some x ∨ blk an cn = some x) := by rw [hN1]; exact hno9
                  have HPL1 := Lib.hid (show N1.inputs.length = u by rw [hN1]; exact HPL.out)
                  have HMR := Lib.hid (show ({ ends := N1.ends, ids := N1.ids, inputs := N1.inputs ++ [0] } : Net) = moreN (treeN es) by rw [hN1]; rfl)
                  clear hN1
                  obtain ⟨a4, c4, v4, ai4, ci4, ap4, cp4, hbx, hE, owni, ownp, hdis, hoff⟩ := hno9
                  have HBX := Lib.hid hbx
                  have HOFF := Lib.hid hoff
                  rw [HPL1.out] at hbx
                  have q0 := hbx.cell 2 _ rfl
                  have zlo9 := Nat.le_trans zlo zr9
                  obtain ⟨wb, hwb⟩ : ∃ wb, wb = w9.alloc (.cells #[.int .i64 0] 3) := ⟨_, rfl⟩
                  have bwb : Below w9.heap.size w9 wb := by rw [hwb]; exact (by repeat (first | exact Below.refl _ _ | assumption | refine Below.alloc ?_ (by first | (simp; done) | (simp; omega) | omega) _ | refine Below.setCell ?_ (by first | (simp; done) | (simp; omega) | omega) _ | refine Below.drew ?_ | refine Below.drewN ?_ _))
                  have hnw : ∀ jj uu, [Value.int .i64 0][jj]? = some uu → wb.cell? (Addr.add ⟨w9.heap.size, 0, none⟩ jj) = some uu := by
                    rw [hwb]
                    exact cell_one_new w9 (.int .i64 0) 3
                  have HWB := Lib.hid hwb
                  clear hwb hbx hoff
                  have zwb := bwb.size
                  have hE1 : Ow wb lo w9.heap.size 3 1 ap4 u cp4 (fun j => .int .i64 (nth N1.inputs j)) := by have h9 := Ow.new ownp bwb; unfold OwI at h9; rwa [HPL1.out] at h9
                  go_upto_region 18 with (at_builtin; rw [← HWB.out]; refine wpList_app rfl _ _ _ rfl 3 (.int .i64 0) 1 8 Try.underlying23 int_info rfl (by decide) lo w9.heap.size ap4 u cp4 _ rfl hE1 ⟨w9.heap.size, 0, none⟩ 1 1 [.int .i64 0] rfl rfl hnw (by simp [Value.oneCell']) (by decide) (by unfold maxLen; omega) (by omega) (by omega) ?_; intro g' cap' w8 own8 hgr hnew _; rw [← HPL1.out] at own8; obtain ⟨hbx8, hNB8, hfr8⟩ := NBx.addInput (N := N1) (z := 0) (HBX.out.new bwb) (RowsAt.new hE bwb) (Ow.new owni bwb) (Ow.new ownp bwb) hdis zwb zb hgr (hnew.imp_right (fun h => h)) own8; have q8 := hbx8.cell 2 _ rfl; have f8 := hbx8.frozen 2)
                  clear q0 HWB hnw
                  rw [HPL1.out] at hNB8 hfr8
                  have ownl10 := Ow.frB (Ow.new ownl9 bwb) hfr8 (fun x hx hc => hc.elim (fun h => HOFF.out x h.symm (.inl hx)) (fun h => (HBX.out.new bwb).ne_row (Ow.new ownl9 bwb) (by decide) (h ▸ hx)))
                  have ownn10 := Ow.frB (Ow.new ownn9 bwb) hfr8 (fun x hx hc => hc.elim (fun h => HOFF.out x h.symm (.inr hx)) (fun h => (HBX.out.new bwb).ne_row (Ow.new ownn9 bwb) (by decide) (h ▸ hx)))
                  have hC8 : ∀ x, (some x = blk ap4 cp4 ∨ x = b) → lo ≤ x := fun x hx => hx.elim (fun h => (Ow.blk_in hE1 h.symm).1) (fun h => by omega)
                  have BR10 := (BR9.new bwb).fr hfr8 (fun h => by have := hC8 _ h; omega)
                  have bb10 := (bb9.trans (bwb.mono bb9.size)).trans (hfr8.below (B := w.heap.size) (fun x h1 h2 hc => by have := hC8 _ hc; omega) (Nat.le_trans bb9.size bwb.size))
                  have zr10 := Nat.le_trans (Nat.le_trans zr9 zwb) hfr8.size
                  replace hNB8 : NBx (w8.setCell ⟨b, 2, none⟩ (.slice (some ⟨g', 0, none⟩) (u + 1) cap')) lo b (moreN (treeN es)) := by rw [← HMR.out]; exact hNB8
                  clear hfr8 hC8 hgr own8 hbx8 q8 f8 hE1 zwb bwb hE owni ownp hdis ownl9 ownn9 BR9 bb9 HOFF HBX hnew
                  generalize w8.setCell ⟨b, 2, none⟩ (.slice (some ⟨g', 0, none⟩) (u + 1) cap') = w11 at *
                  have HSM := Lib.hid (moreN_small HH.out (by omega))
                  have HML := Lib.hid (show (moreN (treeN es)).ends.length = u + 1 by show ((treeN es).ends ++ [[]]).length = _; rw [List.length_append, HEL.out]; rfl)
                  have HTN := Lib.hid (show joinN (moreN (treeN es)) v u = treeN (es ++ [v]) by rw [treeN_snoc, growN, HEL.out])
                  obtain ⟨ax, cx, aix, cix, apx, cpx, BO, own9⟩ := hNB8.at_
                  have q0 := BO.cell 0 _ rfl
                  have q1 := BO.cell 1 _ rfl
                  have q2 := BO.cell 2 _ rfl
                  clear hNB8
                  go_wp2_with fail
                  clear q0 q1 q2
                  refine (neJoin_any _ (moreN (treeN es)) v u _ _ own9.in_ (Nat.le_refl _) HSM.out (by rw [HML.out]; omega) (by rw [HML.out]; omega)).mono ?_
                  rintro e w12 ⟨x12, rfl, own12, bel12⟩
                  rw [HTN.out] at own12
                  obtain ⟨a12, c12, v12, ai12, ci12, ap12, cp12, rfl, hE, owni, ownp, hdis⟩ := own12
                  obtain ⟨TN, hTN⟩ : ∃ TN, TN = treeN (es ++ [v]) := ⟨_, rfl⟩
                  rw [← hTN] at hE owni ownp ⊢
                  have HTT := Lib.hid hTN
                  clear hTN own9
                  replace BO := BO.new bel12
                  have BR12 := BR10.new bel12
                  have ownl12 := Ow.new ownl10 bel12
                  have ownn12 := Ow.new ownn10 bel12
                  have bb12 := bb10.trans (bel12.mono bb10.size)
                  have z12 := bel12.size
                  have c0' := BO.cell 0 _ rfl
                  have c1' := BO.cell 1 _ rfl
                  have c2' := BO.cell 2 _ rfl
                  have f0' := BO.frozen 0
                  have f1' := BO.frozen 1
                  have f2' := BO.frozen 2
                  go_upto_region 19 with fail
                  clear c0' c1' c2' f0' f1' f2' bel12
                  generalize hW : World.setCell _ _ _ = W13
                  have B13 : Bx W13 b 29 #[.slice a12 TN.ends.length c12, .slice ai12 TN.ids.length ci12, .slice ap12 TN.inputs.length cp12] := by rw [← hW]; exact ((BO.set 0 _).set 1 _).set 2 _
                  have fr13 : Fr (fun k => k = b) w12 W13 := by rw [← hW]; exact fr3 _ _ _ _ _
                  clear hW
                  have hE13 := RowsAt.frB hE fr13 (fun x hx hc => BO.ne_row hE.1 (by decide) (hc ▸ hx)) (fun j hj x hx hc => BO.ne_row (hE.2.1 j hj) (by decide) (hc ▸ hx))
                  have owni13 := Ow.frB owni fr13 (fun x hx hc => BO.ne_row owni (by decide) (hc ▸ hx))
                  have ownp13 := Ow.frB ownp fr13 (fun x hx hc => BO.ne_row ownp (by decide) (hc ▸ hx))
                  have ownl13 := Ow.frB ownl12 fr13 (fun x hx hc => BO.ne_row ownl12 (by decide) (hc ▸ hx))
                  have ownn13 := Ow.frB ownn12 fr13 (fun x hx hc => BO.ne_row ownn12 (by decide) (hc ▸ hx))
                  have BR13 := BR12.fr fr13 (by omega)
                  have bb13 := bb12.trans (fr13.below (B := w.heap.size) (fun x h1 h2 hc => by omega) bb12.size)
                  have z13 := fr13.size
                  clear hE owni ownp ownl12 ownn12 ownl10 ownn10 BR12 BR10 bb12 bb10 BO fr13
                  obtain ⟨wb, hwb⟩ : ∃ wb, wb = W13.alloc (.cells #[.int .i64 u] 3) := ⟨_, rfl⟩
                  have bwb : Below W13.heap.size W13 wb := by rw [hwb]; exact (by repeat (first | exact Below.refl _ _ | assumption | refine Below.alloc ?_ (by first | (simp; done) | (simp; omega) | omega) _ | refine Below.setCell ?_ (by first | (simp; done) | (simp; omega) | omega) _ | refine Below.drew ?_ | refine Below.drewN ?_ _))
                  have hnw : ∀ jj uu, [Value.int .i64 (u : Int)][jj]? = some uu → wb.cell? (Addr.add ⟨W13.heap.size, 0, none⟩ jj) = some uu := by
                    rw [hwb]
                    exact cell_one_new W13 (.int .i64 u) 3
                  have HWB := Lib.hid hwb
                  clear hwb
                  have zwb := bwb.size
                  have zloF : lo ≤ wb.heap.size := by omega
                  have hN1 : Ow wb lo wr.heap.size 3 1 an m cn (fun j => .int .i64 (nth (lvl T m) j)) := by have h9 := Ow.new ownn13 bwb; unfold OwI at h9; rwa [lvl_length] at h9
                  go_wp2_with (at_builtin; rw [← HWB.out]; refine wpList_app rfl _ _ _ rfl 3 (.int .i64 0) 1 8 Try.underlying23 int_info rfl (by decide) lo wr.heap.size an m cn _ rfl hN1 ⟨W13.heap.size, 0, none⟩ 1 1 [.int .i64 u] rfl rfl hnw (by simp [Value.oneCell']) (by decide) (by unfold maxLen; omega) (by omega) zloF ?_; intro g' cap' w14 own14 hgr hnew _)
                  have hf14 : Fr (fun x => some x = blk an cn) wb w14 := Fr.of_grown hgr
                  have hCn : ∀ x, some x = blk an cn → x < wr.heap.size := fun x hx => (Ow.blk_in hN1 hx.symm).2
                  have hown14 : OwI w14 lo w14.heap.size (some ⟨g', 0, none⟩) cap' (lvl T (m + 1)) := by
                    rw [← lvl_snoc]
                    have hz : ((T + m : Nat) : Int) = (u : Int) := by omega
                    rw [hz]
                    refine OwI.snoc ?_
                    rw [lvl_length]
                    exact own14
                  have B14 := (B13.new bwb).fr hf14 (fun h => (B13.new bwb).ne_row hN1 (by decide) h.symm)
                  have hE14 := RowsAt.fr (RowsAt.new hE13 bwb) hf14 (fun x h1 h2 hc => by have := hCn _ hc; omega)
                  have owni14 := Ow.fr (Ow.new owni13 bwb) hf14 (fun x h1 h2 hc => by have := hCn _ hc; omega)
                  have ownp14 := Ow.fr (Ow.new ownp13 bwb) hf14 (fun x h1 h2 hc => by have := hCn _ hc; omega)
                  have ownl14 := Ow.frB (Ow.new ownl13 bwb) hf14 (fun x hx hc => ne_of_or hnl hc.symm hx)
                  have BR14 := (BR13.new bwb).fr hf14 (fun h => by have := (Ow.blk_in hN1 h.symm).1; omega)
                  have bb14 := (bb13.trans (bwb.mono bb13.size)).trans (hf14.below (B := w.heap.size) (fun x h1 h2 hc => by have := (Ow.blk_in hN1 hc.symm).1; omega) (Nat.le_trans bb13.size bwb.size))
                  have z14 := hf14.size
                  have hbk14 : blk (some (⟨g', 0, none⟩ : Addr)) cap' = some g' := by have := own14.1; rw [blk, if_neg (by omega)]; rfl
                  have hnl14 : blk (some (⟨g', 0, none⟩ : Addr)) cap' = none ∨ blk (some (⟨g', 0, none⟩ : Addr)) cap' ≠ blk (some (⟨g5, off5, none⟩ : Addr)) cl := by
                    refine .inr fun he => ?_
                    rw [hbk14] at he
                    rcases hnew with hn | hn
                    · exact ne_of_or hnl hn he.symm
                    · have := (Ow.blk_in ownl13 he.symm).2
                      omega
                  have hTS14 : TS w14 lo b (es ++ [v]) (some ⟨g5, off5, none⟩) cl (lvl s L) (some ⟨g', 0, none⟩) cap' (lvl T (m + 1)) := by
                    refine ⟨⟨a12, c12, v12, ai12, ci12, ap12, cp12, by rw [← HTT.out]; exact B14, by rw [← HTT.out]; exact RowsAt.wide hE14 (by omega) (by omega), by rw [← HTT.out]; exact Ow.wide owni14 (by omega) (by omega), by rw [← HTT.out]; exact Ow.wide ownp14 (by omega) (by omega), hdis, fun x hx hS => ?_⟩, Ow.wide ownl14 (Nat.le_refl _) (by omega), hown14, hnl14⟩
                    have h5 := Ow.blk_in ownp14 hx
                    rcases hS with hS | hS
                    · have h6 := Ow.blk_in ownl13 hS
                      omega
                    · rw [hbk14] at hS
                      injection hS with hS
                      rcases hnew with hn | hn
                      · have := hCn _ hn.symm; omega
                      · omega
                  have zlo14 : lo ≤ w14.heap.size := by omega
                  clear hf14 hCn hown14 B14 hE14 owni14 ownp14 ownl14 hnl14 hbk14 hgr hnew own14 hN1 bwb zwb hnw HWB hE13 owni13 ownp13 ownl13 ownn13 BR13 bb13 B13
                  go_roundw
                  case rel =>
                    have hl : (es ++ [v]).length = u := by rw [List.length_append, HU.out]; rfl
                    have hH9 : Hang (es ++ [v]) := HH.out.snoc (by have := HU.out; omega)
                    have hm9 : (es ++ [v]).length + 1 - T = m + 1 := by rw [hl]; omega
                    refine ⟨es ++ [v], f, some ⟨g', 0, none⟩, cap', by rw [hm9], by rw [hl]; have := HU.out; omega, by rw [hl]; omega, by rw [hl]; omega, hH9, HST.out, by rw [hm9]; exact hTS14, BR14, bb14, zlo14⟩
                  case measure => simp [slen]; omega
              · have HST := Lib.hid (show runS d p f es s L (i + 1) k = R by rw [← HRN.out]; exact (runS_next HD.out.2.2.2.2.2.1 (by rw [← HVI.out]; exact hdg)).symm)
                go_wp2_with fail
                go_roundw
                case rel =>
                  rw [HM.out] at ownn ⊢
                  exact ⟨es, i + 1, f, an, cn, rfl, by go_num, by have := HD.out; omega, by omega, hTes, hes, HH.out, HST.out, ⟨⟨some ⟨A, 0, none⟩, c, vs, ai, ci, ap, cp, by rw [HEL.out, HPL.out, HIL0.out]; exact hbx, hE, owni, ownp, hdis, HOFF.out⟩, ownl, ownn, hnl⟩, BR, bb, zlo⟩
                case measure => have := HD.out; simp [intOf]; omega
          · have HIL := Lib.hid (show i = L by omega)
            obtain ⟨f, rfl⟩ : ∃ f', f = f' + 1 := ⟨f - 1, by omega⟩
            have HST := Lib.hid (show hdS d p f es T (es.length + 1 - T) (k + 1) = R by rw [← HRN.out, HIL.out, runS_hd, ← HT.out])
            have hTS2 := hTS.next
            go_wp2_with fail
            go_roundw
            case rel => exact ⟨es, T, es.length + 1 - T, k + 1, f, an, cn, rfl, by go_num, by omega, by omega, by omega, hes, HH.out, HST.out, hTS2, BR, bb, zlo⟩
            case measure => simp [intOf]; omega
      · rw [hdS, if_neg hrn] at hrun
        have HG := Lib.hid (show rtE d p = some es by rw [← HR.out, ← hrun])
        have hNB := hTS.1.nbx
        clear hrun hTS
        obtain ⟨Nk, hNk⟩ : ∃ Nk, Nk = treeN es := ⟨_, rfl⟩
        rw [← hNk] at hNB
        have HNk := Lib.hid hNk
        clear hNk
        obtain ⟨ax, cx, aix, cix, apx, cpx, BO, own9⟩ := hNB.at_
        by_cases hkp : (k : Int) < p
        all_goals try (exfalso; omega)
        all_goals
          try have hL2 : ¬ (0 : Int) < (L : Int) := by omega
          have q0 := BO.cell 0 _ rfl
          have q1 := BO.cell 1 _ rfl
          have q2 := BO.cell 2 _ rfl
          have e0 := BR.cell 0 _ rfl
          have e1 := BR.cell 1 _ rfl
          have e2 := BR.cell 2 _ rfl
          have f0 := BR.frozen 0
          have f1 := BR.frozen 1
          have f2 := BR.frozen 2
          go_wp2_with fail
          clear q0 q1 q2 e0 e1 e2 f0 f1 f2
          generalize hW : World.setCell _ _ _ = W
          have B6 : Bx W (w.heap.size) 29 #[.slice ax Nk.ends.length cx, .slice aix Nk.ids.length cix, .slice apx Nk.inputs.length cpx] := by rw [← hW]; exact ((BR.set 0 _).set 1 _).set 2 _
          have fr6 : Fr (fun k => k = w.heap.size) wr W := by rw [← hW]; exact fr3 _ _ _ _ _
          clear hW
          have z6 := fr6.size
          have d0 := B6.cell 0 _ rfl
          have d1 := B6.cell 1 _ rfl
          have d2 := B6.cell 2 _ rfl
          refine bodyPost_ret (v := .tuple #[.agg #[.slice ax Nk.ends.length cx, .slice aix Nk.ids.length cix, .slice apx Nk.inputs.length cpx], .bool true]) (by simp [results, Try.results19, go_sem, d0, d1, d2]) rfl ?_
          rw [rtR, rtOk, HG.out]
          show PostN (treeN es) true w _ _
          rw [← HNk.out]
          exact ⟨_, rfl, (own9.frBx BR fr6).wide (by omega) (by omega), bb.trans (fr6.below (fun k h1 h2 hc => by omega) bb.size)⟩
end Go.Proofs.Ytlooinhdehkcdaa
