/- DoubleCover: the functions. -/
import Derived.Test.YtlooinhdehkcdaaDblP
import Derived.Test.YtlooinhdehkcdaaNBxA
import Derived.Test.YtlooinhdehkcdaaOwn
import Derived.Test.YtlooinhdehkcdaaFit
import Derived.Test.YtlooinhdehkcdaaCat
import Derived.StillTailTactics
namespace Go.Proofs.Ytlooinhdehkcdaa
open Go.RowKit
set_option linter.unusedVariables false
set_option linter.unusedSimpArgs false


theorem wrapD (n : Int) (h : -9223372036854775808 ≤ n ∧ n ≤ 9223372036854775807) : IntKind.i64.wrap n = n := by
  simp [IntKind.wrap, IntKind.bits, IntKind.signed]
  omega
theorem rb_new {w : World} {lo hi A c k : Nat} {rows : Rows2} {vs : Nat → Option Addr × Nat} (hE : RowsE w lo hi (some ⟨A, 0, none⟩) c rows vs) (hc : 0 < rows.length) (hk : hi ≤ k) : ¬ RB A rows vs k := fun h => by
  have := rb_in hE hc h
  omega
set_option maxRecDepth 100000 in
set_option maxHeartbeats 3200000 in
theorem buDouble_any (V : Value) (N : Net) (w : World) (B : Nat) (hv : NetIn w B V N) (hB : B ≤ w.heap.size) (hs : NetSmall N) (hnet : netB N = true) :
    Calls Try.prog 45 #[V] w fun e w' => ∃ x, e = .returned x ∧ NetAt w' w.heap.size w'.heap.size x (dcN N) ∧ Below w.heap.size w w' := by
  have HV := Lib.hid hv
  have HS := Lib.hid hs
  have HN := Lib.hid hnet
  have HSM := Lib.hid (netB_small hnet)
  obtain ⟨a0, c0, vs0, ai0, ci0, ap0, cp0, rfl, h1, h2, h3, _⟩ := hv
  have BA := (Bx.made w 29 #[.slice a0 N.ends.length c0, .slice ai0 N.ids.length ci0, .slice ap0 N.inputs.length cp0]).alloc (.cells #[.slice none 0 0, .slice none 0 0, .slice none 0 0] 29)
  have BR := Bx.made (w.alloc (.cells #[.slice a0 N.ends.length c0, .slice ai0 N.ids.length ci0, .slice ap0 N.inputs.length cp0] 29)) 29 #[.slice none 0 0, .slice none 0 0, .slice none 0 0]
  have b0 : Below w.heap.size w ((w.alloc (.cells #[.slice a0 N.ends.length c0, .slice ai0 N.ids.length ci0, .slice ap0 N.inputs.length cp0] 29)).alloc (.cells #[.slice none 0 0, .slice none 0 0, .slice none 0 0] 29)) := (by repeat (first | exact Below.refl _ _ | assumption | refine Below.alloc ?_ (by first | (simp; done) | (simp; omega) | omega) _ | refine Below.setCell ?_ (by first | (simp; done) | (simp; omega) | omega) _ | refine Below.drew ?_ | refine Below.drewN ?_ _))
  have z0 : w.heap.size + 1 + 1 ≤ ((w.alloc (.cells #[.slice a0 N.ends.length c0, .slice ai0 N.ids.length ci0, .slice ap0 N.inputs.length cp0] 29)).alloc (.cells #[.slice none 0 0, .slice none 0 0, .slice none 0 0] 29)).heap.size := by simp
  rw [World.size_alloc] at BR
  have hle : N.ends.length ≤ 40 := HSM.out.1
  have hge : 1 ≤ N.ends.length := HSM.out.2.1
  obtain ⟨g0, off0, rfl, hg0, hc0⟩ := h1.1 (by omega)
  have hrow0 := h1.2
  obtain ⟨gp, offp, rfl, hgp, hcp⟩ := h3 (by have := HSM.out; omega)
  have HC0 := Lib.hid hc0
  have HCP := Lib.hid hcp
  have HR0 := Lib.hid hrow0
  clear hs hnet h1 h2 h3 hc0 hcp hrow0
  go_enter Try.func45, Try.ntmps45
  go_wp2_with fail
  generalize (w.alloc (.cells #[.slice (some ⟨g0, off0, none⟩) N.ends.length c0, .slice ai0 N.ids.length ci0, .slice (some ⟨gp, offp, none⟩) N.inputs.length cp0] 29)).alloc (.cells #[.slice none 0 0, .slice none 0 0, .slice none 0 0] 29) = w0 at *
  rw [show (2 * (N.ends.length : Int)) = ((N.ends.length + N.ends.length : Nat) : Int) by omega]
  refine (neEmpty_any (N.ends.length + N.ends.length) _ (by omega)).mono ?_
  rintro e w1 ⟨v1, rfl, own1, bel1⟩
  obtain ⟨a1, c1, ai1, ci1, ap1, cp1, rfl, own1⟩ := own1.shape
  replace BA := BA.new bel1
  replace BR := BR.new bel1
  have z1 := bel1.size
  have b1 := b0.trans (bel1.mono b0.size)
  obtain ⟨lo, hlo0⟩ : ∃ lo, lo = w0.heap.size := ⟨_, rfl⟩
  rw [← hlo0] at own1
  have zl : w.heap.size + 1 + 1 ≤ lo := by omega
  have zl2 : lo ≤ w1.heap.size := by omega
  clear b0 bel1 hlo0
  have BO := Bx.made w1 29 #[.slice a1 (emptyN (N.ends.length + N.ends.length)).ends.length c1, .slice ai1 (emptyN (N.ends.length + N.ends.length)).ids.length ci1, .slice ap1 (emptyN (N.ends.length + N.ends.length)).inputs.length cp1]
  have b2 : Below w1.heap.size w1 (w1.alloc (.cells #[.slice a1 (emptyN (N.ends.length + N.ends.length)).ends.length c1, .slice ai1 (emptyN (N.ends.length + N.ends.length)).ids.length ci1, .slice ap1 (emptyN (N.ends.length + N.ends.length)).inputs.length cp1] 29)) := (by repeat (first | exact Below.refl _ _ | assumption | refine Below.alloc ?_ (by first | (simp; done) | (simp; omega) | omega) _ | refine Below.setCell ?_ (by first | (simp; done) | (simp; omega) | omega) _ | refine Below.drew ?_ | refine Below.drewN ?_ _))
  go_upto_region 3 with fail
  generalize w1.alloc (.cells #[.slice a1 (emptyN (N.ends.length + N.ends.length)).ends.length c1, .slice ai1 (emptyN (N.ends.length + N.ends.length)).ids.length ci1, .slice ap1 (emptyN (N.ends.length + N.ends.length)).inputs.length cp1] 29) = w2 at *
  obtain ⟨b, hb⟩ : ∃ b, b = w1.heap.size := ⟨_, rfl⟩
  rw [← hb] at BO ⊢
  replace BA := BA.new b2
  replace BR := BR.new b2
  replace own1 := (own1.new b2).wide (Nat.le_refl _) b2.size
  have bb := b1.trans (b2.mono b1.size)
  have zlo : lo ≤ w2.heap.size := Nat.le_trans zl2 b2.size
  have zb : lo ≤ b := by omega
  clear hb b1 b2 z1 zl2
  have hNB : NBx w2 lo b { ends := dcT N.ends N.ends.length 0 0, ids := [], inputs := dcI N.inputs N.ends.length 0 } := by
    have h9 : NBx w2 lo b (emptyN (N.ends.length + N.ends.length)) := NBx.of BO own1 (Nat.le_refl _)
    unfold emptyN at h9
    rwa [← dcT_zero N.ends, ← dcI_zero N.inputs] at h9
  have q0 := BA.cell 0 _ rfl
  clear own1 BO
  go_wp2_with fail
  clear q0
  go_loopw [18] (fun iv wr => ∃ v : Nat, v ≤ N.ends.length ∧ iv = .int .i64 v ∧ NBx wr lo b { ends := dcT N.ends N.ends.length v 0, ids := [], inputs := (dcI N.inputs N.ends.length v) } ∧ Bx wr w.heap.size 29 #[.slice (some ⟨g0, off0, none⟩) N.ends.length c0, .slice ai0 N.ids.length ci0, .slice (some ⟨gp, offp, none⟩) N.inputs.length cp0] ∧ Bx wr (w.heap.size + 1) 29 #[.slice none 0 0, .slice none 0 0, .slice none 0 0] ∧ Below w.heap.size w wr ∧ lo ≤ wr.heap.size) (fun iv _ => N.ends.length - (intOf iv).toNat)
  case atStart => exact ⟨0, Nat.zero_le _, rfl, hNB, BA, BR, bb, zlo⟩
  case round =>
    clear hNB BA BR bb zlo
    obtain ⟨v, hv, rfl, hNB, BA, BR, bb, zlo⟩ := hrel
    by_cases hlt : v < N.ends.length
    · have hc1 := (bb.cell (p := ⟨g0, off0 + v, none⟩) (by show g0 < _; omega)).trans (HC0.out v hlt)
      have hrow := (HR0.out v hlt).below (bb.mono hB)
      have hL1 := net_row HN.out hlt
      have HBK := Lib.hid (fun j (hj : j < (rowOf N.ends v).length) => net_back HN.out hlt hj)
      generalize (vs0 v).1 = ax at *
      generalize (vs0 v).2 = cx at *
      obtain ⟨wk, hwk⟩ : ∃ wk, wk = wr := ⟨_, rfl⟩
      subst hwk
      go_wp2_with fail
      clear hc1
      have hBk : B ≤ wk.heap.size := Nat.le_trans hB bb.size
      go_loopw [25] (fun iv wr => ∃ i : Nat, i ≤ (rowOf N.ends v).length ∧ iv = .int .i64 i ∧ NBx wr lo b { ends := dcT N.ends N.ends.length v i, ids := [], inputs := (dcI N.inputs N.ends.length v) } ∧ Below lo wk wr) (fun iv _ => (rowOf N.ends v).length - (intOf iv).toNat)
      case atStart => exact ⟨0, Nat.zero_le _, rfl, hNB, Below.refl _ _⟩
      case round =>
        clear hNB
        obtain ⟨i, hi, rfl, hNB, bel⟩ := hrel
        have hDw := bel.size
        by_cases hil : i < (rowOf N.ends v).length
        · skip
          obtain ⟨p, q, hpq, hp, hq, _⟩ := HBK.out i hil
          obtain ⟨g1, off1, hae, _, e1, e2⟩ := RdE.at (hrow.below (bel.mono (by omega))) hil
          rw [hpq] at e1 e2
          have HPQ := Lib.hid hpq
          clear hpq
          subst hae
          have BE := Bx.made wr 62 #[.int .i64 (p : Int), .int .i64 (q : Int)]
          have bE : Below wr.heap.size wr (wr.alloc (.cells #[.int .i64 (p : Int), .int .i64 (q : Int)] 62)) := (by repeat (first | exact Below.refl _ _ | assumption | refine Below.alloc ?_ (by first | (simp; done) | (simp; omega) | omega) _ | refine Below.setCell ?_ (by first | (simp; done) | (simp; omega) | omega) _ | refine Below.drew ?_ | refine Below.drewN ?_ _))
          obtain ⟨eb, heb⟩ : ∃ eb, eb = wr.heap.size := ⟨_, rfl⟩
          have zeb1 : eb ≤ wr.heap.size := by omega
          have zeb2 : wr.heap.size ≤ eb := by omega
          go_upto_region 9 with fail
          clear e1 e2
          rw [← heb] at BE ⊢
          clear heb
          obtain ⟨aq, c, vs, ai, ci, ap, cp, hbx, hE, owni, ownp, hdis⟩ := hNB
          have hWL : (dcT N.ends N.ends.length v i).length = N.ends.length + N.ends.length := dcT_length ..
          obtain ⟨A, hA, _, _⟩ := Ow.addr hE.1 (by show 0 < (dcT N.ends N.ends.length v i).length; omega)
          subst hA
          have hEb : ¬ RB A (dcT N.ends N.ends.length v i) vs eb := rb_new hE (by show 0 < (dcT N.ends N.ends.length v i).length; omega) zeb2
          replace hbx := hbx.new bE
          replace hE : RowsE (wr.alloc (.cells #[.int .i64 (p : Int), .int .i64 (q : Int)] 62)) lo (wr.alloc (.cells #[.int .i64 (p : Int), .int .i64 (q : Int)] 62)).heap.size (some ⟨A, 0, none⟩) c (dcT N.ends N.ends.length v i) vs := RowsAt.top (RowsAt.new hE bE)
          replace owni := Ow.top (Ow.new owni bE)
          replace ownp := Ow.top (Ow.new ownp bE)
          have bel2 := bel.trans (bE.mono (by omega))
          have zE := bel2.size
          have zlE : lo ≤ (wr.alloc (.cells #[.int .i64 (p : Int), .int .i64 (q : Int)] 62)).heap.size := Nat.le_trans (by omega) bE.size
          clear bE bel
          generalize (wr.alloc (.cells #[.int .i64 (p : Int), .int .i64 (q : Int)] 62)) = wy at *
          have hlo : lo ≤ wy.heap.size := zlE
          obtain ⟨n, hn⟩ : ∃ n, n = (dcT N.ends N.ends.length v i).length := ⟨_, rfl⟩
          replace hbx : Bx wy b 29 #[.slice (some ⟨A, 0, none⟩) (dcT N.ends N.ends.length v i).length c, .slice ai 0 ci, .slice ap (dcI N.inputs N.ends.length v).length cp] := hbx
          rw [← hn] at hbx
          have HNK := Lib.hid (hn.trans hWL)
          have hrl : (rowOf (dcT N.ends N.ends.length v i) v).length ≤ 6 := dcT_len HN.out v i v (by omega)
          have hrl2 : (rowOf (dcT N.ends N.ends.length v i) (v + N.ends.length)).length ≤ 6 := dcT_len HN.out v i (v + N.ends.length) (by omega)
          have hrow2 : rowOf (addP (dcT N.ends N.ends.length v i) v ((p : Int) + (N.ends.length : Int)) (q : Int)) (v + N.ends.length) = rowOf (dcT N.ends N.ends.length v i) (v + N.ends.length) := by rw [addP_row _ _ _ _ _ (by rw [hWL]; omega), if_neg (by omega)]
          have hvn : v < n := by omega
          have hv1 : v < (dcT N.ends N.ends.length v i).length := by omega
          have hv2 : v + N.ends.length < (addP (dcT N.ends N.ends.length v i) v ((p : Int) + (N.ends.length : Int)) (q : Int)).length := by rw [addP_length]; omega
          have HDA := Lib.hid (dcT_add hlt hil HPQ.out)
          have HNI := Lib.hid (fun (x : Nat) (hx : blk ai ci = some x) => rb_ne hE (by omega) owni hx)
          have HNP := Lib.hid (fun (x : Nat) (hx : blk ap cp = some x) => rb_ne hE (by omega) ownp hx)
          have HIN := Lib.hid (fun (x : Nat) (h : RB A (dcT N.ends N.ends.length v i) vs x) => rb_in hE (by omega) h)
          clear hWL hn
          have hp40 : p ≤ 40 := by omega
          have hwr1 : IntKind.i64.wrap ((p : Int) + (N.ends.length : Int)) = (p : Int) + (N.ends.length : Int) := wrapD _ (by omega)
          obtain ⟨u, hu⟩ : ∃ u, u = v + N.ends.length := ⟨_, rfl⟩
          have hwr2 : IntKind.i64.wrap ((v : Int) + (N.ends.length : Int)) = (u : Int) := by rw [wrapD _ (by omega)]; omega
          rw [← hu] at hrow2 hrl2 hv2 HDA
          have hun : u < n := by have := HNK.out; omega
          have HU := Lib.hid hu
          clear hu
          obtain ⟨R, hR⟩ : ∃ R, R = (dcT N.ends N.ends.length v i) := ⟨_, rfl⟩
          rw [← hR] at hE hrl hrow2 hrl2 hv1 hv2 HDA hEb HNI HNP HIN
          have HR := Lib.hid hR
          clear hR
          obtain ⟨Kp, hKp⟩ : ∃ Kp : Int, Kp = (p : Int) + (N.ends.length : Int) := ⟨_, rfl⟩
          rw [← hKp] at hwr1 hrow2 hv2 HDA
          rw [hKp] at hwr1
          have HKP := Lib.hid hKp
          clear hKp
          go_wp2_with fail
          have hS0 : wy.drew.cell? ⟨b, 0, none⟩ = some (.slice (some ⟨A, 0, none⟩) n c) ∧ wy.drew.cell? ⟨eb, 0, none⟩ = some (.int .i64 (p : Int)) ∧ wy.drew.cell? ⟨eb, 1, none⟩ = some (.int .i64 (q : Int)) := ⟨hbx.cell 0 _ rfl, BE.cell 0 _ rfl, BE.cell 1 _ rfl⟩
          have hw1 : Below wy.heap.size wy (wy.drew.alloc (.cells #[.int .i64 ((p : Int) + (N.ends.length : Int)), .int .i64 (q : Int)] 62)) := (by repeat (first | exact Below.refl _ _ | assumption | refine Below.alloc ?_ (by first | (simp; done) | (simp; omega) | omega) _ | refine Below.setCell ?_ (by first | (simp; done) | (simp; omega) | omega) _ | refine Below.drew ?_ | refine Below.drewN ?_ _))
          have BE1 := BE.new hw1
          have hS1 := And.intro ((hbx.new hw1).cell 0 _ rfl) (And.intro (BE1.cell 0 _ rfl) (BE1.cell 1 _ rfl))
          have hrow1 : Ow (wy.drew.alloc (.cells #[.int .i64 ((p : Int) + (N.ends.length : Int)), .int .i64 (q : Int)] 62)) lo wy.heap.size 62 2 (vs v).1 (rowOf R v).length (vs v).2 (cellE (rowOf R v)) := Ow.new (hE.2.1 v hv1) hw1
          have hnews : ∀ jj uu, [Value.int .i64 ((p : Int) + (N.ends.length : Int)), Value.int .i64 (q : Int)][jj]? = some uu → (wy.drew.alloc (.cells #[.int .i64 ((p : Int) + (N.ends.length : Int)), .int .i64 (q : Int)] 62)).cell? (Addr.add ⟨wy.heap.size, 0, none⟩ jj) = some uu := news2 _ _ _ _
          obtain ⟨gq, offq, haeq, _, hcv⟩ := Rd.at (Ow.rd hE.1) hv1
          obtain ⟨rfl, rfl⟩ : A = gq ∧ 0 = offq := by injection haeq with h; injection h with h1 h2; exact ⟨h1, h2⟩
          clear haeq
          rw [Nat.zero_add] at hcv
          refine wp_region_held_drew (S := (fun X => X.cell? ⟨b, 0, none⟩ = some (.slice (some ⟨A, 0, none⟩) n c) ∧ X.cell? ⟨eb, 0, none⟩ = some (.int .i64 (p : Int)) ∧ X.cell? ⟨eb, 1, none⟩ = some (.int .i64 (q : Int)))) (by kernel_rfl) hS0 (fun hHeld => ?_)
          refine wpAnyH_take (i := 0) (v := ?_) rfl (by kernel_rfl) (by kernel_rfl) (by kernel_rfl) (fun _ _ _ h => h) (Or.inl ⟨by rfl, ?_⟩) (by assumption) ?_
          rotate_left
          · (intro w hSw; (try dsimp only at hSw); obtain ⟨hq0, hq1, hq2⟩ := hSw; go_simp; try with_reducible rfl)
          try simp only [Act.put, List.getElem_toArray, List.getElem_cons_zero, List.getElem_cons_succ, List.setIfInBounds_toArray, List.set_cons_zero, List.set_cons_succ]
          refine wpAnyH_take (i := 1) (v := ?_) rfl (by kernel_rfl) (by kernel_rfl) (by kernel_rfl) (fun _ _ _ h => h) (Or.inl ⟨by rfl, ?_⟩) (by assumption) ?_
          rotate_left
          · (intro w hSw; (try dsimp only at hSw); obtain ⟨hq0, hq1, hq2⟩ := hSw; go_simp; try with_reducible rfl)
          try simp only [Act.put, List.getElem_toArray, List.getElem_cons_zero, List.getElem_cons_succ, List.setIfInBounds_toArray, List.set_cons_zero, List.set_cons_succ]
          refine wpAnyH_take (i := 2) (v := ?_) rfl (by kernel_rfl) (by kernel_rfl) (by kernel_rfl) (fun _ _ _ h => h) (Or.inl ⟨by rfl, ?_⟩) (by assumption) ?_
          rotate_left
          · (intro w hSw; (try dsimp only at hSw); obtain ⟨hq0, hq1, hq2⟩ := hSw; go_simp; try with_reducible rfl)
          try simp only [Act.put, List.getElem_toArray, List.getElem_cons_zero, List.getElem_cons_succ, List.setIfInBounds_toArray, List.set_cons_zero, List.set_cons_succ]
          refine wpAnyH_take (i := 3) (v := ?_) rfl (by kernel_rfl) (by kernel_rfl) (by kernel_rfl) (fun _ _ _ h => h) (Or.inl ⟨by rfl, ?_⟩) (by assumption) ?_
          rotate_left
          · (intro w hSw; (try dsimp only at hSw); obtain ⟨hq0, hq1, hq2⟩ := hSw; go_simp; try with_reducible rfl)
          try simp only [Act.put, List.getElem_toArray, List.getElem_cons_zero, List.getElem_cons_succ, List.setIfInBounds_toArray, List.set_cons_zero, List.set_cons_succ]
          refine wpAnyH_take (i := 4) (v := ?_) rfl (by kernel_rfl) (by kernel_rfl) (by kernel_rfl) (fun _ _ _ h => h) (Or.inl ⟨by rfl, ?_⟩) (by assumption) ?_
          rotate_left
          · (intro w hSw; (try dsimp only at hSw); obtain ⟨hq0, hq1, hq2⟩ := hSw; go_simp; try with_reducible rfl)
          try simp only [Act.put, List.getElem_toArray, List.getElem_cons_zero, List.getElem_cons_succ, List.setIfInBounds_toArray, List.set_cons_zero, List.set_cons_succ]
          refine wpAnyH_take (i := 5) (v := ?_) rfl (by kernel_rfl) (by kernel_rfl) (by kernel_rfl) (fun _ _ _ h => h) (Or.inl ⟨by rfl, ?_⟩) (by assumption) ?_
          rotate_left
          · (intro w hSw; (try dsimp only at hSw); obtain ⟨hq0, hq1, hq2⟩ := hSw; go_simp; try with_reducible rfl)
          try simp only [Act.put, List.getElem_toArray, List.getElem_cons_zero, List.getElem_cons_succ, List.setIfInBounds_toArray, List.set_cons_zero, List.set_cons_succ]
          refine wpAnyH_take (i := 6) (v := ?_) rfl (by kernel_rfl) (by kernel_rfl) (by kernel_rfl) (fun _ _ _ h => h) (Or.inl ⟨by rfl, ?_⟩) (by assumption) ?_
          rotate_left
          · (intro w hSw; (try dsimp only at hSw); obtain ⟨hq0, hq1, hq2⟩ := hSw; go_simp; try with_reducible rfl)
          try simp only [Act.put, List.getElem_toArray, List.getElem_cons_zero, List.getElem_cons_succ, List.setIfInBounds_toArray, List.set_cons_zero, List.set_cons_succ]
          refine wpAnyH_take (i := 8) (v := ?_) rfl (by kernel_rfl) (by kernel_rfl) (by kernel_rfl) (fun _ _ _ h => h) (Or.inl ⟨by rfl, ?_⟩) (by assumption) ?_
          rotate_left
          · (intro w hSw; (try dsimp only at hSw); obtain ⟨hq0, hq1, hq2⟩ := hSw; go_simp; try with_reducible rfl)
          try simp only [Act.put, List.getElem_toArray, List.getElem_cons_zero, List.getElem_cons_succ, List.setIfInBounds_toArray, List.set_cons_zero, List.set_cons_succ]
          refine wpAnyH_take (i := 9) (v := ?_) rfl (by kernel_rfl) (by kernel_rfl) (by kernel_rfl) (fun _ _ _ h => h) (Or.inl ⟨by rfl, ?_⟩) (by assumption) ?_
          rotate_left
          · (intro w hSw; (try dsimp only at hSw); obtain ⟨hq0, hq1, hq2⟩ := hSw; go_simp; try with_reducible rfl)
          try simp only [Act.put, List.getElem_toArray, List.getElem_cons_zero, List.getElem_cons_succ, List.setIfInBounds_toArray, List.set_cons_zero, List.set_cons_succ]
          refine wpAnyH_take (i := 10) (v := ?_) rfl (by kernel_rfl) (by kernel_rfl) (by kernel_rfl) (fun _ _ _ h => h) (Or.inl ⟨by rfl, ?_⟩) (by assumption) ?_
          rotate_left
          · (intro w hSw; (try dsimp only at hSw); obtain ⟨hq0, hq1, hq2⟩ := hSw; go_simp; try with_reducible rfl)
          try simp only [Act.put, List.getElem_toArray, List.getElem_cons_zero, List.getElem_cons_succ, List.setIfInBounds_toArray, List.set_cons_zero, List.set_cons_succ]
          refine wpAnyH_take (i := 11) (v := ?_) rfl (by kernel_rfl) (by kernel_rfl) (by kernel_rfl) (fun _ _ _ h => h) (Or.inl ⟨by rfl, ?_⟩) (by assumption) ?_
          rotate_left
          · (intro w hSw; (try dsimp only at hSw); obtain ⟨hq0, hq1, hq2⟩ := hSw; go_simp; try with_reducible rfl)
          try simp only [Act.put, List.getElem_toArray, List.getElem_cons_zero, List.getElem_cons_succ, List.setIfInBounds_toArray, List.set_cons_zero, List.set_cons_succ]
          refine wpAnyH_take (i := 12) (v := ?_) rfl (by kernel_rfl) (by kernel_rfl) (by kernel_rfl) (fun _ _ _ h => h) (Or.inl ⟨by rfl, ?_⟩) (by assumption) ?_
          rotate_left
          · (intro w hSw; (try dsimp only at hSw); obtain ⟨hq0, hq1, hq2⟩ := hSw; go_simp; try with_reducible rfl)
          try simp only [Act.put, List.getElem_toArray, List.getElem_cons_zero, List.getElem_cons_succ, List.setIfInBounds_toArray, List.set_cons_zero, List.set_cons_succ]
          refine wpAnyH_take (i := 13) (v := ?_) rfl (by kernel_rfl) (by kernel_rfl) (by kernel_rfl) (fun _ _ _ h => h) (Or.inl ⟨by rfl, ?_⟩) (by assumption) ?_
          rotate_left
          · (intro w hSw; (try dsimp only at hSw); obtain ⟨hq0, hq1, hq2⟩ := hSw; go_simp; try with_reducible rfl)
          try simp only [Act.put, List.getElem_toArray, List.getElem_cons_zero, List.getElem_cons_succ, List.setIfInBounds_toArray, List.set_cons_zero, List.set_cons_succ]
          refine wpAnyH_take (i := 14) (v := ?_) rfl (by kernel_rfl) (by kernel_rfl) (by kernel_rfl) (fun _ _ _ h => h) (Or.inl ⟨by rfl, ?_⟩) (by assumption) ?_
          rotate_left
          · (intro w hSw; (try dsimp only at hSw); obtain ⟨hq0, hq1, hq2⟩ := hSw; go_simp; try with_reducible rfl)
          try simp only [Act.put, List.getElem_toArray, List.getElem_cons_zero, List.getElem_cons_succ, List.setIfInBounds_toArray, List.set_cons_zero, List.set_cons_succ]
          refine wpAnyH_ready (rs := [7, 15]) (by kernel_rfl) (by simp) ?_
          refine AllReadyH.cons (o := _) rfl (fun K hK => ?_) (AllReadyH.cons (o := _) rfl (fun K hK => ?_) AllReadyH.nil)
          go_simp
          refine hK.out _ _ (hS0) (fun hHeld => ?_)
          clear hK K
          try simp only [Act.put, List.getElem_toArray, List.getElem_cons_zero, List.getElem_cons_succ, List.setIfInBounds_toArray, List.set_cons_zero, List.set_cons_succ]
          refine wpAnyH_ready (rs := [15]) (by kernel_rfl) (by simp) ?_
          refine AllReadyH.cons (o := _) rfl (fun K hK => ?_) AllReadyH.nil
          go_simp
          refine hK.out _ _ (hS1) (fun hHeld => ?_)
          clear hK K
          try simp only [Act.put, List.getElem_toArray, List.getElem_cons_zero, List.getElem_cons_succ, List.setIfInBounds_toArray, List.set_cons_zero, List.set_cons_succ]
          refine wpAnyH_ready (rs := [16]) (by kernel_rfl) (by simp) ?_
          refine AllReadyH.cons (o := _) rfl (fun K hK => ?_) AllReadyH.nil
          rw [if_pos (by rfl)]
          refine step_app _ _ _ rfl 62 (.agg #[.int .i64 0, .int .i64 0]) 2 16 Try.underlying60 end_info rfl (by decide) lo wy.heap.size (vs v).1 (rowOf R v).length (vs v).2 _ rfl hrow1 ⟨wy.heap.size, 0, none⟩ 1 1 [.int .i64 ((p : Int) + (N.ends.length : Int)), .int .i64 (q : Int)] rfl rfl hnews (by simp [Value.oneCell']) (by decide) (by unfold maxLen; omega) (by omega) (by simp; omega) ?_
          intro g' cap' w2 own2 hgr hbg _
          obtain ⟨hbx2, hc2, hf2, va, hE', hbx', hfr', hrb'⟩ := addP_mem hbx hE hv1 hw1 hlo hgr own2 hbg
          have BE2 := BE1.fr (Fr.of_grown hgr) (fun h => hEb (.inr ⟨_, hv1, h.symm⟩))
          have BE3 := BE.fr hfr' hEb
          have hS2 := And.intro (hbx2.cell 0 _ rfl) (And.intro (BE2.cell 0 _ rfl) (BE2.cell 1 _ rfl))
          have hS3 := And.intro (hbx'.cell 0 _ rfl) (And.intro (BE3.cell 0 _ rfl) (BE3.cell 1 _ rfl))
          have hEb' : ¬ RB A (addP R v ((p : Int) + (N.ends.length : Int)) (q : Int)) va eb := fun h => hEb (hrb' _ BE.lt h)
          refine hK.out _ _ hS2 (fun hHeld => ?_)
          clear hK K
          try simp only [Act.put, List.getElem_toArray, List.getElem_cons_zero, List.getElem_cons_succ, List.setIfInBounds_toArray, List.set_cons_zero, List.set_cons_succ]
          refine wpAnyH_take (i := 17) (v := ?_) rfl (by kernel_rfl) (by kernel_rfl) (by kernel_rfl) (fun _ _ _ h => h) (Or.inl ⟨by rfl, ?_⟩) (by assumption) ?_
          rotate_left
          · (intro w hSw; (try dsimp only at hSw); obtain ⟨hq0, hq1, hq2⟩ := hSw; go_simp; try with_reducible rfl)
          try simp only [Act.put, List.getElem_toArray, List.getElem_cons_zero, List.getElem_cons_succ, List.setIfInBounds_toArray, List.set_cons_zero, List.set_cons_succ]
          refine wpAnyH_ready (rs := [18]) (by kernel_rfl) (by simp) ?_
          refine AllReadyH.cons (o := _) rfl (fun K hK => ?_) AllReadyH.nil
          go_simp
          refine hK.out _ _ (hS3) (fun hHeld => ?_)
          clear hK K
          try simp only [Act.put, List.getElem_toArray, List.getElem_cons_zero, List.getElem_cons_succ, List.setIfInBounds_toArray, List.set_cons_zero, List.set_cons_succ]
          refine wpAnyH_done (by kernel_rfl) ?_ _
          clear hHeld hS2 hS3 hc2 hf2 hbx2 own2 hgr hbg BE2
          rotate_left
          go_simp
          refine hK.out _ _ (hS1) (fun hHeld => ?_)
          clear hK K
          try simp only [Act.put, List.getElem_toArray, List.getElem_cons_zero, List.getElem_cons_succ, List.setIfInBounds_toArray, List.set_cons_zero, List.set_cons_succ]
          refine wpAnyH_ready (rs := [7]) (by kernel_rfl) (by simp) ?_
          refine AllReadyH.cons (o := _) rfl (fun K hK => ?_) AllReadyH.nil
          go_simp
          refine hK.out _ _ (hS1) (fun hHeld => ?_)
          clear hK K
          try simp only [Act.put, List.getElem_toArray, List.getElem_cons_zero, List.getElem_cons_succ, List.setIfInBounds_toArray, List.set_cons_zero, List.set_cons_succ]
          refine wpAnyH_ready (rs := [16]) (by kernel_rfl) (by simp) ?_
          refine AllReadyH.cons (o := _) rfl (fun K hK => ?_) AllReadyH.nil
          rw [if_pos (by rfl)]
          refine step_app _ _ _ rfl 62 (.agg #[.int .i64 0, .int .i64 0]) 2 16 Try.underlying60 end_info rfl (by decide) lo wy.heap.size (vs v).1 (rowOf R v).length (vs v).2 _ rfl hrow1 ⟨wy.heap.size, 0, none⟩ 1 1 [.int .i64 ((p : Int) + (N.ends.length : Int)), .int .i64 (q : Int)] rfl rfl hnews (by simp [Value.oneCell']) (by decide) (by unfold maxLen; omega) (by omega) (by simp; omega) ?_
          intro g' cap' w2 own2 hgr hbg _
          obtain ⟨hbx2, hc2, hf2, va, hE', hbx', hfr', hrb'⟩ := addP_mem hbx hE hv1 hw1 hlo hgr own2 hbg
          have BE2 := BE1.fr (Fr.of_grown hgr) (fun h => hEb (.inr ⟨_, hv1, h.symm⟩))
          have BE3 := BE.fr hfr' hEb
          have hS2 := And.intro (hbx2.cell 0 _ rfl) (And.intro (BE2.cell 0 _ rfl) (BE2.cell 1 _ rfl))
          have hS3 := And.intro (hbx'.cell 0 _ rfl) (And.intro (BE3.cell 0 _ rfl) (BE3.cell 1 _ rfl))
          have hEb' : ¬ RB A (addP R v ((p : Int) + (N.ends.length : Int)) (q : Int)) va eb := fun h => hEb (hrb' _ BE.lt h)
          refine hK.out _ _ hS2 (fun hHeld => ?_)
          clear hK K
          try simp only [Act.put, List.getElem_toArray, List.getElem_cons_zero, List.getElem_cons_succ, List.setIfInBounds_toArray, List.set_cons_zero, List.set_cons_succ]
          refine wpAnyH_take (i := 17) (v := ?_) rfl (by kernel_rfl) (by kernel_rfl) (by kernel_rfl) (fun _ _ _ h => h) (Or.inl ⟨by rfl, ?_⟩) (by assumption) ?_
          rotate_left
          · (intro w hSw; (try dsimp only at hSw); obtain ⟨hq0, hq1, hq2⟩ := hSw; go_simp; try with_reducible rfl)
          try simp only [Act.put, List.getElem_toArray, List.getElem_cons_zero, List.getElem_cons_succ, List.setIfInBounds_toArray, List.set_cons_zero, List.set_cons_succ]
          refine wpAnyH_ready (rs := [18]) (by kernel_rfl) (by simp) ?_
          refine AllReadyH.cons (o := _) rfl (fun K hK => ?_) AllReadyH.nil
          go_simp
          refine hK.out _ _ (hS3) (fun hHeld => ?_)
          clear hK K
          try simp only [Act.put, List.getElem_toArray, List.getElem_cons_zero, List.getElem_cons_succ, List.setIfInBounds_toArray, List.set_cons_zero, List.set_cons_succ]
          refine wpAnyH_done (by kernel_rfl) ?_ _
          clear hHeld hS2 hS3 hc2 hf2 hbx2 own2 hgr hbg BE2
          rotate_left
          all_goals
            clear hS0 hS1 hw1 hrow1 hnews hcv hbx hE BE BE1 hEb
            generalize hWW : World.setCell w2 _ _ = wa at hE' hbx' hfr' BE3 ⊢
            clear hWW
            replace hE' := RowsAt.top hE'
            obtain ⟨hE, hbx, hfr, hrb, BE, hEb⟩ := (⟨hE', hbx', hfr', hrb', BE3, hEb'⟩ : _ ∧ _ ∧ _ ∧ _ ∧ _ ∧ _)
            clear hE' hbx' hfr' hrb' BE3 hEb'
            have bel3 := bel2.trans (hfr.below (B := lo) (fun x h1 h2 hc => by have := HIN.out _ hc; omega) hlo)
            replace owni := Ow.top (Ow.frB owni hfr HNI.out)
            replace ownp := Ow.top (Ow.frB ownp hfr HNP.out)
            clear HNI HNP
            have zwa := hfr.size
            clear hfr hrb bel2 HIN
            obtain ⟨R2, hR2⟩ : ∃ R2, R2 = addP R v ((p : Int) + (N.ends.length : Int)) (q : Int) := ⟨_, rfl⟩
            rw [HKP.out] at hrow2 hv2 HDA
            rw [← hR2] at hE hrow2 hv2 HDA hEb
            have hR2l : 0 < R2.length := by omega
            have HR2 := Lib.hid hR2
            clear hR2 hv1
            have HNI := Lib.hid (fun (x : Nat) (hx : blk ai ci = some x) => rb_ne hE hR2l owni hx)
            have HNP := Lib.hid (fun (x : Nat) (hx : blk ap cp = some x) => rb_ne hE hR2l ownp hx)
            have HIN2 := Lib.hid (fun (x : Nat) (h : RB A R2 va x) => rb_in hE hR2l h)
            have hlo2 : lo ≤ wa.heap.size := by omega
            clear hlo
            obtain ⟨hv1, hlo⟩ := (⟨hv2, hlo2⟩ : u < R2.length ∧ lo ≤ wa.heap.size)
            clear hv2 hlo2
            rw [← hrow2] at hrl2
            clear hrow2
            go_wp2_with fail
            have hS0 : wa.drew.cell? ⟨b, 0, none⟩ = some (.slice (some ⟨A, 0, none⟩) n c) ∧ wa.drew.cell? ⟨eb, 0, none⟩ = some (.int .i64 (p : Int)) ∧ wa.drew.cell? ⟨eb, 1, none⟩ = some (.int .i64 (q : Int)) := ⟨hbx.cell 0 _ rfl, BE.cell 0 _ rfl, BE.cell 1 _ rfl⟩
            have hw1 : Below wa.heap.size wa (wa.drew.alloc (.cells #[.int .i64 (p : Int), .int .i64 (q : Int)] 62)) := (by repeat (first | exact Below.refl _ _ | assumption | refine Below.alloc ?_ (by first | (simp; done) | (simp; omega) | omega) _ | refine Below.setCell ?_ (by first | (simp; done) | (simp; omega) | omega) _ | refine Below.drew ?_ | refine Below.drewN ?_ _))
            have BE1 := BE.new hw1
            have hS1 := And.intro ((hbx.new hw1).cell 0 _ rfl) (And.intro (BE1.cell 0 _ rfl) (BE1.cell 1 _ rfl))
            have hrow1 : Ow (wa.drew.alloc (.cells #[.int .i64 (p : Int), .int .i64 (q : Int)] 62)) lo wa.heap.size 62 2 (va u).1 (rowOf R2 u).length (va u).2 (cellE (rowOf R2 u)) := Ow.new (hE.2.1 u hv1) hw1
            have hnews : ∀ jj uu, [Value.int .i64 (p : Int), Value.int .i64 (q : Int)][jj]? = some uu → (wa.drew.alloc (.cells #[.int .i64 (p : Int), .int .i64 (q : Int)] 62)).cell? (Addr.add ⟨wa.heap.size, 0, none⟩ jj) = some uu := news2 _ _ _ _
            obtain ⟨gq, offq, haeq, _, hcv⟩ := Rd.at (Ow.rd hE.1) hv1
            obtain ⟨rfl, rfl⟩ : A = gq ∧ 0 = offq := by injection haeq with h; injection h with h1 h2; exact ⟨h1, h2⟩
            clear haeq
            rw [Nat.zero_add] at hcv
            refine wp_region_held_drew (S := (fun X => X.cell? ⟨b, 0, none⟩ = some (.slice (some ⟨A, 0, none⟩) n c) ∧ X.cell? ⟨eb, 0, none⟩ = some (.int .i64 (p : Int)) ∧ X.cell? ⟨eb, 1, none⟩ = some (.int .i64 (q : Int)))) (by kernel_rfl) hS0 (fun hHeld => ?_)
            refine wpAnyH_take (i := 0) (v := ?_) rfl (by kernel_rfl) (by kernel_rfl) (by kernel_rfl) (fun _ _ _ h => h) (Or.inl ⟨by rfl, ?_⟩) (by assumption) ?_
            rotate_left
            · (intro w hSw; (try dsimp only at hSw); obtain ⟨hq0, hq1, hq2⟩ := hSw; go_simp; try with_reducible rfl)
            try simp only [Act.put, List.getElem_toArray, List.getElem_cons_zero, List.getElem_cons_succ, List.setIfInBounds_toArray, List.set_cons_zero, List.set_cons_succ]
            refine wpAnyH_take (i := 1) (v := ?_) rfl (by kernel_rfl) (by kernel_rfl) (by kernel_rfl) (fun _ _ _ h => h) (Or.inl ⟨by rfl, ?_⟩) (by assumption) ?_
            rotate_left
            · (intro w hSw; (try dsimp only at hSw); obtain ⟨hq0, hq1, hq2⟩ := hSw; go_simp; try with_reducible rfl)
            try simp only [Act.put, List.getElem_toArray, List.getElem_cons_zero, List.getElem_cons_succ, List.setIfInBounds_toArray, List.set_cons_zero, List.set_cons_succ]
            refine wpAnyH_take (i := 2) (v := ?_) rfl (by kernel_rfl) (by kernel_rfl) (by kernel_rfl) (fun _ _ _ h => h) (Or.inl ⟨by rfl, ?_⟩) (by assumption) ?_
            rotate_left
            · (intro w hSw; (try dsimp only at hSw); obtain ⟨hq0, hq1, hq2⟩ := hSw; go_simp; try with_reducible rfl)
            try simp only [Act.put, List.getElem_toArray, List.getElem_cons_zero, List.getElem_cons_succ, List.setIfInBounds_toArray, List.set_cons_zero, List.set_cons_succ]
            refine wpAnyH_take (i := 3) (v := ?_) rfl (by kernel_rfl) (by kernel_rfl) (by kernel_rfl) (fun _ _ _ h => h) (Or.inl ⟨by rfl, ?_⟩) (by assumption) ?_
            rotate_left
            · (intro w hSw; (try dsimp only at hSw); obtain ⟨hq0, hq1, hq2⟩ := hSw; go_simp; try with_reducible rfl)
            try simp only [Act.put, List.getElem_toArray, List.getElem_cons_zero, List.getElem_cons_succ, List.setIfInBounds_toArray, List.set_cons_zero, List.set_cons_succ]
            refine wpAnyH_take (i := 4) (v := ?_) rfl (by kernel_rfl) (by kernel_rfl) (by kernel_rfl) (fun _ _ _ h => h) (Or.inl ⟨by rfl, ?_⟩) (by assumption) ?_
            rotate_left
            · (intro w hSw; (try dsimp only at hSw); obtain ⟨hq0, hq1, hq2⟩ := hSw; go_simp; try with_reducible rfl)
            try simp only [Act.put, List.getElem_toArray, List.getElem_cons_zero, List.getElem_cons_succ, List.setIfInBounds_toArray, List.set_cons_zero, List.set_cons_succ]
            refine wpAnyH_take (i := 5) (v := ?_) rfl (by kernel_rfl) (by kernel_rfl) (by kernel_rfl) (fun _ _ _ h => h) (Or.inl ⟨by rfl, ?_⟩) (by assumption) ?_
            rotate_left
            · (intro w hSw; (try dsimp only at hSw); obtain ⟨hq0, hq1, hq2⟩ := hSw; go_simp; try with_reducible rfl)
            try simp only [Act.put, List.getElem_toArray, List.getElem_cons_zero, List.getElem_cons_succ, List.setIfInBounds_toArray, List.set_cons_zero, List.set_cons_succ]
            refine wpAnyH_take (i := 6) (v := ?_) rfl (by kernel_rfl) (by kernel_rfl) (by kernel_rfl) (fun _ _ _ h => h) (Or.inl ⟨by rfl, ?_⟩) (by assumption) ?_
            rotate_left
            · (intro w hSw; (try dsimp only at hSw); obtain ⟨hq0, hq1, hq2⟩ := hSw; go_simp; try with_reducible rfl)
            try simp only [Act.put, List.getElem_toArray, List.getElem_cons_zero, List.getElem_cons_succ, List.setIfInBounds_toArray, List.set_cons_zero, List.set_cons_succ]
            refine wpAnyH_take (i := 7) (v := ?_) rfl (by kernel_rfl) (by kernel_rfl) (by kernel_rfl) (fun _ _ _ h => h) (Or.inl ⟨by rfl, ?_⟩) (by assumption) ?_
            rotate_left
            · (intro w hSw; (try dsimp only at hSw); obtain ⟨hq0, hq1, hq2⟩ := hSw; go_simp; try with_reducible rfl)
            try simp only [Act.put, List.getElem_toArray, List.getElem_cons_zero, List.getElem_cons_succ, List.setIfInBounds_toArray, List.set_cons_zero, List.set_cons_succ]
            refine wpAnyH_take (i := 8) (v := ?_) rfl (by kernel_rfl) (by kernel_rfl) (by kernel_rfl) (fun _ _ _ h => h) (Or.inl ⟨by rfl, ?_⟩) (by assumption) ?_
            rotate_left
            · (intro w hSw; (try dsimp only at hSw); obtain ⟨hq0, hq1, hq2⟩ := hSw; go_simp; try with_reducible rfl)
            try simp only [Act.put, List.getElem_toArray, List.getElem_cons_zero, List.getElem_cons_succ, List.setIfInBounds_toArray, List.set_cons_zero, List.set_cons_succ]
            refine wpAnyH_take (i := 9) (v := ?_) rfl (by kernel_rfl) (by kernel_rfl) (by kernel_rfl) (fun _ _ _ h => h) (Or.inl ⟨by rfl, ?_⟩) (by assumption) ?_
            rotate_left
            · (intro w hSw; (try dsimp only at hSw); obtain ⟨hq0, hq1, hq2⟩ := hSw; go_simp; try with_reducible rfl)
            try simp only [Act.put, List.getElem_toArray, List.getElem_cons_zero, List.getElem_cons_succ, List.setIfInBounds_toArray, List.set_cons_zero, List.set_cons_succ]
            refine wpAnyH_take (i := 10) (v := ?_) rfl (by kernel_rfl) (by kernel_rfl) (by kernel_rfl) (fun _ _ _ h => h) (Or.inl ⟨by rfl, ?_⟩) (by assumption) ?_
            rotate_left
            · (intro w hSw; (try dsimp only at hSw); obtain ⟨hq0, hq1, hq2⟩ := hSw; go_simp; try with_reducible rfl)
            try simp only [Act.put, List.getElem_toArray, List.getElem_cons_zero, List.getElem_cons_succ, List.setIfInBounds_toArray, List.set_cons_zero, List.set_cons_succ]
            refine wpAnyH_take (i := 12) (v := ?_) rfl (by kernel_rfl) (by kernel_rfl) (by kernel_rfl) (fun _ _ _ h => h) (Or.inl ⟨by rfl, ?_⟩) (by assumption) ?_
            rotate_left
            · (intro w hSw; (try dsimp only at hSw); obtain ⟨hq0, hq1, hq2⟩ := hSw; go_simp; try with_reducible rfl)
            try simp only [Act.put, List.getElem_toArray, List.getElem_cons_zero, List.getElem_cons_succ, List.setIfInBounds_toArray, List.set_cons_zero, List.set_cons_succ]
            refine wpAnyH_ready (rs := [11, 13]) (by kernel_rfl) (by simp) ?_
            refine AllReadyH.cons (o := _) rfl (fun K hK => ?_) (AllReadyH.cons (o := _) rfl (fun K hK => ?_) AllReadyH.nil)
            go_simp
            refine hK.out _ _ (hS0) (fun hHeld => ?_)
            clear hK K
            try simp only [Act.put, List.getElem_toArray, List.getElem_cons_zero, List.getElem_cons_succ, List.setIfInBounds_toArray, List.set_cons_zero, List.set_cons_succ]
            refine wpAnyH_ready (rs := [13]) (by kernel_rfl) (by simp) ?_
            refine AllReadyH.cons (o := _) rfl (fun K hK => ?_) AllReadyH.nil
            go_simp
            refine hK.out _ _ (hS1) (fun hHeld => ?_)
            clear hK K
            try simp only [Act.put, List.getElem_toArray, List.getElem_cons_zero, List.getElem_cons_succ, List.setIfInBounds_toArray, List.set_cons_zero, List.set_cons_succ]
            refine wpAnyH_ready (rs := [14]) (by kernel_rfl) (by simp) ?_
            refine AllReadyH.cons (o := _) rfl (fun K hK => ?_) AllReadyH.nil
            rw [if_pos (by rfl)]
            refine step_app _ _ _ rfl 62 (.agg #[.int .i64 0, .int .i64 0]) 2 16 Try.underlying60 end_info rfl (by decide) lo wa.heap.size (va u).1 (rowOf R2 u).length (va u).2 _ rfl hrow1 ⟨wa.heap.size, 0, none⟩ 1 1 [.int .i64 (p : Int), .int .i64 (q : Int)] rfl rfl hnews (by simp [Value.oneCell']) (by decide) (by unfold maxLen; omega) (by omega) (by simp; omega) ?_
            intro g' cap' w2 own2 hgr hbg _
            obtain ⟨hbx2, hc2, hf2, vb, hE', hbx', hfr', hrb'⟩ := addP_mem hbx hE hv1 hw1 hlo hgr own2 hbg
            have BE2 := BE1.fr (Fr.of_grown hgr) (fun h => hEb (.inr ⟨_, hv1, h.symm⟩))
            have BE3 := BE.fr hfr' hEb
            have hS2 := And.intro (hbx2.cell 0 _ rfl) (And.intro (BE2.cell 0 _ rfl) (BE2.cell 1 _ rfl))
            have hS3 := And.intro (hbx'.cell 0 _ rfl) (And.intro (BE3.cell 0 _ rfl) (BE3.cell 1 _ rfl))
            have hEb' : ¬ RB A (addP R2 u (p : Int) (q : Int)) vb eb := fun h => hEb (hrb' _ BE.lt h)
            refine hK.out _ _ hS2 (fun hHeld => ?_)
            clear hK K
            try simp only [Act.put, List.getElem_toArray, List.getElem_cons_zero, List.getElem_cons_succ, List.setIfInBounds_toArray, List.set_cons_zero, List.set_cons_succ]
            refine wpAnyH_take (i := 15) (v := ?_) rfl (by kernel_rfl) (by kernel_rfl) (by kernel_rfl) (fun _ _ _ h => h) (Or.inl ⟨by rfl, ?_⟩) (by assumption) ?_
            rotate_left
            · (intro w hSw; (try dsimp only at hSw); obtain ⟨hq0, hq1, hq2⟩ := hSw; go_simp; try with_reducible rfl)
            try simp only [Act.put, List.getElem_toArray, List.getElem_cons_zero, List.getElem_cons_succ, List.setIfInBounds_toArray, List.set_cons_zero, List.set_cons_succ]
            refine wpAnyH_ready (rs := [16]) (by kernel_rfl) (by simp) ?_
            refine AllReadyH.cons (o := _) rfl (fun K hK => ?_) AllReadyH.nil
            go_simp
            refine hK.out _ _ (hS3) (fun hHeld => ?_)
            clear hK K
            try simp only [Act.put, List.getElem_toArray, List.getElem_cons_zero, List.getElem_cons_succ, List.setIfInBounds_toArray, List.set_cons_zero, List.set_cons_succ]
            refine wpAnyH_done (by kernel_rfl) ?_ _
            clear hHeld hS2 hS3 hc2 hf2 hbx2 own2 hgr hbg BE2
            rotate_left
            go_simp
            refine hK.out _ _ (hS1) (fun hHeld => ?_)
            clear hK K
            try simp only [Act.put, List.getElem_toArray, List.getElem_cons_zero, List.getElem_cons_succ, List.setIfInBounds_toArray, List.set_cons_zero, List.set_cons_succ]
            refine wpAnyH_ready (rs := [11]) (by kernel_rfl) (by simp) ?_
            refine AllReadyH.cons (o := _) rfl (fun K hK => ?_) AllReadyH.nil
            go_simp
            refine hK.out _ _ (hS1) (fun hHeld => ?_)
            clear hK K
            try simp only [Act.put, List.getElem_toArray, List.getElem_cons_zero, List.getElem_cons_succ, List.setIfInBounds_toArray, List.set_cons_zero, List.set_cons_succ]
            refine wpAnyH_ready (rs := [14]) (by kernel_rfl) (by simp) ?_
            refine AllReadyH.cons (o := _) rfl (fun K hK => ?_) AllReadyH.nil
            rw [if_pos (by rfl)]
            refine step_app _ _ _ rfl 62 (.agg #[.int .i64 0, .int .i64 0]) 2 16 Try.underlying60 end_info rfl (by decide) lo wa.heap.size (va u).1 (rowOf R2 u).length (va u).2 _ rfl hrow1 ⟨wa.heap.size, 0, none⟩ 1 1 [.int .i64 (p : Int), .int .i64 (q : Int)] rfl rfl hnews (by simp [Value.oneCell']) (by decide) (by unfold maxLen; omega) (by omega) (by simp; omega) ?_
            intro g' cap' w2 own2 hgr hbg _
            obtain ⟨hbx2, hc2, hf2, vb, hE', hbx', hfr', hrb'⟩ := addP_mem hbx hE hv1 hw1 hlo hgr own2 hbg
            have BE2 := BE1.fr (Fr.of_grown hgr) (fun h => hEb (.inr ⟨_, hv1, h.symm⟩))
            have BE3 := BE.fr hfr' hEb
            have hS2 := And.intro (hbx2.cell 0 _ rfl) (And.intro (BE2.cell 0 _ rfl) (BE2.cell 1 _ rfl))
            have hS3 := And.intro (hbx'.cell 0 _ rfl) (And.intro (BE3.cell 0 _ rfl) (BE3.cell 1 _ rfl))
            have hEb' : ¬ RB A (addP R2 u (p : Int) (q : Int)) vb eb := fun h => hEb (hrb' _ BE.lt h)
            refine hK.out _ _ hS2 (fun hHeld => ?_)
            clear hK K
            try simp only [Act.put, List.getElem_toArray, List.getElem_cons_zero, List.getElem_cons_succ, List.setIfInBounds_toArray, List.set_cons_zero, List.set_cons_succ]
            refine wpAnyH_take (i := 15) (v := ?_) rfl (by kernel_rfl) (by kernel_rfl) (by kernel_rfl) (fun _ _ _ h => h) (Or.inl ⟨by rfl, ?_⟩) (by assumption) ?_
            rotate_left
            · (intro w hSw; (try dsimp only at hSw); obtain ⟨hq0, hq1, hq2⟩ := hSw; go_simp; try with_reducible rfl)
            try simp only [Act.put, List.getElem_toArray, List.getElem_cons_zero, List.getElem_cons_succ, List.setIfInBounds_toArray, List.set_cons_zero, List.set_cons_succ]
            refine wpAnyH_ready (rs := [16]) (by kernel_rfl) (by simp) ?_
            refine AllReadyH.cons (o := _) rfl (fun K hK => ?_) AllReadyH.nil
            go_simp
            refine hK.out _ _ (hS3) (fun hHeld => ?_)
            clear hK K
            try simp only [Act.put, List.getElem_toArray, List.getElem_cons_zero, List.getElem_cons_succ, List.setIfInBounds_toArray, List.set_cons_zero, List.set_cons_succ]
            refine wpAnyH_done (by kernel_rfl) ?_ _
            clear hHeld hS2 hS3 hc2 hf2 hbx2 own2 hgr hbg BE2
            rotate_left
            all_goals
              clear hS0 hS1 hw1 hrow1 hnews hcv hbx hE BE BE1 hEb
              generalize hWW : World.setCell w2 _ _ = wb at hE' hbx' hfr' BE3 ⊢
              clear hWW
              replace hE' := RowsAt.top hE'
              obtain ⟨hE, hbx, hfr, hrb, BE, hEb⟩ := (⟨hE', hbx', hfr', hrb', BE3, hEb'⟩ : _ ∧ _ ∧ _ ∧ _ ∧ _ ∧ _)
              clear hE' hbx' hfr' hrb' BE3 hEb'
              have bel4 := bel3.trans (hfr.below (B := lo) (fun x h1 h2 hc => by have := HIN2.out _ hc; omega) hlo)
              replace owni := Ow.top (Ow.frB owni hfr HNI.out)
              replace ownp := Ow.top (Ow.frB ownp hfr HNP.out)
              have zwb := hfr.size
              clear hfr hrb bel3
              rw [HDA.out] at hE
              rw [HNK.out] at hbx
              have hNB5 : NBx wb lo b { ends := dcT N.ends N.ends.length v (i + 1), ids := [], inputs := (dcI N.inputs N.ends.length v) } := ⟨some ⟨A, 0, none⟩, c, vb, ai, ci, ap, cp, by rw [show ({ ends := dcT N.ends N.ends.length v (i + 1), ids := [], inputs := (dcI N.inputs N.ends.length v) } : Net).ends.length = N.ends.length + N.ends.length from dcT_length ..]; exact hbx, hE, owni, ownp, hdis⟩
              clear hbx hE owni ownp BE hEb HNI HNP HIN2 HDA
              go_wp2_with fail
              go_roundw
              case rel => exact ⟨i + 1, by omega, by go_num, hNB5, bel4⟩
              case measure => simp [intOf]; omega
        · have HIL := Lib.hid (show i = (rowOf N.ends v).length by omega)
          rw [HIL.out] at hNB
          replace BA := BA.below bel (by omega)
          replace BR := BR.below bel (by omega)
          replace bb := bb.trans (bel.mono (by omega))
          replace zlo := Nat.le_trans zlo hDw
          have HNX := Lib.hid (dcT_next N.ends N.ends.length v)
          rw [HNX.out] at hNB
          clear HNX bel
          clear hrow HBK
          have hvi : v < N.inputs.length := by have := HSM.out; omega
          obtain ⟨u, hu⟩ : ∃ u, u = v + N.ends.length := ⟨_, rfl⟩
          obtain ⟨n2, hn2⟩ : ∃ n2, n2 = N.ends.length + N.ends.length := ⟨_, rfl⟩
          have hwr2 : IntKind.i64.wrap ((v : Int) + (N.ends.length : Int)) = (u : Int) := by rw [wrapD _ (by omega)]; omega
          have hvn : v < n2 := by omega
          have hun : u < n2 := by omega
          have HSET := Lib.hid (dcI_set N.inputs N.ends.length v hlt)
          rw [← hu] at HSET
          have HU := Lib.hid hu
          have HN2 := Lib.hid hn2
          clear hu hn2
          have hcp1 : wr.cell? ⟨gp, offp + v, none⟩ = some (.int .i64 (nth N.inputs v)) := (bb.cell (p := ⟨gp, offp + v, none⟩) (by show gp < _; omega)).trans (HCP.out v hvi)
          obtain ⟨P1, cP, k0, k1, k2, kP, hNB4, hfr4⟩ := NBx.setInput (w := wr.drew) (i := v) (nth N.inputs v) (NBx.new hNB ((Below.refl _ _).drew)) (by show v < (dcI N.inputs N.ends.length v).length; rw [dcI_length, ← HN2.out]; exact hvn)
          have k0' : wr.cell? ⟨b, 2, none⟩ = some (.slice (some ⟨P1, 0, none⟩) n2 cP) := by rw [HN2.out, ← dcI_length N.inputs N.ends.length v]; exact k0
          have q2 := BA.cell 2 _ rfl
          have hBA7 : Bx wr.drew w.heap.size 29 #[.slice (some ⟨g0, off0, none⟩) N.ends.length c0, .slice ai0 N.ids.length ci0, .slice (some ⟨gp, offp, none⟩) N.inputs.length cp0] := BA
          have hBR7 : Bx wr.drew (w.heap.size + 1) 29 #[.slice none 0 0, .slice none 0 0, .slice none 0 0] := BR
          have bb7 := bb.drew
          have z7 : lo ≤ wr.drew.heap.size := zlo
          clear k0
          go_upto_region 12 with fail
          go_still_tail 8, (by kernel_rfl)
          change wpList _ _ _ _ _ wr.drew
          clear hcp1 k0' q2 BA BR bb zlo hNB
          generalize wr.drew = w7 at *
          go_upto_region 13 with fail
          have BA := hBA7.fr hfr4 (by omega)
          have BR := hBR7.fr hfr4 (by omega)
          have bb := bb7.trans (hfr4.below (B := w.heap.size) (fun x h1 h2 hc => by omega) bb7.size)
          have zlo : lo ≤ (w7.setCell ⟨P1, v, none⟩ (.int .i64 (nth N.inputs v))).heap.size := Nat.le_trans z7 hfr4.size
          clear hBA7 hBR7 k1 k2 bb7 hfr4 z7
          generalize w7.setCell ⟨P1, v, none⟩ (.int .i64 (nth N.inputs v)) = w8 at *
          have hcp1 : w8.cell? ⟨gp, offp + v, none⟩ = some (.int .i64 (nth N.inputs v)) := (bb.cell (p := ⟨gp, offp + v, none⟩) (by show gp < _; omega)).trans (HCP.out v hvi)
          obtain ⟨P2, cP2, k0, k1, k2, kP2, hNB5, hfr4⟩ := NBx.setInput (w := w8.drew) (i := u) (nth N.inputs v) (NBx.new hNB4 ((Below.refl _ _).drew)) (by show u < ((dcI N.inputs N.ends.length v).set v _).length; rw [List.length_set, dcI_length, ← HN2.out]; exact hun)
          have k0' : w8.cell? ⟨b, 2, none⟩ = some (.slice (some ⟨P2, 0, none⟩) n2 cP2) := by
            have h9 : w8.cell? ⟨b, 2, none⟩ = some (.slice (some ⟨P2, 0, none⟩) ((dcI N.inputs N.ends.length v).set v (nth N.inputs v)).length cP2) := k0
            rwa [List.length_set, dcI_length, ← HN2.out] at h9
          have q2 := BA.cell 2 _ rfl
          have hBA7 : Bx w8.drew w.heap.size 29 #[.slice (some ⟨g0, off0, none⟩) N.ends.length c0, .slice ai0 N.ids.length ci0, .slice (some ⟨gp, offp, none⟩) N.inputs.length cp0] := BA
          have hBR7 : Bx w8.drew (w.heap.size + 1) 29 #[.slice none 0 0, .slice none 0 0, .slice none 0 0] := BR
          have bb7 := bb.drew
          have z7 : lo ≤ w8.drew.heap.size := zlo
          clear k0
          go_still_tail 10, (by kernel_rfl)
          change wpList _ _ _ _ _ w8.drew
          clear hcp1 k0' q2 BA BR bb zlo hNB4
          generalize w8.drew = w9 at *
          have BA := hBA7.fr hfr4 (by omega)
          have BR := hBR7.fr hfr4 (by omega)
          have bb := bb7.trans (hfr4.below (B := w.heap.size) (fun x h1 h2 hc => by omega) bb7.size)
          have zlo : lo ≤ (w9.setCell ⟨P2, u, none⟩ (.int .i64 (nth N.inputs v))).heap.size := Nat.le_trans z7 hfr4.size
          have hNB6 : NBx (w9.setCell ⟨P2, u, none⟩ (.int .i64 (nth N.inputs v))) lo b { ends := dcT N.ends N.ends.length (v + 1) 0, ids := [], inputs := (dcI N.inputs N.ends.length (v + 1)) } := by rw [← HSET.out]; exact hNB5
          clear hNB5 hBA7 hBR7 bb7 hfr4 z7
          go_wp2_with fail
          go_roundw
          case rel => exact ⟨v + 1, by omega, by go_num, hNB6, BA, BR, bb, zlo⟩
          case measure => simp [intOf]; omega
    · have HVK := Lib.hid (show v = N.ends.length by omega)
      rw [HVK.out] at hNB
      have HDN := Lib.hid (show ({ ends := dcT N.ends N.ends.length N.ends.length 0, ids := [], inputs := dcI N.inputs N.ends.length N.ends.length } : Net) = dcN N by rw [dcI_all _ _ HSM.out.2.2.2.2]; rfl)
      rw [HDN.out] at hNB
      obtain ⟨Nk, hNk⟩ : ∃ Nk, Nk = dcN N := ⟨_, rfl⟩
      rw [← hNk] at hNB
      have HNk := Lib.hid hNk
      clear hNk HDN
      obtain ⟨ax, cx, aix, cix, apx, cpx, BO, own9⟩ := hNB.at_
      have q0 := BO.cell 0 _ rfl
      have q1 := BO.cell 1 _ rfl
      have q2 := BO.cell 2 _ rfl
      have e0 := BR.cell 0 _ rfl
      have e1 := BR.cell 1 _ rfl
      have e2 := BR.cell 2 _ rfl
      have f0 := BR.frozen 0
      have f1 := BR.frozen 1
      have f2 := BR.frozen 2
      go_wp2_with fail
      clear q0 q1 q2 e0 e1 e2 f0 f1 f2
      generalize hW : World.setCell _ _ _ = W
      have B6 : Bx W (w.heap.size + 1) 29 #[.slice ax Nk.ends.length cx, .slice aix Nk.ids.length cix, .slice apx Nk.inputs.length cpx] := by rw [← hW]; exact ((BR.set 0 _).set 1 _).set 2 _
      have fr6 : Fr (fun k => k = w.heap.size + 1) wr W := by rw [← hW]; exact fr3 _ _ _ _ _
      clear hW
      have z6 := fr6.size
      have d0 := B6.cell 0 _ rfl
      have d1 := B6.cell 1 _ rfl
      have d2 := B6.cell 2 _ rfl
      refine bodyPost_ret (v := .agg #[.slice ax Nk.ends.length cx, .slice aix Nk.ids.length cix, .slice apx Nk.inputs.length cpx]) (by simp [results, Try.results45, go_sem, d0, d1, d2]) rfl ?_
      rw [← HNk.out]
      exact ⟨_, rfl, (own9.frBx BR fr6).wide (by omega) (by omega), bb.trans (fr6.below (fun k h1 h2 hc => by omega) bb.size)⟩
set_option maxRecDepth 100000 in
set_option maxHeartbeats 800000 in
theorem dblS_any (V : Value) (N : Net) (w : World) (B : Nat) (hv : NetIn w B V N) (hB : B ≤ w.heap.size) (hs : NetSmall N) :
    Calls Try.prog 17 #[V] w (PostN (dcRR N) (dcOk N) w) := by
  have HV := Lib.hid hv
  have HS := Lib.hid hs
  obtain ⟨a, c, vs, ai, ci, ap, cp, rfl, h1, _⟩ := hv
  have hl : N.ends.length ≤ 1048576 := by unfold NetSmall at hs; omega
  have BA := (Bx.made w 29 #[.slice a N.ends.length c, .slice ai N.ids.length ci, .slice ap N.inputs.length cp]).alloc (.cells #[.slice none 0 0, .slice none 0 0, .slice none 0 0] 29)
  have BR := Bx.made (w.alloc (.cells #[.slice a N.ends.length c, .slice ai N.ids.length ci, .slice ap N.inputs.length cp] 29)) 29 #[.slice none 0 0, .slice none 0 0, .slice none 0 0]
  have b0 : Below w.heap.size w ((w.alloc (.cells #[.slice a N.ends.length c, .slice ai N.ids.length ci, .slice ap N.inputs.length cp] 29)).alloc (.cells #[.slice none 0 0, .slice none 0 0, .slice none 0 0] 29)) := (by repeat (first | exact Below.refl _ _ | assumption | refine Below.alloc ?_ (by first | (simp; done) | (simp; omega) | omega) _ | refine Below.setCell ?_ (by first | (simp; done) | (simp; omega) | omega) _ | refine Below.drew ?_ | refine Below.drewN ?_ _))
  have z0 : w.heap.size + 1 + 1 ≤ ((w.alloc (.cells #[.slice a N.ends.length c, .slice ai N.ids.length ci, .slice ap N.inputs.length cp] 29)).alloc (.cells #[.slice none 0 0, .slice none 0 0, .slice none 0 0] 29)).heap.size := by simp
  rw [World.size_alloc] at BR
  clear hs h1
  go_enter Try.func17, Try.ntmps17
  go_wp2_with fail
  generalize (w.alloc (.cells #[.slice a N.ends.length c, .slice ai N.ids.length ci, .slice ap N.inputs.length cp] 29)).alloc (.cells #[.slice none 0 0, .slice none 0 0, .slice none 0 0] 29) = w0 at *
  refine (neGood_any _ N _ B (HV.out.below (b0.mono hB)) (Nat.le_trans hB b0.size) HS.out).mono ?_
  rintro e w1 ⟨rfl, bel1⟩
  replace BA := BA.new bel1
  replace BR := BR.new bel1
  have z1 := bel1.size
  have bb := b0.trans (bel1.mono b0.size)
  clear b0 bel1
  cases hn : netB N with
  | false =>
    have HF := Lib.hid (dcOk_f hn)
    clear hn
    have e0 := BR.cell 0 _ rfl
    have e1 := BR.cell 1 _ rfl
    have e2 := BR.cell 2 _ rfl
    have f0 := BR.frozen 0
    have f1 := BR.frozen 1
    have f2 := BR.frozen 2
    go_wp2_with fail
    clear e0 e1 e2 f0 f1 f2
    generalize hW : World.setCell _ _ _ = W
    have B6 : Bx W (w.heap.size + 1) 29 #[.slice none 0 0, .slice none 0 0, .slice none 0 0] := by rw [← hW]; exact ((BR.set 0 _).set 1 _).set 2 _
    have fr6 : Fr (fun k => k = w.heap.size + 1) w1 W := by rw [← hW]; exact fr3 _ _ _ _ _
    clear hW
    have z6 := fr6.size
    have d0 := B6.cell 0 _ rfl
    have d1 := B6.cell 1 _ rfl
    have d2 := B6.cell 2 _ rfl
    refine bodyPost_ret (v := .tuple #[.agg #[.slice none 0 0, .slice none 0 0, .slice none 0 0], .bool false]) (by simp [results, Try.results17, go_sem, d0, d1, d2]) rfl ?_
    rw [dcRR_f HF.out, id HF.out]
    exact ⟨_, rfl, NetAt.nilN _ _ _, bb.trans (fr6.below (fun k h1 h2 hc => by omega) bb.size)⟩
  | true =>
    have HN := Lib.hid hn
    have HSJ := Lib.hid (dcN_small hn)
    clear hn
    have c0 := BA.cell 0 _ rfl
    have c1 := BA.cell 1 _ rfl
    have c2 := BA.cell 2 _ rfl
    go_wp2_with fail
    refine (buDouble_any _ N _ B (HV.out.below (bb.mono hB)) (Nat.le_trans hB bb.size) HS.out HN.out).mono ?_
    rintro e w2 ⟨x2, rfl, own2, bel2⟩
    replace BR := BR.new bel2
    replace bb := bb.trans (bel2.mono bb.size)
    have z2 := bel2.size
    clear c0 c1 c2 bel2 BA
    obtain ⟨Nk, hNk⟩ : ∃ Nk, Nk = dcN N := ⟨_, rfl⟩
    rw [← hNk] at own2 HSJ
    have HNk := Lib.hid hNk
    clear hNk
    go_wp2_with fail
    refine (neIf_any _ Nk _ _ _ own2 (Nat.le_refl _) z2 HSJ.out).mono ?_
    rintro e w3 ⟨x3, rfl, own3, bel3⟩
    replace BR := BR.new bel3
    replace bb := bb.trans (bel3.mono bb.size)
    have z3 := bel3.size
    clear bel3 own2
    obtain ⟨ax, cx, aix, cix, apx, cpx, rfl, own3⟩ := own3.shape
    generalize hRR : ifN (netB (Nk)) (Nk) = RR at *
    generalize hOO : netB (Nk) = oo at *
    have HRR := Lib.hid hRR
    have HOO := Lib.hid hOO
    clear hRR hOO
    have e0 := BR.cell 0 _ rfl
    have e1 := BR.cell 1 _ rfl
    have e2 := BR.cell 2 _ rfl
    have f0 := BR.frozen 0
    have f1 := BR.frozen 1
    have f2 := BR.frozen 2
    go_wp2_with fail
    clear e0 e1 e2 f0 f1 f2
    generalize hW : World.setCell _ _ _ = W
    have B6 : Bx W (w.heap.size + 1) 29 #[.slice ax RR.ends.length cx, .slice aix RR.ids.length cix, .slice apx RR.inputs.length cpx] := by rw [← hW]; exact ((BR.set 0 _).set 1 _).set 2 _
    have fr6 : Fr (fun k => k = w.heap.size + 1) w3 W := by rw [← hW]; exact fr3 _ _ _ _ _
    clear hW
    have z6 := fr6.size
    have d0 := B6.cell 0 _ rfl
    have d1 := B6.cell 1 _ rfl
    have d2 := B6.cell 2 _ rfl
    refine bodyPost_ret (v := .tuple #[.agg #[.slice ax RR.ends.length cx, .slice aix RR.ids.length cix, .slice apx RR.inputs.length cpx], .bool oo]) (by simp [results, Try.results17, go_sem, d0, d1, d2]) rfl ?_
    rw [dcRR_t HN.out, dcOk_t HN.out, ← HNk.out, HOO.out, HRR.out]
    exact ⟨_, rfl, (own3.frBx BR fr6).wide (lo' := w.heap.size) (hi' := W.heap.size) (by omega) (by omega), bb.trans (fr6.below (fun k h1 h2 hc => by omega) bb.size)⟩
set_option maxRecDepth 100000 in
set_option maxHeartbeats 6400000 in
theorem dbl_any (V : Value) (N : Net) (w : World) (B : Nat) (hv : NetIn w B V N) (hB : B ≤ w.heap.size) (hs : NetSmall N) :
    Calls Try.prog 18 #[V] w (PostN (dcRR N) (dcOk N) w) := by
  have hv2 := Lib.hid hv
  have HV := Lib.hid hv
  have HS := Lib.hid hs
  obtain ⟨a, c, vs, ai, ci, ap, cp, rfl, h1, _⟩ := hv
  have hl : N.ends.length ≤ 1048576 := by unfold NetSmall at hs; omega
  have BA := (Bx.made w 29 #[.slice a N.ends.length c, .slice ai N.ids.length ci, .slice ap N.inputs.length cp]).alloc (.cells #[.slice none 0 0, .slice none 0 0, .slice none 0 0] 29)
  have BR := Bx.made (w.alloc (.cells #[.slice a N.ends.length c, .slice ai N.ids.length ci, .slice ap N.inputs.length cp] 29)) 29 #[.slice none 0 0, .slice none 0 0, .slice none 0 0]
  have b0 : Below w.heap.size w ((w.alloc (.cells #[.slice a N.ends.length c, .slice ai N.ids.length ci, .slice ap N.inputs.length cp] 29)).alloc (.cells #[.slice none 0 0, .slice none 0 0, .slice none 0 0] 29)) := (by repeat (first | exact Below.refl _ _ | assumption | refine Below.alloc ?_ (by first | (simp; done) | (simp; omega) | omega) _ | refine Below.setCell ?_ (by first | (simp; done) | (simp; omega) | omega) _ | refine Below.drew ?_ | refine Below.drewN ?_ _))
  have z0 : w.heap.size + 1 + 1 ≤ ((w.alloc (.cells #[.slice a N.ends.length c, .slice ai N.ids.length ci, .slice ap N.inputs.length cp] 29)).alloc (.cells #[.slice none 0 0, .slice none 0 0, .slice none 0 0] 29)).heap.size := by simp
  rw [World.size_alloc] at BR
  clear hs h1
  go_enter Try.func18, Try.ntmps18
  go_wp2_with fail
  generalize (w.alloc (.cells #[.slice a N.ends.length c, .slice ai N.ids.length ci, .slice ap N.inputs.length cp] 29)).alloc (.cells #[.slice none 0 0, .slice none 0 0, .slice none 0 0] 29) = w0 at *
  refine (isNetwork_any _ N _ B (HV.out.below (b0.mono hB)).rd (Nat.le_trans hB b0.size) HS.out).mono ?_
  rintro e w1 ⟨rfl, bel1⟩
  replace BA := BA.new bel1
  replace BR := BR.new bel1
  have z1 := bel1.size
  have bb := b0.trans (bel1.mono b0.size)
  clear b0 bel1
  cases hn : netB N with
  | false =>
    have HF := Lib.hid (dcOk_f hn)
    clear hn
    have e0 := BR.cell 0 _ rfl
    have e1 := BR.cell 1 _ rfl
    have e2 := BR.cell 2 _ rfl
    have f0 := BR.frozen 0
    have f1 := BR.frozen 1
    have f2 := BR.frozen 2
    go_wp2_with fail
    clear e0 e1 e2 f0 f1 f2
    generalize hW : World.setCell _ _ _ = W
    have B6 : Bx W (w.heap.size + 1) 29 #[.slice none 0 0, .slice none 0 0, .slice none 0 0] := by rw [← hW]; exact ((BR.set 0 _).set 1 _).set 2 _
    have fr6 : Fr (fun k => k = w.heap.size + 1) w1 W := by rw [← hW]; exact fr3 _ _ _ _ _
    clear hW
    have z6 := fr6.size
    have d0 := B6.cell 0 _ rfl
    have d1 := B6.cell 1 _ rfl
    have d2 := B6.cell 2 _ rfl
    refine bodyPost_ret (v := .tuple #[.agg #[.slice none 0 0, .slice none 0 0, .slice none 0 0], .bool false]) (by simp [results, Try.results18, go_sem, d0, d1, d2]) rfl ?_
    rw [dcRR_f HF.out, id HF.out]
    exact ⟨_, rfl, NetAt.nilN _ _ _, bb.trans (fr6.below (fun k h1 h2 hc => by omega) bb.size)⟩
  | true =>
  have HN := Lib.hid hn
  have HSM := Lib.hid (netB_small hn)
  have HSJ := Lib.hid (dcN_small hn)
  clear hn
  obtain ⟨a0, c0, vs0, ai0, ci0, ap0, cp0, heq, h1, h2, h3, _⟩ := hv2.out
  replace heq := heq.symm
  simp only [Value.agg.injEq, Array.mk.injEq, List.cons.injEq, Value.slice.injEq, and_true, true_and] at heq
  obtain ⟨⟨rfl, rfl⟩, ⟨rfl, rfl⟩, rfl, rfl⟩ := heq
  have hle : N.ends.length ≤ 40 := HSM.out.1
  have hge : 1 ≤ N.ends.length := HSM.out.2.1
  obtain ⟨g0, off0, rfl, hg0, hc0⟩ := h1.1 (by omega)
  have hrow0 := h1.2
  have HI3 := Lib.hid h3
  obtain ⟨gp, offp, rfl, hgp, hcp⟩ := h3 (by have := HSM.out; omega)
  have hil1 : 0 < N.inputs.length := by have := HSM.out; omega
  have hil2 : N.inputs.length ≤ 1000 := by have := HSM.out; omega
  have HC0 := Lib.hid hc0
  have HCP := Lib.hid hcp
  have HR0 := Lib.hid hrow0
  clear h1 h2 h3 hc0 hcp hrow0
  have q0 := BA.cell 0 _ rfl
  obtain ⟨n2, hn2⟩ : ∃ n2, n2 = N.ends.length + N.ends.length := ⟨_, rfl⟩
  have hwn2 : IntKind.i64.wrap (2 * (N.ends.length : Int)) = (n2 : Int) := by rw [wrapD _ (by omega)]; omega
  have hn2b : n2 ≤ 80 := by omega
  have HN2 := Lib.hid hn2
  clear hn2
  have zz : w.heap.size + 1 + 1 ≤ w1.heap.size := by omega
  obtain ⟨II, hII⟩ : ∃ II, II = N.inputs ++ N.inputs := ⟨_, rfl⟩
  have HII := Lib.hid hII
  clear hII
  go_upto_region 4 with fail
  clear q0
  go_cut [5] (fun p W => ∃ go ge ap' cp', p = .pointer (some ⟨go, 0, none⟩) ∧ Bx W w.heap.size 29 #[.slice (some ⟨g0, off0, none⟩) N.ends.length c0, .slice ai0 N.ids.length ci0, .slice (some ⟨gp, offp, none⟩) N.inputs.length cp0] ∧ Bx W (w.heap.size + 1) 29 #[.slice none 0 0, .slice none 0 0, .slice none 0 0] ∧ Bx W go 29 #[.slice (some ⟨ge, 0, none⟩) n2 n2, .slice none 0 0, .slice ap' II.length cp'] ∧ W.rowIs ge 60 n2 (fun _ => .slice none 0 0) ∧ OwI W (w.heap.size + 1 + 1) W.heap.size ap' cp' II ∧ Below w.heap.size w W ∧ w.heap.size + 1 + 1 ≤ W.heap.size ∧ w.heap.size + 1 + 1 ≤ ge ∧ w.heap.size + 1 + 1 ≤ go ∧ ge ≠ go)
  case first =>
    replace BA : Bx w1.drew w.heap.size 29 #[.slice (some ⟨g0, off0, none⟩) N.ends.length c0, .slice ai0 N.ids.length ci0, .slice (some ⟨gp, offp, none⟩) N.inputs.length cp0] := BA
    replace BR : Bx w1.drew (w.heap.size + 1) 29 #[.slice none 0 0, .slice none 0 0, .slice none 0 0] := BR
    replace bb := bb.drew
    replace zz : w.heap.size + 1 + 1 ≤ w1.drew.heap.size := zz
    replace z1 : w.heap.size + 1 + 1 ≤ w1.drew.heap.size := zz
    refine wp_region_held_drew (S := fun X => X.cell? ⟨w.heap.size, 2, none⟩ = some (.slice (some ⟨gp, offp, none⟩) N.inputs.length cp0)) (by kernel_rfl) (BA.cell 2 _ rfl) (fun hHeld => ?_)
    generalize w1.drew = wd at *
    refine wpAnyH_take (i := 0) (v := ?_) rfl (by kernel_rfl) (by kernel_rfl) (by kernel_rfl) (fun _ _ _ h => h) (Or.inl ⟨by rfl, ?_⟩) (by assumption) ?_
    rotate_left
    · (intro w hSw; (try dsimp only at hSw); go_simp; try with_reducible rfl)
    try simp only [Act.put, List.getElem_toArray, List.getElem_cons_zero, List.getElem_cons_succ, List.setIfInBounds_toArray, List.set_cons_zero, List.set_cons_succ]
    refine wpAnyH_take (i := 1) (v := ?_) rfl (by kernel_rfl) (by kernel_rfl) (by kernel_rfl) (fun _ _ _ h => h) (Or.inl ⟨by rfl, ?_⟩) (by assumption) ?_
    rotate_left
    · (intro w hSw; (try dsimp only at hSw); go_simp; try with_reducible rfl)
    try simp only [Act.put, List.getElem_toArray, List.getElem_cons_zero, List.getElem_cons_succ, List.setIfInBounds_toArray, List.set_cons_zero, List.set_cons_succ]
    refine wpAnyH_take (i := 3) (v := ?_) rfl (by kernel_rfl) (by kernel_rfl) (by kernel_rfl) (fun _ _ _ h => h) (Or.inl ⟨by rfl, ?_⟩) (by assumption) ?_
    rotate_left
    · (intro w hSw; (try dsimp only at hSw); go_simp; try with_reducible rfl)
    try simp only [Act.put, List.getElem_toArray, List.getElem_cons_zero, List.getElem_cons_succ, List.setIfInBounds_toArray, List.set_cons_zero, List.set_cons_succ]
    refine wpAnyH_take (i := 4) (v := ?_) rfl (by kernel_rfl) (by kernel_rfl) (by kernel_rfl) (fun _ _ _ h => h) (Or.inl ⟨by rfl, ?_⟩) (by assumption) ?_
    rotate_left
    · (intro w hSw; (try dsimp only at hSw); go_simp; try with_reducible rfl)
    try simp only [Act.put, List.getElem_toArray, List.getElem_cons_zero, List.getElem_cons_succ, List.setIfInBounds_toArray, List.set_cons_zero, List.set_cons_succ]
    refine wpAnyH_take (i := 5) (v := ?_) rfl (by kernel_rfl) (by kernel_rfl) (by kernel_rfl) (fun _ _ _ h => h) (Or.inl ⟨by rfl, ?_⟩) (by assumption) ?_
    rotate_left
    · (intro w hSw; (try dsimp only at hSw); go_simp; try with_reducible rfl)
    try simp only [Act.put, List.getElem_toArray, List.getElem_cons_zero, List.getElem_cons_succ, List.setIfInBounds_toArray, List.set_cons_zero, List.set_cons_succ]
    refine wpAnyH_take (i := 6) (v := ?_) rfl (by kernel_rfl) (by kernel_rfl) (by kernel_rfl) (fun _ _ _ h => h) (Or.inl ⟨by rfl, ?_⟩) (by assumption) ?_
    rotate_left
    · (intro w hSw; (try dsimp only at hSw); go_simp; try with_reducible rfl)
    try simp only [Act.put, List.getElem_toArray, List.getElem_cons_zero, List.getElem_cons_succ, List.setIfInBounds_toArray, List.set_cons_zero, List.set_cons_succ]
    refine wpAnyH_ready (rs := [2, 7, 10]) (by kernel_rfl) (by simp) ?_
    refine AllReadyH.cons (o := _) rfl (fun K hK => ?_) (AllReadyH.cons (o := _) rfl (fun K hK => ?_) (AllReadyH.cons (o := _) rfl (fun K hK => ?_) AllReadyH.nil))
    rw [if_pos (by rfl)]
    refine step_mk _ _ _ _ rfl 60 (.slice none 0 0) 24 Try.underlying27 ends_info rfl .i64 .i64 _ _ n2 rfl rfl rfl rfl (by omega) (by omega) ?_
    intro wm hrow hzm belm
    replace BA := BA.new belm
    replace BR := BR.new belm
    have z_belm := belm.size
    replace bb := bb.trans (belm.mono bb.size)
    obtain ⟨ge, hge⟩ : ∃ ge, ge = wd.heap.size := ⟨_, rfl⟩
    rw [← hge] at hrow ⊢
    have zge : w.heap.size + 1 + 1 ≤ ge := by omega
    clear hge belm
    refine hK.out _ _ (BA.cell 2 _ rfl) (fun hHeld => ?_)
    clear hK K
    try simp only [Act.put, List.getElem_toArray, List.getElem_cons_zero, List.getElem_cons_succ, List.setIfInBounds_toArray, List.set_cons_zero, List.set_cons_succ]
    refine wpAnyH_ready (rs := [7, 10]) (by kernel_rfl) (by simp) ?_
    refine AllReadyH.cons (o := _) rfl (fun K hK => ?_) (AllReadyH.cons (o := _) rfl (fun K hK => ?_) AllReadyH.nil)
    go_simp
    have BC := Bx.made wm 23 #[(.slice (some ⟨gp, offp, none⟩) N.inputs.length cp0), (.slice (some ⟨gp, offp, none⟩) N.inputs.length cp0)]
    have bc : Below wm.heap.size wm (wm.alloc (.cells #[(.slice (some ⟨gp, offp, none⟩) N.inputs.length cp0), (.slice (some ⟨gp, offp, none⟩) N.inputs.length cp0)] 23)) := (by repeat (first | exact Below.refl _ _ | assumption | refine Below.alloc ?_ (by first | (simp; done) | (simp; omega) | omega) _ | refine Below.setCell ?_ (by first | (simp; done) | (simp; omega) | omega) _ | refine Below.drew ?_ | refine Below.drewN ?_ _))
    replace BA := BA.new bc
    replace BR := BR.new bc
    replace hrow := hrow.of_block (bc.block _ hrow.lt)
    have z_bc := bc.size
    replace bb := bb.trans (bc.mono bb.size)
    obtain ⟨gc, hgc⟩ : ∃ gc, gc = wm.heap.size := ⟨_, rfl⟩
    rw [← hgc] at BC ⊢
    clear bc hgc
    generalize wm.alloc (.cells #[(.slice (some ⟨gp, offp, none⟩) N.inputs.length cp0), (.slice (some ⟨gp, offp, none⟩) N.inputs.length cp0)] 23) = wc at *
    refine hK.out _ _ (BA.cell 2 _ rfl) (fun hHeld => ?_)
    clear hK K
    try simp only [Act.put, List.getElem_toArray, List.getElem_cons_zero, List.getElem_cons_succ, List.setIfInBounds_toArray, List.set_cons_zero, List.set_cons_succ]
    refine wpAnyH_ready (rs := [8, 10]) (by kernel_rfl) (by simp) ?_
    refine AllReadyH.cons (o := _) rfl (fun K hK => ?_) (AllReadyH.cons (o := _) rfl (fun K hK => ?_) AllReadyH.nil)
    go_simp
    refine (concat2_any gc _ cp0 N.inputs _ B (Rd.below HI3.out (bb.mono hB)) (Nat.le_trans hB bb.size) (BC.cell 0 _ rfl) (BC.cell 1 _ rfl) (by omega) (by omega)).mono ?_
    rintro e wp ⟨ap', cp', rfl, ownp, belp⟩
    rw [← HII.out] at ownp ⊢
    clear BC
    replace BA := BA.new belp
    replace BR := BR.new belp
    replace hrow := hrow.of_block (belp.block _ hrow.lt)
    have z_belp := belp.size
    replace bb := bb.trans (belp.mono bb.size)
    clear belp
    refine hK.out _ _ (BA.cell 2 _ rfl) (fun hHeld => ?_)
    clear hK K
    try simp only [Act.put, List.getElem_toArray, List.getElem_cons_zero, List.getElem_cons_succ, List.setIfInBounds_toArray, List.set_cons_zero, List.set_cons_succ]
    refine wpAnyH_take (i := 9) (v := ?_) rfl (by kernel_rfl) (by kernel_rfl) (by kernel_rfl) (fun _ _ _ h => h) (Or.inl ⟨by rfl, ?_⟩) (by assumption) ?_
    rotate_left
    · (intro w hSw; (try dsimp only at hSw); go_simp; try with_reducible rfl)
    try simp only [Act.put, List.getElem_toArray, List.getElem_cons_zero, List.getElem_cons_succ, List.setIfInBounds_toArray, List.set_cons_zero, List.set_cons_succ]
    refine wpAnyH_ready (rs := [10]) (by kernel_rfl) (by simp) ?_
    refine AllReadyH.cons (o := _) rfl (fun K hK => ?_) AllReadyH.nil
    go_simp
    have BO := Bx.made wp 29 #[.slice none 0 0, .slice none 0 0, .slice none 0 0]
    have ba : Below wp.heap.size wp (wp.alloc (.cells #[.slice none 0 0, .slice none 0 0, .slice none 0 0] 29)) := (by repeat (first | exact Below.refl _ _ | assumption | refine Below.alloc ?_ (by first | (simp; done) | (simp; omega) | omega) _ | refine Below.setCell ?_ (by first | (simp; done) | (simp; omega) | omega) _ | refine Below.drew ?_ | refine Below.drewN ?_ _))
    replace BA := BA.new ba
    replace BR := BR.new ba
    replace hrow := hrow.of_block (ba.block _ hrow.lt)
    replace ownp := Ow.new ownp ba
    have z_ba := ba.size
    replace bb := bb.trans (ba.mono bb.size)
    obtain ⟨go, hgo⟩ : ∃ go, go = wp.heap.size := ⟨_, rfl⟩
    rw [← hgo] at BO ⊢
    have zgo : w.heap.size + 1 + 1 ≤ go := by omega
    clear ba hgo
    generalize wp.alloc (.cells #[.slice none 0 0, .slice none 0 0, .slice none 0 0] 29) = wo at *
    refine hK.out _ _ (BA.cell 2 _ rfl) (fun hHeld => ?_)
    clear hK K
    try simp only [Act.put, List.getElem_toArray, List.getElem_cons_zero, List.getElem_cons_succ, List.setIfInBounds_toArray, List.set_cons_zero, List.set_cons_succ]
    refine wpAnyH_ready (rs := [11]) (by kernel_rfl) (by simp) ?_
    refine AllReadyH.cons (o := _) rfl (fun K hK => ?_) AllReadyH.nil
    have c0 := BO.cell 0 _ rfl
    have f0 := BO.frozen 0
    have c1 := BO.cell 1 _ rfl
    have f1 := BO.frozen 1
    have c2 := BO.cell 2 _ rfl
    have f2 := BO.frozen 2
    go_simp
    clear c0 c1 c2 f0 f1 f2
    generalize hW : World.setCell _ _ _ = W
    have BO2 : Bx W go 29 #[.slice (some ⟨ge, 0, none⟩) n2 n2, .slice none 0 0, .slice ap' II.length cp'] := by rw [← hW]; exact ((BO.set 0 _).set 1 _).set 2 _
    have frW : Fr (fun k => k = go) wo W := by rw [← hW]; exact fr3 _ _ _ _ _
    replace ownp := Ow.wide (lo' := w.heap.size + 1 + 1) (hi' := W.heap.size) (Ow.frB ownp frW (fun k hk hc => BO.ne_row ownp (by decide) (hc ▸ hk))) (by omega) (by have := frW.size; omega)
    have hgg : ge ≠ go := BO.ne_rowIs hrow (by decide)
    replace hrow := hrow.of_block (frW.block _ hrow.lt hgg)
    clear hW BO
    replace BA := BA.fr frW (by omega)
    replace BR := BR.fr frW (by omega)
    replace bb := bb.trans (frW.below (B := w.heap.size) (fun k h1 h2 hc => by omega) bb.size)
    have zW : w.heap.size + 1 + 1 ≤ W.heap.size := by have := frW.size; omega
    refine hK.out _ _ (BA.cell 2 _ rfl) (fun hHeld => ?_)
    clear hK K
    try simp only [Act.put, List.getElem_toArray, List.getElem_cons_zero, List.getElem_cons_succ, List.setIfInBounds_toArray, List.set_cons_zero, List.set_cons_succ]
    refine wpAnyH_done (by kernel_rfl) ?_ _
    rotate_left
    go_simp
    have BO := Bx.made wc 29 #[.slice none 0 0, .slice none 0 0, .slice none 0 0]
    have ba : Below wc.heap.size wc (wc.alloc (.cells #[.slice none 0 0, .slice none 0 0, .slice none 0 0] 29)) := (by repeat (first | exact Below.refl _ _ | assumption | refine Below.alloc ?_ (by first | (simp; done) | (simp; omega) | omega) _ | refine Below.setCell ?_ (by first | (simp; done) | (simp; omega) | omega) _ | refine Below.drew ?_ | refine Below.drewN ?_ _))
    replace BA := BA.new ba
    replace BR := BR.new ba
    replace hrow := hrow.of_block (ba.block _ hrow.lt)
    replace BC := BC.new ba
    have z_ba := ba.size
    replace bb := bb.trans (ba.mono bb.size)
    obtain ⟨go, hgo⟩ : ∃ go, go = wc.heap.size := ⟨_, rfl⟩
    rw [← hgo] at BO ⊢
    have zgo : w.heap.size + 1 + 1 ≤ go := by omega
    clear ba hgo
    generalize wc.alloc (.cells #[.slice none 0 0, .slice none 0 0, .slice none 0 0] 29) = wo at *
    refine hK.out _ _ (BA.cell 2 _ rfl) (fun hHeld => ?_)
    clear hK K
    try simp only [Act.put, List.getElem_toArray, List.getElem_cons_zero, List.getElem_cons_succ, List.setIfInBounds_toArray, List.set_cons_zero, List.set_cons_succ]
    refine wpAnyH_ready (rs := [8]) (by kernel_rfl) (by simp) ?_
    refine AllReadyH.cons (o := _) rfl (fun K hK => ?_) AllReadyH.nil
    go_simp
    refine (concat2_any gc _ cp0 N.inputs _ B (Rd.below HI3.out (bb.mono hB)) (Nat.le_trans hB bb.size) (BC.cell 0 _ rfl) (BC.cell 1 _ rfl) (by omega) (by omega)).mono ?_
    rintro e wp ⟨ap', cp', rfl, ownp, belp⟩
    rw [← HII.out] at ownp ⊢
    clear BC
    replace BA := BA.new belp
    replace BR := BR.new belp
    replace BO := BO.new belp
    replace hrow := hrow.of_block (belp.block _ hrow.lt)
    have z_belp := belp.size
    replace bb := bb.trans (belp.mono bb.size)
    clear belp
    refine hK.out _ _ (BA.cell 2 _ rfl) (fun hHeld => ?_)
    clear hK K
    try simp only [Act.put, List.getElem_toArray, List.getElem_cons_zero, List.getElem_cons_succ, List.setIfInBounds_toArray, List.set_cons_zero, List.set_cons_succ]
    refine wpAnyH_take (i := 9) (v := ?_) rfl (by kernel_rfl) (by kernel_rfl) (by kernel_rfl) (fun _ _ _ h => h) (Or.inl ⟨by rfl, ?_⟩) (by assumption) ?_
    rotate_left
    · (intro w hSw; (try dsimp only at hSw); go_simp; try with_reducible rfl)
    try simp only [Act.put, List.getElem_toArray, List.getElem_cons_zero, List.getElem_cons_succ, List.setIfInBounds_toArray, List.set_cons_zero, List.set_cons_succ]
    refine wpAnyH_ready (rs := [11]) (by kernel_rfl) (by simp) ?_
    refine AllReadyH.cons (o := _) rfl (fun K hK => ?_) AllReadyH.nil
    have c0 := BO.cell 0 _ rfl
    have f0 := BO.frozen 0
    have c1 := BO.cell 1 _ rfl
    have f1 := BO.frozen 1
    have c2 := BO.cell 2 _ rfl
    have f2 := BO.frozen 2
    go_simp
    clear c0 c1 c2 f0 f1 f2
    generalize hW : World.setCell _ _ _ = W
    have BO2 : Bx W go 29 #[.slice (some ⟨ge, 0, none⟩) n2 n2, .slice none 0 0, .slice ap' II.length cp'] := by rw [← hW]; exact ((BO.set 0 _).set 1 _).set 2 _
    have frW : Fr (fun k => k = go) wp W := by rw [← hW]; exact fr3 _ _ _ _ _
    replace ownp := Ow.wide (lo' := w.heap.size + 1 + 1) (hi' := W.heap.size) (Ow.frB ownp frW (fun k hk hc => BO.ne_row ownp (by decide) (hc ▸ hk))) (by omega) (by have := frW.size; omega)
    have hgg : ge ≠ go := BO.ne_rowIs hrow (by decide)
    replace hrow := hrow.of_block (frW.block _ hrow.lt hgg)
    clear hW BO
    replace BA := BA.fr frW (by omega)
    replace BR := BR.fr frW (by omega)
    replace bb := bb.trans (frW.below (B := w.heap.size) (fun k h1 h2 hc => by omega) bb.size)
    have zW : w.heap.size + 1 + 1 ≤ W.heap.size := by have := frW.size; omega
    refine hK.out _ _ (BA.cell 2 _ rfl) (fun hHeld => ?_)
    clear hK K
    try simp only [Act.put, List.getElem_toArray, List.getElem_cons_zero, List.getElem_cons_succ, List.setIfInBounds_toArray, List.set_cons_zero, List.set_cons_succ]
    refine wpAnyH_done (by kernel_rfl) ?_ _
    rotate_left
    go_simp
    have BO := Bx.made wm 29 #[.slice none 0 0, .slice none 0 0, .slice none 0 0]
    have ba : Below wm.heap.size wm (wm.alloc (.cells #[.slice none 0 0, .slice none 0 0, .slice none 0 0] 29)) := (by repeat (first | exact Below.refl _ _ | assumption | refine Below.alloc ?_ (by first | (simp; done) | (simp; omega) | omega) _ | refine Below.setCell ?_ (by first | (simp; done) | (simp; omega) | omega) _ | refine Below.drew ?_ | refine Below.drewN ?_ _))
    replace BA := BA.new ba
    replace BR := BR.new ba
    replace hrow := hrow.of_block (ba.block _ hrow.lt)
    have z_ba := ba.size
    replace bb := bb.trans (ba.mono bb.size)
    obtain ⟨go, hgo⟩ : ∃ go, go = wm.heap.size := ⟨_, rfl⟩
    rw [← hgo] at BO ⊢
    have zgo : w.heap.size + 1 + 1 ≤ go := by omega
    clear ba hgo
    generalize wm.alloc (.cells #[.slice none 0 0, .slice none 0 0, .slice none 0 0] 29) = wo at *
    refine hK.out _ _ (BA.cell 2 _ rfl) (fun hHeld => ?_)
    clear hK K
    try simp only [Act.put, List.getElem_toArray, List.getElem_cons_zero, List.getElem_cons_succ, List.setIfInBounds_toArray, List.set_cons_zero, List.set_cons_succ]
    refine wpAnyH_ready (rs := [7]) (by kernel_rfl) (by simp) ?_
    refine AllReadyH.cons (o := _) rfl (fun K hK => ?_) AllReadyH.nil
    go_simp
    have BC := Bx.made wo 23 #[(.slice (some ⟨gp, offp, none⟩) N.inputs.length cp0), (.slice (some ⟨gp, offp, none⟩) N.inputs.length cp0)]
    have bc : Below wo.heap.size wo (wo.alloc (.cells #[(.slice (some ⟨gp, offp, none⟩) N.inputs.length cp0), (.slice (some ⟨gp, offp, none⟩) N.inputs.length cp0)] 23)) := (by repeat (first | exact Below.refl _ _ | assumption | refine Below.alloc ?_ (by first | (simp; done) | (simp; omega) | omega) _ | refine Below.setCell ?_ (by first | (simp; done) | (simp; omega) | omega) _ | refine Below.drew ?_ | refine Below.drewN ?_ _))
    replace BA := BA.new bc
    replace BR := BR.new bc
    replace BO := BO.new bc
    replace hrow := hrow.of_block (bc.block _ hrow.lt)
    have z_bc := bc.size
    replace bb := bb.trans (bc.mono bb.size)
    obtain ⟨gc, hgc⟩ : ∃ gc, gc = wo.heap.size := ⟨_, rfl⟩
    rw [← hgc] at BC ⊢
    clear bc hgc
    generalize wo.alloc (.cells #[(.slice (some ⟨gp, offp, none⟩) N.inputs.length cp0), (.slice (some ⟨gp, offp, none⟩) N.inputs.length cp0)] 23) = wc at *
    refine hK.out _ _ (BA.cell 2 _ rfl) (fun hHeld => ?_)
    clear hK K
    try simp only [Act.put, List.getElem_toArray, List.getElem_cons_zero, List.getElem_cons_succ, List.setIfInBounds_toArray, List.set_cons_zero, List.set_cons_succ]
    refine wpAnyH_ready (rs := [8]) (by kernel_rfl) (by simp) ?_
    refine AllReadyH.cons (o := _) rfl (fun K hK => ?_) AllReadyH.nil
    go_simp
    refine (concat2_any gc _ cp0 N.inputs _ B (Rd.below HI3.out (bb.mono hB)) (Nat.le_trans hB bb.size) (BC.cell 0 _ rfl) (BC.cell 1 _ rfl) (by omega) (by omega)).mono ?_
    rintro e wp ⟨ap', cp', rfl, ownp, belp⟩
    rw [← HII.out] at ownp ⊢
    clear BC
    replace BA := BA.new belp
    replace BR := BR.new belp
    replace BO := BO.new belp
    replace hrow := hrow.of_block (belp.block _ hrow.lt)
    have z_belp := belp.size
    replace bb := bb.trans (belp.mono bb.size)
    clear belp
    refine hK.out _ _ (BA.cell 2 _ rfl) (fun hHeld => ?_)
    clear hK K
    try simp only [Act.put, List.getElem_toArray, List.getElem_cons_zero, List.getElem_cons_succ, List.setIfInBounds_toArray, List.set_cons_zero, List.set_cons_succ]
    refine wpAnyH_take (i := 9) (v := ?_) rfl (by kernel_rfl) (by kernel_rfl) (by kernel_rfl) (fun _ _ _ h => h) (Or.inl ⟨by rfl, ?_⟩) (by assumption) ?_
    rotate_left
    · (intro w hSw; (try dsimp only at hSw); go_simp; try with_reducible rfl)
    try simp only [Act.put, List.getElem_toArray, List.getElem_cons_zero, List.getElem_cons_succ, List.setIfInBounds_toArray, List.set_cons_zero, List.set_cons_succ]
    refine wpAnyH_ready (rs := [11]) (by kernel_rfl) (by simp) ?_
    refine AllReadyH.cons (o := _) rfl (fun K hK => ?_) AllReadyH.nil
    have c0 := BO.cell 0 _ rfl
    have f0 := BO.frozen 0
    have c1 := BO.cell 1 _ rfl
    have f1 := BO.frozen 1
    have c2 := BO.cell 2 _ rfl
    have f2 := BO.frozen 2
    go_simp
    clear c0 c1 c2 f0 f1 f2
    generalize hW : World.setCell _ _ _ = W
    have BO2 : Bx W go 29 #[.slice (some ⟨ge, 0, none⟩) n2 n2, .slice none 0 0, .slice ap' II.length cp'] := by rw [← hW]; exact ((BO.set 0 _).set 1 _).set 2 _
    have frW : Fr (fun k => k = go) wp W := by rw [← hW]; exact fr3 _ _ _ _ _
    replace ownp := Ow.wide (lo' := w.heap.size + 1 + 1) (hi' := W.heap.size) (Ow.frB ownp frW (fun k hk hc => BO.ne_row ownp (by decide) (hc ▸ hk))) (by omega) (by have := frW.size; omega)
    have hgg : ge ≠ go := BO.ne_rowIs hrow (by decide)
    replace hrow := hrow.of_block (frW.block _ hrow.lt hgg)
    clear hW BO
    replace BA := BA.fr frW (by omega)
    replace BR := BR.fr frW (by omega)
    replace bb := bb.trans (frW.below (B := w.heap.size) (fun k h1 h2 hc => by omega) bb.size)
    have zW : w.heap.size + 1 + 1 ≤ W.heap.size := by have := frW.size; omega
    refine hK.out _ _ (BA.cell 2 _ rfl) (fun hHeld => ?_)
    clear hK K
    try simp only [Act.put, List.getElem_toArray, List.getElem_cons_zero, List.getElem_cons_succ, List.setIfInBounds_toArray, List.set_cons_zero, List.set_cons_succ]
    refine wpAnyH_done (by kernel_rfl) ?_ _
    rotate_left
    go_simp
    have BC := Bx.made wd 23 #[(.slice (some ⟨gp, offp, none⟩) N.inputs.length cp0), (.slice (some ⟨gp, offp, none⟩) N.inputs.length cp0)]
    have bc : Below wd.heap.size wd (wd.alloc (.cells #[(.slice (some ⟨gp, offp, none⟩) N.inputs.length cp0), (.slice (some ⟨gp, offp, none⟩) N.inputs.length cp0)] 23)) := (by repeat (first | exact Below.refl _ _ | assumption | refine Below.alloc ?_ (by first | (simp; done) | (simp; omega) | omega) _ | refine Below.setCell ?_ (by first | (simp; done) | (simp; omega) | omega) _ | refine Below.drew ?_ | refine Below.drewN ?_ _))
    replace BA := BA.new bc
    replace BR := BR.new bc
    have z_bc := bc.size
    replace bb := bb.trans (bc.mono bb.size)
    obtain ⟨gc, hgc⟩ : ∃ gc, gc = wd.heap.size := ⟨_, rfl⟩
    rw [← hgc] at BC ⊢
    clear bc hgc
    generalize wd.alloc (.cells #[(.slice (some ⟨gp, offp, none⟩) N.inputs.length cp0), (.slice (some ⟨gp, offp, none⟩) N.inputs.length cp0)] 23) = wc at *
    refine hK.out _ _ (BA.cell 2 _ rfl) (fun hHeld => ?_)
    clear hK K
    try simp only [Act.put, List.getElem_toArray, List.getElem_cons_zero, List.getElem_cons_succ, List.setIfInBounds_toArray, List.set_cons_zero, List.set_cons_succ]
    refine wpAnyH_ready (rs := [2, 8, 10]) (by kernel_rfl) (by simp) ?_
    refine AllReadyH.cons (o := _) rfl (fun K hK => ?_) (AllReadyH.cons (o := _) rfl (fun K hK => ?_) (AllReadyH.cons (o := _) rfl (fun K hK => ?_) AllReadyH.nil))
    rw [if_pos (by rfl)]
    refine step_mk _ _ _ _ rfl 60 (.slice none 0 0) 24 Try.underlying27 ends_info rfl .i64 .i64 _ _ n2 rfl rfl rfl rfl (by omega) (by omega) ?_
    intro wm hrow hzm belm
    replace BA := BA.new belm
    replace BR := BR.new belm
    replace BC := BC.new belm
    have z_belm := belm.size
    replace bb := bb.trans (belm.mono bb.size)
    obtain ⟨ge, hge⟩ : ∃ ge, ge = wc.heap.size := ⟨_, rfl⟩
    rw [← hge] at hrow ⊢
    have zge : w.heap.size + 1 + 1 ≤ ge := by omega
    clear hge belm
    refine hK.out _ _ (BA.cell 2 _ rfl) (fun hHeld => ?_)
    clear hK K
    try simp only [Act.put, List.getElem_toArray, List.getElem_cons_zero, List.getElem_cons_succ, List.setIfInBounds_toArray, List.set_cons_zero, List.set_cons_succ]
    refine wpAnyH_ready (rs := [8, 10]) (by kernel_rfl) (by simp) ?_
    refine AllReadyH.cons (o := _) rfl (fun K hK => ?_) (AllReadyH.cons (o := _) rfl (fun K hK => ?_) AllReadyH.nil)
    go_simp
    refine (concat2_any gc _ cp0 N.inputs _ B (Rd.below HI3.out (bb.mono hB)) (Nat.le_trans hB bb.size) (BC.cell 0 _ rfl) (BC.cell 1 _ rfl) (by omega) (by omega)).mono ?_
    rintro e wp ⟨ap', cp', rfl, ownp, belp⟩
    rw [← HII.out] at ownp ⊢
    clear BC
    replace BA := BA.new belp
    replace BR := BR.new belp
    replace hrow := hrow.of_block (belp.block _ hrow.lt)
    have z_belp := belp.size
    replace bb := bb.trans (belp.mono bb.size)
    clear belp
    refine hK.out _ _ (BA.cell 2 _ rfl) (fun hHeld => ?_)
    clear hK K
    try simp only [Act.put, List.getElem_toArray, List.getElem_cons_zero, List.getElem_cons_succ, List.setIfInBounds_toArray, List.set_cons_zero, List.set_cons_succ]
    refine wpAnyH_take (i := 9) (v := ?_) rfl (by kernel_rfl) (by kernel_rfl) (by kernel_rfl) (fun _ _ _ h => h) (Or.inl ⟨by rfl, ?_⟩) (by assumption) ?_
    rotate_left
    · (intro w hSw; (try dsimp only at hSw); go_simp; try with_reducible rfl)
    try simp only [Act.put, List.getElem_toArray, List.getElem_cons_zero, List.getElem_cons_succ, List.setIfInBounds_toArray, List.set_cons_zero, List.set_cons_succ]
    refine wpAnyH_ready (rs := [10]) (by kernel_rfl) (by simp) ?_
    refine AllReadyH.cons (o := _) rfl (fun K hK => ?_) AllReadyH.nil
    go_simp
    have BO := Bx.made wp 29 #[.slice none 0 0, .slice none 0 0, .slice none 0 0]
    have ba : Below wp.heap.size wp (wp.alloc (.cells #[.slice none 0 0, .slice none 0 0, .slice none 0 0] 29)) := (by repeat (first | exact Below.refl _ _ | assumption | refine Below.alloc ?_ (by first | (simp; done) | (simp; omega) | omega) _ | refine Below.setCell ?_ (by first | (simp; done) | (simp; omega) | omega) _ | refine Below.drew ?_ | refine Below.drewN ?_ _))
    replace BA := BA.new ba
    replace BR := BR.new ba
    replace hrow := hrow.of_block (ba.block _ hrow.lt)
    replace ownp := Ow.new ownp ba
    have z_ba := ba.size
    replace bb := bb.trans (ba.mono bb.size)
    obtain ⟨go, hgo⟩ : ∃ go, go = wp.heap.size := ⟨_, rfl⟩
    rw [← hgo] at BO ⊢
    have zgo : w.heap.size + 1 + 1 ≤ go := by omega
    clear ba hgo
    generalize wp.alloc (.cells #[.slice none 0 0, .slice none 0 0, .slice none 0 0] 29) = wo at *
    refine hK.out _ _ (BA.cell 2 _ rfl) (fun hHeld => ?_)
    clear hK K
    try simp only [Act.put, List.getElem_toArray, List.getElem_cons_zero, List.getElem_cons_succ, List.setIfInBounds_toArray, List.set_cons_zero, List.set_cons_succ]
    refine wpAnyH_ready (rs := [11]) (by kernel_rfl) (by simp) ?_
    refine AllReadyH.cons (o := _) rfl (fun K hK => ?_) AllReadyH.nil
    have c0 := BO.cell 0 _ rfl
    have f0 := BO.frozen 0
    have c1 := BO.cell 1 _ rfl
    have f1 := BO.frozen 1
    have c2 := BO.cell 2 _ rfl
    have f2 := BO.frozen 2
    go_simp
    clear c0 c1 c2 f0 f1 f2
    generalize hW : World.setCell _ _ _ = W
    have BO2 : Bx W go 29 #[.slice (some ⟨ge, 0, none⟩) n2 n2, .slice none 0 0, .slice ap' II.length cp'] := by rw [← hW]; exact ((BO.set 0 _).set 1 _).set 2 _
    have frW : Fr (fun k => k = go) wo W := by rw [← hW]; exact fr3 _ _ _ _ _
    replace ownp := Ow.wide (lo' := w.heap.size + 1 + 1) (hi' := W.heap.size) (Ow.frB ownp frW (fun k hk hc => BO.ne_row ownp (by decide) (hc ▸ hk))) (by omega) (by have := frW.size; omega)
    have hgg : ge ≠ go := BO.ne_rowIs hrow (by decide)
    replace hrow := hrow.of_block (frW.block _ hrow.lt hgg)
    clear hW BO
    replace BA := BA.fr frW (by omega)
    replace BR := BR.fr frW (by omega)
    replace bb := bb.trans (frW.below (B := w.heap.size) (fun k h1 h2 hc => by omega) bb.size)
    have zW : w.heap.size + 1 + 1 ≤ W.heap.size := by have := frW.size; omega
    refine hK.out _ _ (BA.cell 2 _ rfl) (fun hHeld => ?_)
    clear hK K
    try simp only [Act.put, List.getElem_toArray, List.getElem_cons_zero, List.getElem_cons_succ, List.setIfInBounds_toArray, List.set_cons_zero, List.set_cons_succ]
    refine wpAnyH_done (by kernel_rfl) ?_ _
    rotate_left
    go_simp
    have BO := Bx.made wm 29 #[.slice none 0 0, .slice none 0 0, .slice none 0 0]
    have ba : Below wm.heap.size wm (wm.alloc (.cells #[.slice none 0 0, .slice none 0 0, .slice none 0 0] 29)) := (by repeat (first | exact Below.refl _ _ | assumption | refine Below.alloc ?_ (by first | (simp; done) | (simp; omega) | omega) _ | refine Below.setCell ?_ (by first | (simp; done) | (simp; omega) | omega) _ | refine Below.drew ?_ | refine Below.drewN ?_ _))
    replace BA := BA.new ba
    replace BR := BR.new ba
    replace hrow := hrow.of_block (ba.block _ hrow.lt)
    replace BC := BC.new ba
    have z_ba := ba.size
    replace bb := bb.trans (ba.mono bb.size)
    obtain ⟨go, hgo⟩ : ∃ go, go = wm.heap.size := ⟨_, rfl⟩
    rw [← hgo] at BO ⊢
    have zgo : w.heap.size + 1 + 1 ≤ go := by omega
    clear ba hgo
    generalize wm.alloc (.cells #[.slice none 0 0, .slice none 0 0, .slice none 0 0] 29) = wo at *
    refine hK.out _ _ (BA.cell 2 _ rfl) (fun hHeld => ?_)
    clear hK K
    try simp only [Act.put, List.getElem_toArray, List.getElem_cons_zero, List.getElem_cons_succ, List.setIfInBounds_toArray, List.set_cons_zero, List.set_cons_succ]
    refine wpAnyH_ready (rs := [8]) (by kernel_rfl) (by simp) ?_
    refine AllReadyH.cons (o := _) rfl (fun K hK => ?_) AllReadyH.nil
    go_simp
    refine (concat2_any gc _ cp0 N.inputs _ B (Rd.below HI3.out (bb.mono hB)) (Nat.le_trans hB bb.size) (BC.cell 0 _ rfl) (BC.cell 1 _ rfl) (by omega) (by omega)).mono ?_
    rintro e wp ⟨ap', cp', rfl, ownp, belp⟩
    rw [← HII.out] at ownp ⊢
    clear BC
    replace BA := BA.new belp
    replace BR := BR.new belp
    replace BO := BO.new belp
    replace hrow := hrow.of_block (belp.block _ hrow.lt)
    have z_belp := belp.size
    replace bb := bb.trans (belp.mono bb.size)
    clear belp
    refine hK.out _ _ (BA.cell 2 _ rfl) (fun hHeld => ?_)
    clear hK K
    try simp only [Act.put, List.getElem_toArray, List.getElem_cons_zero, List.getElem_cons_succ, List.setIfInBounds_toArray, List.set_cons_zero, List.set_cons_succ]
    refine wpAnyH_take (i := 9) (v := ?_) rfl (by kernel_rfl) (by kernel_rfl) (by kernel_rfl) (fun _ _ _ h => h) (Or.inl ⟨by rfl, ?_⟩) (by assumption) ?_
    rotate_left
    · (intro w hSw; (try dsimp only at hSw); go_simp; try with_reducible rfl)
    try simp only [Act.put, List.getElem_toArray, List.getElem_cons_zero, List.getElem_cons_succ, List.setIfInBounds_toArray, List.set_cons_zero, List.set_cons_succ]
    refine wpAnyH_ready (rs := [11]) (by kernel_rfl) (by simp) ?_
    refine AllReadyH.cons (o := _) rfl (fun K hK => ?_) AllReadyH.nil
    have c0 := BO.cell 0 _ rfl
    have f0 := BO.frozen 0
    have c1 := BO.cell 1 _ rfl
    have f1 := BO.frozen 1
    have c2 := BO.cell 2 _ rfl
    have f2 := BO.frozen 2
    go_simp
    clear c0 c1 c2 f0 f1 f2
    generalize hW : World.setCell _ _ _ = W
    have BO2 : Bx W go 29 #[.slice (some ⟨ge, 0, none⟩) n2 n2, .slice none 0 0, .slice ap' II.length cp'] := by rw [← hW]; exact ((BO.set 0 _).set 1 _).set 2 _
    have frW : Fr (fun k => k = go) wp W := by rw [← hW]; exact fr3 _ _ _ _ _
    replace ownp := Ow.wide (lo' := w.heap.size + 1 + 1) (hi' := W.heap.size) (Ow.frB ownp frW (fun k hk hc => BO.ne_row ownp (by decide) (hc ▸ hk))) (by omega) (by have := frW.size; omega)
    have hgg : ge ≠ go := BO.ne_rowIs hrow (by decide)
    replace hrow := hrow.of_block (frW.block _ hrow.lt hgg)
    clear hW BO
    replace BA := BA.fr frW (by omega)
    replace BR := BR.fr frW (by omega)
    replace bb := bb.trans (frW.below (B := w.heap.size) (fun k h1 h2 hc => by omega) bb.size)
    have zW : w.heap.size + 1 + 1 ≤ W.heap.size := by have := frW.size; omega
    refine hK.out _ _ (BA.cell 2 _ rfl) (fun hHeld => ?_)
    clear hK K
    try simp only [Act.put, List.getElem_toArray, List.getElem_cons_zero, List.getElem_cons_succ, List.setIfInBounds_toArray, List.set_cons_zero, List.set_cons_succ]
    refine wpAnyH_done (by kernel_rfl) ?_ _
    rotate_left
    go_simp
    refine (concat2_any gc _ cp0 N.inputs _ B (Rd.below HI3.out (bb.mono hB)) (Nat.le_trans hB bb.size) (BC.cell 0 _ rfl) (BC.cell 1 _ rfl) (by omega) (by omega)).mono ?_
    rintro e wp ⟨ap', cp', rfl, ownp, belp⟩
    rw [← HII.out] at ownp ⊢
    clear BC
    replace BA := BA.new belp
    replace BR := BR.new belp
    have z_belp := belp.size
    replace bb := bb.trans (belp.mono bb.size)
    clear belp
    refine hK.out _ _ (BA.cell 2 _ rfl) (fun hHeld => ?_)
    clear hK K
    try simp only [Act.put, List.getElem_toArray, List.getElem_cons_zero, List.getElem_cons_succ, List.setIfInBounds_toArray, List.set_cons_zero, List.set_cons_succ]
    refine wpAnyH_ready (rs := [2, 10]) (by kernel_rfl) (by simp) ?_
    refine AllReadyH.cons (o := _) rfl (fun K hK => ?_) (AllReadyH.cons (o := _) rfl (fun K hK => ?_) AllReadyH.nil)
    rw [if_pos (by rfl)]
    refine step_mk _ _ _ _ rfl 60 (.slice none 0 0) 24 Try.underlying27 ends_info rfl .i64 .i64 _ _ n2 rfl rfl rfl rfl (by omega) (by omega) ?_
    intro wm hrow hzm belm
    replace BA := BA.new belm
    replace BR := BR.new belm
    replace ownp := Ow.new ownp belm
    have z_belm := belm.size
    replace bb := bb.trans (belm.mono bb.size)
    obtain ⟨ge, hge⟩ : ∃ ge, ge = wp.heap.size := ⟨_, rfl⟩
    rw [← hge] at hrow ⊢
    have zge : w.heap.size + 1 + 1 ≤ ge := by omega
    clear hge belm
    refine hK.out _ _ (BA.cell 2 _ rfl) (fun hHeld => ?_)
    clear hK K
    try simp only [Act.put, List.getElem_toArray, List.getElem_cons_zero, List.getElem_cons_succ, List.setIfInBounds_toArray, List.set_cons_zero, List.set_cons_succ]
    refine wpAnyH_take (i := 9) (v := ?_) rfl (by kernel_rfl) (by kernel_rfl) (by kernel_rfl) (fun _ _ _ h => h) (Or.inl ⟨by rfl, ?_⟩) (by assumption) ?_
    rotate_left
    · (intro w hSw; (try dsimp only at hSw); go_simp; try with_reducible rfl)
    try simp only [Act.put, List.getElem_toArray, List.getElem_cons_zero, List.getElem_cons_succ, List.setIfInBounds_toArray, List.set_cons_zero, List.set_cons_succ]
    refine wpAnyH_ready (rs := [10]) (by kernel_rfl) (by simp) ?_
    refine AllReadyH.cons (o := _) rfl (fun K hK => ?_) AllReadyH.nil
    go_simp
    have BO := Bx.made wm 29 #[.slice none 0 0, .slice none 0 0, .slice none 0 0]
    have ba : Below wm.heap.size wm (wm.alloc (.cells #[.slice none 0 0, .slice none 0 0, .slice none 0 0] 29)) := (by repeat (first | exact Below.refl _ _ | assumption | refine Below.alloc ?_ (by first | (simp; done) | (simp; omega) | omega) _ | refine Below.setCell ?_ (by first | (simp; done) | (simp; omega) | omega) _ | refine Below.drew ?_ | refine Below.drewN ?_ _))
    replace BA := BA.new ba
    replace BR := BR.new ba
    replace hrow := hrow.of_block (ba.block _ hrow.lt)
    replace ownp := Ow.new ownp ba
    have z_ba := ba.size
    replace bb := bb.trans (ba.mono bb.size)
    obtain ⟨go, hgo⟩ : ∃ go, go = wm.heap.size := ⟨_, rfl⟩
    rw [← hgo] at BO ⊢
    have zgo : w.heap.size + 1 + 1 ≤ go := by omega
    clear ba hgo
    generalize wm.alloc (.cells #[.slice none 0 0, .slice none 0 0, .slice none 0 0] 29) = wo at *
    refine hK.out _ _ (BA.cell 2 _ rfl) (fun hHeld => ?_)
    clear hK K
    try simp only [Act.put, List.getElem_toArray, List.getElem_cons_zero, List.getElem_cons_succ, List.setIfInBounds_toArray, List.set_cons_zero, List.set_cons_succ]
    refine wpAnyH_ready (rs := [11]) (by kernel_rfl) (by simp) ?_
    refine AllReadyH.cons (o := _) rfl (fun K hK => ?_) AllReadyH.nil
    have c0 := BO.cell 0 _ rfl
    have f0 := BO.frozen 0
    have c1 := BO.cell 1 _ rfl
    have f1 := BO.frozen 1
    have c2 := BO.cell 2 _ rfl
    have f2 := BO.frozen 2
    go_simp
    clear c0 c1 c2 f0 f1 f2
    generalize hW : World.setCell _ _ _ = W
    have BO2 : Bx W go 29 #[.slice (some ⟨ge, 0, none⟩) n2 n2, .slice none 0 0, .slice ap' II.length cp'] := by rw [← hW]; exact ((BO.set 0 _).set 1 _).set 2 _
    have frW : Fr (fun k => k = go) wo W := by rw [← hW]; exact fr3 _ _ _ _ _
    replace ownp := Ow.wide (lo' := w.heap.size + 1 + 1) (hi' := W.heap.size) (Ow.frB ownp frW (fun k hk hc => BO.ne_row ownp (by decide) (hc ▸ hk))) (by omega) (by have := frW.size; omega)
    have hgg : ge ≠ go := BO.ne_rowIs hrow (by decide)
    replace hrow := hrow.of_block (frW.block _ hrow.lt hgg)
    clear hW BO
    replace BA := BA.fr frW (by omega)
    replace BR := BR.fr frW (by omega)
    replace bb := bb.trans (frW.below (B := w.heap.size) (fun k h1 h2 hc => by omega) bb.size)
    have zW : w.heap.size + 1 + 1 ≤ W.heap.size := by have := frW.size; omega
    refine hK.out _ _ (BA.cell 2 _ rfl) (fun hHeld => ?_)
    clear hK K
    try simp only [Act.put, List.getElem_toArray, List.getElem_cons_zero, List.getElem_cons_succ, List.setIfInBounds_toArray, List.set_cons_zero, List.set_cons_succ]
    refine wpAnyH_done (by kernel_rfl) ?_ _
    rotate_left
    go_simp
    have BO := Bx.made wp 29 #[.slice none 0 0, .slice none 0 0, .slice none 0 0]
    have ba : Below wp.heap.size wp (wp.alloc (.cells #[.slice none 0 0, .slice none 0 0, .slice none 0 0] 29)) := (by repeat (first | exact Below.refl _ _ | assumption | refine Below.alloc ?_ (by first | (simp; done) | (simp; omega) | omega) _ | refine Below.setCell ?_ (by first | (simp; done) | (simp; omega) | omega) _ | refine Below.drew ?_ | refine Below.drewN ?_ _))
    replace BA := BA.new ba
    replace BR := BR.new ba
    replace ownp := Ow.new ownp ba
    have z_ba := ba.size
    replace bb := bb.trans (ba.mono bb.size)
    obtain ⟨go, hgo⟩ : ∃ go, go = wp.heap.size := ⟨_, rfl⟩
    rw [← hgo] at BO ⊢
    have zgo : w.heap.size + 1 + 1 ≤ go := by omega
    clear ba hgo
    generalize wp.alloc (.cells #[.slice none 0 0, .slice none 0 0, .slice none 0 0] 29) = wo at *
    refine hK.out _ _ (BA.cell 2 _ rfl) (fun hHeld => ?_)
    clear hK K
    try simp only [Act.put, List.getElem_toArray, List.getElem_cons_zero, List.getElem_cons_succ, List.setIfInBounds_toArray, List.set_cons_zero, List.set_cons_succ]
    refine wpAnyH_ready (rs := [2]) (by kernel_rfl) (by simp) ?_
    refine AllReadyH.cons (o := _) rfl (fun K hK => ?_) AllReadyH.nil
    rw [if_pos (by rfl)]
    refine step_mk _ _ _ _ rfl 60 (.slice none 0 0) 24 Try.underlying27 ends_info rfl .i64 .i64 _ _ n2 rfl rfl rfl rfl (by omega) (by omega) ?_
    intro wm hrow hzm belm
    replace BA := BA.new belm
    replace BR := BR.new belm
    replace BO := BO.new belm
    replace ownp := Ow.new ownp belm
    have z_belm := belm.size
    replace bb := bb.trans (belm.mono bb.size)
    obtain ⟨ge, hge⟩ : ∃ ge, ge = wo.heap.size := ⟨_, rfl⟩
    rw [← hge] at hrow ⊢
    have zge : w.heap.size + 1 + 1 ≤ ge := by omega
    clear hge belm
    refine hK.out _ _ (BA.cell 2 _ rfl) (fun hHeld => ?_)
    clear hK K
    try simp only [Act.put, List.getElem_toArray, List.getElem_cons_zero, List.getElem_cons_succ, List.setIfInBounds_toArray, List.set_cons_zero, List.set_cons_succ]
    refine wpAnyH_take (i := 9) (v := ?_) rfl (by kernel_rfl) (by kernel_rfl) (by kernel_rfl) (fun _ _ _ h => h) (Or.inl ⟨by rfl, ?_⟩) (by assumption) ?_
    rotate_left
    · (intro w hSw; (try dsimp only at hSw); go_simp; try with_reducible rfl)
    try simp only [Act.put, List.getElem_toArray, List.getElem_cons_zero, List.getElem_cons_succ, List.setIfInBounds_toArray, List.set_cons_zero, List.set_cons_succ]
    refine wpAnyH_ready (rs := [11]) (by kernel_rfl) (by simp) ?_
    refine AllReadyH.cons (o := _) rfl (fun K hK => ?_) AllReadyH.nil
    have c0 := BO.cell 0 _ rfl
    have f0 := BO.frozen 0
    have c1 := BO.cell 1 _ rfl
    have f1 := BO.frozen 1
    have c2 := BO.cell 2 _ rfl
    have f2 := BO.frozen 2
    go_simp
    clear c0 c1 c2 f0 f1 f2
    generalize hW : World.setCell _ _ _ = W
    have BO2 : Bx W go 29 #[.slice (some ⟨ge, 0, none⟩) n2 n2, .slice none 0 0, .slice ap' II.length cp'] := by rw [← hW]; exact ((BO.set 0 _).set 1 _).set 2 _
    have frW : Fr (fun k => k = go) wm W := by rw [← hW]; exact fr3 _ _ _ _ _
    replace ownp := Ow.wide (lo' := w.heap.size + 1 + 1) (hi' := W.heap.size) (Ow.frB ownp frW (fun k hk hc => BO.ne_row ownp (by decide) (hc ▸ hk))) (by omega) (by have := frW.size; omega)
    have hgg : ge ≠ go := BO.ne_rowIs hrow (by decide)
    replace hrow := hrow.of_block (frW.block _ hrow.lt hgg)
    clear hW BO
    replace BA := BA.fr frW (by omega)
    replace BR := BR.fr frW (by omega)
    replace bb := bb.trans (frW.below (B := w.heap.size) (fun k h1 h2 hc => by omega) bb.size)
    have zW : w.heap.size + 1 + 1 ≤ W.heap.size := by have := frW.size; omega
    refine hK.out _ _ (BA.cell 2 _ rfl) (fun hHeld => ?_)
    clear hK K
    try simp only [Act.put, List.getElem_toArray, List.getElem_cons_zero, List.getElem_cons_succ, List.setIfInBounds_toArray, List.set_cons_zero, List.set_cons_succ]
    refine wpAnyH_done (by kernel_rfl) ?_ _
    rotate_left
    go_simp
    have BO := Bx.made wc 29 #[.slice none 0 0, .slice none 0 0, .slice none 0 0]
    have ba : Below wc.heap.size wc (wc.alloc (.cells #[.slice none 0 0, .slice none 0 0, .slice none 0 0] 29)) := (by repeat (first | exact Below.refl _ _ | assumption | refine Below.alloc ?_ (by first | (simp; done) | (simp; omega) | omega) _ | refine Below.setCell ?_ (by first | (simp; done) | (simp; omega) | omega) _ | refine Below.drew ?_ | refine Below.drewN ?_ _))
    replace BA := BA.new ba
    replace BR := BR.new ba
    replace BC := BC.new ba
    have z_ba := ba.size
    replace bb := bb.trans (ba.mono bb.size)
    obtain ⟨go, hgo⟩ : ∃ go, go = wc.heap.size := ⟨_, rfl⟩
    rw [← hgo] at BO ⊢
    have zgo : w.heap.size + 1 + 1 ≤ go := by omega
    clear ba hgo
    generalize wc.alloc (.cells #[.slice none 0 0, .slice none 0 0, .slice none 0 0] 29) = wo at *
    refine hK.out _ _ (BA.cell 2 _ rfl) (fun hHeld => ?_)
    clear hK K
    try simp only [Act.put, List.getElem_toArray, List.getElem_cons_zero, List.getElem_cons_succ, List.setIfInBounds_toArray, List.set_cons_zero, List.set_cons_succ]
    refine wpAnyH_ready (rs := [2, 8]) (by kernel_rfl) (by simp) ?_
    refine AllReadyH.cons (o := _) rfl (fun K hK => ?_) (AllReadyH.cons (o := _) rfl (fun K hK => ?_) AllReadyH.nil)
    rw [if_pos (by rfl)]
    refine step_mk _ _ _ _ rfl 60 (.slice none 0 0) 24 Try.underlying27 ends_info rfl .i64 .i64 _ _ n2 rfl rfl rfl rfl (by omega) (by omega) ?_
    intro wm hrow hzm belm
    replace BA := BA.new belm
    replace BR := BR.new belm
    replace BO := BO.new belm
    replace BC := BC.new belm
    have z_belm := belm.size
    replace bb := bb.trans (belm.mono bb.size)
    obtain ⟨ge, hge⟩ : ∃ ge, ge = wo.heap.size := ⟨_, rfl⟩
    rw [← hge] at hrow ⊢
    have zge : w.heap.size + 1 + 1 ≤ ge := by omega
    clear hge belm
    refine hK.out _ _ (BA.cell 2 _ rfl) (fun hHeld => ?_)
    clear hK K
    try simp only [Act.put, List.getElem_toArray, List.getElem_cons_zero, List.getElem_cons_succ, List.setIfInBounds_toArray, List.set_cons_zero, List.set_cons_succ]
    refine wpAnyH_ready (rs := [8]) (by kernel_rfl) (by simp) ?_
    refine AllReadyH.cons (o := _) rfl (fun K hK => ?_) AllReadyH.nil
    go_simp
    refine (concat2_any gc _ cp0 N.inputs _ B (Rd.below HI3.out (bb.mono hB)) (Nat.le_trans hB bb.size) (BC.cell 0 _ rfl) (BC.cell 1 _ rfl) (by omega) (by omega)).mono ?_
    rintro e wp ⟨ap', cp', rfl, ownp, belp⟩
    rw [← HII.out] at ownp ⊢
    clear BC
    replace BA := BA.new belp
    replace BR := BR.new belp
    replace BO := BO.new belp
    replace hrow := hrow.of_block (belp.block _ hrow.lt)
    have z_belp := belp.size
    replace bb := bb.trans (belp.mono bb.size)
    clear belp
    refine hK.out _ _ (BA.cell 2 _ rfl) (fun hHeld => ?_)
    clear hK K
    try simp only [Act.put, List.getElem_toArray, List.getElem_cons_zero, List.getElem_cons_succ, List.setIfInBounds_toArray, List.set_cons_zero, List.set_cons_succ]
    refine wpAnyH_take (i := 9) (v := ?_) rfl (by kernel_rfl) (by kernel_rfl) (by kernel_rfl) (fun _ _ _ h => h) (Or.inl ⟨by rfl, ?_⟩) (by assumption) ?_
    rotate_left
    · (intro w hSw; (try dsimp only at hSw); go_simp; try with_reducible rfl)
    try simp only [Act.put, List.getElem_toArray, List.getElem_cons_zero, List.getElem_cons_succ, List.setIfInBounds_toArray, List.set_cons_zero, List.set_cons_succ]
    refine wpAnyH_ready (rs := [11]) (by kernel_rfl) (by simp) ?_
    refine AllReadyH.cons (o := _) rfl (fun K hK => ?_) AllReadyH.nil
    have c0 := BO.cell 0 _ rfl
    have f0 := BO.frozen 0
    have c1 := BO.cell 1 _ rfl
    have f1 := BO.frozen 1
    have c2 := BO.cell 2 _ rfl
    have f2 := BO.frozen 2
    go_simp
    clear c0 c1 c2 f0 f1 f2
    generalize hW : World.setCell _ _ _ = W
    have BO2 : Bx W go 29 #[.slice (some ⟨ge, 0, none⟩) n2 n2, .slice none 0 0, .slice ap' II.length cp'] := by rw [← hW]; exact ((BO.set 0 _).set 1 _).set 2 _
    have frW : Fr (fun k => k = go) wp W := by rw [← hW]; exact fr3 _ _ _ _ _
    replace ownp := Ow.wide (lo' := w.heap.size + 1 + 1) (hi' := W.heap.size) (Ow.frB ownp frW (fun k hk hc => BO.ne_row ownp (by decide) (hc ▸ hk))) (by omega) (by have := frW.size; omega)
    have hgg : ge ≠ go := BO.ne_rowIs hrow (by decide)
    replace hrow := hrow.of_block (frW.block _ hrow.lt hgg)
    clear hW BO
    replace BA := BA.fr frW (by omega)
    replace BR := BR.fr frW (by omega)
    replace bb := bb.trans (frW.below (B := w.heap.size) (fun k h1 h2 hc => by omega) bb.size)
    have zW : w.heap.size + 1 + 1 ≤ W.heap.size := by have := frW.size; omega
    refine hK.out _ _ (BA.cell 2 _ rfl) (fun hHeld => ?_)
    clear hK K
    try simp only [Act.put, List.getElem_toArray, List.getElem_cons_zero, List.getElem_cons_succ, List.setIfInBounds_toArray, List.set_cons_zero, List.set_cons_succ]
    refine wpAnyH_done (by kernel_rfl) ?_ _
    rotate_left
    go_simp
    refine (concat2_any gc _ cp0 N.inputs _ B (Rd.below HI3.out (bb.mono hB)) (Nat.le_trans hB bb.size) (BC.cell 0 _ rfl) (BC.cell 1 _ rfl) (by omega) (by omega)).mono ?_
    rintro e wp ⟨ap', cp', rfl, ownp, belp⟩
    rw [← HII.out] at ownp ⊢
    clear BC
    replace BA := BA.new belp
    replace BR := BR.new belp
    replace BO := BO.new belp
    have z_belp := belp.size
    replace bb := bb.trans (belp.mono bb.size)
    clear belp
    refine hK.out _ _ (BA.cell 2 _ rfl) (fun hHeld => ?_)
    clear hK K
    try simp only [Act.put, List.getElem_toArray, List.getElem_cons_zero, List.getElem_cons_succ, List.setIfInBounds_toArray, List.set_cons_zero, List.set_cons_succ]
    refine wpAnyH_ready (rs := [2]) (by kernel_rfl) (by simp) ?_
    refine AllReadyH.cons (o := _) rfl (fun K hK => ?_) AllReadyH.nil
    rw [if_pos (by rfl)]
    refine step_mk _ _ _ _ rfl 60 (.slice none 0 0) 24 Try.underlying27 ends_info rfl .i64 .i64 _ _ n2 rfl rfl rfl rfl (by omega) (by omega) ?_
    intro wm hrow hzm belm
    replace BA := BA.new belm
    replace BR := BR.new belm
    replace BO := BO.new belm
    replace ownp := Ow.new ownp belm
    have z_belm := belm.size
    replace bb := bb.trans (belm.mono bb.size)
    obtain ⟨ge, hge⟩ : ∃ ge, ge = wp.heap.size := ⟨_, rfl⟩
    rw [← hge] at hrow ⊢
    have zge : w.heap.size + 1 + 1 ≤ ge := by omega
    clear hge belm
    refine hK.out _ _ (BA.cell 2 _ rfl) (fun hHeld => ?_)
    clear hK K
    try simp only [Act.put, List.getElem_toArray, List.getElem_cons_zero, List.getElem_cons_succ, List.setIfInBounds_toArray, List.set_cons_zero, List.set_cons_succ]
    refine wpAnyH_take (i := 9) (v := ?_) rfl (by kernel_rfl) (by kernel_rfl) (by kernel_rfl) (fun _ _ _ h => h) (Or.inl ⟨by rfl, ?_⟩) (by assumption) ?_
    rotate_left
    · (intro w hSw; (try dsimp only at hSw); go_simp; try with_reducible rfl)
    try simp only [Act.put, List.getElem_toArray, List.getElem_cons_zero, List.getElem_cons_succ, List.setIfInBounds_toArray, List.set_cons_zero, List.set_cons_succ]
    refine wpAnyH_ready (rs := [11]) (by kernel_rfl) (by simp) ?_
    refine AllReadyH.cons (o := _) rfl (fun K hK => ?_) AllReadyH.nil
    have c0 := BO.cell 0 _ rfl
    have f0 := BO.frozen 0
    have c1 := BO.cell 1 _ rfl
    have f1 := BO.frozen 1
    have c2 := BO.cell 2 _ rfl
    have f2 := BO.frozen 2
    go_simp
    clear c0 c1 c2 f0 f1 f2
    generalize hW : World.setCell _ _ _ = W
    have BO2 : Bx W go 29 #[.slice (some ⟨ge, 0, none⟩) n2 n2, .slice none 0 0, .slice ap' II.length cp'] := by rw [← hW]; exact ((BO.set 0 _).set 1 _).set 2 _
    have frW : Fr (fun k => k = go) wm W := by rw [← hW]; exact fr3 _ _ _ _ _
    replace ownp := Ow.wide (lo' := w.heap.size + 1 + 1) (hi' := W.heap.size) (Ow.frB ownp frW (fun k hk hc => BO.ne_row ownp (by decide) (hc ▸ hk))) (by omega) (by have := frW.size; omega)
    have hgg : ge ≠ go := BO.ne_rowIs hrow (by decide)
    replace hrow := hrow.of_block (frW.block _ hrow.lt hgg)
    clear hW BO
    replace BA := BA.fr frW (by omega)
    replace BR := BR.fr frW (by omega)
    replace bb := bb.trans (frW.below (B := w.heap.size) (fun k h1 h2 hc => by omega) bb.size)
    have zW : w.heap.size + 1 + 1 ≤ W.heap.size := by have := frW.size; omega
    refine hK.out _ _ (BA.cell 2 _ rfl) (fun hHeld => ?_)
    clear hK K
    try simp only [Act.put, List.getElem_toArray, List.getElem_cons_zero, List.getElem_cons_succ, List.setIfInBounds_toArray, List.set_cons_zero, List.set_cons_succ]
    refine wpAnyH_done (by kernel_rfl) ?_ _
    rotate_left
    go_simp
    have BO := Bx.made wd 29 #[.slice none 0 0, .slice none 0 0, .slice none 0 0]
    have ba : Below wd.heap.size wd (wd.alloc (.cells #[.slice none 0 0, .slice none 0 0, .slice none 0 0] 29)) := (by repeat (first | exact Below.refl _ _ | assumption | refine Below.alloc ?_ (by first | (simp; done) | (simp; omega) | omega) _ | refine Below.setCell ?_ (by first | (simp; done) | (simp; omega) | omega) _ | refine Below.drew ?_ | refine Below.drewN ?_ _))
    replace BA := BA.new ba
    replace BR := BR.new ba
    have z_ba := ba.size
    replace bb := bb.trans (ba.mono bb.size)
    obtain ⟨go, hgo⟩ : ∃ go, go = wd.heap.size := ⟨_, rfl⟩
    rw [← hgo] at BO ⊢
    have zgo : w.heap.size + 1 + 1 ≤ go := by omega
    clear ba hgo
    generalize wd.alloc (.cells #[.slice none 0 0, .slice none 0 0, .slice none 0 0] 29) = wo at *
    refine hK.out _ _ (BA.cell 2 _ rfl) (fun hHeld => ?_)
    clear hK K
    try simp only [Act.put, List.getElem_toArray, List.getElem_cons_zero, List.getElem_cons_succ, List.setIfInBounds_toArray, List.set_cons_zero, List.set_cons_succ]
    refine wpAnyH_ready (rs := [2, 7]) (by kernel_rfl) (by simp) ?_
    refine AllReadyH.cons (o := _) rfl (fun K hK => ?_) (AllReadyH.cons (o := _) rfl (fun K hK => ?_) AllReadyH.nil)
    rw [if_pos (by rfl)]
    refine step_mk _ _ _ _ rfl 60 (.slice none 0 0) 24 Try.underlying27 ends_info rfl .i64 .i64 _ _ n2 rfl rfl rfl rfl (by omega) (by omega) ?_
    intro wm hrow hzm belm
    replace BA := BA.new belm
    replace BR := BR.new belm
    replace BO := BO.new belm
    have z_belm := belm.size
    replace bb := bb.trans (belm.mono bb.size)
    obtain ⟨ge, hge⟩ : ∃ ge, ge = wo.heap.size := ⟨_, rfl⟩
    rw [← hge] at hrow ⊢
    have zge : w.heap.size + 1 + 1 ≤ ge := by omega
    clear hge belm
    refine hK.out _ _ (BA.cell 2 _ rfl) (fun hHeld => ?_)
    clear hK K
    try simp only [Act.put, List.getElem_toArray, List.getElem_cons_zero, List.getElem_cons_succ, List.setIfInBounds_toArray, List.set_cons_zero, List.set_cons_succ]
    refine wpAnyH_ready (rs := [7]) (by kernel_rfl) (by simp) ?_
    refine AllReadyH.cons (o := _) rfl (fun K hK => ?_) AllReadyH.nil
    go_simp
    have BC := Bx.made wm 23 #[(.slice (some ⟨gp, offp, none⟩) N.inputs.length cp0), (.slice (some ⟨gp, offp, none⟩) N.inputs.length cp0)]
    have bc : Below wm.heap.size wm (wm.alloc (.cells #[(.slice (some ⟨gp, offp, none⟩) N.inputs.length cp0), (.slice (some ⟨gp, offp, none⟩) N.inputs.length cp0)] 23)) := (by repeat (first | exact Below.refl _ _ | assumption | refine Below.alloc ?_ (by first | (simp; done) | (simp; omega) | omega) _ | refine Below.setCell ?_ (by first | (simp; done) | (simp; omega) | omega) _ | refine Below.drew ?_ | refine Below.drewN ?_ _))
    replace BA := BA.new bc
    replace BR := BR.new bc
    replace BO := BO.new bc
    replace hrow := hrow.of_block (bc.block _ hrow.lt)
    have z_bc := bc.size
    replace bb := bb.trans (bc.mono bb.size)
    obtain ⟨gc, hgc⟩ : ∃ gc, gc = wm.heap.size := ⟨_, rfl⟩
    rw [← hgc] at BC ⊢
    clear bc hgc
    generalize wm.alloc (.cells #[(.slice (some ⟨gp, offp, none⟩) N.inputs.length cp0), (.slice (some ⟨gp, offp, none⟩) N.inputs.length cp0)] 23) = wc at *
    refine hK.out _ _ (BA.cell 2 _ rfl) (fun hHeld => ?_)
    clear hK K
    try simp only [Act.put, List.getElem_toArray, List.getElem_cons_zero, List.getElem_cons_succ, List.setIfInBounds_toArray, List.set_cons_zero, List.set_cons_succ]
    refine wpAnyH_ready (rs := [8]) (by kernel_rfl) (by simp) ?_
    refine AllReadyH.cons (o := _) rfl (fun K hK => ?_) AllReadyH.nil
    go_simp
    refine (concat2_any gc _ cp0 N.inputs _ B (Rd.below HI3.out (bb.mono hB)) (Nat.le_trans hB bb.size) (BC.cell 0 _ rfl) (BC.cell 1 _ rfl) (by omega) (by omega)).mono ?_
    rintro e wp ⟨ap', cp', rfl, ownp, belp⟩
    rw [← HII.out] at ownp ⊢
    clear BC
    replace BA := BA.new belp
    replace BR := BR.new belp
    replace BO := BO.new belp
    replace hrow := hrow.of_block (belp.block _ hrow.lt)
    have z_belp := belp.size
    replace bb := bb.trans (belp.mono bb.size)
    clear belp
    refine hK.out _ _ (BA.cell 2 _ rfl) (fun hHeld => ?_)
    clear hK K
    try simp only [Act.put, List.getElem_toArray, List.getElem_cons_zero, List.getElem_cons_succ, List.setIfInBounds_toArray, List.set_cons_zero, List.set_cons_succ]
    refine wpAnyH_take (i := 9) (v := ?_) rfl (by kernel_rfl) (by kernel_rfl) (by kernel_rfl) (fun _ _ _ h => h) (Or.inl ⟨by rfl, ?_⟩) (by assumption) ?_
    rotate_left
    · (intro w hSw; (try dsimp only at hSw); go_simp; try with_reducible rfl)
    try simp only [Act.put, List.getElem_toArray, List.getElem_cons_zero, List.getElem_cons_succ, List.setIfInBounds_toArray, List.set_cons_zero, List.set_cons_succ]
    refine wpAnyH_ready (rs := [11]) (by kernel_rfl) (by simp) ?_
    refine AllReadyH.cons (o := _) rfl (fun K hK => ?_) AllReadyH.nil
    have c0 := BO.cell 0 _ rfl
    have f0 := BO.frozen 0
    have c1 := BO.cell 1 _ rfl
    have f1 := BO.frozen 1
    have c2 := BO.cell 2 _ rfl
    have f2 := BO.frozen 2
    go_simp
    clear c0 c1 c2 f0 f1 f2
    generalize hW : World.setCell _ _ _ = W
    have BO2 : Bx W go 29 #[.slice (some ⟨ge, 0, none⟩) n2 n2, .slice none 0 0, .slice ap' II.length cp'] := by rw [← hW]; exact ((BO.set 0 _).set 1 _).set 2 _
    have frW : Fr (fun k => k = go) wp W := by rw [← hW]; exact fr3 _ _ _ _ _
    replace ownp := Ow.wide (lo' := w.heap.size + 1 + 1) (hi' := W.heap.size) (Ow.frB ownp frW (fun k hk hc => BO.ne_row ownp (by decide) (hc ▸ hk))) (by omega) (by have := frW.size; omega)
    have hgg : ge ≠ go := BO.ne_rowIs hrow (by decide)
    replace hrow := hrow.of_block (frW.block _ hrow.lt hgg)
    clear hW BO
    replace BA := BA.fr frW (by omega)
    replace BR := BR.fr frW (by omega)
    replace bb := bb.trans (frW.below (B := w.heap.size) (fun k h1 h2 hc => by omega) bb.size)
    have zW : w.heap.size + 1 + 1 ≤ W.heap.size := by have := frW.size; omega
    refine hK.out _ _ (BA.cell 2 _ rfl) (fun hHeld => ?_)
    clear hK K
    try simp only [Act.put, List.getElem_toArray, List.getElem_cons_zero, List.getElem_cons_succ, List.setIfInBounds_toArray, List.set_cons_zero, List.set_cons_succ]
    refine wpAnyH_done (by kernel_rfl) ?_ _
    rotate_left
    go_simp
    have BC := Bx.made wo 23 #[(.slice (some ⟨gp, offp, none⟩) N.inputs.length cp0), (.slice (some ⟨gp, offp, none⟩) N.inputs.length cp0)]
    have bc : Below wo.heap.size wo (wo.alloc (.cells #[(.slice (some ⟨gp, offp, none⟩) N.inputs.length cp0), (.slice (some ⟨gp, offp, none⟩) N.inputs.length cp0)] 23)) := (by repeat (first | exact Below.refl _ _ | assumption | refine Below.alloc ?_ (by first | (simp; done) | (simp; omega) | omega) _ | refine Below.setCell ?_ (by first | (simp; done) | (simp; omega) | omega) _ | refine Below.drew ?_ | refine Below.drewN ?_ _))
    replace BA := BA.new bc
    replace BR := BR.new bc
    replace BO := BO.new bc
    have z_bc := bc.size
    replace bb := bb.trans (bc.mono bb.size)
    obtain ⟨gc, hgc⟩ : ∃ gc, gc = wo.heap.size := ⟨_, rfl⟩
    rw [← hgc] at BC ⊢
    clear bc hgc
    generalize wo.alloc (.cells #[(.slice (some ⟨gp, offp, none⟩) N.inputs.length cp0), (.slice (some ⟨gp, offp, none⟩) N.inputs.length cp0)] 23) = wc at *
    refine hK.out _ _ (BA.cell 2 _ rfl) (fun hHeld => ?_)
    clear hK K
    try simp only [Act.put, List.getElem_toArray, List.getElem_cons_zero, List.getElem_cons_succ, List.setIfInBounds_toArray, List.set_cons_zero, List.set_cons_succ]
    refine wpAnyH_ready (rs := [2, 8]) (by kernel_rfl) (by simp) ?_
    refine AllReadyH.cons (o := _) rfl (fun K hK => ?_) (AllReadyH.cons (o := _) rfl (fun K hK => ?_) AllReadyH.nil)
    rw [if_pos (by rfl)]
    refine step_mk _ _ _ _ rfl 60 (.slice none 0 0) 24 Try.underlying27 ends_info rfl .i64 .i64 _ _ n2 rfl rfl rfl rfl (by omega) (by omega) ?_
    intro wm hrow hzm belm
    replace BA := BA.new belm
    replace BR := BR.new belm
    replace BO := BO.new belm
    replace BC := BC.new belm
    have z_belm := belm.size
    replace bb := bb.trans (belm.mono bb.size)
    obtain ⟨ge, hge⟩ : ∃ ge, ge = wc.heap.size := ⟨_, rfl⟩
    rw [← hge] at hrow ⊢
    have zge : w.heap.size + 1 + 1 ≤ ge := by omega
    clear hge belm
    refine hK.out _ _ (BA.cell 2 _ rfl) (fun hHeld => ?_)
    clear hK K
    try simp only [Act.put, List.getElem_toArray, List.getElem_cons_zero, List.getElem_cons_succ, List.setIfInBounds_toArray, List.set_cons_zero, List.set_cons_succ]
    refine wpAnyH_ready (rs := [8]) (by kernel_rfl) (by simp) ?_
    refine AllReadyH.cons (o := _) rfl (fun K hK => ?_) AllReadyH.nil
    go_simp
    refine (concat2_any gc _ cp0 N.inputs _ B (Rd.below HI3.out (bb.mono hB)) (Nat.le_trans hB bb.size) (BC.cell 0 _ rfl) (BC.cell 1 _ rfl) (by omega) (by omega)).mono ?_
    rintro e wp ⟨ap', cp', rfl, ownp, belp⟩
    rw [← HII.out] at ownp ⊢
    clear BC
    replace BA := BA.new belp
    replace BR := BR.new belp
    replace BO := BO.new belp
    replace hrow := hrow.of_block (belp.block _ hrow.lt)
    have z_belp := belp.size
    replace bb := bb.trans (belp.mono bb.size)
    clear belp
    refine hK.out _ _ (BA.cell 2 _ rfl) (fun hHeld => ?_)
    clear hK K
    try simp only [Act.put, List.getElem_toArray, List.getElem_cons_zero, List.getElem_cons_succ, List.setIfInBounds_toArray, List.set_cons_zero, List.set_cons_succ]
    refine wpAnyH_take (i := 9) (v := ?_) rfl (by kernel_rfl) (by kernel_rfl) (by kernel_rfl) (fun _ _ _ h => h) (Or.inl ⟨by rfl, ?_⟩) (by assumption) ?_
    rotate_left
    · (intro w hSw; (try dsimp only at hSw); go_simp; try with_reducible rfl)
    try simp only [Act.put, List.getElem_toArray, List.getElem_cons_zero, List.getElem_cons_succ, List.setIfInBounds_toArray, List.set_cons_zero, List.set_cons_succ]
    refine wpAnyH_ready (rs := [11]) (by kernel_rfl) (by simp) ?_
    refine AllReadyH.cons (o := _) rfl (fun K hK => ?_) AllReadyH.nil
    have c0 := BO.cell 0 _ rfl
    have f0 := BO.frozen 0
    have c1 := BO.cell 1 _ rfl
    have f1 := BO.frozen 1
    have c2 := BO.cell 2 _ rfl
    have f2 := BO.frozen 2
    go_simp
    clear c0 c1 c2 f0 f1 f2
    generalize hW : World.setCell _ _ _ = W
    have BO2 : Bx W go 29 #[.slice (some ⟨ge, 0, none⟩) n2 n2, .slice none 0 0, .slice ap' II.length cp'] := by rw [← hW]; exact ((BO.set 0 _).set 1 _).set 2 _
    have frW : Fr (fun k => k = go) wp W := by rw [← hW]; exact fr3 _ _ _ _ _
    replace ownp := Ow.wide (lo' := w.heap.size + 1 + 1) (hi' := W.heap.size) (Ow.frB ownp frW (fun k hk hc => BO.ne_row ownp (by decide) (hc ▸ hk))) (by omega) (by have := frW.size; omega)
    have hgg : ge ≠ go := BO.ne_rowIs hrow (by decide)
    replace hrow := hrow.of_block (frW.block _ hrow.lt hgg)
    clear hW BO
    replace BA := BA.fr frW (by omega)
    replace BR := BR.fr frW (by omega)
    replace bb := bb.trans (frW.below (B := w.heap.size) (fun k h1 h2 hc => by omega) bb.size)
    have zW : w.heap.size + 1 + 1 ≤ W.heap.size := by have := frW.size; omega
    refine hK.out _ _ (BA.cell 2 _ rfl) (fun hHeld => ?_)
    clear hK K
    try simp only [Act.put, List.getElem_toArray, List.getElem_cons_zero, List.getElem_cons_succ, List.setIfInBounds_toArray, List.set_cons_zero, List.set_cons_succ]
    refine wpAnyH_done (by kernel_rfl) ?_ _
    rotate_left
    go_simp
    refine (concat2_any gc _ cp0 N.inputs _ B (Rd.below HI3.out (bb.mono hB)) (Nat.le_trans hB bb.size) (BC.cell 0 _ rfl) (BC.cell 1 _ rfl) (by omega) (by omega)).mono ?_
    rintro e wp ⟨ap', cp', rfl, ownp, belp⟩
    rw [← HII.out] at ownp ⊢
    clear BC
    replace BA := BA.new belp
    replace BR := BR.new belp
    replace BO := BO.new belp
    have z_belp := belp.size
    replace bb := bb.trans (belp.mono bb.size)
    clear belp
    refine hK.out _ _ (BA.cell 2 _ rfl) (fun hHeld => ?_)
    clear hK K
    try simp only [Act.put, List.getElem_toArray, List.getElem_cons_zero, List.getElem_cons_succ, List.setIfInBounds_toArray, List.set_cons_zero, List.set_cons_succ]
    refine wpAnyH_ready (rs := [2]) (by kernel_rfl) (by simp) ?_
    refine AllReadyH.cons (o := _) rfl (fun K hK => ?_) AllReadyH.nil
    rw [if_pos (by rfl)]
    refine step_mk _ _ _ _ rfl 60 (.slice none 0 0) 24 Try.underlying27 ends_info rfl .i64 .i64 _ _ n2 rfl rfl rfl rfl (by omega) (by omega) ?_
    intro wm hrow hzm belm
    replace BA := BA.new belm
    replace BR := BR.new belm
    replace BO := BO.new belm
    replace ownp := Ow.new ownp belm
    have z_belm := belm.size
    replace bb := bb.trans (belm.mono bb.size)
    obtain ⟨ge, hge⟩ : ∃ ge, ge = wp.heap.size := ⟨_, rfl⟩
    rw [← hge] at hrow ⊢
    have zge : w.heap.size + 1 + 1 ≤ ge := by omega
    clear hge belm
    refine hK.out _ _ (BA.cell 2 _ rfl) (fun hHeld => ?_)
    clear hK K
    try simp only [Act.put, List.getElem_toArray, List.getElem_cons_zero, List.getElem_cons_succ, List.setIfInBounds_toArray, List.set_cons_zero, List.set_cons_succ]
    refine wpAnyH_take (i := 9) (v := ?_) rfl (by kernel_rfl) (by kernel_rfl) (by kernel_rfl) (fun _ _ _ h => h) (Or.inl ⟨by rfl, ?_⟩) (by assumption) ?_
    rotate_left
    · (intro w hSw; (try dsimp only at hSw); go_simp; try with_reducible rfl)
    try simp only [Act.put, List.getElem_toArray, List.getElem_cons_zero, List.getElem_cons_succ, List.setIfInBounds_toArray, List.set_cons_zero, List.set_cons_succ]
    refine wpAnyH_ready (rs := [11]) (by kernel_rfl) (by simp) ?_
    refine AllReadyH.cons (o := _) rfl (fun K hK => ?_) AllReadyH.nil
    have c0 := BO.cell 0 _ rfl
    have f0 := BO.frozen 0
    have c1 := BO.cell 1 _ rfl
    have f1 := BO.frozen 1
    have c2 := BO.cell 2 _ rfl
    have f2 := BO.frozen 2
    go_simp
    clear c0 c1 c2 f0 f1 f2
    generalize hW : World.setCell _ _ _ = W
    have BO2 : Bx W go 29 #[.slice (some ⟨ge, 0, none⟩) n2 n2, .slice none 0 0, .slice ap' II.length cp'] := by rw [← hW]; exact ((BO.set 0 _).set 1 _).set 2 _
    have frW : Fr (fun k => k = go) wm W := by rw [← hW]; exact fr3 _ _ _ _ _
    replace ownp := Ow.wide (lo' := w.heap.size + 1 + 1) (hi' := W.heap.size) (Ow.frB ownp frW (fun k hk hc => BO.ne_row ownp (by decide) (hc ▸ hk))) (by omega) (by have := frW.size; omega)
    have hgg : ge ≠ go := BO.ne_rowIs hrow (by decide)
    replace hrow := hrow.of_block (frW.block _ hrow.lt hgg)
    clear hW BO
    replace BA := BA.fr frW (by omega)
    replace BR := BR.fr frW (by omega)
    replace bb := bb.trans (frW.below (B := w.heap.size) (fun k h1 h2 hc => by omega) bb.size)
    have zW : w.heap.size + 1 + 1 ≤ W.heap.size := by have := frW.size; omega
    refine hK.out _ _ (BA.cell 2 _ rfl) (fun hHeld => ?_)
    clear hK K
    try simp only [Act.put, List.getElem_toArray, List.getElem_cons_zero, List.getElem_cons_succ, List.setIfInBounds_toArray, List.set_cons_zero, List.set_cons_succ]
    refine wpAnyH_done (by kernel_rfl) ?_ _
    rotate_left
    all_goals
      go_wp2_with fail
      go_meet
      exact ⟨go, ge, ap', cp', rfl, BA, BR, BO2, hrow, ownp, bb, zW, zge, zgo, hgg⟩
  case rest =>
    clear BA BR bb zz z1 hwn2
    obtain ⟨b, ge, ap', cp', rfl, BA, BR, BO, hrow, ownp, bb, zW, zge, zgo, hgg⟩ := hcut
    generalize wc = w2 at *
    obtain ⟨lo, hlo0⟩ : ∃ lo, lo = w.heap.size + 1 + 1 := ⟨_, rfl⟩
    rw [← hlo0] at ownp zW zge zgo
    rw [HII.out] at BO ownp
    have zl : w.heap.size + 1 + 1 ≤ lo := by omega
    have zlo : lo ≤ w2.heap.size := zW
    have hNB : NBx w2 lo b { ends := dcT N.ends N.ends.length 0 0, ids := [], inputs := (N.inputs ++ N.inputs) } := by
      rw [dcT_zero, ← HN2.out]
      have hl2 : (List.replicate n2 ([] : List (Int × Int))).length = n2 := List.length_replicate ..
      refine ⟨some ⟨ge, 0, none⟩, n2, fun _ => (none, 0), none, 0, ap', cp', ?_, RowsE.empty hrow zge hrow.lt (by unfold maxLen; omega), Ow.nil _ _ _ _ _ _ _, ownp, .inl rfl⟩
      show Bx _ _ _ #[.slice _ (List.replicate n2 ([] : List (Int × Int))).length n2, _, _]
      rw [hl2]; exact BO
    clear hlo0 hrow ownp zW zge hgg BO
    have q0 := BA.cell 0 _ rfl
    go_wp2_with fail
    clear q0
    go_loopw [30] (fun iv wr => ∃ v : Nat, v ≤ N.ends.length ∧ iv = .int .i64 v ∧ NBx wr lo b { ends := dcT N.ends N.ends.length v 0, ids := [], inputs := (N.inputs ++ N.inputs) } ∧ Bx wr w.heap.size 29 #[.slice (some ⟨g0, off0, none⟩) N.ends.length c0, .slice ai0 N.ids.length ci0, .slice (some ⟨gp, offp, none⟩) N.inputs.length cp0] ∧ Bx wr (w.heap.size + 1) 29 #[.slice none 0 0, .slice none 0 0, .slice none 0 0] ∧ Below w.heap.size w wr ∧ lo ≤ wr.heap.size) (fun iv _ => N.ends.length - (intOf iv).toNat)
    case atStart => exact ⟨0, Nat.zero_le _, rfl, hNB, BA, BR, bb, zlo⟩
    case round =>
      clear hNB BA BR bb zlo
      obtain ⟨v, hv, rfl, hNB, BA, BR, bb, zlo⟩ := hrel
      by_cases hlt : v < N.ends.length
      · have hc1 := (bb.cell (p := ⟨g0, off0 + v, none⟩) (by show g0 < _; omega)).trans (HC0.out v hlt)
        have hrow := (HR0.out v hlt).below (bb.mono hB)
        have hL1 := net_row HN.out hlt
        have HBK := Lib.hid (fun j (hj : j < (rowOf N.ends v).length) => net_back HN.out hlt hj)
        generalize (vs0 v).1 = ax at *
        generalize (vs0 v).2 = cx at *
        obtain ⟨wk, hwk⟩ : ∃ wk, wk = wr := ⟨_, rfl⟩
        subst hwk
        go_wp2_with fail
        clear hc1
        have hBk : B ≤ wk.heap.size := Nat.le_trans hB bb.size
        go_loopw [37] (fun iv wr => ∃ i : Nat, i ≤ (rowOf N.ends v).length ∧ iv = .int .i64 i ∧ NBx wr lo b { ends := dcT N.ends N.ends.length v i, ids := [], inputs := (N.inputs ++ N.inputs) } ∧ Below lo wk wr) (fun iv _ => (rowOf N.ends v).length - (intOf iv).toNat)
        case atStart => exact ⟨0, Nat.zero_le _, rfl, hNB, Below.refl _ _⟩
        case round =>
          clear hNB
          obtain ⟨i, hi, rfl, hNB, bel⟩ := hrel
          have hDw := bel.size
          by_cases hil : i < (rowOf N.ends v).length
          · skip
            obtain ⟨p, q, hpq, hp, hq, _⟩ := HBK.out i hil
            obtain ⟨g1, off1, hae, _, e1, e2⟩ := RdE.at (hrow.below (bel.mono (by omega))) hil
            rw [hpq] at e1 e2
            have HPQ := Lib.hid hpq
            clear hpq
            subst hae
            have BE := Bx.made wr 62 #[.int .i64 (p : Int), .int .i64 (q : Int)]
            have bE : Below wr.heap.size wr (wr.alloc (.cells #[.int .i64 (p : Int), .int .i64 (q : Int)] 62)) := (by repeat (first | exact Below.refl _ _ | assumption | refine Below.alloc ?_ (by first | (simp; done) | (simp; omega) | omega) _ | refine Below.setCell ?_ (by first | (simp; done) | (simp; omega) | omega) _ | refine Below.drew ?_ | refine Below.drewN ?_ _))
            obtain ⟨eb, heb⟩ : ∃ eb, eb = wr.heap.size := ⟨_, rfl⟩
            have zeb1 : eb ≤ wr.heap.size := by omega
            have zeb2 : wr.heap.size ≤ eb := by omega
            go_upto_region 11 with fail
            clear e1 e2
            rw [← heb] at BE ⊢
            clear heb
            obtain ⟨aq, c, vs, ai, ci, ap, cp, hbx, hE, owni, ownp, hdis⟩ := hNB
            have hWL : (dcT N.ends N.ends.length v i).length = N.ends.length + N.ends.length := dcT_length ..
            obtain ⟨A, hA, _, _⟩ := Ow.addr hE.1 (by show 0 < (dcT N.ends N.ends.length v i).length; omega)
            subst hA
            have hEb : ¬ RB A (dcT N.ends N.ends.length v i) vs eb := rb_new hE (by show 0 < (dcT N.ends N.ends.length v i).length; omega) zeb2
            replace hbx := hbx.new bE
            replace hE : RowsE (wr.alloc (.cells #[.int .i64 (p : Int), .int .i64 (q : Int)] 62)) lo (wr.alloc (.cells #[.int .i64 (p : Int), .int .i64 (q : Int)] 62)).heap.size (some ⟨A, 0, none⟩) c (dcT N.ends N.ends.length v i) vs := RowsAt.top (RowsAt.new hE bE)
            replace owni := Ow.top (Ow.new owni bE)
            replace ownp := Ow.top (Ow.new ownp bE)
            have bel2 := bel.trans (bE.mono (by omega))
            have zE := bel2.size
            have zlE : lo ≤ (wr.alloc (.cells #[.int .i64 (p : Int), .int .i64 (q : Int)] 62)).heap.size := Nat.le_trans (by omega) bE.size
            clear bE bel
            generalize (wr.alloc (.cells #[.int .i64 (p : Int), .int .i64 (q : Int)] 62)) = wy at *
            have hlo : lo ≤ wy.heap.size := zlE
            obtain ⟨n, hn⟩ : ∃ n, n = (dcT N.ends N.ends.length v i).length := ⟨_, rfl⟩
            replace hbx : Bx wy b 29 #[.slice (some ⟨A, 0, none⟩) (dcT N.ends N.ends.length v i).length c, .slice ai 0 ci, .slice ap (N.inputs ++ N.inputs).length cp] := hbx
            rw [← hn] at hbx
            have HNK := Lib.hid (hn.trans hWL)
            have hrl : (rowOf (dcT N.ends N.ends.length v i) v).length ≤ 6 := dcT_len HN.out v i v (by omega)
            have hrl2 : (rowOf (dcT N.ends N.ends.length v i) (v + N.ends.length)).length ≤ 6 := dcT_len HN.out v i (v + N.ends.length) (by omega)
            have hrow2 : rowOf (addP (dcT N.ends N.ends.length v i) v ((p : Int) + (N.ends.length : Int)) (q : Int)) (v + N.ends.length) = rowOf (dcT N.ends N.ends.length v i) (v + N.ends.length) := by rw [addP_row _ _ _ _ _ (by rw [hWL]; omega), if_neg (by omega)]
            have hvn : v < n := by omega
            have hv1 : v < (dcT N.ends N.ends.length v i).length := by omega
            have hv2 : v + N.ends.length < (addP (dcT N.ends N.ends.length v i) v ((p : Int) + (N.ends.length : Int)) (q : Int)).length := by rw [addP_length]; omega
            have HDA := Lib.hid (dcT_add hlt hil HPQ.out)
            have HNI := Lib.hid (fun (x : Nat) (hx : blk ai ci = some x) => rb_ne hE (by omega) owni hx)
            have HNP := Lib.hid (fun (x : Nat) (hx : blk ap cp = some x) => rb_ne hE (by omega) ownp hx)
            have HIN := Lib.hid (fun (x : Nat) (h : RB A (dcT N.ends N.ends.length v i) vs x) => rb_in hE (by omega) h)
            clear hWL hn
            have hp40 : p ≤ 40 := by omega
            have hwr1 : IntKind.i64.wrap ((p : Int) + (N.ends.length : Int)) = (p : Int) + (N.ends.length : Int) := wrapD _ (by omega)
            obtain ⟨u, hu⟩ : ∃ u, u = v + N.ends.length := ⟨_, rfl⟩
            have hwr2 : IntKind.i64.wrap ((v : Int) + (N.ends.length : Int)) = (u : Int) := by rw [wrapD _ (by omega)]; omega
            rw [← hu] at hrow2 hrl2 hv2 HDA
            have hun : u < n := by have := HNK.out; omega
            have HU := Lib.hid hu
            clear hu
            obtain ⟨R, hR⟩ : ∃ R, R = (dcT N.ends N.ends.length v i) := ⟨_, rfl⟩
            rw [← hR] at hE hrl hrow2 hrl2 hv1 hv2 HDA hEb HNI HNP HIN
            have HR := Lib.hid hR
            clear hR
            obtain ⟨Kp, hKp⟩ : ∃ Kp : Int, Kp = (p : Int) + (N.ends.length : Int) := ⟨_, rfl⟩
            rw [← hKp] at hwr1 hrow2 hv2 HDA
            rw [hKp] at hwr1
            have HKP := Lib.hid hKp
            clear hKp
            go_wp2_with fail
            have hS0 : wy.drew.cell? ⟨b, 0, none⟩ = some (.slice (some ⟨A, 0, none⟩) n c) ∧ wy.drew.cell? ⟨eb, 0, none⟩ = some (.int .i64 (p : Int)) ∧ wy.drew.cell? ⟨eb, 1, none⟩ = some (.int .i64 (q : Int)) := ⟨hbx.cell 0 _ rfl, BE.cell 0 _ rfl, BE.cell 1 _ rfl⟩
            have hw1 : Below wy.heap.size wy (wy.drew.alloc (.cells #[.int .i64 ((p : Int) + (N.ends.length : Int)), .int .i64 (q : Int)] 62)) := (by repeat (first | exact Below.refl _ _ | assumption | refine Below.alloc ?_ (by first | (simp; done) | (simp; omega) | omega) _ | refine Below.setCell ?_ (by first | (simp; done) | (simp; omega) | omega) _ | refine Below.drew ?_ | refine Below.drewN ?_ _))
            have BE1 := BE.new hw1
            have hS1 := And.intro ((hbx.new hw1).cell 0 _ rfl) (And.intro (BE1.cell 0 _ rfl) (BE1.cell 1 _ rfl))
            have hrow1 : Ow (wy.drew.alloc (.cells #[.int .i64 ((p : Int) + (N.ends.length : Int)), .int .i64 (q : Int)] 62)) lo wy.heap.size 62 2 (vs v).1 (rowOf R v).length (vs v).2 (cellE (rowOf R v)) := Ow.new (hE.2.1 v hv1) hw1
            have hnews : ∀ jj uu, [Value.int .i64 ((p : Int) + (N.ends.length : Int)), Value.int .i64 (q : Int)][jj]? = some uu → (wy.drew.alloc (.cells #[.int .i64 ((p : Int) + (N.ends.length : Int)), .int .i64 (q : Int)] 62)).cell? (Addr.add ⟨wy.heap.size, 0, none⟩ jj) = some uu := news2 _ _ _ _
            obtain ⟨gq, offq, haeq, _, hcv⟩ := Rd.at (Ow.rd hE.1) hv1
            obtain ⟨rfl, rfl⟩ : A = gq ∧ 0 = offq := by injection haeq with h; injection h with h1 h2; exact ⟨h1, h2⟩
            clear haeq
            rw [Nat.zero_add] at hcv
            refine wp_region_held_drew (S := (fun X => X.cell? ⟨b, 0, none⟩ = some (.slice (some ⟨A, 0, none⟩) n c) ∧ X.cell? ⟨eb, 0, none⟩ = some (.int .i64 (p : Int)) ∧ X.cell? ⟨eb, 1, none⟩ = some (.int .i64 (q : Int)))) (by kernel_rfl) hS0 (fun hHeld => ?_)
            refine wpAnyH_take (i := 0) (v := ?_) rfl (by kernel_rfl) (by kernel_rfl) (by kernel_rfl) (fun _ _ _ h => h) (Or.inl ⟨by rfl, ?_⟩) (by assumption) ?_
            rotate_left
            · (intro w hSw; (try dsimp only at hSw); obtain ⟨hq0, hq1, hq2⟩ := hSw; go_simp; try with_reducible rfl)
            try simp only [Act.put, List.getElem_toArray, List.getElem_cons_zero, List.getElem_cons_succ, List.setIfInBounds_toArray, List.set_cons_zero, List.set_cons_succ]
            refine wpAnyH_take (i := 1) (v := ?_) rfl (by kernel_rfl) (by kernel_rfl) (by kernel_rfl) (fun _ _ _ h => h) (Or.inl ⟨by rfl, ?_⟩) (by assumption) ?_
            rotate_left
            · (intro w hSw; (try dsimp only at hSw); obtain ⟨hq0, hq1, hq2⟩ := hSw; go_simp; try with_reducible rfl)
            try simp only [Act.put, List.getElem_toArray, List.getElem_cons_zero, List.getElem_cons_succ, List.setIfInBounds_toArray, List.set_cons_zero, List.set_cons_succ]
            refine wpAnyH_take (i := 2) (v := ?_) rfl (by kernel_rfl) (by kernel_rfl) (by kernel_rfl) (fun _ _ _ h => h) (Or.inl ⟨by rfl, ?_⟩) (by assumption) ?_
            rotate_left
            · (intro w hSw; (try dsimp only at hSw); obtain ⟨hq0, hq1, hq2⟩ := hSw; go_simp; try with_reducible rfl)
            try simp only [Act.put, List.getElem_toArray, List.getElem_cons_zero, List.getElem_cons_succ, List.setIfInBounds_toArray, List.set_cons_zero, List.set_cons_succ]
            refine wpAnyH_take (i := 3) (v := ?_) rfl (by kernel_rfl) (by kernel_rfl) (by kernel_rfl) (fun _ _ _ h => h) (Or.inl ⟨by rfl, ?_⟩) (by assumption) ?_
            rotate_left
            · (intro w hSw; (try dsimp only at hSw); obtain ⟨hq0, hq1, hq2⟩ := hSw; go_simp; try with_reducible rfl)
            try simp only [Act.put, List.getElem_toArray, List.getElem_cons_zero, List.getElem_cons_succ, List.setIfInBounds_toArray, List.set_cons_zero, List.set_cons_succ]
            refine wpAnyH_take (i := 4) (v := ?_) rfl (by kernel_rfl) (by kernel_rfl) (by kernel_rfl) (fun _ _ _ h => h) (Or.inl ⟨by rfl, ?_⟩) (by assumption) ?_
            rotate_left
            · (intro w hSw; (try dsimp only at hSw); obtain ⟨hq0, hq1, hq2⟩ := hSw; go_simp; try with_reducible rfl)
            try simp only [Act.put, List.getElem_toArray, List.getElem_cons_zero, List.getElem_cons_succ, List.setIfInBounds_toArray, List.set_cons_zero, List.set_cons_succ]
            refine wpAnyH_take (i := 5) (v := ?_) rfl (by kernel_rfl) (by kernel_rfl) (by kernel_rfl) (fun _ _ _ h => h) (Or.inl ⟨by rfl, ?_⟩) (by assumption) ?_
            rotate_left
            · (intro w hSw; (try dsimp only at hSw); obtain ⟨hq0, hq1, hq2⟩ := hSw; go_simp; try with_reducible rfl)
            try simp only [Act.put, List.getElem_toArray, List.getElem_cons_zero, List.getElem_cons_succ, List.setIfInBounds_toArray, List.set_cons_zero, List.set_cons_succ]
            refine wpAnyH_take (i := 6) (v := ?_) rfl (by kernel_rfl) (by kernel_rfl) (by kernel_rfl) (fun _ _ _ h => h) (Or.inl ⟨by rfl, ?_⟩) (by assumption) ?_
            rotate_left
            · (intro w hSw; (try dsimp only at hSw); obtain ⟨hq0, hq1, hq2⟩ := hSw; go_simp; try with_reducible rfl)
            try simp only [Act.put, List.getElem_toArray, List.getElem_cons_zero, List.getElem_cons_succ, List.setIfInBounds_toArray, List.set_cons_zero, List.set_cons_succ]
            refine wpAnyH_take (i := 8) (v := ?_) rfl (by kernel_rfl) (by kernel_rfl) (by kernel_rfl) (fun _ _ _ h => h) (Or.inl ⟨by rfl, ?_⟩) (by assumption) ?_
            rotate_left
            · (intro w hSw; (try dsimp only at hSw); obtain ⟨hq0, hq1, hq2⟩ := hSw; go_simp; try with_reducible rfl)
            try simp only [Act.put, List.getElem_toArray, List.getElem_cons_zero, List.getElem_cons_succ, List.setIfInBounds_toArray, List.set_cons_zero, List.set_cons_succ]
            refine wpAnyH_take (i := 9) (v := ?_) rfl (by kernel_rfl) (by kernel_rfl) (by kernel_rfl) (fun _ _ _ h => h) (Or.inl ⟨by rfl, ?_⟩) (by assumption) ?_
            rotate_left
            · (intro w hSw; (try dsimp only at hSw); obtain ⟨hq0, hq1, hq2⟩ := hSw; go_simp; try with_reducible rfl)
            try simp only [Act.put, List.getElem_toArray, List.getElem_cons_zero, List.getElem_cons_succ, List.setIfInBounds_toArray, List.set_cons_zero, List.set_cons_succ]
            refine wpAnyH_take (i := 10) (v := ?_) rfl (by kernel_rfl) (by kernel_rfl) (by kernel_rfl) (fun _ _ _ h => h) (Or.inl ⟨by rfl, ?_⟩) (by assumption) ?_
            rotate_left
            · (intro w hSw; (try dsimp only at hSw); obtain ⟨hq0, hq1, hq2⟩ := hSw; go_simp; try with_reducible rfl)
            try simp only [Act.put, List.getElem_toArray, List.getElem_cons_zero, List.getElem_cons_succ, List.setIfInBounds_toArray, List.set_cons_zero, List.set_cons_succ]
            refine wpAnyH_take (i := 11) (v := ?_) rfl (by kernel_rfl) (by kernel_rfl) (by kernel_rfl) (fun _ _ _ h => h) (Or.inl ⟨by rfl, ?_⟩) (by assumption) ?_
            rotate_left
            · (intro w hSw; (try dsimp only at hSw); obtain ⟨hq0, hq1, hq2⟩ := hSw; go_simp; try with_reducible rfl)
            try simp only [Act.put, List.getElem_toArray, List.getElem_cons_zero, List.getElem_cons_succ, List.setIfInBounds_toArray, List.set_cons_zero, List.set_cons_succ]
            refine wpAnyH_take (i := 12) (v := ?_) rfl (by kernel_rfl) (by kernel_rfl) (by kernel_rfl) (fun _ _ _ h => h) (Or.inl ⟨by rfl, ?_⟩) (by assumption) ?_
            rotate_left
            · (intro w hSw; (try dsimp only at hSw); obtain ⟨hq0, hq1, hq2⟩ := hSw; go_simp; try with_reducible rfl)
            try simp only [Act.put, List.getElem_toArray, List.getElem_cons_zero, List.getElem_cons_succ, List.setIfInBounds_toArray, List.set_cons_zero, List.set_cons_succ]
            refine wpAnyH_take (i := 13) (v := ?_) rfl (by kernel_rfl) (by kernel_rfl) (by kernel_rfl) (fun _ _ _ h => h) (Or.inl ⟨by rfl, ?_⟩) (by assumption) ?_
            rotate_left
            · (intro w hSw; (try dsimp only at hSw); obtain ⟨hq0, hq1, hq2⟩ := hSw; go_simp; try with_reducible rfl)
            try simp only [Act.put, List.getElem_toArray, List.getElem_cons_zero, List.getElem_cons_succ, List.setIfInBounds_toArray, List.set_cons_zero, List.set_cons_succ]
            refine wpAnyH_take (i := 14) (v := ?_) rfl (by kernel_rfl) (by kernel_rfl) (by kernel_rfl) (fun _ _ _ h => h) (Or.inl ⟨by rfl, ?_⟩) (by assumption) ?_
            rotate_left
            · (intro w hSw; (try dsimp only at hSw); obtain ⟨hq0, hq1, hq2⟩ := hSw; go_simp; try with_reducible rfl)
            try simp only [Act.put, List.getElem_toArray, List.getElem_cons_zero, List.getElem_cons_succ, List.setIfInBounds_toArray, List.set_cons_zero, List.set_cons_succ]
            refine wpAnyH_ready (rs := [7, 15]) (by kernel_rfl) (by simp) ?_
            refine AllReadyH.cons (o := _) rfl (fun K hK => ?_) (AllReadyH.cons (o := _) rfl (fun K hK => ?_) AllReadyH.nil)
            go_simp
            refine hK.out _ _ (hS0) (fun hHeld => ?_)
            clear hK K
            try simp only [Act.put, List.getElem_toArray, List.getElem_cons_zero, List.getElem_cons_succ, List.setIfInBounds_toArray, List.set_cons_zero, List.set_cons_succ]
            refine wpAnyH_ready (rs := [15]) (by kernel_rfl) (by simp) ?_
            refine AllReadyH.cons (o := _) rfl (fun K hK => ?_) AllReadyH.nil
            go_simp
            refine hK.out _ _ (hS1) (fun hHeld => ?_)
            clear hK K
            try simp only [Act.put, List.getElem_toArray, List.getElem_cons_zero, List.getElem_cons_succ, List.setIfInBounds_toArray, List.set_cons_zero, List.set_cons_succ]
            refine wpAnyH_ready (rs := [16]) (by kernel_rfl) (by simp) ?_
            refine AllReadyH.cons (o := _) rfl (fun K hK => ?_) AllReadyH.nil
            rw [if_pos (by rfl)]
            refine step_app _ _ _ rfl 62 (.agg #[.int .i64 0, .int .i64 0]) 2 16 Try.underlying60 end_info rfl (by decide) lo wy.heap.size (vs v).1 (rowOf R v).length (vs v).2 _ rfl hrow1 ⟨wy.heap.size, 0, none⟩ 1 1 [.int .i64 ((p : Int) + (N.ends.length : Int)), .int .i64 (q : Int)] rfl rfl hnews (by simp [Value.oneCell']) (by decide) (by unfold maxLen; omega) (by omega) (by simp; omega) ?_
            intro g' cap' w2 own2 hgr hbg _
            obtain ⟨hbx2, hc2, hf2, va, hE', hbx', hfr', hrb'⟩ := addP_mem hbx hE hv1 hw1 hlo hgr own2 hbg
            have BE2 := BE1.fr (Fr.of_grown hgr) (fun h => hEb (.inr ⟨_, hv1, h.symm⟩))
            have BE3 := BE.fr hfr' hEb
            have hS2 := And.intro (hbx2.cell 0 _ rfl) (And.intro (BE2.cell 0 _ rfl) (BE2.cell 1 _ rfl))
            have hS3 := And.intro (hbx'.cell 0 _ rfl) (And.intro (BE3.cell 0 _ rfl) (BE3.cell 1 _ rfl))
            have hEb' : ¬ RB A (addP R v ((p : Int) + (N.ends.length : Int)) (q : Int)) va eb := fun h => hEb (hrb' _ BE.lt h)
            refine hK.out _ _ hS2 (fun hHeld => ?_)
            clear hK K
            try simp only [Act.put, List.getElem_toArray, List.getElem_cons_zero, List.getElem_cons_succ, List.setIfInBounds_toArray, List.set_cons_zero, List.set_cons_succ]
            refine wpAnyH_take (i := 17) (v := ?_) rfl (by kernel_rfl) (by kernel_rfl) (by kernel_rfl) (fun _ _ _ h => h) (Or.inl ⟨by rfl, ?_⟩) (by assumption) ?_
            rotate_left
            · (intro w hSw; (try dsimp only at hSw); obtain ⟨hq0, hq1, hq2⟩ := hSw; go_simp; try with_reducible rfl)
            try simp only [Act.put, List.getElem_toArray, List.getElem_cons_zero, List.getElem_cons_succ, List.setIfInBounds_toArray, List.set_cons_zero, List.set_cons_succ]
            refine wpAnyH_ready (rs := [18]) (by kernel_rfl) (by simp) ?_
            refine AllReadyH.cons (o := _) rfl (fun K hK => ?_) AllReadyH.nil
            go_simp
            refine hK.out _ _ (hS3) (fun hHeld => ?_)
            clear hK K
            try simp only [Act.put, List.getElem_toArray, List.getElem_cons_zero, List.getElem_cons_succ, List.setIfInBounds_toArray, List.set_cons_zero, List.set_cons_succ]
            refine wpAnyH_done (by kernel_rfl) ?_ _
            clear hHeld hS2 hS3 hc2 hf2 hbx2 own2 hgr hbg BE2
            rotate_left
            go_simp
            refine hK.out _ _ (hS1) (fun hHeld => ?_)
            clear hK K
            try simp only [Act.put, List.getElem_toArray, List.getElem_cons_zero, List.getElem_cons_succ, List.setIfInBounds_toArray, List.set_cons_zero, List.set_cons_succ]
            refine wpAnyH_ready (rs := [7]) (by kernel_rfl) (by simp) ?_
            refine AllReadyH.cons (o := _) rfl (fun K hK => ?_) AllReadyH.nil
            go_simp
            refine hK.out _ _ (hS1) (fun hHeld => ?_)
            clear hK K
            try simp only [Act.put, List.getElem_toArray, List.getElem_cons_zero, List.getElem_cons_succ, List.setIfInBounds_toArray, List.set_cons_zero, List.set_cons_succ]
            refine wpAnyH_ready (rs := [16]) (by kernel_rfl) (by simp) ?_
            refine AllReadyH.cons (o := _) rfl (fun K hK => ?_) AllReadyH.nil
            rw [if_pos (by rfl)]
            refine step_app _ _ _ rfl 62 (.agg #[.int .i64 0, .int .i64 0]) 2 16 Try.underlying60 end_info rfl (by decide) lo wy.heap.size (vs v).1 (rowOf R v).length (vs v).2 _ rfl hrow1 ⟨wy.heap.size, 0, none⟩ 1 1 [.int .i64 ((p : Int) + (N.ends.length : Int)), .int .i64 (q : Int)] rfl rfl hnews (by simp [Value.oneCell']) (by decide) (by unfold maxLen; omega) (by omega) (by simp; omega) ?_
            intro g' cap' w2 own2 hgr hbg _
            obtain ⟨hbx2, hc2, hf2, va, hE', hbx', hfr', hrb'⟩ := addP_mem hbx hE hv1 hw1 hlo hgr own2 hbg
            have BE2 := BE1.fr (Fr.of_grown hgr) (fun h => hEb (.inr ⟨_, hv1, h.symm⟩))
            have BE3 := BE.fr hfr' hEb
            have hS2 := And.intro (hbx2.cell 0 _ rfl) (And.intro (BE2.cell 0 _ rfl) (BE2.cell 1 _ rfl))
            have hS3 := And.intro (hbx'.cell 0 _ rfl) (And.intro (BE3.cell 0 _ rfl) (BE3.cell 1 _ rfl))
            have hEb' : ¬ RB A (addP R v ((p : Int) + (N.ends.length : Int)) (q : Int)) va eb := fun h => hEb (hrb' _ BE.lt h)
            refine hK.out _ _ hS2 (fun hHeld => ?_)
            clear hK K
            try simp only [Act.put, List.getElem_toArray, List.getElem_cons_zero, List.getElem_cons_succ, List.setIfInBounds_toArray, List.set_cons_zero, List.set_cons_succ]
            refine wpAnyH_take (i := 17) (v := ?_) rfl (by kernel_rfl) (by kernel_rfl) (by kernel_rfl) (fun _ _ _ h => h) (Or.inl ⟨by rfl, ?_⟩) (by assumption) ?_
            rotate_left
            · (intro w hSw; (try dsimp only at hSw); obtain ⟨hq0, hq1, hq2⟩ := hSw; go_simp; try with_reducible rfl)
            try simp only [Act.put, List.getElem_toArray, List.getElem_cons_zero, List.getElem_cons_succ, List.setIfInBounds_toArray, List.set_cons_zero, List.set_cons_succ]
            refine wpAnyH_ready (rs := [18]) (by kernel_rfl) (by simp) ?_
            refine AllReadyH.cons (o := _) rfl (fun K hK => ?_) AllReadyH.nil
            go_simp
            refine hK.out _ _ (hS3) (fun hHeld => ?_)
            clear hK K
            try simp only [Act.put, List.getElem_toArray, List.getElem_cons_zero, List.getElem_cons_succ, List.setIfInBounds_toArray, List.set_cons_zero, List.set_cons_succ]
            refine wpAnyH_done (by kernel_rfl) ?_ _
            clear hHeld hS2 hS3 hc2 hf2 hbx2 own2 hgr hbg BE2
            rotate_left
            all_goals
              clear hS0 hS1 hw1 hrow1 hnews hcv hbx hE BE BE1 hEb
              generalize hWW : World.setCell w2 _ _ = wa at hE' hbx' hfr' BE3 ⊢
              clear hWW
              replace hE' := RowsAt.top hE'
              obtain ⟨hE, hbx, hfr, hrb, BE, hEb⟩ := (⟨hE', hbx', hfr', hrb', BE3, hEb'⟩ : _ ∧ _ ∧ _ ∧ _ ∧ _ ∧ _)
              clear hE' hbx' hfr' hrb' BE3 hEb'
              have bel3 := bel2.trans (hfr.below (B := lo) (fun x h1 h2 hc => by have := HIN.out _ hc; omega) hlo)
              replace owni := Ow.top (Ow.frB owni hfr HNI.out)
              replace ownp := Ow.top (Ow.frB ownp hfr HNP.out)
              clear HNI HNP
              have zwa := hfr.size
              clear hfr hrb bel2 HIN
              obtain ⟨R2, hR2⟩ : ∃ R2, R2 = addP R v ((p : Int) + (N.ends.length : Int)) (q : Int) := ⟨_, rfl⟩
              rw [HKP.out] at hrow2 hv2 HDA
              rw [← hR2] at hE hrow2 hv2 HDA hEb
              have hR2l : 0 < R2.length := by omega
              have HR2 := Lib.hid hR2
              clear hR2 hv1
              have HNI := Lib.hid (fun (x : Nat) (hx : blk ai ci = some x) => rb_ne hE hR2l owni hx)
              have HNP := Lib.hid (fun (x : Nat) (hx : blk ap cp = some x) => rb_ne hE hR2l ownp hx)
              have HIN2 := Lib.hid (fun (x : Nat) (h : RB A R2 va x) => rb_in hE hR2l h)
              have hlo2 : lo ≤ wa.heap.size := by omega
              clear hlo
              obtain ⟨hv1, hlo⟩ := (⟨hv2, hlo2⟩ : u < R2.length ∧ lo ≤ wa.heap.size)
              clear hv2 hlo2
              rw [← hrow2] at hrl2
              clear hrow2
              go_wp2_with fail
              have hS0 : wa.drew.cell? ⟨b, 0, none⟩ = some (.slice (some ⟨A, 0, none⟩) n c) ∧ wa.drew.cell? ⟨eb, 0, none⟩ = some (.int .i64 (p : Int)) ∧ wa.drew.cell? ⟨eb, 1, none⟩ = some (.int .i64 (q : Int)) := ⟨hbx.cell 0 _ rfl, BE.cell 0 _ rfl, BE.cell 1 _ rfl⟩
              have hw1 : Below wa.heap.size wa (wa.drew.alloc (.cells #[.int .i64 (p : Int), .int .i64 (q : Int)] 62)) := (by repeat (first | exact Below.refl _ _ | assumption | refine Below.alloc ?_ (by first | (simp; done) | (simp; omega) | omega) _ | refine Below.setCell ?_ (by first | (simp; done) | (simp; omega) | omega) _ | refine Below.drew ?_ | refine Below.drewN ?_ _))
              have BE1 := BE.new hw1
              have hS1 := And.intro ((hbx.new hw1).cell 0 _ rfl) (And.intro (BE1.cell 0 _ rfl) (BE1.cell 1 _ rfl))
              have hrow1 : Ow (wa.drew.alloc (.cells #[.int .i64 (p : Int), .int .i64 (q : Int)] 62)) lo wa.heap.size 62 2 (va u).1 (rowOf R2 u).length (va u).2 (cellE (rowOf R2 u)) := Ow.new (hE.2.1 u hv1) hw1
              have hnews : ∀ jj uu, [Value.int .i64 (p : Int), Value.int .i64 (q : Int)][jj]? = some uu → (wa.drew.alloc (.cells #[.int .i64 (p : Int), .int .i64 (q : Int)] 62)).cell? (Addr.add ⟨wa.heap.size, 0, none⟩ jj) = some uu := news2 _ _ _ _
              obtain ⟨gq, offq, haeq, _, hcv⟩ := Rd.at (Ow.rd hE.1) hv1
              obtain ⟨rfl, rfl⟩ : A = gq ∧ 0 = offq := by injection haeq with h; injection h with h1 h2; exact ⟨h1, h2⟩
              clear haeq
              rw [Nat.zero_add] at hcv
              refine wp_region_held_drew (S := (fun X => X.cell? ⟨b, 0, none⟩ = some (.slice (some ⟨A, 0, none⟩) n c) ∧ X.cell? ⟨eb, 0, none⟩ = some (.int .i64 (p : Int)) ∧ X.cell? ⟨eb, 1, none⟩ = some (.int .i64 (q : Int)))) (by kernel_rfl) hS0 (fun hHeld => ?_)
              refine wpAnyH_take (i := 0) (v := ?_) rfl (by kernel_rfl) (by kernel_rfl) (by kernel_rfl) (fun _ _ _ h => h) (Or.inl ⟨by rfl, ?_⟩) (by assumption) ?_
              rotate_left
              · (intro w hSw; (try dsimp only at hSw); obtain ⟨hq0, hq1, hq2⟩ := hSw; go_simp; try with_reducible rfl)
              try simp only [Act.put, List.getElem_toArray, List.getElem_cons_zero, List.getElem_cons_succ, List.setIfInBounds_toArray, List.set_cons_zero, List.set_cons_succ]
              refine wpAnyH_take (i := 1) (v := ?_) rfl (by kernel_rfl) (by kernel_rfl) (by kernel_rfl) (fun _ _ _ h => h) (Or.inl ⟨by rfl, ?_⟩) (by assumption) ?_
              rotate_left
              · (intro w hSw; (try dsimp only at hSw); obtain ⟨hq0, hq1, hq2⟩ := hSw; go_simp; try with_reducible rfl)
              try simp only [Act.put, List.getElem_toArray, List.getElem_cons_zero, List.getElem_cons_succ, List.setIfInBounds_toArray, List.set_cons_zero, List.set_cons_succ]
              refine wpAnyH_take (i := 2) (v := ?_) rfl (by kernel_rfl) (by kernel_rfl) (by kernel_rfl) (fun _ _ _ h => h) (Or.inl ⟨by rfl, ?_⟩) (by assumption) ?_
              rotate_left
              · (intro w hSw; (try dsimp only at hSw); obtain ⟨hq0, hq1, hq2⟩ := hSw; go_simp; try with_reducible rfl)
              try simp only [Act.put, List.getElem_toArray, List.getElem_cons_zero, List.getElem_cons_succ, List.setIfInBounds_toArray, List.set_cons_zero, List.set_cons_succ]
              refine wpAnyH_take (i := 3) (v := ?_) rfl (by kernel_rfl) (by kernel_rfl) (by kernel_rfl) (fun _ _ _ h => h) (Or.inl ⟨by rfl, ?_⟩) (by assumption) ?_
              rotate_left
              · (intro w hSw; (try dsimp only at hSw); obtain ⟨hq0, hq1, hq2⟩ := hSw; go_simp; try with_reducible rfl)
              try simp only [Act.put, List.getElem_toArray, List.getElem_cons_zero, List.getElem_cons_succ, List.setIfInBounds_toArray, List.set_cons_zero, List.set_cons_succ]
              refine wpAnyH_take (i := 4) (v := ?_) rfl (by kernel_rfl) (by kernel_rfl) (by kernel_rfl) (fun _ _ _ h => h) (Or.inl ⟨by rfl, ?_⟩) (by assumption) ?_
              rotate_left
              · (intro w hSw; (try dsimp only at hSw); obtain ⟨hq0, hq1, hq2⟩ := hSw; go_simp; try with_reducible rfl)
              try simp only [Act.put, List.getElem_toArray, List.getElem_cons_zero, List.getElem_cons_succ, List.setIfInBounds_toArray, List.set_cons_zero, List.set_cons_succ]
              refine wpAnyH_take (i := 5) (v := ?_) rfl (by kernel_rfl) (by kernel_rfl) (by kernel_rfl) (fun _ _ _ h => h) (Or.inl ⟨by rfl, ?_⟩) (by assumption) ?_
              rotate_left
              · (intro w hSw; (try dsimp only at hSw); obtain ⟨hq0, hq1, hq2⟩ := hSw; go_simp; try with_reducible rfl)
              try simp only [Act.put, List.getElem_toArray, List.getElem_cons_zero, List.getElem_cons_succ, List.setIfInBounds_toArray, List.set_cons_zero, List.set_cons_succ]
              refine wpAnyH_take (i := 6) (v := ?_) rfl (by kernel_rfl) (by kernel_rfl) (by kernel_rfl) (fun _ _ _ h => h) (Or.inl ⟨by rfl, ?_⟩) (by assumption) ?_
              rotate_left
              · (intro w hSw; (try dsimp only at hSw); obtain ⟨hq0, hq1, hq2⟩ := hSw; go_simp; try with_reducible rfl)
              try simp only [Act.put, List.getElem_toArray, List.getElem_cons_zero, List.getElem_cons_succ, List.setIfInBounds_toArray, List.set_cons_zero, List.set_cons_succ]
              refine wpAnyH_take (i := 7) (v := ?_) rfl (by kernel_rfl) (by kernel_rfl) (by kernel_rfl) (fun _ _ _ h => h) (Or.inl ⟨by rfl, ?_⟩) (by assumption) ?_
              rotate_left
              · (intro w hSw; (try dsimp only at hSw); obtain ⟨hq0, hq1, hq2⟩ := hSw; go_simp; try with_reducible rfl)
              try simp only [Act.put, List.getElem_toArray, List.getElem_cons_zero, List.getElem_cons_succ, List.setIfInBounds_toArray, List.set_cons_zero, List.set_cons_succ]
              refine wpAnyH_take (i := 8) (v := ?_) rfl (by kernel_rfl) (by kernel_rfl) (by kernel_rfl) (fun _ _ _ h => h) (Or.inl ⟨by rfl, ?_⟩) (by assumption) ?_
              rotate_left
              · (intro w hSw; (try dsimp only at hSw); obtain ⟨hq0, hq1, hq2⟩ := hSw; go_simp; try with_reducible rfl)
              try simp only [Act.put, List.getElem_toArray, List.getElem_cons_zero, List.getElem_cons_succ, List.setIfInBounds_toArray, List.set_cons_zero, List.set_cons_succ]
              refine wpAnyH_take (i := 9) (v := ?_) rfl (by kernel_rfl) (by kernel_rfl) (by kernel_rfl) (fun _ _ _ h => h) (Or.inl ⟨by rfl, ?_⟩) (by assumption) ?_
              rotate_left
              · (intro w hSw; (try dsimp only at hSw); obtain ⟨hq0, hq1, hq2⟩ := hSw; go_simp; try with_reducible rfl)
              try simp only [Act.put, List.getElem_toArray, List.getElem_cons_zero, List.getElem_cons_succ, List.setIfInBounds_toArray, List.set_cons_zero, List.set_cons_succ]
              refine wpAnyH_take (i := 10) (v := ?_) rfl (by kernel_rfl) (by kernel_rfl) (by kernel_rfl) (fun _ _ _ h => h) (Or.inl ⟨by rfl, ?_⟩) (by assumption) ?_
              rotate_left
              · (intro w hSw; (try dsimp only at hSw); obtain ⟨hq0, hq1, hq2⟩ := hSw; go_simp; try with_reducible rfl)
              try simp only [Act.put, List.getElem_toArray, List.getElem_cons_zero, List.getElem_cons_succ, List.setIfInBounds_toArray, List.set_cons_zero, List.set_cons_succ]
              refine wpAnyH_take (i := 12) (v := ?_) rfl (by kernel_rfl) (by kernel_rfl) (by kernel_rfl) (fun _ _ _ h => h) (Or.inl ⟨by rfl, ?_⟩) (by assumption) ?_
              rotate_left
              · (intro w hSw; (try dsimp only at hSw); obtain ⟨hq0, hq1, hq2⟩ := hSw; go_simp; try with_reducible rfl)
              try simp only [Act.put, List.getElem_toArray, List.getElem_cons_zero, List.getElem_cons_succ, List.setIfInBounds_toArray, List.set_cons_zero, List.set_cons_succ]
              refine wpAnyH_ready (rs := [11, 13]) (by kernel_rfl) (by simp) ?_
              refine AllReadyH.cons (o := _) rfl (fun K hK => ?_) (AllReadyH.cons (o := _) rfl (fun K hK => ?_) AllReadyH.nil)
              go_simp
              refine hK.out _ _ (hS0) (fun hHeld => ?_)
              clear hK K
              try simp only [Act.put, List.getElem_toArray, List.getElem_cons_zero, List.getElem_cons_succ, List.setIfInBounds_toArray, List.set_cons_zero, List.set_cons_succ]
              refine wpAnyH_ready (rs := [13]) (by kernel_rfl) (by simp) ?_
              refine AllReadyH.cons (o := _) rfl (fun K hK => ?_) AllReadyH.nil
              go_simp
              refine hK.out _ _ (hS1) (fun hHeld => ?_)
              clear hK K
              try simp only [Act.put, List.getElem_toArray, List.getElem_cons_zero, List.getElem_cons_succ, List.setIfInBounds_toArray, List.set_cons_zero, List.set_cons_succ]
              refine wpAnyH_ready (rs := [14]) (by kernel_rfl) (by simp) ?_
              refine AllReadyH.cons (o := _) rfl (fun K hK => ?_) AllReadyH.nil
              rw [if_pos (by rfl)]
              refine step_app _ _ _ rfl 62 (.agg #[.int .i64 0, .int .i64 0]) 2 16 Try.underlying60 end_info rfl (by decide) lo wa.heap.size (va u).1 (rowOf R2 u).length (va u).2 _ rfl hrow1 ⟨wa.heap.size, 0, none⟩ 1 1 [.int .i64 (p : Int), .int .i64 (q : Int)] rfl rfl hnews (by simp [Value.oneCell']) (by decide) (by unfold maxLen; omega) (by omega) (by simp; omega) ?_
              intro g' cap' w2 own2 hgr hbg _
              obtain ⟨hbx2, hc2, hf2, vb, hE', hbx', hfr', hrb'⟩ := addP_mem hbx hE hv1 hw1 hlo hgr own2 hbg
              have BE2 := BE1.fr (Fr.of_grown hgr) (fun h => hEb (.inr ⟨_, hv1, h.symm⟩))
              have BE3 := BE.fr hfr' hEb
              have hS2 := And.intro (hbx2.cell 0 _ rfl) (And.intro (BE2.cell 0 _ rfl) (BE2.cell 1 _ rfl))
              have hS3 := And.intro (hbx'.cell 0 _ rfl) (And.intro (BE3.cell 0 _ rfl) (BE3.cell 1 _ rfl))
              have hEb' : ¬ RB A (addP R2 u (p : Int) (q : Int)) vb eb := fun h => hEb (hrb' _ BE.lt h)
              refine hK.out _ _ hS2 (fun hHeld => ?_)
              clear hK K
              try simp only [Act.put, List.getElem_toArray, List.getElem_cons_zero, List.getElem_cons_succ, List.setIfInBounds_toArray, List.set_cons_zero, List.set_cons_succ]
              refine wpAnyH_take (i := 15) (v := ?_) rfl (by kernel_rfl) (by kernel_rfl) (by kernel_rfl) (fun _ _ _ h => h) (Or.inl ⟨by rfl, ?_⟩) (by assumption) ?_
              rotate_left
              · (intro w hSw; (try dsimp only at hSw); obtain ⟨hq0, hq1, hq2⟩ := hSw; go_simp; try with_reducible rfl)
              try simp only [Act.put, List.getElem_toArray, List.getElem_cons_zero, List.getElem_cons_succ, List.setIfInBounds_toArray, List.set_cons_zero, List.set_cons_succ]
              refine wpAnyH_ready (rs := [16]) (by kernel_rfl) (by simp) ?_
              refine AllReadyH.cons (o := _) rfl (fun K hK => ?_) AllReadyH.nil
              go_simp
              refine hK.out _ _ (hS3) (fun hHeld => ?_)
              clear hK K
              try simp only [Act.put, List.getElem_toArray, List.getElem_cons_zero, List.getElem_cons_succ, List.setIfInBounds_toArray, List.set_cons_zero, List.set_cons_succ]
              refine wpAnyH_done (by kernel_rfl) ?_ _
              clear hHeld hS2 hS3 hc2 hf2 hbx2 own2 hgr hbg BE2
              rotate_left
              go_simp
              refine hK.out _ _ (hS1) (fun hHeld => ?_)
              clear hK K
              try simp only [Act.put, List.getElem_toArray, List.getElem_cons_zero, List.getElem_cons_succ, List.setIfInBounds_toArray, List.set_cons_zero, List.set_cons_succ]
              refine wpAnyH_ready (rs := [11]) (by kernel_rfl) (by simp) ?_
              refine AllReadyH.cons (o := _) rfl (fun K hK => ?_) AllReadyH.nil
              go_simp
              refine hK.out _ _ (hS1) (fun hHeld => ?_)
              clear hK K
              try simp only [Act.put, List.getElem_toArray, List.getElem_cons_zero, List.getElem_cons_succ, List.setIfInBounds_toArray, List.set_cons_zero, List.set_cons_succ]
              refine wpAnyH_ready (rs := [14]) (by kernel_rfl) (by simp) ?_
              refine AllReadyH.cons (o := _) rfl (fun K hK => ?_) AllReadyH.nil
              rw [if_pos (by rfl)]
              refine step_app _ _ _ rfl 62 (.agg #[.int .i64 0, .int .i64 0]) 2 16 Try.underlying60 end_info rfl (by decide) lo wa.heap.size (va u).1 (rowOf R2 u).length (va u).2 _ rfl hrow1 ⟨wa.heap.size, 0, none⟩ 1 1 [.int .i64 (p : Int), .int .i64 (q : Int)] rfl rfl hnews (by simp [Value.oneCell']) (by decide) (by unfold maxLen; omega) (by omega) (by simp; omega) ?_
              intro g' cap' w2 own2 hgr hbg _
              obtain ⟨hbx2, hc2, hf2, vb, hE', hbx', hfr', hrb'⟩ := addP_mem hbx hE hv1 hw1 hlo hgr own2 hbg
              have BE2 := BE1.fr (Fr.of_grown hgr) (fun h => hEb (.inr ⟨_, hv1, h.symm⟩))
              have BE3 := BE.fr hfr' hEb
              have hS2 := And.intro (hbx2.cell 0 _ rfl) (And.intro (BE2.cell 0 _ rfl) (BE2.cell 1 _ rfl))
              have hS3 := And.intro (hbx'.cell 0 _ rfl) (And.intro (BE3.cell 0 _ rfl) (BE3.cell 1 _ rfl))
              have hEb' : ¬ RB A (addP R2 u (p : Int) (q : Int)) vb eb := fun h => hEb (hrb' _ BE.lt h)
              refine hK.out _ _ hS2 (fun hHeld => ?_)
              clear hK K
              try simp only [Act.put, List.getElem_toArray, List.getElem_cons_zero, List.getElem_cons_succ, List.setIfInBounds_toArray, List.set_cons_zero, List.set_cons_succ]
              refine wpAnyH_take (i := 15) (v := ?_) rfl (by kernel_rfl) (by kernel_rfl) (by kernel_rfl) (fun _ _ _ h => h) (Or.inl ⟨by rfl, ?_⟩) (by assumption) ?_
              rotate_left
              · (intro w hSw; (try dsimp only at hSw); obtain ⟨hq0, hq1, hq2⟩ := hSw; go_simp; try with_reducible rfl)
              try simp only [Act.put, List.getElem_toArray, List.getElem_cons_zero, List.getElem_cons_succ, List.setIfInBounds_toArray, List.set_cons_zero, List.set_cons_succ]
              refine wpAnyH_ready (rs := [16]) (by kernel_rfl) (by simp) ?_
              refine AllReadyH.cons (o := _) rfl (fun K hK => ?_) AllReadyH.nil
              go_simp
              refine hK.out _ _ (hS3) (fun hHeld => ?_)
              clear hK K
              try simp only [Act.put, List.getElem_toArray, List.getElem_cons_zero, List.getElem_cons_succ, List.setIfInBounds_toArray, List.set_cons_zero, List.set_cons_succ]
              refine wpAnyH_done (by kernel_rfl) ?_ _
              clear hHeld hS2 hS3 hc2 hf2 hbx2 own2 hgr hbg BE2
              rotate_left
              all_goals
                clear hS0 hS1 hw1 hrow1 hnews hcv hbx hE BE BE1 hEb
                generalize hWW : World.setCell w2 _ _ = wb at hE' hbx' hfr' BE3 ⊢
                clear hWW
                replace hE' := RowsAt.top hE'
                obtain ⟨hE, hbx, hfr, hrb, BE, hEb⟩ := (⟨hE', hbx', hfr', hrb', BE3, hEb'⟩ : _ ∧ _ ∧ _ ∧ _ ∧ _ ∧ _)
                clear hE' hbx' hfr' hrb' BE3 hEb'
                have bel4 := bel3.trans (hfr.below (B := lo) (fun x h1 h2 hc => by have := HIN2.out _ hc; omega) hlo)
                replace owni := Ow.top (Ow.frB owni hfr HNI.out)
                replace ownp := Ow.top (Ow.frB ownp hfr HNP.out)
                have zwb := hfr.size
                clear hfr hrb bel3
                rw [HDA.out] at hE
                rw [HNK.out] at hbx
                have hNB5 : NBx wb lo b { ends := dcT N.ends N.ends.length v (i + 1), ids := [], inputs := (N.inputs ++ N.inputs) } := ⟨some ⟨A, 0, none⟩, c, vb, ai, ci, ap, cp, by rw [show ({ ends := dcT N.ends N.ends.length v (i + 1), ids := [], inputs := (N.inputs ++ N.inputs) } : Net).ends.length = N.ends.length + N.ends.length from dcT_length ..]; exact hbx, hE, owni, ownp, hdis⟩
                clear hbx hE owni ownp BE hEb HNI HNP HIN2 HDA
                go_wp2_with fail
                go_roundw
                case rel => exact ⟨i + 1, by omega, by go_num, hNB5, bel4⟩
                case measure => simp [intOf]; omega
          · have HIL := Lib.hid (show i = (rowOf N.ends v).length by omega)
            rw [HIL.out] at hNB
            replace BA := BA.below bel (by omega)
            replace BR := BR.below bel (by omega)
            replace bb := bb.trans (bel.mono (by omega))
            replace zlo := Nat.le_trans zlo hDw
            have HNX := Lib.hid (dcT_next N.ends N.ends.length v)
            rw [HNX.out] at hNB
            clear HNX bel
            go_wp2_with fail
            go_roundw
            case rel => exact ⟨v + 1, by omega, by go_num, hNB, BA, BR, bb, zlo⟩
            case measure => simp [intOf]; omega
      · have HVK := Lib.hid (show v = N.ends.length by omega)
        rw [HVK.out] at hNB
        obtain ⟨Nk, hNk⟩ : ∃ Nk, Nk = dcN N := ⟨_, rfl⟩
        have hNB2 : NBx wr lo b Nk := by rw [hNk]; exact hNB
        rw [← hNk] at HSJ
        have HNk := Lib.hid hNk
        clear hNk hNB
        obtain ⟨ax, cx, aix, cix, apx, cpx, BO, own9⟩ := hNB2.at_
        have q0 := BO.cell 0 _ rfl
        have q1 := BO.cell 1 _ rfl
        have q2 := BO.cell 2 _ rfl
        go_wp2_with fail
        clear q0 q1 q2
        refine (network_any _ Nk _ _ _ own9 (Nat.le_refl _) (by omega) HSJ.out).mono ?_
        rintro e w19 ⟨x9, rfl, own19, bel19⟩
        replace BR := BR.new bel19
        replace bb := bb.trans (bel19.mono bb.size)
        have z19 := bel19.size
        clear bel19
        obtain ⟨ax, cx, aix, cix, apx, cpx, rfl, own19⟩ := own19.shape
        generalize hRR : ifN (netB (Nk)) (Nk) = RR at *
        generalize hOO : netB (Nk) = oo at *
        have HRR := Lib.hid hRR
        have HOO := Lib.hid hOO
        clear hRR hOO
        have e0 := BR.cell 0 _ rfl
        have e1 := BR.cell 1 _ rfl
        have e2 := BR.cell 2 _ rfl
        have f0 := BR.frozen 0
        have f1 := BR.frozen 1
        have f2 := BR.frozen 2
        go_wp2_with fail
        clear e0 e1 e2 f0 f1 f2
        generalize hW : World.setCell _ _ _ = W
        have B6 : Bx W (w.heap.size + 1) 29 #[.slice ax RR.ends.length cx, .slice aix RR.ids.length cix, .slice apx RR.inputs.length cpx] := by rw [← hW]; exact ((BR.set 0 _).set 1 _).set 2 _
        have fr6 : Fr (fun k => k = w.heap.size + 1) w19 W := by rw [← hW]; exact fr3 _ _ _ _ _
        clear hW
        have z6 := fr6.size
        have d0 := B6.cell 0 _ rfl
        have d1 := B6.cell 1 _ rfl
        have d2 := B6.cell 2 _ rfl
        refine bodyPost_ret (v := .tuple #[.agg #[.slice ax RR.ends.length cx, .slice aix RR.ids.length cix, .slice apx RR.inputs.length cpx], .bool oo]) (by simp [results, Try.results18, go_sem, d0, d1, d2]) rfl ?_
        rw [dcRR_t HN.out, dcOk_t HN.out, ← HNk.out, HOO.out, HRR.out]
        exact ⟨_, rfl, (own19.frBx BR fr6).wide (lo' := w.heap.size) (hi' := W.heap.size) (by omega) (by omega), bb.trans (fr6.below (fun k h1 h2 hc => by omega) bb.size)⟩
end Go.Proofs.Ytlooinhdehkcdaa
