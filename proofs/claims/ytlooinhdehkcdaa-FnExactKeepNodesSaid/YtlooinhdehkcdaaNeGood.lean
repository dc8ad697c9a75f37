/- Contract: spec.neGood. -/
import Derived.Test.YtlooinhdehkcdaaGood
import Derived.BigQuiet
namespace Go.Proofs.Ytlooinhdehkcdaa
open Go.RowKit
set_option linter.unusedVariables false
set_option linter.unusedSimpArgs false
/-- a network that is read, its capacities with it -/
def NetIn (w : World) (B : Nat) (v : Value) (N : Net) : Prop :=
  ∃ a c vs ai ci ap cp, v = .agg #[.slice a N.ends.length c, .slice ai N.ids.length ci, .slice ap N.inputs.length cp] ∧ RdEE w B a N.ends vs ∧ RdI w B ai N.ids ∧ RdI w B ap N.inputs ∧ N.ids.length ≤ ci ∧ N.inputs.length ≤ cp
theorem NetIn.rd {w : World} {B : Nat} {v : Value} {N : Net} (h : NetIn w B v N) : NetRd w B v N := by
  obtain ⟨a, c, vs, ai, ci, ap, cp, hv, h1, h2, h3, _⟩ := h
  exact ⟨a, c, vs, ai, ci, ap, cp, hv, h1, h2, h3⟩
theorem NetIn.below {w w' : World} {B : Nat} {v : Value} {N : Net} (h : NetIn w B v N) (hb : Below B w w') : NetIn w' B v N := by
  obtain ⟨a, c, vs, ai, ci, ap, cp, hv, h1, h2, h3, h4⟩ := h
  exact ⟨a, c, vs, ai, ci, ap, cp, hv, h1.below hb, Rd.below h2 hb, Rd.below h3 hb, h4⟩
theorem RowsE.rd {w : World} {lo hi : Nat} {a : Option Addr} {c : Nat} {rows : Rows2} {vs : Nat → Option Addr × Nat} (h : RowsE w lo hi a c rows vs) : RdEE w hi a rows vs :=
  ⟨Ow.rd h.1, fun j hj => Ow.rdE (h.2.1 j hj)⟩
theorem NetAt.in_ {w : World} {lo hi : Nat} {v : Value} {N : Net} (h : NetAt w lo hi v N) : NetIn w hi v N := by
  obtain ⟨a, c, vs, ai, ci, ap, cp, hv, h1, h2, h3, _⟩ := h
  exact ⟨a, c, vs, ai, ci, ap, cp, hv, RowsE.rd h1, Ow.rd h2, Ow.rd h3, h2.1, h3.1⟩
theorem hasP_f0 {rows : Rows2} {p q : Int} (h : hasN rows p = false) : hasP rows p q = false := by rw [hasP, h]; rfl
theorem hasP_at {rows : Rows2} {p : Nat} {q : Int} (h : hasN rows p = true) : hasP rows p q = inR q 0 (((rowOf rows p).length : Int) - 1) := by
  rw [hasP, h, Int.toNat_natCast, Bool.true_and]
theorem hasN_nat {rows : Rows2} {p : Int} (h : hasN rows p = true) : ∃ p' : Nat, p = p' ∧ p' < rows.length := by
  have h1 := inR_iff.1 h
  obtain ⟨p', rfl⟩ := Int.eq_ofNat_of_zero_le h1.1
  exact ⟨p', rfl, by omega⟩
theorem inpB_len {l : List Int} {n : Nat} (h : l.length ≠ n) : inpB l n = false := by rw [inpB, decide_eq_false h]; rfl
theorem inpB_all {l : List Int} {n : Nat} (h : l.length = n) : inpB l n = allB l 0 9 := by rw [inpB, decide_eq_true h]; rfl
theorem l1In_q (W : World) (n lo hi : Int) (b : Bool) (hb : inR n lo hi = b) (q : Nat) : Calls Try.prog 69 #[.int .i64 n, .int .i64 lo, .int .i64 hi] (W.drewN q) fun e w' => e = .returned (.bool b) ∧ ∃ m, w' = (W.drewN q).drewN m :=
  (l1In_any n lo hi _).mono fun e w' h => ⟨hb ▸ h.1, 0, h.2.symm⟩
set_option maxHeartbeats 1600000 in
set_option maxRecDepth 100000 in
theorem neGood_any (v : Value) (N : Net) (w : World) (B : Nat) (hv : NetIn w B v N) (hB : B ≤ w.heap.size) (hs : NetSmall N) :
    Calls Try.prog 35 #[v] w fun e w' => e = .returned (.bool (netB N)) ∧ Below w.heap.size w w' := by
  obtain ⟨a, c, vs, ai, ci, ap, cp, rfl, h1, h2, h3, hci, hcp⟩ := hv
  have hrow := hs.row
  have HROW := Lib.hid hrow
  unfold NetSmall at hs
  clear hrow
  have BA := Bx.made w 29 #[.slice a N.ends.length c, .slice ai N.ids.length ci, .slice ap N.inputs.length cp]
  have b0 : Below w.heap.size w (w.alloc (.cells #[.slice a N.ends.length c, .slice ai N.ids.length ci, .slice ap N.inputs.length cp] 29)) := (by repeat (first | exact Below.refl _ _ | assumption | refine Below.alloc ?_ (by first | (simp; done) | (simp; omega) | omega) _ | refine Below.setCell ?_ (by first | (simp; done) | (simp; omega) | omega) _ | refine Below.drew ?_ | refine Below.drewN ?_ _))
  cases hn : inR (N.ends.length : Int) 1 40 with
  | false =>
    have HX := Lib.hid hn
    clear hn
    go_enter Try.func35, Try.ntmps35
    go_wp2_with fail
    refine (l1In_any _ _ _ _).mono ?_
    rintro e w' ⟨rfl, rfl⟩
    rw [HX.out]
    go_wp2_with fail
    go_ret
    exact ⟨ret_bool (netB_f0 HX.out), b0⟩
  | true =>
    have HN := Lib.hid hn
    have hn40 := inR_iff.1 hn
    clear hn
    go_enter Try.func35, Try.ntmps35
    go_wp2_with fail
    refine (l1In_any _ _ _ _).mono ?_
    rintro e w' ⟨rfl, rfl⟩
    rw [HN.out]
    go_wp2_with fail
    refine (neIds_any _ _ N.ids N.ends.length _ B (Rd.below h2 (b0.mono hB)) (by omega) (by omega) hci).mono ?_
    rintro e w1 ⟨rfl, q1⟩
    have q1' : Qt _ w1 := q1
    replace BA := BA.qt q1'
    have b1 := b0.trans (q1'.below _)
    clear b0 q1 q1'
    have cA2 := BA.cell 2 _ rfl
    have cA0 := BA.cell 0 _ rfl
    cases hi : idsB N.ids N.ends.length with
    | false =>
      have HX := Lib.hid hi
      clear hi
      go_wp2_with fail
      go_ret
      exact ⟨ret_bool (netB_f1 HX.out), b1⟩
    | true =>
      have HI := Lib.hid hi
      clear hi
      by_cases hlen : N.inputs.length = N.ends.length
      case neg =>
        have hne : ((N.inputs.length : Int) != (N.ends.length : Int)) = true := by simp; omega
        have HX := Lib.hid (inpB_len hlen)
        clear hlen
        go_wp2_with fail
        go_ret
        exact ⟨ret_bool (netB_f2 HX.out), b1⟩
      case pos =>
        have HL := Lib.hid hlen
        have hne : ((N.inputs.length : Int) != (N.ends.length : Int)) = false := by simp [hlen]
        clear hlen
        go_wp2_with fail
        have z1 := b1.size
        refine (l1All_any _ _ N.inputs 0 9 _ B (Rd.below h3 (b1.mono hB)) (by omega)).mono ?_
        rintro e w2 ⟨rfl, q2⟩
        have q2' : Qt _ w2 := q2
        replace BA := BA.qt q2'
        have b2 := b1.trans (q2'.below _)
        clear b1 q2 q2' cA2 cA0
        have cA0 := BA.cell 0 _ rfl
        cases hp : allB N.inputs 0 9 with
        | false =>
          have HX : Hid (inpB N.inputs N.ends.length = false) := (inpB_all HL.out).trans hp
          clear hp
          go_wp2_with fail
          go_ret
          exact ⟨ret_bool (netB_f2 HX.out), b2⟩
        | true =>
          have HP : Hid (inpB N.inputs N.ends.length = true) := (inpB_all HL.out).trans hp
          clear hp hne
          go_wp2_with fail
          have h12 := RdEE.below h1 (b2.mono hB)
          have z2 := b2.size
          have hB2 : B ≤ w2.heap.size := by omega
          clear cA0 h1 h2 h3
          go_loopw [39] (fun i wr => ∃ k : Nat, k ≤ N.ends.length ∧ i = .int .i64 k ∧ (∀ j, j < k → rowB N.ends j = true) ∧ Below w2.heap.size w2 wr) (fun i _ => N.ends.length - (intOf i).toNat)
          case atStart => exact ⟨0, Nat.zero_le _, rfl, fun j h => absurd h (by omega), Below.refl _ _⟩
          case round =>
            obtain ⟨k, hk, rfl, hall, bel⟩ := hrel
            have Hall := Lib.hid hall
            clear hall
            by_cases hlt : k < N.ends.length
            · obtain ⟨g, off, hae, hgB, hc⟩ := Rd.at (h12.below (bel.mono hB2)).1 hlt
              have HA := Lib.hid hae
              subst hae
              have hl1 := HROW.out k hlt
              by_cases h6 : (rowOf N.ends k).length ≤ 6
              · have H6 := Lib.hid h6
                go_wp2_with fail
                go_loopw [49] (fun i wr' => ∃ j : Nat, j ≤ (rowOf N.ends k).length ∧ i = .int .i64 j ∧ (∀ x, x < j → portB N.ends k x = true) ∧ Below w2.heap.size w2 wr') (fun i _ => (rowOf N.ends k).length - (intOf i).toNat)
                case atStart => exact ⟨0, Nat.zero_le _, rfl, fun j h => absurd h (by omega), bel⟩
                case round =>
                  obtain ⟨j, hj, rfl, hallp, bel'⟩ := hrel
                  have Hallp := Lib.hid hallp
                  clear hallp
                  by_cases hjlt : j < (rowOf N.ends k).length
                  · obtain ⟨p, q, hpq⟩ : ∃ p q, nthE (rowOf N.ends k) j = (p, q) := ⟨_, _, rfl⟩
                    obtain ⟨g1, off1, hae1, hg1, hc1, hc2⟩ := RdE.at ((h12.below (bel'.mono hB2)).2 k hlt) hjlt
                    rw [hpq] at hc1 hc2
                    have HPQ := Lib.hid hpq
                    clear hpq
                    rw [hae1]
                    go_wp2_with fail
                    generalize hW : wr.alloc (.cells #[.int .i64 p, .int .i64 q] 62) = W
                    have B6 : Bx W wr.heap.size 62 #[.int .i64 p, .int .i64 q] := by rw [← hW]; exact Bx.made wr _ _
                    have belW : Below wr.heap.size wr W := by rw [← hW]; exact (by repeat (first | exact Below.refl _ _ | assumption | refine Below.alloc ?_ (by first | (simp; done) | (simp; omega) | omega) _ | refine Below.setCell ?_ (by first | (simp; done) | (simp; omega) | omega) _ | refine Below.drew ?_ | refine Below.drewN ?_ _))
                    clear hW
                    have zW := belW.size
                    have zr := bel'.size
                    have bel2 := bel'.trans (belW.mono zr)
                    have BAW := BA.new bel2
                    have z2W := bel2.size
                    have c0 : W.cell? ⟨w.heap.size, 0, none⟩ = some (.slice (some ⟨g, off, none⟩) N.ends.length c) := BAW.cell 0 _ rfl
                    have d0 : W.cell? ⟨wr.heap.size, 0, none⟩ = some (.int .i64 p) := B6.cell 0 _ rfl
                    have d1 : W.cell? ⟨wr.heap.size, 1, none⟩ = some (.int .i64 q) := B6.cell 1 _ rfl
                    clear hc1 hc2 hc
                    cases hn : hasN N.ends p with
                    | false =>
                      have HX := Lib.hid (hasP_f0 (q := q) hn)
                      have HQ := Lib.hid (l1In_q W p 0 ((N.ends.length : Int) - 1) false hn)
                      clear hn
                      go_quiet ((go_at_call 69; exact Calls.quiet_of (HQ.out _)))
                      go_wp2_with fail
                      go_ret
                      exact ⟨ret_bool (netB_f3 (rowsB_f hlt (rowB_f2 hjlt (portB_f HPQ.out HX.out)))), b2.trans ((bel2.trans (Qt.below ⟨_, rfl⟩ _)).mono z2)⟩
                    | true =>
                      obtain ⟨p, rfl, hp⟩ := hasN_nat hn
                      have HQ := Lib.hid (l1In_q W p 0 ((N.ends.length : Int) - 1) true hn)
                      have HH := hasP_at (q := q) hn
                      have HN' := Lib.hid hn
                      clear hn
                      obtain ⟨g3, off3, hae3, hg3, hc3⟩ := Rd.at (h12.below (bel2.mono hB2)).1 hp
                      obtain ⟨rfl, rfl⟩ : g = g3 ∧ off = off3 := by injection hae3 with h; injection h with h1 h2; exact ⟨h1, h2⟩
                      clear hae3
                      have hpl := HROW.out p hp
                      cases hq : inR q 0 (((rowOf N.ends p).length : Int) - 1) with
                      | false =>
                        have HX := Lib.hid (HH.trans hq)
                        have HQ2 := Lib.hid (l1In_q W q 0 (((rowOf N.ends p).length : Int) - 1) false hq)
                        clear hq HH
                        go_quiet ((go_at_call 69; first | with_reducible exact Calls.quiet_of (HQ.out _) | with_reducible exact Calls.quiet_of (HQ2.out _)))
                        go_wp2_with fail
                        go_ret
                        exact ⟨ret_bool (netB_f3 (rowsB_f hlt (rowB_f2 hjlt (portB_f HPQ.out HX.out)))), b2.trans ((bel2.trans (Qt.below ⟨_, rfl⟩ _)).mono z2)⟩
                      | true =>
                        have hq2 := inR_iff.1 hq
                        obtain ⟨q, rfl⟩ := Int.eq_ofNat_of_zero_le hq2.1
                        have hql : q < (rowOf N.ends p).length := by omega
                        have HX := Lib.hid (HH.trans hq)
                        have HQ2 := Lib.hid (l1In_q W q 0 (((rowOf N.ends p).length : Int) - 1) true hq)
                        clear hq HH hq2
                        obtain ⟨x, y, hxy⟩ : ∃ x y, nthE (rowOf N.ends p) q = (x, y) := ⟨_, _, rfl⟩
                        obtain ⟨g2, off2, hae2, hg2, hc5, hc6⟩ := RdE.at ((h12.below (bel2.mono hB2)).2 p hp) hql
                        rw [hxy] at hc5 hc6
                        rw [hae2] at hc3
                        have HXY := Lib.hid (portB_e HPQ.out HX.out hxy)
                        clear hxy
                        cases hd : decide (x = (k : Int) ∧ y = (j : Int)) with
                        | true =>
                          rw [hd] at HXY
                          obtain ⟨rfl, rfl⟩ := of_decide_eq_true hd
                          clear hd
                          go_quiet ((go_at_call 69; first | with_reducible exact Calls.quiet_of (HQ.out _) | with_reducible exact Calls.quiet_of (HQ2.out _)))
                          go_wp2_with fail
                          go_roundw
                          case rel =>
                            refine ⟨j + 1, by omega, by go_num, fun x hx => ?_, bel2.trans (Qt.below ⟨_, rfl⟩ _)⟩
                            by_cases e : x = j
                            · rw [e]; exact HXY.out
                            · exact Hallp.out x (by omega)
                          case measure => simp [intOf]; omega
                        | false =>
                          rw [hd] at HXY
                          have hd' := of_decide_eq_false hd
                          clear hd
                          by_cases hx : x = (k : Int)
                          · subst hx
                            have hy : (y == (j : Int)) = false := beq_eq_false_iff_ne.2 fun h => hd' ⟨rfl, h⟩
                            clear hd'
                            go_quiet ((go_at_call 69; first | with_reducible exact Calls.quiet_of (HQ.out _) | with_reducible exact Calls.quiet_of (HQ2.out _)))
                            go_wp2_with fail
                            go_ret
                            exact ⟨ret_bool (netB_f3 (rowsB_f hlt (rowB_f2 hjlt HXY.out))), b2.trans ((bel2.trans (Qt.below ⟨_, rfl⟩ _)).mono z2)⟩
                          · have hy : (x == (k : Int)) = false := beq_eq_false_iff_ne.2 hx
                            clear hd' hx
                            go_quiet ((go_at_call 69; first | with_reducible exact Calls.quiet_of (HQ.out _) | with_reducible exact Calls.quiet_of (HQ2.out _)))
                            go_wp2_with fail
                            go_ret
                            exact ⟨ret_bool (netB_f3 (rowsB_f hlt (rowB_f2 hjlt HXY.out))), b2.trans ((bel2.trans (Qt.below ⟨_, rfl⟩ _)).mono z2)⟩
                  · go_wp2_with fail
                    go_roundw
                    case rel =>
                      refine ⟨k + 1, by omega, by go_num, fun x hx => ?_, bel'⟩
                      by_cases e : x = k
                      · rw [e]; exact rowB_t H6.out fun y hy => Hallp.out y (by omega)
                      · exact Hall.out x (by omega)
                    case measure => simp [intOf]; omega
              · go_wp2_with fail
                go_ret
                exact ⟨ret_bool (netB_f3 (rowsB_f hlt (rowB_f1 h6))), b2.trans (bel.mono z2)⟩
            · go_wp2_with fail
              go_ret
              exact ⟨ret_bool (netB_t HN.out HI.out HP.out (rowsB_t fun j hj => Hall.out j (by omega))), b2.trans (bel.mono z2)⟩
end Go.Proofs.Ytlooinhdehkcdaa
