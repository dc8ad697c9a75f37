/- spec's neGood and neIf at networks whose lists are bounded one by one. -/
import Derived.Test.YtlooinhdehkcdaaIf
import Derived.BigQuiet
namespace Go.Proofs.Ytlooinhdehkcdaa
open Go.RowKit
set_option linter.unusedVariables false
set_option linter.unusedSimpArgs false



def NetFit (N : Net) : Prop := N.ends.length ≤ 1048576 ∧ N.ids.length ≤ 1048576 ∧ N.inputs.length ≤ 1048576 ∧ ∀ j, j < N.ends.length → (rowOf N.ends j).length ≤ 1048576
set_option maxHeartbeats 1600000 in
set_option maxRecDepth 100000 in
theorem neGoodF_any (v : Value) (N : Net) (w : World) (B : Nat) (hv : NetIn w B v N) (hB : B ≤ w.heap.size) (hs : NetFit N) :
    Calls Try.prog 35 #[v] w fun e w' => e = .returned (.bool (netB N)) ∧ Below w.heap.size w w' := by
  obtain ⟨a, c, vs, ai, ci, ap, cp, rfl, h1, h2, h3, hci, hcp⟩ := hv
  obtain ⟨hs1, hs2, hs3, hs4⟩ := hs
  have HROW := Lib.hid hs4
  clear hs4
  have BA := Bx.made w 29 #[.slice a N.ends.length c, .slice ai N.ids.length ci, .slice ap N.inputs.length cp]
  have b0 : Below w.heap.size w (w.alloc (.cells #[.slice a N.ends.length c, .slice ai N.ids.length ci, .slice ap N.inputs.length cp] 29)) := (by repeat (first | exact Below.refl _ _ | assumption | refine Below.alloc ?_ (by first | (simp; done) | (simp; omega) | omega) _ | refine Below.setCell ?_ (by first | (simp; done) | (simp; omega) | omega) _ | refine Below.drew ?_ | refine Below.drewN ?_ _))
  cases hn : inR (N.ends.length : Int) 1 40 with
  | false =>
    have HX := Lib.hid hn
    clear hn
    go_enter Try.func35, Try.ntmps35
    go_wp2_with fail
    refine (l1In_any _ _ _ _).mono ?_
    rintro e w' ⟨rfl, rfl⟩
    rw [HX.out]
    go_wp2_with fail
    go_ret
    exact ⟨ret_bool (netB_f0 HX.out), b0⟩
  | true =>
    have HN := Lib.hid hn
    have hn40 := inR_iff.1 hn
    clear hn
    go_enter Try.func35, Try.ntmps35
    go_wp2_with fail
    refine (l1In_any _ _ _ _).mono ?_
    rintro e w' ⟨rfl, rfl⟩
    rw [HN.out]
    go_wp2_with fail
    refine (neIds_any _ _ N.ids N.ends.length _ B (Rd.below h2 (b0.mono hB)) (by omega) (by omega) hci).mono ?_
    rintro e w1 ⟨rfl, q1⟩
    have q1' : Qt _ w1 := q1
    replace BA := BA.qt q1'
    have b1 := b0.trans (q1'.below _)
    clear b0 q1 q1'
    have cA2 := BA.cell 2 _ rfl
    have cA0 := BA.cell 0 _ rfl
    cases hi : idsB N.ids N.ends.length with
    | false =>
      have HX := Lib.hid hi
      clear hi
      go_wp2_with fail
      go_ret
      exact ⟨ret_bool (netB_f1 HX.out), b1⟩
    | true =>
      have HI := Lib.hid hi
      clear hi
      by_cases hlen : N.inputs.length = N.ends.length
      case neg =>
        have hne : ((N.inputs.length : Int) != (N.ends.length : Int)) = true := by simp; omega
        have HX := Lib.hid (inpB_len hlen)
        clear hlen
        go_wp2_with fail
        go_ret
        exact ⟨ret_bool (netB_f2 HX.out), b1⟩
      case pos =>
        have HL := Lib.hid hlen
        have hne : ((N.inputs.length : Int) != (N.ends.length : Int)) = false := by simp [hlen]
        clear hlen
        go_wp2_with fail
        have z1 := b1.size
        refine (l1All_any _ _ N.inputs 0 9 _ B (Rd.below h3 (b1.mono hB)) (by omega)).mono ?_
        rintro e w2 ⟨rfl, q2⟩
        have q2' : Qt _ w2 := q2
        replace BA := BA.qt q2'
        have b2 := b1.trans (q2'.below _)
        clear b1 q2 q2' cA2 cA0
        have cA0 := BA.cell 0 _ rfl
        cases hp : allB N.inputs 0 9 with
        | false =>
          have HX : Hid (inpB N.inputs N.ends.length = false) := (inpB_all HL.out).trans hp
          clear hp
          go_wp2_with fail
          go_ret
          exact ⟨ret_bool (netB_f2 HX.out), b2⟩
        | true =>
          have HP : Hid (inpB N.inputs N.ends.length = true) := (inpB_all HL.out).trans hp
          clear hp hne
          go_wp2_with fail
          have h12 := RdEE.below h1 (b2.mono hB)
          have z2 := b2.size
          have hB2 : B ≤ w2.heap.size := by omega
          clear cA0 h1 h2 h3
          go_loopw [39] (fun i wr => ∃ k : Nat, k ≤ N.ends.length ∧ i = .int .i64 k ∧ (∀ j, j < k → rowB N.ends j = true) ∧ Below w2.heap.size w2 wr) (fun i _ => N.ends.length - (intOf i).toNat)
          case atStart => exact ⟨0, Nat.zero_le _, rfl, fun j h => absurd h (by omega), Below.refl _ _⟩
          case round =>
            obtain ⟨k, hk, rfl, hall, bel⟩ := hrel
            have Hall := Lib.hid hall
            clear hall
            by_cases hlt : k < N.ends.length
            · obtain ⟨g, off, hae, hgB, hc⟩ := Rd.at (h12.below (bel.mono hB2)).1 hlt
              have HA := Lib.hid hae
              subst hae
              have hl1 := HROW.out k hlt
              by_cases h6 : (rowOf N.ends k).length ≤ 6
              · have H6 := Lib.hid h6
                go_wp2_with fail
                go_loopw [49] (fun i wr' => ∃ j : Nat, j ≤ (rowOf N.ends k).length ∧ i = .int .i64 j ∧ (∀ x, x < j → portB N.ends k x = true) ∧ Below w2.heap.size w2 wr') (fun i _ => (rowOf N.ends k).length - (intOf i).toNat)
                case atStart => exact ⟨0, Nat.zero_le _, rfl, fun j h => absurd h (by omega), bel⟩
                case round =>
                  obtain ⟨j, hj, rfl, hallp, bel'⟩ := hrel
                  have Hallp := Lib.hid hallp
                  clear hallp
                  by_cases hjlt : j < (rowOf N.ends k).length
                  · obtain ⟨p, q, hpq⟩ : ∃ p q, nthE (rowOf N.ends k) j = (p, q) := ⟨_, _, rfl⟩
                    obtain ⟨g1, off1, hae1, hg1, hc1, hc2⟩ := RdE.at ((h12.below (bel'.mono hB2)).2 k hlt) hjlt
                    rw [hpq] at hc1 hc2
                    have HPQ := Lib.hid hpq
                    clear hpq
                    rw [hae1]
                    go_wp2_with fail
                    generalize hW : wr.alloc (.cells #[.int .i64 p, .int .i64 q] 62) = W
                    have B6 : Bx W wr.heap.size 62 #[.int .i64 p, .int .i64 q] := by rw [← hW]; exact Bx.made wr _ _
                    have belW : Below wr.heap.size wr W := by rw [← hW]; exact (by repeat (first | exact Below.refl _ _ | assumption | refine Below.alloc ?_ (by first | (simp; done) | (simp; omega) | omega) _ | refine Below.setCell ?_ (by first | (simp; done) | (simp; omega) | omega) _ | refine Below.drew ?_ | refine Below.drewN ?_ _))
                    clear hW
                    have zW := belW.size
                    have zr := bel'.size
                    have bel2 := bel'.trans (belW.mono zr)
                    have BAW := BA.new bel2
                    have z2W := bel2.size
                    have c0 : W.cell? ⟨w.heap.size, 0, none⟩ = some (.slice (some ⟨g, off, none⟩) N.ends.length c) := BAW.cell 0 _ rfl
                    have d0 : W.cell? ⟨wr.heap.size, 0, none⟩ = some (.int .i64 p) := B6.cell 0 _ rfl
                    have d1 : W.cell? ⟨wr.heap.size, 1, none⟩ = some (.int .i64 q) := B6.cell 1 _ rfl
                    clear hc1 hc2 hc
                    cases hn : hasN N.ends p with
                    | false =>
                      have HX := Lib.hid (hasP_f0 (q := q) hn)
                      have HQ := Lib.hid (l1In_q W p 0 ((N.ends.length : Int) - 1) false hn)
                      clear hn
                      go_quiet ((go_at_call 69; exact Calls.quiet_of (HQ.out _)))
                      go_wp2_with fail
                      go_ret
                      exact ⟨ret_bool (netB_f3 (rowsB_f hlt (rowB_f2 hjlt (portB_f HPQ.out HX.out)))), b2.trans ((bel2.trans (Qt.below ⟨_, rfl⟩ _)).mono z2)⟩
                    | true =>
                      obtain ⟨p, rfl, hp⟩ := hasN_nat hn
                      have HQ := Lib.hid (l1In_q W p 0 ((N.ends.length : Int) - 1) true hn)
                      have HH := hasP_at (q := q) hn
                      have HN' := Lib.hid hn
                      clear hn
                      obtain ⟨g3, off3, hae3, hg3, hc3⟩ := Rd.at (h12.below (bel2.mono hB2)).1 hp
                      obtain ⟨rfl, rfl⟩ : g = g3 ∧ off = off3 := by injection hae3 with h; injection h with h1 h2; exact ⟨h1, h2⟩
                      clear hae3
                      have hpl := HROW.out p hp
                      cases hq : inR q 0 (((rowOf N.ends p).length : Int) - 1) with
                      | false =>
                        have HX := Lib.hid (HH.trans hq)
                        have HQ2 := Lib.hid (l1In_q W q 0 (((rowOf N.ends p).length : Int) - 1) false hq)
                        clear hq HH
                        go_quiet ((go_at_call 69; first | with_reducible exact Calls.quiet_of (HQ.out _) | with_reducible exact Calls.quiet_of (HQ2.out _)))
                        go_wp2_with fail
                        go_ret
                        exact ⟨ret_bool (netB_f3 (rowsB_f hlt (rowB_f2 hjlt (portB_f HPQ.out HX.out)))), b2.trans ((bel2.trans (Qt.below ⟨_, rfl⟩ _)).mono z2)⟩
                      | true =>
                        have hq2 := inR_iff.1 hq
                        obtain ⟨q, rfl⟩ := Int.eq_ofNat_of_zero_le hq2.1
                        have hql : q < (rowOf N.ends p).length := by omega
                        have HX := Lib.hid (HH.trans hq)
                        have HQ2 := Lib.hid (l1In_q W q 0 (((rowOf N.ends p).length : Int) - 1) true hq)
                        clear hq HH hq2
                        obtain ⟨x, y, hxy⟩ : ∃ x y, nthE (rowOf N.ends p) q = (x, y) := ⟨_, _, rfl⟩
                        obtain ⟨g2, off2, hae2, hg2, hc5, hc6⟩ := RdE.at ((h12.below (bel2.mono hB2)).2 p hp) hql
                        rw [hxy] at hc5 hc6
                        rw [hae2] at hc3
                        have HXY := Lib.hid (portB_e HPQ.out HX.out hxy)
                        clear hxy
                        cases hd : decide (x = (k : Int) ∧ y = (j : Int)) with
                        | true =>
                          rw [hd] at HXY
                          obtain ⟨rfl, rfl⟩ := of_decide_eq_true hd
                          clear hd
                          go_quiet ((go_at_call 69; first | with_reducible exact Calls.quiet_of (HQ.out _) | with_reducible exact Calls.quiet_of (HQ2.out _)))
                          go_wp2_with fail
                          go_roundw
                          case rel =>
                            refine ⟨j + 1, by omega, by go_num, fun x hx => ?_, bel2.trans (Qt.below ⟨_, rfl⟩ _)⟩
                            by_cases e : x = j
                            · rw [e]; exact HXY.out
                            · exact Hallp.out x (by omega)
                          case measure => simp [intOf]; omega
                        | false =>
                          rw [hd] at HXY
                          have hd' := of_decide_eq_false hd
                          clear hd
                          by_cases hx : x = (k : Int)
                          · subst hx
                            have hy : (y == (j : Int)) = false := beq_eq_false_iff_ne.2 fun h => hd' ⟨rfl, h⟩
                            clear hd'
                            go_quiet ((go_at_call 69; first | with_reducible exact Calls.quiet_of (HQ.out _) | with_reducible exact Calls.quiet_of (HQ2.out _)))
                            go_wp2_with fail
                            go_ret
                            exact ⟨ret_bool (netB_f3 (rowsB_f hlt (rowB_f2 hjlt HXY.out))), b2.trans ((bel2.trans (Qt.below ⟨_, rfl⟩ _)).mono z2)⟩
                          · have hy : (x == (k : Int)) = false := beq_eq_false_iff_ne.2 hx
                            clear hd' hx
                            go_quiet ((go_at_call 69; first | with_reducible exact Calls.quiet_of (HQ.out _) | with_reducible exact Calls.quiet_of (HQ2.out _)))
                            go_wp2_with fail
                            go_ret
                            exact ⟨ret_bool (netB_f3 (rowsB_f hlt (rowB_f2 hjlt HXY.out))), b2.trans ((bel2.trans (Qt.below ⟨_, rfl⟩ _)).mono z2)⟩
                  · go_wp2_with fail
                    go_roundw
                    case rel =>
                      refine ⟨k + 1, by omega, by go_num, fun x hx => ?_, bel'⟩
                      by_cases e : x = k
                      · rw [e]; exact rowB_t H6.out fun y hy => Hallp.out y (by omega)
                      · exact Hall.out x (by omega)
                    case measure => simp [intOf]; omega
              · go_wp2_with fail
                go_ret
                exact ⟨ret_bool (netB_f3 (rowsB_f hlt (rowB_f1 h6))), b2.trans (bel.mono z2)⟩
            · go_wp2_with fail
              go_ret
              exact ⟨ret_bool (netB_t HN.out HI.out HP.out (rowsB_t fun j hj => Hall.out j (by omega))), b2.trans (bel.mono z2)⟩
set_option maxHeartbeats 400000 in
theorem neIfF_any (V : Value) (N : Net) (w : World) (lo hi : Nat) (hv : NetAt w lo hi V N) (hh : hi ≤ w.heap.size) (hlo : lo ≤ w.heap.size) (hs : NetFit N) :
    Calls Try.prog 36 #[V] w (PostK lo (ifN (netB N) N) (netB N) w) := by
  have HV := Lib.hid hv
  obtain ⟨a, c, vs, ai, ci, ap, cp, rfl, h1, h2, h3, h4⟩ := hv
  have BA := (Bx.made w 29 #[.slice a N.ends.length c, .slice ai N.ids.length ci, .slice ap N.inputs.length cp]).alloc (.cells #[.slice none 0 0, .slice none 0 0, .slice none 0 0] 29)
  have BR := Bx.made (w.alloc (.cells #[.slice a N.ends.length c, .slice ai N.ids.length ci, .slice ap N.inputs.length cp] 29)) 29 #[.slice none 0 0, .slice none 0 0, .slice none 0 0]
  have b0 : Below w.heap.size w ((w.alloc (.cells #[.slice a N.ends.length c, .slice ai N.ids.length ci, .slice ap N.inputs.length cp] 29)).alloc (.cells #[.slice none 0 0, .slice none 0 0, .slice none 0 0] 29)) := (by repeat (first | exact Below.refl _ _ | assumption | refine Below.alloc ?_ (by first | (simp; done) | (simp; omega) | omega) _ | refine Below.setCell ?_ (by first | (simp; done) | (simp; omega) | omega) _ | refine Below.drew ?_ | refine Below.drewN ?_ _))
  rw [World.size_alloc] at BR
  go_enter Try.func36, Try.ntmps36
  go_wp2_with fail
  refine (neGoodF_any _ N _ hi ((NetAt.in_ HV.out).below (b0.mono hh)) (Nat.le_trans hh b0.size) hs).mono ?_
  rintro e w1 ⟨rfl, bel1⟩
  replace BA := BA.new bel1
  replace BR := BR.new bel1
  have b1 := b0.trans (bel1.mono b0.size)
  have z1 := b1.size
  have zR := BR.lt
  clear b0 bel1
  have e0 := BR.cell 0 _ rfl
  have e1 := BR.cell 1 _ rfl
  have e2 := BR.cell 2 _ rfl
  have f0 := BR.frozen 0
  have f1 := BR.frozen 1
  have f2 := BR.frozen 2
  have c0 := BA.cell 0 _ rfl
  have c1 := BA.cell 1 _ rfl
  have c2 := BA.cell 2 _ rfl
  cases hn : netB N with
  | false =>
    have HN := Lib.hid hn
    clear hn
    go_wp2_with fail
    clear c0 c1 c2 e0 e1 e2 f0 f1 f2
    generalize hW : World.setCell _ _ _ = W
    have B6 : Bx W (w.heap.size + 1) 29 #[.slice none 0 0, .slice none 0 0, .slice none 0 0] := by rw [← hW]; exact ((BR.set 0 _).set 1 _).set 2 _
    have fr6 : Fr (fun k => k = w.heap.size + 1) w1 W := by rw [← hW]; exact fr3 _ _ _ _ _
    clear hW
    have z6 := fr6.size
    have d0 := B6.cell 0 _ rfl
    have d1 := B6.cell 1 _ rfl
    have d2 := B6.cell 2 _ rfl
    refine bodyPost_ret (v := .tuple #[.agg #[.slice none 0 0, .slice none 0 0, .slice none 0 0], .bool false]) (by simp [results, Try.results36, go_sem, d0, d1, d2]) rfl ?_
    rw [HN.out]
    exact ⟨_, rfl, NetAt.nilN _ _ _, b1.trans (fr6.below (fun k h1 h2 hc => by omega) z1)⟩
  | true =>
    have HN := Lib.hid hn
    clear hn
    go_wp2_with fail
    clear c0 c1 c2 e0 e1 e2 f0 f1 f2
    generalize hW : World.setCell _ _ _ = W
    have B6 : Bx W (w.heap.size + 1) 29 #[.slice a N.ends.length c, .slice ai N.ids.length ci, .slice ap N.inputs.length cp] := by rw [← hW]; exact ((BR.set 0 _).set 1 _).set 2 _
    have fr6 : Fr (fun k => k = w.heap.size + 1) w1 W := by rw [← hW]; exact fr3 _ _ _ _ _
    clear hW
    have z6 := fr6.size
    have d0 := B6.cell 0 _ rfl
    have d1 := B6.cell 1 _ rfl
    have d2 := B6.cell 2 _ rfl
    refine bodyPost_ret (v := .tuple #[.agg #[.slice a N.ends.length c, .slice ai N.ids.length ci, .slice ap N.inputs.length cp], .bool true]) (by simp [results, Try.results36, go_sem, d0, d1, d2]) rfl ?_
    rw [HN.out]
    exact ⟨_, rfl, ((HV.out.new b1).fr fr6 (fun k h1 h2 hc => by omega)).wide (Nat.le_refl _) (by omega), b1.trans (fr6.below (fun k h1 h2 hc => by omega) z1)⟩
end Go.Proofs.Ytlooinhdehkcdaa
