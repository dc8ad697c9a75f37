/- IsSimple: the plain words; spec's neSimple and IsSimple. -/
import Derived.Test.YtpfjglheinomiaaNear
import Derived.Test.YtpfjglheinomiaaReg
import Derived.Test.YtpfjglheinomiaaAll
import Derived.Maps.Views
import Derived.Maps.OwnOps
namespace Go.Proofs.Ytpfjglheinomiaa
open Go.RowKit
set_option linter.unusedVariables false
set_option linter.unusedSimpArgs false
/-- port i of a node is no stub, no loop and no second edge -/
def sPort (es : List (Int × Int)) (v i : Nat) : Bool := !(decide (nth (fsts es) i = (v : Int)) || hasB ((fsts es).take i) (nth (fsts es) i))
def simB (rows : Rows2) : Bool := decide (∀ v, v < rows.length → ∀ i, i < (rowOf rows v).length → sPort (rowOf rows v) v i = true)
theorem simB_f {rows : Rows2} {v i : Nat} (hv : v < rows.length) (hi : i < (rowOf rows v).length) (h : sPort (rowOf rows v) v i = false) : simB rows = false := decide_eq_false fun hh => by rw [hh v hv i hi] at h; cases h
theorem simB_t {rows : Rows2} (h : ∀ v, v < rows.length → ∀ i, i < (rowOf rows v).length → sPort (rowOf rows v) v i = true) : simB rows = true := decide_eq_true h
def smB (N : Net) : Bool := netB N && simB N.ends
set_option maxHeartbeats 800000 in
theorem neSimple_any (V : Value) (N : Net) (w : World) (B : Nat) (hv : NetIn w B V N) (hB : B ≤ w.heap.size) (hs : NetSmall N) :
    Calls Try.prog 63 #[V] w fun e w' => e = .returned (.bool (simB N.ends)) ∧ Below w.heap.size w w' := by
  have HV := Lib.hid hv
  have HS := Lib.hid hs
  obtain ⟨a, c, vs, ai, ci, ap, cp, rfl, h1, _⟩ := hv
  have HROW := Lib.hid hs.row
  have hl : N.ends.length ≤ 1048576 := by unfold NetSmall at hs; omega
  have BA := Bx.made w 31 #[.slice a N.ends.length c, .slice ai N.ids.length ci, .slice ap N.inputs.length cp]
  have b0 : Below w.heap.size w (w.alloc (.cells #[.slice a N.ends.length c, .slice ai N.ids.length ci, .slice ap N.inputs.length cp] 31)) := (by repeat (first | exact Below.refl _ _ | assumption | refine Below.alloc ?_ (by first | (simp; done) | (simp; omega) | omega) _ | refine Below.setCell ?_ (by first | (simp; done) | (simp; omega) | omega) _ | refine Below.drew ?_ | refine Below.drewN ?_ _))
  clear hs h1
  go_enter Try.func63, Try.ntmps63
  go_wp2_with fail
  generalize hW : w.alloc (.cells #[.slice a N.ends.length c, .slice ai N.ids.length ci, .slice ap N.inputs.length cp] 31) = w0 at *
  have z0 := b0.size
  clear hW
  go_loopw [10] (fun iv wr => ∃ k : Nat, k ≤ N.ends.length ∧ iv = .int .i64 k ∧ (∀ v, v < k → ∀ i, i < (rowOf N.ends v).length → sPort (rowOf N.ends v) v i = true) ∧ Below w0.heap.size w0 wr) (fun iv _ => N.ends.length - (intOf iv).toNat)
  case atStart => exact ⟨0, Nat.zero_le _, rfl, fun v h => absurd h (by omega), Below.refl _ _⟩
  case round =>
    obtain ⟨k, hk, rfl, hall, bel⟩ := hrel
    have Hall := Lib.hid hall
    clear hall
    by_cases hlt : k < N.ends.length
    · have hDw := bel.size
      have BA1 := BA.new bel
      have c0 := BA1.cell 0 _ rfl
      have c1 := BA1.cell 1 _ rfl
      have c2 := BA1.cell 2 _ rfl
      have hL := HROW.out k hlt
      go_wp2_with fail
      refine (neNear_any _ N k _ B (HV.out.below ((b0.trans (bel.mono z0)).mono hB)) (by omega) HS.out hlt).mono ?_
      rintro e w2 ⟨an, cn, rfl, ownn, bel2⟩
      have hfl := fsts_length (rowOf N.ends k)
      have hcn : (fsts (rowOf N.ends k)).length ≤ cn := ownn.1
      have HFL := Lib.hid hfl
      have bel3 := bel.trans (bel2.mono hDw)
      have hrd := ownn.rd
      have hlz : (fsts (rowOf N.ends k)).length ≤ 1048576 := by omega
      have HSP := Lib.hid (show ∀ i, sPort (rowOf N.ends k) k i = !(decide (nth (fsts (rowOf N.ends k)) i = (k : Int)) || hasB ((fsts (rowOf N.ends k)).take i) (nth (fsts (rowOf N.ends k)) i)) from fun i => rfl)
      clear hfl c0 c1 c2 BA1 ownn bel2
      generalize fsts (rowOf N.ends k) = zs at *
      go_wp2_with fail
      go_loopw [18] (fun iv wr => ∃ j : Nat, j ≤ zs.length ∧ iv = .int .i64 j ∧ (∀ i, i < j → sPort (rowOf N.ends k) k i = true) ∧ Qt w2 wr) (fun iv _ => zs.length - (intOf iv).toNat)
      case atStart => exact ⟨0, Nat.zero_le _, rfl, fun i h => absurd h (by omega), Qt.refl _⟩
      case round =>
        obtain ⟨j, hj, rfl, hallj, hq⟩ := hrel
        have Hallj := Lib.hid hallj
        clear hallj
        by_cases hjl : j < zs.length
        · obtain ⟨g, off, hae, _, hc⟩ := Rd.at (Rd.qt hrd hq) hjl
          subst hae
          have hjr : j < (rowOf N.ends k).length := by have := HFL.out; omega
          by_cases hx : nth zs j = (k : Int)
          · have hbe : (nth zs j == (k : Int)) = true := beq_iff_eq.2 hx
            have HX := Lib.hid hx
            clear hx
            go_wp2_with fail
            go_ret
            exact ⟨ret_bool (simB_f hlt hjr (by rw [HSP.out, decide_eq_true HX.out]; rfl)).symm, b0.trans ((bel3.trans (hq.below _)).mono z0)⟩
          · have hbe : (nth zs j == (k : Int)) = false := beq_eq_false_iff_ne.2 hx
            have HX := Lib.hid hx
            clear hx
            have hjc : j ≤ cn := by omega
            have hlt2 : (zs.take j).length = j := by rw [List.length_take]; omega
            have HC := Lib.hid (l1Has_any (some ⟨g, off, none⟩) cn (zs.take j) (nth zs j) wr _ (by have h9 := Rd.take (Rd.qt hrd hq) (show j ≤ zs.length by omega); unfold RdI; rw [hlt2]; exact h9.congr fun x hx => by rw [nth_take _ _ _ hx]) (by rw [hlt2]; omega))
            rw [hlt2] at HC
            clear hlt2
            go_wp2_with fail
            refine HC.out.mono ?_
            rintro e w3 ⟨rfl, q3⟩
            have hq3 : Qt w2 w3 := hq.trans q3
            clear HC q3
            cases hh : hasB (zs.take j) (nth zs j) with
            | true =>
              have HH := Lib.hid hh
              clear hh
              go_wp2_with fail
              go_ret
              exact ⟨ret_bool (simB_f hlt hjr (by rw [HSP.out, HH.out, Bool.or_true]; rfl)).symm, b0.trans ((bel3.trans (hq3.below _)).mono z0)⟩
            | false =>
              have HH := Lib.hid hh
              clear hh
              go_wp2_with fail
              go_roundw
              case rel =>
                refine ⟨j + 1, by omega, by go_num, fun i hi => ?_, hq3⟩
                by_cases e : i = j
                · rw [e, HSP.out, HH.out, decide_eq_false HX.out]; rfl
                · exact Hallj.out i (by omega)
              case measure => simp [intOf]; omega
        · go_wp2_with fail
          go_roundw
          case rel =>
            refine ⟨k + 1, by omega, by go_num, fun v hv i hi => ?_, bel3.trans (hq.below _)⟩
            by_cases e : v = k
            · subst e; exact Hallj.out i (by have := HFL.out; omega)
            · exact Hall.out v (by omega) i hi
          case measure => simp [intOf]; omega
    · go_wp2_with fail
      go_ret
      exact ⟨ret_bool (simB_t fun v hv i hi => Hall.out v (by omega) i hi).symm, b0.trans (bel.mono z0)⟩
open Go.Maps in
/-- the map at block b holds 'true' at the numbers of f -/
def SetM (w : World) (b n : Nat) (f : Int → Bool) : Prop :=
  ∃ D : DataW Unit, w.ownsMap Try.prog 3 (plainElem Try.prog 4) b n D ∧ IsMap D ∧ ∀ z : Int, D.atKey (.int .i64 z) (.lit (.bool false)) = .lit (.bool (f z))
theorem plainBool_inv {v : Value} {z : DataW Unit × List MemPlace} (h : plainElem Try.prog 4 v = some z) : ∃ x, v = .bool x ∧ z = (.lit (.bool x), []) := by
  unfold plainElem at h
  rw [show Try.prog.underlying 4 = some .bool from Try.underlying4] at h
  cases v <;> simp at h
  exact ⟨_, rfl, h.symm⟩
theorem SetM.empty (w : World) : SetM (w.alloc (.map #[] 0)) w.heap.size 0 (fun _ => false) :=
  ⟨.map [], World.ownsMap_made w _ _ _, Maps.isMap_empty, fun z => rfl⟩
theorem SetM.alloc {w : World} {b n : Nat} {f : Int → Bool} (h : SetM w b n f) (o : Obj) : SetM (w.alloc o) b n f := by
  obtain ⟨D, h1, h2, h3⟩ := h
  exact ⟨D, h1.alloc o, h2, h3⟩
theorem SetM.put {w : World} {b n : Nat} {f : Int → Bool} (h : SetM w b n f) (z : Int) (hz : (Lit.int .i64 z).wf = true) (hn : n < maxLen) :
    ∃ w', (Instr.mapUpdate 93 (.map (some b)) (.int .i64 z) (.bool true)).run Try.prog w = .ok () w' ∧ SetM w' b (n + 1) (fun y => decide (y = z) || f y) ∧ w.grownBy w' (some b) := by
  obtain ⟨D, h1, h2, h3⟩ := h
  obtain ⟨w', hrun, ho, hg⟩ := h1.update (Maps.int_keyed Try.underlying3) Try.underlying93 hn (Maps.keyOf_int_mk Try.underlying3 hz) (plainElem_bool Try.underlying4 true)
  refine ⟨w', hrun, ⟨_, ho, h2.put _ _, fun y => ?_⟩, hg⟩
  by_cases e : y = z
  · subst e; rw [Maps.atKey_put_same h2 (show WideAt.IsKeyLit (.int .i64 y) from trivial)]; simp
  · rw [Maps.atKey_put_other (fun hh => e (by injection hh)), h3 y]; simp [e]
theorem SetM.look {w : World} {b n : Nat} {f : Int → Bool} (h : SetM w b n f) (z : Int) (hz : (Lit.int .i64 z).wf = true) : (Instr.lookup 93 (.map (some b)) (.int .i64 z) false).run Try.prog w = .ok (.bool (f z)) w := by
  obtain ⟨D, h1, h2, h3⟩ := h
  obtain ⟨v, ps, hrun, hv⟩ := h1.lookup (Maps.int_keyed Try.underlying3) Try.underlying93 (by kernel_rfl : (zeroValue 4).run Try.prog w = .ok (.bool false) w) (plainElem_bool Try.underlying4 false) (Maps.keyOf_int_mk Try.underlying3 hz)
  obtain ⟨x, rfl, hx⟩ := plainBool_inv hv
  rw [hrun]
  rw [h3 z] at hx
  simp only [Prod.mk.injEq, DataW.lit.injEq, Lit.bool.injEq] at hx
  rw [hx.1]
theorem wpList_insM {w : World} {ops : Array Oper} {rest : List Oper} {o : Oper} {a : Act} {Q : Exit → Act → World → Prop} (hgd : o.guard = none) (m x v : Operand) (hop : o.op = Op.insert 93 m x v ∨ o.op = Op.mapUpdate 93 m x v)
    (b n : Nat) (f : Int → Bool) (z : Int) (hm : a.eval m = .map (some b)) (hx : a.eval x = .int .i64 z) (hv : a.eval v = .bool true) (h : SetM w b n f) (hz : (Lit.int .i64 z).wf = true) (hn : n < maxLen)
    (hK : ∀ w', SetM w' b (n + 1) (fun y => decide (y = z) || f y) → w.grownBy w' (some b) → wpList Try.prog ops Q rest (a.put o.dst undef) w') :
    wpList Try.prog ops Q (o :: rest) a w := by
  refine wpList_plain hgd fun K' hK' => ?_
  obtain ⟨w', hrun, r1, r2⟩ := h.put z hz hn
  unfold Oper.wp
  rcases hop with hop | hop
  · simp [execOp, hop, hm, hx, hv, hrun, Result.andThen]
    exact hK' _ _ (hK w' r1 r2)
  · simp [execOp, hop, hm, hx, hv, hrun, Result.andThen]
    exact hK' _ _ (hK w' r1 r2)
theorem net_node {N : Net} (h : netB N = true) {v i : Nat} (hv : v < N.ends.length) (hi : i < (rowOf N.ends v).length) : 0 ≤ (nthE (rowOf N.ends v) i).1 ∧ (nthE (rowOf N.ends v) i).1 ≤ 40 := by
  unfold netB at h
  simp only [Bool.and_eq_true] at h
  obtain ⟨⟨⟨h1, _⟩, _⟩, h4⟩ := h
  have h5 := inR_iff.1 h1
  have h6 := (of_decide_eq_true (of_decide_eq_true h4 v hv)).2 i hi
  unfold portB hasP hasN at h6
  simp only [Bool.and_eq_true] at h6
  have h7 := inR_iff.1 h6.1.1
  exact ⟨h7.1, by omega⟩
theorem hasB_snoc {zs : List Int} {j : Nat} (hj : j < zs.length) (y : Int) : hasB (zs.take (j + 1)) y = (decide (y = nth zs j) || hasB (zs.take j) y) := by
  have e1 : hasB (zs.take (j + 1)) y = true ↔ ∃ i, i < j + 1 ∧ nth zs i = y := has_take (by omega)
  have e2 : hasB (zs.take j) y = true ↔ ∃ i, i < j ∧ nth zs i = y := has_take (by omega)
  rw [Bool.eq_iff_iff, e1, Bool.or_eq_true, e2, decide_eq_true_iff]
  constructor
  · rintro ⟨i, hi, he⟩
    by_cases h : i = j
    · subst h; exact .inl he.symm
    · exact .inr ⟨i, by omega, he⟩
  · rintro (h | ⟨i, hi, he⟩)
    · exact ⟨j, by omega, h.symm⟩
    · exact ⟨i, by omega, he⟩
theorem wf_i64 (z : Int) (h : 0 ≤ z ∧ z ≤ 1048576) : (Lit.int .i64 z).wf = true := by
  have h2 := RowKit.wrap64_wf z
  rwa [show wrap64 z = z by unfold wrap64; omega] at h2
set_option maxRecDepth 100000 in
set_option maxHeartbeats 800000 in
theorem isSimpleN_any (V : Value) (N : Net) (w : World) (B : Nat) (hv : NetIn w B V N) (hB : B ≤ w.heap.size) (hs : NetSmall N) (hnet : netB N = true) :
    Calls Try.prog 64 #[V] w fun e w' => e = .returned (.bool (simB N.ends)) ∧ Below w.heap.size w w' := by
  obtain ⟨a, c, vs, ai, ci, ap, cp, rfl, h1, _⟩ := hv
  have HROW := Lib.hid hs.row
  have HNN := Lib.hid (fun v i hv hi => net_node hnet (v := v) (i := i) hv hi)
  have hl : N.ends.length ≤ 1048576 := by unfold NetSmall at hs; omega
  have b0 : Below w.heap.size w (w.alloc (.cells #[.slice a N.ends.length c, .slice ai N.ids.length ci, .slice ap N.inputs.length cp] 31)) := (by repeat (first | exact Below.refl _ _ | assumption | refine Below.alloc ?_ (by first | (simp; done) | (simp; omega) | omega) _ | refine Below.setCell ?_ (by first | (simp; done) | (simp; omega) | omega) _ | refine Below.drew ?_ | refine Below.drewN ?_ _))
  have h12 := RdEE.below h1 (b0.mono hB)
  clear h1 hs hnet
  go_enter Try.func64, Try.ntmps64
  go_wp2_with fail
  generalize hW : w.alloc (.cells #[.slice a N.ends.length c, .slice ai N.ids.length ci, .slice ap N.inputs.length cp] 31) = w0 at *
  have z0 := b0.size
  have hB0 : B ≤ w0.heap.size := by omega
  clear hW
  go_loopw [11] (fun iv wr => ∃ k : Nat, k ≤ N.ends.length ∧ iv = .int .i64 k ∧ (∀ v, v < k → ∀ i, i < (rowOf N.ends v).length → sPort (rowOf N.ends v) v i = true) ∧ Below w0.heap.size w0 wr) (fun iv _ => N.ends.length - (intOf iv).toNat)
  case atStart => exact ⟨0, Nat.zero_le _, rfl, fun v h => absurd h (by omega), Below.refl _ _⟩
  case round =>
    obtain ⟨k, hk, rfl, hall, bel⟩ := hrel
    have Hall := Lib.hid hall
    have hDw := bel.size
    clear hall
    by_cases hlt : k < N.ends.length
    · obtain ⟨g, off, rfl, _, hc1⟩ := Rd.at (h12.below (bel.mono hB0)).1 hlt
      have hrow := h12.2 k hlt
      have hL1 := HROW.out k hlt
      have HNK := Lib.hid (fun i hi => HNN.out k i hlt hi)
      have HFA := Lib.hid (fun i hi h => simB_f (rows := N.ends) (v := k) (i := i) hlt hi h)
      have HSP := Lib.hid (show ∀ i, sPort (rowOf N.ends k) k i = !(decide (nth (fsts (rowOf N.ends k)) i = (k : Int)) || hasB ((fsts (rowOf N.ends k)).take i) (nth (fsts (rowOf N.ends k)) i)) from fun i => rfl)
      have hm0 := SetM.empty wr
      have hmm := @run_makeMap Try.prog
      go_upto_region 5 with (refine wpList_insM rfl _ _ _ (.inl rfl) wr.heap.size 0 _ (k : Int) rfl rfl rfl hm0 (wf_i64 _ (by omega)) (by decide) ?_; intro w1 hm1 hg1)
      have hbm : Below w0.heap.size w0 w1 := by
        have hb1 : Below w0.heap.size w0 (wr.alloc (.map #[] 0)) := bel.alloc hDw _
        exact hb1.grown hg1 (by simp; omega) fun x hx => by injection hx with hx; omega
      have hzw : wr.heap.size < w1.heap.size := by have := hg1.size; simp at this; omega
      have hfl := fsts_length (rowOf N.ends k)
      have HFL := Lib.hid hfl
      have HNT := Lib.hid (fun i hi => fsts_nth (rowOf N.ends k) i hi)
      clear hc1 hm0 hmm hg1 hfl
      generalize (vs k).1 = ax at *
      generalize (vs k).2 = cx at *
      have HRK : Hid (∀ j, sPort (rowOf N.ends k) k j = true ∨ True) := Lib.hid fun _ => .inr trivial
      generalize hes : rowOf N.ends k = es at *
      have HES := Lib.hid hes
      clear hes HRK
      obtain ⟨bm, hbmm⟩ : ∃ bm, bm = wr.heap.size := ⟨_, rfl⟩
      rw [← hbmm] at hm1 ⊢
      have zbm : w0.heap.size ≤ bm := by omega
      clear hbmm
      go_wp2_with fail
      go_loopw [21] (fun iv wq => ∃ j : Nat, j ≤ es.length ∧ iv = .int .i64 j ∧ (∀ i, i < j → sPort es k i = true) ∧ SetM wq bm (1 + j) (fun y => decide (y = (k : Int)) || hasB ((fsts es).take j) y) ∧ Below w0.heap.size w0 wq) (fun iv _ => es.length - (intOf iv).toNat)
      case atStart =>
        refine ⟨0, Nat.zero_le _, rfl, fun i h => absurd h (by omega), ?_, hbm⟩
        have hf : (fun y : Int => decide (y = (k : Int)) || hasB ((fsts es).take 0) y) = fun y : Int => decide (y = (k : Int)) || false := by
          funext y
          rw [List.take_zero]
          rfl
        rw [hf]; exact hm1
      case round =>
        clear hm1 hbm
        obtain ⟨j, hj, rfl, hallj, hset, belq⟩ := hrel
        have Hallj := Lib.hid hallj
        have hDq := belq.size
        clear hallj
        by_cases hjl : j < es.length
        · obtain ⟨p, q, hpq⟩ : ∃ p q, nthE es j = (p, q) := ⟨_, _, rfl⟩
          obtain ⟨g1, off1, hae1, _, hc1, hc2⟩ := RdE.at (hrow.below (belq.mono hB0)) hjl
          rw [hpq] at hc1 hc2
          have hp40 := HNK.out j hjl
          rw [hpq] at hp40
          have HNP := Lib.hid (show nth (fsts es) j = p by rw [HNT.out j hjl, hpq])
          clear hpq
          subst hae1
          have hset1 := hset.alloc (.cells #[.int .i64 p, .int .i64 q] 69)
          have hlook := hset1.look p (wf_i64 _ (by omega))
          cases hseen : (decide (p = (k : Int)) || hasB ((fsts es).take j) p) with
          | true =>
            have HSEEN := Lib.hid hseen
            simp only [hseen] at hlook
            clear hseen
            go_wp2_with fail
            go_ret
            exact ⟨ret_bool (HFA.out j hjl (by rw [HSP.out, HNP.out, HSEEN.out]; rfl)).symm, b0.trans ((belq.alloc hDq _).mono z0)⟩
          | false =>
            have HSEEN := Lib.hid hseen
            simp only [hseen] at hlook
            clear hseen
            go_wp2_with (refine wpList_insM rfl _ _ _ (.inr rfl) bm (1 + j) _ p rfl rfl rfl hset1 (wf_i64 _ (by omega)) (by unfold maxLen; omega) ?_; intro w5 hm5 hg5)
            go_roundw
            case rel =>
              refine ⟨j + 1, by omega, by go_num, fun i hi => ?_, ?_, (belq.alloc hDq _).grown hg5 (by simp; omega) fun x hx => by injection hx with hx; omega⟩
              · by_cases e : i = j
                · rw [e, HSP.out, HNP.out, HSEEN.out]; rfl
                · exact Hallj.out i (by omega)
              · have hf : (fun y : Int => decide (y = (k : Int)) || hasB ((fsts es).take (j + 1)) y) = fun y : Int => decide (y = p) || (decide (y = (k : Int)) || hasB ((fsts es).take j) y) := by
                  funext y
                  rw [hasB_snoc (by have := HFL.out; omega), HNP.out]
                  cases decide (y = (k : Int)) <;> cases decide (y = p) <;> simp
                rw [hf]; exact hm5
            case measure => simp [intOf]; omega
        · go_wp2_with fail
          go_roundw
          case rel =>
            refine ⟨k + 1, by omega, by go_num, fun v hv i hi => ?_, belq⟩
            by_cases e : v = k
            · subst e; rw [HES.out] at hi ⊢; exact Hallj.out i (by omega)
            · exact Hall.out v (by omega) i hi
          case measure => simp [intOf]; omega
    · go_wp2_with fail
      go_ret
      exact ⟨ret_bool (simB_t fun v hv i hi => Hall.out v (by omega) i hi).symm, b0.trans (bel.mono z0)⟩
def PostB2 (b ok : Bool) (w : World) (e : Ending) (w' : World) : Prop := e = .returned (.tuple #[.bool b, .bool ok]) ∧ Below w.heap.size w w'
theorem ret_b2 {a b c d : Bool} (h : a = c) (k : b = d) : Ending.returned (.tuple #[.bool a, .bool b]) = .returned (.tuple #[.bool c, .bool d]) := by rw [h, k]
set_option maxHeartbeats 400000 in
theorem isSimpleS_any (V : Value) (N : Net) (w : World) (B : Nat) (hv : NetIn w B V N) (hB : B ≤ w.heap.size) (hs : NetSmall N) :
    Calls Try.prog 26 #[V] w (PostB2 (smB N) (netB N) w) := by
  have HV := Lib.hid hv
  obtain ⟨a, c, vs, ai, ci, ap, cp, rfl, h1, _⟩ := hv
  have BA := Bx.made w 31 #[.slice a N.ends.length c, .slice ai N.ids.length ci, .slice ap N.inputs.length cp]
  have b0 : Below w.heap.size w (w.alloc (.cells #[.slice a N.ends.length c, .slice ai N.ids.length ci, .slice ap N.inputs.length cp] 31)) := (by repeat (first | exact Below.refl _ _ | assumption | refine Below.alloc ?_ (by first | (simp; done) | (simp; omega) | omega) _ | refine Below.setCell ?_ (by first | (simp; done) | (simp; omega) | omega) _ | refine Below.drew ?_ | refine Below.drewN ?_ _))
  go_enter Try.func26, Try.ntmps26
  go_wp2_with fail
  refine (neGood_any _ N _ B (HV.out.below (b0.mono hB)) (Nat.le_trans hB b0.size) hs).mono ?_
  rintro e w1 ⟨rfl, bel1⟩
  replace BA := BA.new bel1
  have b1 := b0.trans (bel1.mono b0.size)
  have z1 := b1.size
  clear b0 bel1
  have c0 := BA.cell 0 _ rfl
  have c1 := BA.cell 1 _ rfl
  have c2 := BA.cell 2 _ rfl
  cases hn : netB N with
  | false =>
    have HN := Lib.hid hn
    clear hn
    go_wp2_with fail
    go_ret2
    exact ⟨ret_b2 (by rw [smB, HN.out]; rfl) HN.out.symm, b1⟩
  | true =>
    have HN := Lib.hid hn
    clear hn
    go_wp2_with fail
    refine (neSimple_any _ N _ B (HV.out.below (b1.mono hB)) (Nat.le_trans hB z1) hs).mono ?_
    rintro e w2 ⟨rfl, bel2⟩
    go_wp2_with fail
    go_ret2
    exact ⟨ret_b2 (by rw [smB, HN.out]; rfl) HN.out.symm, b1.trans (bel2.mono z1)⟩
set_option maxHeartbeats 400000 in
theorem isSimple_any (V : Value) (N : Net) (w : World) (B : Nat) (hv : NetIn w B V N) (hB : B ≤ w.heap.size) (hs : NetSmall N) :
    Calls Try.prog 27 #[V] w (PostB2 (smB N) (netB N) w) := by
  have HV := Lib.hid hv
  obtain ⟨a, c, vs, ai, ci, ap, cp, rfl, h1, _⟩ := hv
  have BA := Bx.made w 31 #[.slice a N.ends.length c, .slice ai N.ids.length ci, .slice ap N.inputs.length cp]
  have b0 : Below w.heap.size w (w.alloc (.cells #[.slice a N.ends.length c, .slice ai N.ids.length ci, .slice ap N.inputs.length cp] 31)) := (by repeat (first | exact Below.refl _ _ | assumption | refine Below.alloc ?_ (by first | (simp; done) | (simp; omega) | omega) _ | refine Below.setCell ?_ (by first | (simp; done) | (simp; omega) | omega) _ | refine Below.drew ?_ | refine Below.drewN ?_ _))
  go_enter Try.func27, Try.ntmps27
  go_wp2_with fail
  refine (isNetwork_any _ N _ B (HV.out.below (b0.mono hB)).rd (Nat.le_trans hB b0.size) hs).mono ?_
  rintro e w1 ⟨rfl, bel1⟩
  replace BA := BA.new bel1
  have b1 := b0.trans (bel1.mono b0.size)
  have z1 := b1.size
  clear b0 bel1
  have c0 := BA.cell 0 _ rfl
  have c1 := BA.cell 1 _ rfl
  have c2 := BA.cell 2 _ rfl
  cases hn : netB N with
  | false =>
    have HN := Lib.hid hn
    clear hn
    go_wp2_with fail
    go_ret2
    exact ⟨ret_b2 (by rw [smB, HN.out]; rfl) HN.out.symm, b1⟩
  | true =>
    have HN := Lib.hid hn
    clear hn
    go_wp2_with fail
    refine (isSimpleN_any _ N _ B (HV.out.below (b1.mono hB)) (Nat.le_trans hB z1) hs HN.out).mono ?_
    rintro e w2 ⟨rfl, bel2⟩
    go_wp2_with fail
    go_ret2
    exact ⟨ret_b2 (by rw [smB, HN.out]; rfl) HN.out.symm, b1.trans (bel2.mono z1)⟩
end Go.Proofs.Ytpfjglheinomiaa
