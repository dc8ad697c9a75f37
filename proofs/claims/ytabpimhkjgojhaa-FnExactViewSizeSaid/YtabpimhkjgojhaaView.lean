/- ViewSize: the plain law and the walks. -/
import Derived.Test.YtabpimhkjgojhaaRenP
import Derived.Test.YtabpimhkjgojhaaEmpty
namespace Go.Proofs.Ytabpimhkjgojhaa
open Go.RowKit
set_option linter.unusedVariables false
set_option linter.unusedSimpArgs false
theorem nth_rangeMapV (n : Nat) (f : Nat → Int) (j : Nat) (h : j < n) : nth ((List.range n).map f) j = f j := by
  rw [nth_eq_getElem _ _ (by simpa using h)]; simp
/-- the first k of n numbers are told by f, the others are 0 -/
def upF (f : Nat → Int) (n k : Nat) : List Int := (List.range n).map fun j => if j < k then f j else 0
theorem upF_length (f : Nat → Int) (n k : Nat) : (upF f n k).length = n := by simp [upF]
theorem upF_nth (f : Nat → Int) (n k j : Nat) (h : j < n) : nth (upF f n k) j = if j < k then f j else 0 := nth_rangeMapV _ _ _ h
theorem upF_zero (f : Nat → Int) (n : Nat) : upF f n 0 = List.replicate n 0 := by
  refine list_ext_nth (by rw [upF_length, List.length_replicate]) fun j hj => ?_
  rw [upF_length] at hj
  rw [upF_nth _ _ _ _ hj, if_neg (by omega), nth_replicate]
theorem upF_set (f : Nat → Int) (n k : Nat) (h : k < n) : (upF f n k).set k (f k) = upF f n (k + 1) := by
  refine list_ext_nth (by rw [List.length_set, upF_length, upF_length]) fun j hj => ?_
  rw [List.length_set, upF_length] at hj
  rw [nth_set _ _ _ _ (by rw [upF_length]; exact h), upF_nth _ _ _ _ hj, upF_nth _ _ _ _ hj]
  by_cases c : j = k
  · subst c; rw [if_pos rfl, if_pos (by omega)]
  · rw [if_neg c]
    by_cases c2 : j < k
    · rw [if_pos c2, if_pos (by omega)]
    · rw [if_neg c2, if_neg (by omega)]
/-- the sum of the amounts at the first j ends -/
def vsSum (am : List Int) (es : List (Int × Int)) : Nat → Int
  | 0 => 0
  | j + 1 => vsSum am es j + nth am (nthE es j).1.toNat
def vsCap (x : Int) : Int := min x 1000001
def vsF (rows : Rows2) (am : List Int) (u : Nat) : Int := vsCap (1 + vsSum am (rowOf rows u) (rowOf rows u).length)
def vsT (rows : Rows2) : Nat → List Int
  | 0 => upF (fun _ => 1) rows.length rows.length
  | t + 1 => upF (vsF rows (vsT rows t)) rows.length rows.length
theorem vsT_length (rows : Rows2) (t : Nat) : (vsT rows t).length = rows.length := by cases t <;> exact upF_length ..
def vsB (am : List Int) : Prop := ∀ j, 0 ≤ nth am j ∧ nth am j ≤ 1000001
theorem nth_out (l : List Int) (j : Nat) (h : l.length ≤ j) : nth l j = 0 := by unfold nth; rw [List.getD_eq_getElem?_getD, List.getElem?_eq_none h]; rfl
theorem vsSum_bd {am : List Int} (h : vsB am) (es : List (Int × Int)) (j : Nat) : 0 ≤ vsSum am es j ∧ vsSum am es j ≤ 1000001 * (j : Int) := by
  induction j with
  | zero => exact ⟨Int.le_refl _, Int.le_refl _⟩
  | succ j ih =>
    have := h (nthE es j).1.toNat
    rw [vsSum]
    omega
theorem vsCap_bd {x : Int} (h : 0 ≤ x) : 0 ≤ vsCap x ∧ vsCap x ≤ 1000001 := by unfold vsCap; omega
theorem vsCap_add {x y : Int} (hy : 0 ≤ y) : vsCap (vsCap x + y) = vsCap (x + y) := by unfold vsCap; omega
theorem vsT_bd (rows : Rows2) (t : Nat) : vsB (vsT rows t) := by
  induction t with
  | zero =>
    intro j
    by_cases h : j < rows.length
    · rw [vsT, upF_nth _ _ _ _ h, if_pos h]; omega
    · rw [nth_out _ _ (by rw [vsT_length]; omega)]; omega
  | succ t ih =>
    intro j
    by_cases h : j < rows.length
    · rw [vsT, upF_nth _ _ _ _ h, if_pos h]
      have := (vsSum_bd ih (rowOf rows j) (rowOf rows j).length).1
      exact vsCap_bd (by omega)
    · rw [nth_out _ _ (by rw [vsT_length]; omega)]; omega
def vzN (N : Net) (v t : Int) : Int := nth (vsT N.ends t.toNat) v.toNat
def vzP (N : Net) (v t : Int) : Bool := (netB N && hasN N.ends v) && inR t 0 80
def vzOk (N : Net) (v t : Int) : Bool := vzP N v t && decide (vzN N v t ≤ 1000000)
def vzR (N : Net) (v t : Int) : Int := if vzOk N v t then vzN N v t else 0
theorem vzOk_f {N : Net} {v t : Int} (h : vzP N v t = false) : vzOk N v t = false := by rw [vzOk, h]; rfl
theorem vzR_f {N : Net} {v t : Int} (h : vzOk N v t = false) : vzR N v t = 0 := by rw [vzR, h]; rfl
theorem vzP_f0 {N : Net} {v t : Int} (h : netB N = false) : vzP N v t = false := by rw [vzP, h]; rfl
theorem vzP_f1 {N : Net} {v t : Int} (h : hasN N.ends v = false) : vzP N v t = false := by rw [vzP, h, Bool.and_false]; rfl
theorem vzP_f2 {N : Net} {v t : Int} (h : inR t 0 80 = false) : vzP N v t = false := by rw [vzP, h, Bool.and_false]
def PostV (R : Int) (ok : Bool) (w : World) (e : Ending) (w' : World) : Prop := e = .returned (.tuple #[.int .i64 R, .bool ok]) ∧ Below w.heap.size w w'
theorem vs1_any (v : Int) (w : World) : Calls Try.prog 100 #[.int .i64 v] w fun e w' => e = .returned (.int .i64 1) ∧ w' = w := by
  go_enter Try.func100, Try.ntmps100
  go_wp2_with fail
  go_ret
  exact ⟨rfl, rfl⟩
theorem vs2_any (v p : Int) (hp : 0 ≤ p ∧ p ≤ 1000000000) (w : World) : Calls Try.prog 101 #[.int .i64 v, .int .i64 p] w fun e w' => e = .returned (.int .i64 (1 + p)) ∧ w' = w := by
  go_enter Try.func101, Try.ntmps101
  go_wp2_with fail
  go_ret
  exact ⟨ret_int (by omega), rfl⟩
set_option maxRecDepth 100000 in
set_option maxHeartbeats 1600000 in
theorem viewAmounts_any (V : Value) (N : Net) (t : Nat) (w : World) (B : Nat) (hv : NetIn w B V N) (hB : B ≤ w.heap.size) (hnet : netB N = true) (ht : t ≤ 80) :
    Calls Try.prog 99 #[V, .int .i64 t, .int .i64 1000001, .func (.func 100) #[] #[], .func (.func 101) #[] #[]] w fun e w' => ∃ g, e = .returned (.slice (some ⟨g, 0, none⟩) N.ends.length N.ends.length) ∧ OwI w' w.heap.size w'.heap.size (some ⟨g, 0, none⟩) N.ends.length (vsT N.ends t) ∧ Below w.heap.size w w' := by
  have HN := Lib.hid hnet
  have HSM := Lib.hid (netB_small hnet)
  have hle : N.ends.length ≤ 40 := HSM.out.1
  have hle1 : 1 ≤ N.ends.length := HSM.out.2.1
  have HVL := Lib.hid (fun k => vsT_length N.ends k)
  obtain ⟨a0, c0, vs0, ai0, ci0, ap0, cp0, rfl, h1, h2, h3, _⟩ := hv
  have BA := Bx.made w 25 #[.slice a0 N.ends.length c0, .slice ai0 N.ids.length ci0, .slice ap0 N.inputs.length cp0]
  have b0 : Below w.heap.size w (w.alloc (.cells #[.slice a0 N.ends.length c0, .slice ai0 N.ids.length ci0, .slice ap0 N.inputs.length cp0] 25)) := (by repeat (first | exact Below.refl _ _ | assumption | refine Below.alloc ?_ (by first | (simp; done) | (simp; omega) | omega) _ | refine Below.setCell ?_ (by first | (simp; done) | (simp; omega) | omega) _ | refine Below.drew ?_ | refine Below.drewN ?_ _))
  obtain ⟨g0, off0, rfl, hg0, hc0⟩ := h1.1 (by omega)
  have HC0 := Lib.hid hc0
  have HR0 := Lib.hid h1.2
  clear hnet h1 h2 h3 hc0
  go_enter Try.func99, Try.ntmps99
  go_upto_region 1 with fail
  generalize w.alloc (.cells #[.slice (some ⟨g0, off0, none⟩) N.ends.length c0, .slice ai0 N.ids.length ci0, .slice ap0 N.inputs.length cp0] 25) = w0 at *
  have q0 := BA.cell 0 _ rfl
  have zA := BA.lt
  obtain ⟨d0, hd0⟩ : ∃ d, d = w0.heap.size := ⟨_, rfl⟩
  have HD := Lib.hid hd0
  have zd : w.heap.size < d0 := by omega
  clear hd0
  go_wp2_with (at_make; refine wpList_mk _ rfl _ _ _ rfl 3 (.int .i64 0) 8 Try.underlying22 int_info rfl .i64 .i64 _ _ N.ends.length rfl rfl rfl rfl (by omega) (by omega) ?_; intro w1 hrow hsz hbel; rw [← HD.out] at hrow hbel hsz ⊢)
  have hown : OwI w1 w.heap.size w1.heap.size (some ⟨d0, 0, none⟩) N.ends.length (upF (fun _ => 1) N.ends.length 0) := by rw [upF_zero]; exact OwI.zeros hrow (by omega) (by omega) (by unfold maxLen; omega)
  have bel1 : Below w.heap.size w w1 := b0.trans (by rw [HD.out] at hbel; exact hbel.mono b0.size)
  have BA1 : Bx w1 w.heap.size 25 #[.slice (some ⟨g0, off0, none⟩) N.ends.length c0, .slice ai0 N.ids.length ci0, .slice ap0 N.inputs.length cp0] := BA.new (by rw [HD.out] at hbel; exact hbel)
  clear q0 hrow hsz hbel BA b0 zA
  go_loopw [25] (fun iv wr => ∃ k : Nat, k ≤ N.ends.length ∧ iv = .int .i64 k ∧ OwI wr w.heap.size wr.heap.size (some ⟨d0, 0, none⟩) N.ends.length (upF (fun _ => 1) N.ends.length k) ∧ Bx wr w.heap.size 25 #[.slice (some ⟨g0, off0, none⟩) N.ends.length c0, .slice ai0 N.ids.length ci0, .slice ap0 N.inputs.length cp0] ∧ Below w.heap.size w wr) (fun iv _ => N.ends.length - (intOf iv).toNat)
  case atStart => exact ⟨0, Nat.zero_le _, rfl, hown, BA1, bel1⟩
  case round =>
    clear hown BA1 bel1
    obtain ⟨k, hk, rfl, hown, BA, bel⟩ := hrel
    by_cases hlt : k < N.ends.length
    · obtain ⟨g9, hg9, _, _, _, hc, hf⟩ := OwI.at hown (by rw [upF_length]; exact hlt)
      obtain rfl : d0 = g9 := by injection hg9 with h; injection h
      have hput := OwI.put 1 hown (by rw [upF_length]; exact hlt)
      rw [upF_set (fun _ => 1) _ _ hlt] at hput
      clear hg9
      go_wp2_with (go_at_call 100; refine (vs1_any _ _).mono ?_; rintro e w' ⟨rfl, hww⟩; subst w')
      have hfr := fr_set wr d0 k (.int .i64 1)
      go_roundw
      case rel => exact ⟨k + 1, by omega, by go_num, Ow.wide hput (Nat.le_refl _) (by rw [size_set]; exact Nat.le_refl _), BA.fr hfr (by omega), bel.trans (hfr.below (B := w.heap.size) (fun x h1 h2 hc => by omega) bel.size)⟩
      case measure => simp [intOf]; omega
    · have HKE := Lib.hid (show k = N.ends.length by omega)
      rw [HKE.out] at hown
      have hown0 : OwI wr w.heap.size wr.heap.size (some ⟨d0, 0, none⟩) N.ends.length (vsT N.ends 0) := hown
      clear hown
      go_wp2_with fail
      go_loopw [11, 36] (fun av iv wr => ∃ k : Nat, k ≤ t ∧ iv = .int .i64 k ∧ (∃ g, av = .slice (some ⟨g, 0, none⟩) N.ends.length N.ends.length ∧ OwI wr w.heap.size wr.heap.size (some ⟨g, 0, none⟩) N.ends.length (vsT N.ends k)) ∧ Bx wr w.heap.size 25 #[.slice (some ⟨g0, off0, none⟩) N.ends.length c0, .slice ai0 N.ids.length ci0, .slice ap0 N.inputs.length cp0] ∧ Below w.heap.size w wr) (fun _ iv _ => t - (intOf iv).toNat)
      case atStart => exact ⟨0, Nat.zero_le _, rfl, ⟨d0, rfl, hown0⟩, BA, bel⟩
      case round =>
        clear hown0 BA bel
        obtain ⟨s, hs, rfl, ⟨g, rfl, hown⟩, BA, bel⟩ := hrel
        by_cases hst : s < t
        · have q0 := BA.cell 0 _ rfl
          obtain ⟨d1, hd1⟩ : ∃ d, d = wr.heap.size := ⟨_, rfl⟩
          have HD1 := Lib.hid hd1
          have zd1 : d1 ≤ wr.heap.size := by omega
          have zd2 : wr.heap.size ≤ d1 := by omega
          have zw := bel.size
          have zA := BA.lt
          clear hd1
          go_upto_region 10 with (at_make; refine wpList_mk _ rfl _ _ _ rfl 3 (.int .i64 0) 8 Try.underlying22 int_info rfl .i64 .i64 _ _ N.ends.length rfl rfl rfl rfl (by omega) (by omega) ?_; intro w1 hrow hsz hbel; rw [← HD1.out] at hrow hbel hsz ⊢)
          have hnew : OwI w1 d1 w1.heap.size (some ⟨d1, 0, none⟩) N.ends.length (upF (vsF N.ends (vsT N.ends s)) N.ends.length 0) := by rw [upF_zero]; exact OwI.zeros hrow (by omega) (by omega) (by unfold maxLen; omega)
          have hbel' : Below wr.heap.size wr w1 := by rw [HD1.out] at hbel; exact hbel
          have bel1 := bel.trans (hbel'.mono bel.size)
          have BA1 := BA.new hbel'
          have hown1 := Ow.new hown hbel'
          have hgl : g < d1 := by have := Ow.addr hown (by rw [HVL.out]; omega); obtain ⟨g9, h9, h8, _⟩ := this; injection h9 with h9; injection h9 with h9; omega
          have q1 := BA1.cell 0 _ rfl
          clear q0 hrow hsz hbel BA hbel' bel hown
          go_wp2_with fail
          clear q1
          have zA1 := BA1.lt
          have z11 := bel1.size
          have zdw : d1 < w1.heap.size := by obtain ⟨_, h9, h8, _⟩ := Ow.addr hnew (by rw [upF_length]; omega); injection h9 with h9; injection h9 with h9; omega
          go_loopw [45] (fun iv wr => ∃ k : Nat, k ≤ N.ends.length ∧ iv = .int .i64 k ∧ OwI wr d1 wr.heap.size (some ⟨d1, 0, none⟩) N.ends.length (upF (vsF N.ends (vsT N.ends s)) N.ends.length k) ∧ OwI wr w.heap.size d1 (some ⟨g, 0, none⟩) N.ends.length (vsT N.ends s) ∧ Bx wr w.heap.size 25 #[.slice (some ⟨g0, off0, none⟩) N.ends.length c0, .slice ai0 N.ids.length ci0, .slice ap0 N.inputs.length cp0] ∧ Below w.heap.size w wr ∧ d1 < wr.heap.size) (fun iv _ => N.ends.length - (intOf iv).toNat)
          case atStart => exact ⟨0, Nat.zero_le _, rfl, hnew, Ow.wide hown1 (Nat.le_refl _) zd2, BA1, bel1, zdw⟩
          case round =>
            clear hnew hown1 BA1 bel1 zdw
            obtain ⟨k, hk, rfl, hnew, hown, BA, bel, zdw⟩ := hrel
            by_cases hlt : k < N.ends.length
            · have zw2 := bel.size
              have hc1 := (bel.cell (p := ⟨g0, off0 + k, none⟩) (by show g0 < _; omega)).trans (HC0.out k hlt)
              have hrow := HR0.out k hlt
              have hL1 := net_row HN.out hlt
              have HBK := Lib.hid (fun j (hj : j < (rowOf N.ends k).length) => net_back HN.out hlt hj)
              have HF := Lib.hid (show vsF N.ends (vsT N.ends s) k = vsCap (1 + vsSum (vsT N.ends s) (rowOf N.ends k) (rowOf N.ends k).length) from rfl)
              have HBD := Lib.hid (fun es j => vsSum_bd (vsT_bd N.ends s) es j)
              have HSS := Lib.hid (fun j => show vsSum (vsT N.ends s) (rowOf N.ends k) (j + 1) = vsSum (vsT N.ends s) (rowOf N.ends k) j + nth (vsT N.ends s) (nthE (rowOf N.ends k) j).1.toNat from rfl)
              generalize (vs0 k).1 = ax at *
              generalize (vs0 k).2 = cx at *
              generalize rowOf N.ends k = es at *
              obtain ⟨wk, hwk⟩ : ∃ wk, wk = wr := ⟨_, rfl⟩
              subst hwk
              go_wp2_with fail
              clear hc1
              go_loopw [16, 52] (fun sv iv wr => ∃ j : Nat, j ≤ es.length ∧ iv = .int .i64 j ∧ sv = .int .i64 (vsSum (vsT N.ends s) es j) ∧ Below wk.heap.size wk wr) (fun _ iv _ => es.length - (intOf iv).toNat)
              case atStart => exact ⟨0, Nat.zero_le _, rfl, rfl, Below.refl _ _⟩
              case round =>
                obtain ⟨j, hj, rfl, rfl, bel2⟩ := hrel
                by_cases hjl : j < es.length
                · obtain ⟨p, q, hpq, hp, hq, _⟩ := HBK.out j hjl
                  obtain ⟨g1, off1, rfl, _, e1, e2⟩ := RdE.at (RdE.below hrow ((bel.trans (bel2.mono bel.size)).mono hB)) hjl
                  obtain ⟨g9, h9, _, _, _, hcg, _⟩ := OwI.at (Ow.new hown bel2) (i := p) (by rw [HVL.out]; exact hp)
                  obtain rfl : g = g9 := by injection h9 with h; injection h
                  have hb1 := HBD.out es j
                  have hb2 := vsT_bd N.ends s p
                  have HS := Lib.hid (show vsSum (vsT N.ends s) es (j + 1) = vsSum (vsT N.ends s) es j + nth (vsT N.ends s) p by rw [HSS.out, hpq]; rfl)
                  rw [hpq] at e1 e2
                  have bE : Below wr.heap.size wr (wr.alloc (.cells #[.int .i64 (p : Int), .int .i64 (q : Int)] 62)) := (by repeat (first | exact Below.refl _ _ | assumption | refine Below.alloc ?_ (by first | (simp; done) | (simp; omega) | omega) _ | refine Below.setCell ?_ (by first | (simp; done) | (simp; omega) | omega) _ | refine Below.drew ?_ | refine Below.drewN ?_ _))
                  clear hpq h9
                  generalize vsSum (vsT N.ends s) es j = sj at *
                  generalize nth (vsT N.ends s) p = ap at *
                  have hcg' := (bE.cell (p := ⟨g, p, none⟩) (World.block_lt_of_cell? wr _ hcg)).trans hcg
                  go_wp2_with fail
                  go_roundw
                  case rel => exact ⟨j + 1, by omega, by go_num, by rw [HS.out], bel2.trans (bE.mono bel2.size)⟩
                  case measure => simp [intOf]; omega
                · have HJE := Lib.hid (show j = es.length by omega)
                  rw [HJE.out]
                  have hb1 := HBD.out es es.length
                  replace hnew := Ow.new hnew bel2
                  replace hown := Ow.new hown bel2
                  replace BA := BA.new bel2
                  replace bel := bel.trans (bel2.mono bel.size)
                  obtain ⟨g9, h9, _, _, _, hc, hf⟩ := OwI.at hnew (by rw [upF_length]; exact hlt)
                  obtain rfl : d1 = g9 := by injection h9 with h; injection h
                  have hput := OwI.put (vsF N.ends (vsT N.ends s) k) hnew (by rw [upF_length]; exact hlt)
                  rw [upF_set _ _ _ hlt] at hput
                  clear h9
                  rw [HF.out] at hput
                  generalize hsj : vsSum (vsT N.ends s) es es.length = sj at *
                  have hfr := fr_set wr d1 k (.int .i64 (vsCap (1 + sj)))
                  go_wp2_with (go_at_call 101; refine (vs2_any _ _ (by omega) _).mono ?_; rintro e w' ⟨rfl, hww⟩; subst w')
                  go_roundw
                  case rel => exact ⟨k + 1, by omega, by go_num, Ow.wide hput (Nat.le_refl _) (by rw [size_set]; exact bel2.size), Ow.fr hown hfr (fun x h1 h2 hc => by omega), BA.fr hfr (by omega), bel.trans (hfr.below (B := w.heap.size) (fun x h1 h2 hc => by omega) bel.size), by have := bel2.size; rw [size_set]; omega⟩
                  case measure => simp [intOf]; omega
            · have HKE := Lib.hid (show k = N.ends.length by omega)
              rw [HKE.out] at hnew
              go_wp2_with fail
              go_roundw
              case rel => exact ⟨s + 1, by omega, by go_num, ⟨d1, rfl, Ow.wide hnew (by omega) (Nat.le_refl _)⟩, BA, bel⟩
              case measure => simp [intOf]; omega
        · have HSE := Lib.hid (show s = t by omega)
          rw [HSE.out] at hown
          go_wp2_with fail
          go_ret
          exact ⟨g, rfl, hown, bel⟩
theorem isDepth_any (t : Int) (w : World) : Calls Try.prog 98 #[.int .i64 t] w fun e w' => e = .returned (.bool (inR t 0 80)) ∧ w' = w := by
  go_enter Try.func98, Try.ntmps98
  go_wp2_with (go_at_call 51; refine (within_any _ _ _ _).mono ?_; rintro e w' ⟨rfl, rfl⟩)
  go_ret
  exact ⟨rfl, rfl⟩
set_option maxRecDepth 100000 in
set_option maxHeartbeats 800000 in
theorem viewSize_any (V : Value) (N : Net) (v t : Int) (w : World) (B : Nat) (hv : NetIn w B V N) (hB : B ≤ w.heap.size) (hs : NetSmall N) :
    Calls Try.prog 42 #[V, .int .i64 v, .int .i64 t] w (PostV (vzR N v t) (vzOk N v t) w) := by
  have HV := Lib.hid hv
  have HS := Lib.hid hs
  obtain ⟨a, c, vs, ai, ci, ap, cp, rfl, h1, h2, h3, _⟩ := hv
  have hl : N.ends.length ≤ 1048576 := by unfold NetSmall at hs; omega
  have BA := Bx.made w 25 #[.slice a N.ends.length c, .slice ai N.ids.length ci, .slice ap N.inputs.length cp]
  have b0 : Below w.heap.size w (w.alloc (.cells #[.slice a N.ends.length c, .slice ai N.ids.length ci, .slice ap N.inputs.length cp] 25)) := (by repeat (first | exact Below.refl _ _ | assumption | refine Below.alloc ?_ (by first | (simp; done) | (simp; omega) | omega) _ | refine Below.setCell ?_ (by first | (simp; done) | (simp; omega) | omega) _ | refine Below.drew ?_ | refine Below.drewN ?_ _))
  clear hs h1 h2 h3
  go_enter Try.func42, Try.ntmps42
  go_wp2_with fail
  generalize w.alloc (.cells #[.slice a N.ends.length c, .slice ai N.ids.length ci, .slice ap N.inputs.length cp] 25) = w0 at *
  refine (isNetwork_any _ N _ B (HV.out.below (b0.mono hB)).rd (Nat.le_trans hB b0.size) HS.out).mono ?_
  rintro e w1 ⟨rfl, bel1⟩
  replace BA := BA.new bel1
  have bb := b0.trans (bel1.mono b0.size)
  clear b0 bel1
  cases hn : netB N with
  | false =>
    have HF := Lib.hid (vzP_f0 (v := v) (t := t) hn)
    clear hn
    go_wp2_with fail
    refine bodyPost_ret (v := .tuple #[.int .i64 0, .bool false]) (by simp [results, Try.results42, go_sem]) rfl ?_
    exact ⟨by rw [vzR_f (vzOk_f HF.out), vzOk_f HF.out], bb⟩
  | true =>
    have HN := Lib.hid hn
    have c0 := BA.cell 0 _ rfl
    have c1 := BA.cell 1 _ rfl
    have c2 := BA.cell 2 _ rfl
    go_wp2_with fail
    refine (hasNode_any a ai ap N.ends c _ _ _ _ _ w1 hl).mono ?_
    rintro e w2 ⟨rfl, bel2⟩
    replace BA := BA.new bel2
    replace bb := bb.trans (bel2.mono bb.size)
    clear bel2 c0 c1 c2
    cases hh : hasN N.ends v with
    | false =>
      have HF := Lib.hid (vzP_f1 (N := N) (t := t) hh)
      clear hn hh
      go_wp2_with fail
      refine bodyPost_ret (v := .tuple #[.int .i64 0, .bool false]) (by simp [results, Try.results42, go_sem]) rfl ?_
      exact ⟨by rw [vzR_f (vzOk_f HF.out), vzOk_f HF.out], bb⟩
    | true =>
      have HH := Lib.hid hh
      go_wp2_with fail
      refine (isDepth_any t w2).mono ?_
      rintro e w3 ⟨rfl, hww⟩
      subst w3
      cases ht : inR t 0 80 with
      | false =>
        have HF := Lib.hid (vzP_f2 (N := N) (v := v) ht)
        clear hn hh ht
        go_wp2_with fail
        refine bodyPost_ret (v := .tuple #[.int .i64 0, .bool false]) (by simp [results, Try.results42, go_sem]) rfl ?_
        exact ⟨by rw [vzR_f (vzOk_f HF.out), vzOk_f HF.out], bb⟩
      | true =>
        have HP := Lib.hid (show vzP N v t = true by rw [vzP, hn, hh, ht]; rfl)
        obtain ⟨vn, rfl, hvn⟩ := hasN_nat hh
        have ht2 := inR_iff.1 ht
        obtain ⟨tn, rfl⟩ := Int.eq_ofNat_of_zero_le ht2.1
        clear hn hh ht
        have c0 := BA.cell 0 _ rfl
        have c1 := BA.cell 1 _ rfl
        have c2 := BA.cell 2 _ rfl
        go_wp2_with fail
        refine (viewAmounts_any _ N tn w2 B (HV.out.below (bb.mono hB)) (Nat.le_trans hB bb.size) HN.out (by omega)).mono ?_
        rintro e w4 ⟨g, rfl, own, bel4⟩
        replace bb := bb.trans (bel4.mono bb.size)
        obtain ⟨g9, h9, _, _, _, hc, _⟩ := OwI.at own (i := vn) (by rw [vsT_length]; exact hvn)
        obtain rfl : g = g9 := by injection h9 with h; injection h
        clear h9 bel4 c0 c1 c2 own
        have hc2 : w4.cell? ⟨g, vn, none⟩ = some (.int .i64 (vzN N (vn : Int) (tn : Int))) := hc
        clear hc
        by_cases hz : vzN N (vn : Int) (tn : Int) ≤ 1000000
        · have HOK := Lib.hid (show vzOk N (vn : Int) (tn : Int) = true by rw [vzOk, HP.out, decide_eq_true hz]; rfl)
          have HRR := Lib.hid (show vzR N (vn : Int) (tn : Int) = vzN N (vn : Int) (tn : Int) by rw [vzR, HOK.out]; rfl)
          generalize vzN N (vn : Int) (tn : Int) = zz at *
          go_wp2_with fail
          refine bodyPost_ret (v := .tuple #[.int .i64 zz, .bool true]) (by simp [results, Try.results42, go_sem]) rfl ?_
          exact ⟨by rw [HRR.out, HOK.out], bb⟩
        · have HOK := Lib.hid (show vzOk N (vn : Int) (tn : Int) = false by rw [vzOk, decide_eq_false hz, Bool.and_false])
          have hz2 : (1000000 : Int) < vzN N (vn : Int) (tn : Int) := by omega
          generalize vzN N (vn : Int) (tn : Int) = zz at *
          go_wp2_with fail
          refine bodyPost_ret (v := .tuple #[.int .i64 0, .bool false]) (by simp [results, Try.results42, go_sem]) rfl ?_
          exact ⟨by rw [vzR_f HOK.out, HOK.out], bb⟩
end Go.Proofs.Ytabpimhkjgojhaa
