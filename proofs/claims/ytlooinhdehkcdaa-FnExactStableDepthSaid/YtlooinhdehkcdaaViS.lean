/- Classes of views: spec.viStep, viClasses, viMany, viStable. -/
import Derived.Test.YtlooinhdehkcdaaViA
import Derived.Test.YtlooinhdehkcdaaRenP
namespace Go.Proofs.Ytlooinhdehkcdaa
open Go.RowKit
set_option linter.unusedVariables false
set_option linter.unusedSimpArgs false
theorem vin_of_net {N : Net} (h : netB N = true) : VIn N.ends := fun v hv => ⟨net_row h hv, fun i hi => by
  obtain ⟨p, q, e, hp, _, _⟩ := net_back h hv hi
  rw [e]
  exact ⟨by show (0 : Int) ≤ (p : Int); omega, by show (p : Int) < _; omega⟩⟩
theorem inp_of_net {N : Net} (h : netB N = true) : N.inputs.length = N.ends.length := (netB_small h).2.2.2.2
theorem all_snoc1 {p : Nat → Prop} {k : Nat} (h : ∀ j, j < k → p j) (hk : p k) : ∀ j, j < k + 1 → p j := fun j hj => by
  by_cases e : j = k
  · rw [e]; exact hk
  · exact h j (by omega)
set_option maxRecDepth 100000 in
set_option maxHeartbeats 1600000 in
theorem viStep_any (V : Value) (N : Net) (ca : Option Addr) (cc : Nat) (cl : List Int) (has : Bool) (w : World) (B : Nat) (hv : NetIn w B V N) (hcl : RdI w B ca cl) (hB : B ≤ w.heap.size) (hnet : netB N = true) (hhas : has = decide (0 < cl.length)) (hcn : has = true → cl.length = N.ends.length) :
    Calls Try.prog 87 #[V, .slice ca cl.length cc] w fun e w' => ∃ g, e = .returned (.slice (some ⟨g, 0, none⟩) N.ends.length N.ends.length) ∧ OwI w' w.heap.size w'.heap.size (some ⟨g, 0, none⟩) N.ends.length (clL N.ends N.inputs cl has) ∧ Below w.heap.size w w' := by
  have HN := Lib.hid hnet
  have HH := Lib.hid (And.intro hhas hcn)
  have HCL := Lib.hid hcl
  have hle : N.ends.length ≤ 40 := (netB_small hnet).1
  have hle1 : 1 ≤ N.ends.length := (netB_small hnet).2.1
  have HQ := Lib.hid (alB_eqB N.ends N.inputs cl has)
  obtain ⟨a, c, vs, ai, ci, ap, cp, rfl, h1, h2, h3, _⟩ := hv
  have H1 := Lib.hid h1
  have H3 := Lib.hid h3
  have BA := Bx.made w 29 #[.slice a N.ends.length c, .slice ai N.ids.length ci, .slice ap N.inputs.length cp]
  have b0 : Below w.heap.size w (w.alloc (.cells #[.slice a N.ends.length c, .slice ai N.ids.length ci, .slice ap N.inputs.length cp] 29)) := (by repeat (first | exact Below.refl _ _ | assumption | refine Below.alloc ?_ (by first | (simp; done) | (simp; omega) | omega) _ | refine Below.setCell ?_ (by first | (simp; done) | (simp; omega) | omega) _ | refine Below.drew ?_ | refine Below.drewN ?_ _))
  clear hnet h1 h2 h3 hhas hcn hcl
  go_enter Try.func87, Try.ntmps87
  go_upto_region 1 with fail
  generalize w.alloc (.cells #[.slice a N.ends.length c, .slice ai N.ids.length ci, .slice ap N.inputs.length cp] 29) = w0 at *
  have q0 := BA.cell 0 _ rfl
  have zA := BA.lt
  obtain ⟨d0, hd0⟩ : ∃ d, d = w0.heap.size := ⟨_, rfl⟩
  have HD := Lib.hid hd0
  have zd : w.heap.size < d0 := by omega
  clear hd0
  go_upto_region 2 with (at_make; refine wpList_mk _ rfl _ _ _ rfl 3 (.int .i64 0) 8 Try.underlying23 int_info rfl .i64 .i64 _ _ N.ends.length rfl rfl rfl rfl (by omega) (by omega) ?_; intro w1 hrow hsz hbel; rw [← HD.out] at hrow hbel hsz ⊢)
  have hown : OwI w1 w.heap.size w1.heap.size (some ⟨d0, 0, none⟩) N.ends.length (upW (fun v => (clsF (alB N.ends N.inputs cl has) v : Int)) N.ends.length 0) := by rw [upW_zero]; exact OwI.zeros hrow (by omega) (by omega) (by unfold maxLen; omega)
  have bel1 : Below w.heap.size w w1 := b0.trans (by rw [HD.out] at hbel; exact hbel.mono b0.size)
  have BA1 : Bx w1 w.heap.size 29 #[.slice a N.ends.length c, .slice ai N.ids.length ci, .slice ap N.inputs.length cp] := BA.new (by rw [HD.out] at hbel; exact hbel)
  clear q0 hrow hsz hbel BA b0 zA
  have q0 := BA1.cell 0 _ rfl
  go_wp2_with fail
  go_loopw [6, 17] (fun mv iv wr => ∃ k : Nat, k ≤ N.ends.length ∧ iv = .int .i64 k ∧ mv = .int .i64 (manyF (alB N.ends N.inputs cl has) k : Nat) ∧ OwI wr w.heap.size wr.heap.size (some ⟨d0, 0, none⟩) N.ends.length (upW (fun v => (clsF (alB N.ends N.inputs cl has) v : Int)) N.ends.length k) ∧ Bx wr w.heap.size 29 #[.slice a N.ends.length c, .slice ai N.ids.length ci, .slice ap N.inputs.length cp] ∧ Below w.heap.size w wr) (fun _ iv _ => N.ends.length - (intOf iv).toNat)
  case atStart => exact ⟨0, Nat.zero_le _, rfl, rfl, hown, BA1, bel1⟩
  case round =>
    clear hown BA1 bel1 q0
    obtain ⟨k, hk, rfl, rfl, hown, BA, bel⟩ := hrel
    by_cases hlt : k < N.ends.length
    · have zw := bel.size
      have zA := BA.lt
      have zm : manyF (alB N.ends N.inputs cl has) k ≤ 40 := by have := manyF_le (alB N.ends N.inputs cl has) k; omega
      go_wp2_with fail
      go_loopw [8, 9] (fun av iv wx => ∃ u : Nat, u ≤ k ∧ iv = .int .i64 u ∧ ((av = .int .i64 (-1) ∧ ∀ x, x < u → alB N.ends N.inputs cl has x k = false) ∨ (∃ x : Nat, av = .int .i64 x ∧ x + 1 = u ∧ alB N.ends N.inputs cl has x k = true)) ∧ OwI wx w.heap.size wx.heap.size (some ⟨d0, 0, none⟩) N.ends.length (upW (fun v => (clsF (alB N.ends N.inputs cl has) v : Int)) N.ends.length k) ∧ Bx wx w.heap.size 29 #[.slice a N.ends.length c, .slice ai N.ids.length ci, .slice ap N.inputs.length cp] ∧ Below w.heap.size w wx) (fun _ iv _ => k - (intOf iv).toNat)
      case atStart => exact ⟨0, Nat.zero_le _, rfl, .inl ⟨rfl, fun x hx => absurd hx (by omega)⟩, hown, BA, bel⟩
      case round =>
        clear hown BA bel zw zA
        obtain ⟨u, hu, rfl, hst, hownx, BX, bel⟩ := hrel
        have HB := Lib.hid bel
        have zx := bel.size
        have zA := BX.lt
        rcases hst with ⟨rfl, hno⟩ | ⟨x, rfl, hxu, hyes⟩
        · have HNO := Lib.hid hno
          clear hno
          by_cases huk : u < k
          · have l0 := BX.cell 0 _ rfl
            have l1 := BX.cell 1 _ rfl
            have l2 := BX.cell 2 _ rfl
            have HC : Hid (Calls Try.prog 98 #[.agg #[.slice a N.ends.length c, .slice ai N.ids.length ci, .slice ap N.inputs.length cp], .slice ca cl.length cc, .int .i64 u, .int .i64 k] wr fun e w' => e = .returned (.bool (alB N.ends N.inputs cl has u k)) ∧ Below wr.heap.size wr w') :=
              viAlike_any a ai ap c ci cp N.ids.length N.ends vs N.inputs ca cc cl u k wr B (H1.out.below (HB.out.mono hB)) (Rd.below H3.out (HB.out.mono hB)) (Rd.below HCL.out (HB.out.mono hB)) (by have := HB.out.size; omega) hle (vin_of_net HN.out) (inp_of_net HN.out) has HH.out.1 HH.out.2 (by omega) hlt
            cases hq : alB N.ends N.inputs cl has u k with
            | false =>
              have HQ1 := Lib.hid hq
              rw [hq] at HC
              clear hq
              go_wp2_with (go_at_call 98; refine HC.out.mono ?_; rintro e w4 ⟨rfl, bel4⟩)
              go_roundw
              case rel => exact ⟨u + 1, by omega, by go_num, .inl ⟨rfl, all_snoc1 HNO.out HQ1.out⟩, (hownx.new bel4).top, BX.new bel4, bel.trans (bel4.mono zx)⟩
              case measure => simp [intOf]; omega
            | true =>
              have HQ1 := Lib.hid hq
              rw [hq] at HC
              clear hq
              go_wp2_with (go_at_call 98; refine HC.out.mono ?_; rintro e w4 ⟨rfl, bel4⟩)
              go_roundw
              case rel => exact ⟨u + 1, by omega, by go_num, .inr ⟨u, rfl, rfl, HQ1.out⟩, (hownx.new bel4).top, BX.new bel4, bel.trans (bel4.mono zx)⟩
              case measure => simp [intOf]; omega
          · obtain rfl : u = k := by omega
            have HF : Hid (frB (alB N.ends N.inputs cl has) u = true) := frB_t.2 HNO.out
            have HM : Hid (manyF (alB N.ends N.inputs cl has) (u + 1) = manyF (alB N.ends N.inputs cl has) u + 1) := by show _ = _; rw [manyF, HF.out]; rfl
            have HCF := Lib.hid (clsF_fresh HF.out)
            obtain ⟨g9, h9, _, _, _, hc, hf⟩ := OwI.at hownx (i := u) (by rw [upW_length]; exact hlt)
            obtain rfl : d0 = g9 := by injection h9 with h; injection h
            have hput := OwI.put (manyF (alB N.ends N.inputs cl has) u : Int) hownx (by rw [upW_length]; exact hlt)
            have HU := Lib.hid (upW_set (fun v => (clsF (alB N.ends N.inputs cl has) v : Int)) N.ends.length u hlt)
            have hfr := fr_set wr d0 u (.int .i64 (manyF (alB N.ends N.inputs cl has) u : Int))
            generalize nth (upW (fun v => (clsF (alB N.ends N.inputs cl has) v : Int)) N.ends.length u) u = old at *
            clear h9 bel hownx
            have HPUT := Lib.hid hput
            clear hput
            go_wp2_with fail
            go_roundw
            case rel =>
              refine ⟨u + 1, by omega, by go_num, by rw [HM.out]; go_num, ?_, BX.fr hfr (by omega), HB.out.trans (hfr.below (B := w.heap.size) (fun x h1 h2 hc => by omega) HB.out.size)⟩
              have h := HPUT.out
              rw [show (upW (fun v => (clsF (alB N.ends N.inputs cl has) v : Int)) N.ends.length u).set u (manyF (alB N.ends N.inputs cl has) u : Int) = upW (fun v => (clsF (alB N.ends N.inputs cl has) v : Int)) N.ends.length (u + 1) by rw [← HCF.out]; exact HU.out] at h
              exact Ow.wide h (Nat.le_refl _) (by rw [size_set]; exact Nat.le_refl _)
            case measure => simp [intOf]; omega
        · have hneg : decide ((x : Int) < 0) = false := decide_eq_false (by omega)
          have hge : decide ((0 : Int) ≤ (x : Int)) = true := decide_eq_true (by omega)
          have HF : Hid (frB (alB N.ends N.inputs cl has) k = false) := frB_f (show x < k by omega) hyes
          have HM : Hid (manyF (alB N.ends N.inputs cl has) (k + 1) = manyF (alB N.ends N.inputs cl has) k) := by show _ = _; rw [manyF, HF.out]; rfl
          have HCF := Lib.hid (clsF_same HQ.out (show x ≤ k by omega) hyes)
          obtain ⟨g8, h8, _, _, _, hcx, _⟩ := OwI.at hownx (i := x) (by rw [upW_length]; omega)
          obtain rfl : d0 = g8 := by injection h8 with h; injection h
          obtain ⟨g9, h9, _, _, _, hc, hf⟩ := OwI.at hownx (i := k) (by rw [upW_length]; exact hlt)
          obtain rfl : d0 = g9 := by injection h9 with h; injection h
          have hput := OwI.put (clsF (alB N.ends N.inputs cl has) x : Int) hownx (by rw [upW_length]; exact hlt)
          have HU := Lib.hid (upW_set (fun v => (clsF (alB N.ends N.inputs cl has) v : Int)) N.ends.length k hlt)
          have hfr := fr_set wr d0 k (.int .i64 (clsF (alB N.ends N.inputs cl has) x : Int))
          rw [upW_nth _ _ _ _ (show x < N.ends.length by omega), if_pos (show x < k by omega)] at hcx
          generalize nth (upW (fun v => (clsF (alB N.ends N.inputs cl has) v : Int)) N.ends.length k) k = old at *
          clear h9 h8 bel hownx hyes
          have HPUT := Lib.hid hput
          clear hput
          have zx0 : (0 : Int) ≤ (x : Int) := by omega
          have zx1 : (x : Int) < (N.ends.length : Int) := by omega
          by_cases hxk : x + 1 < k
          all_goals
            go_wp2_with fail
            go_roundw
            case rel =>
              refine ⟨k + 1, by omega, by go_num, by rw [HM.out], ?_, BX.fr hfr (by omega), HB.out.trans (hfr.below (B := w.heap.size) (fun x h1 h2 hc => by omega) HB.out.size)⟩
              have h := HPUT.out
              rw [show (upW (fun v => (clsF (alB N.ends N.inputs cl has) v : Int)) N.ends.length k).set k (clsF (alB N.ends N.inputs cl has) x : Int) = upW (fun v => (clsF (alB N.ends N.inputs cl has) v : Int)) N.ends.length (k + 1) by rw [HCF.out]; exact HU.out] at h
              exact Ow.wide h (Nat.le_refl _) (by rw [size_set]; exact Nat.le_refl _)
            case measure => simp [intOf]; omega
    · obtain rfl : k = N.ends.length := by omega
      go_wp2_with fail
      go_ret
      exact ⟨d0, rfl, hown, bel⟩
end Go.Proofs.Ytlooinhdehkcdaa
