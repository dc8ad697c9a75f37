/- Classes of views: spec.viClasses, viMany, viStable, ViewClasses, StableDepth. -/
import Derived.Test.YtlooinhdehkcdaaViS
import Derived.Test.YtlooinhdehkcdaaNeGood
import Derived.Test.YtlooinhdehkcdaaView
import Derived.Test.YtlooinhdehkcdaaRet
namespace Go.Proofs.Ytlooinhdehkcdaa
open Go.RowKit
set_option linter.unusedVariables false
set_option linter.unusedSimpArgs false
theorem NetIn.more {w : World} {B B' : Nat} {V : Value} {N : Net} (h : NetIn w B V N) (hB : B ≤ B') : NetIn w B' V N := by
  obtain ⟨a, c, vs, ai, ci, ap, cp, hv, h1, h2, h3, h4⟩ := h
  exact ⟨a, c, vs, ai, ci, ap, cp, hv, ⟨Rd.more h1.1 hB, fun j hj => Rd.more (h1.2 j hj) hB⟩, Rd.more h2 hB, Rd.more h3 hB, h4⟩
/-- the classes in memory of their own -/
def VcAt (w : World) (lo : Nat) (v : Value) (N : Net) (l : List Int) : Prop := ∃ g, v = .slice (some ⟨g, 0, none⟩) N.ends.length N.ends.length ∧ OwI w lo w.heap.size (some ⟨g, 0, none⟩) N.ends.length l
theorem VcAt.new {w w' : World} {lo : Nat} {v : Value} {N : Net} {l : List Int} (h : VcAt w lo v N l) (hb : Below w.heap.size w w') : VcAt w' lo v N l := by
  obtain ⟨g, h1, h2⟩ := h
  exact ⟨g, h1, Ow.top (Ow.new h2 hb)⟩
/-- a step deeper, of spec (F: viStep) or impl (F: viClasses) -/
theorem viStep_zero (V : Value) (N : Net) (w : World) (B : Nat) (hv : NetIn w B V N) (hB : B ≤ w.heap.size) (hnet : netB N = true) :
    Calls Try.prog 87 #[V, .slice none 0 0] w fun e w' => ∃ v, e = .returned v ∧ VcAt w' w.heap.size v N (vcT N.ends N.inputs 0) ∧ Below w.heap.size w w' := by
  refine (viStep_any V N none 0 [] false w B hv Rd.empty hB hnet rfl (fun h => by cases h)).mono ?_
  rintro e w1 ⟨g, rfl, own, bel⟩
  exact ⟨_, rfl, ⟨g, rfl, own⟩, bel⟩
theorem viStep_succ (V : Value) (N : Net) (t : Nat) (v : Value) (lo : Nat) (w : World) (B : Nat) (hv : NetIn w B V N) (hc : VcAt w lo v N (vcT N.ends N.inputs t)) (hB : B ≤ w.heap.size) (hnet : netB N = true) :
    Calls Try.prog 87 #[V, v] w fun e w' => ∃ v', e = .returned v' ∧ VcAt w' w.heap.size v' N (vcT N.ends N.inputs (t + 1)) ∧ Below w.heap.size w w' := by
  obtain ⟨g, rfl, own⟩ := hc
  have key := viStep_any V N (some ⟨g, 0, none⟩) N.ends.length (vcT N.ends N.inputs t) true w w.heap.size (hv.more hB) own.rd (Nat.le_refl _) hnet (by rw [vcT_length, decide_eq_true]; exact (netB_small hnet).2.1) (fun _ => vcT_length _ _ _)
  rw [vcT_length] at key
  refine key.mono ?_
  rintro e w1 ⟨g', rfl, own', bel⟩
  exact ⟨_, rfl, ⟨g', rfl, own'⟩, bel⟩
set_option maxRecDepth 100000 in
set_option maxHeartbeats 1600000 in
theorem viClasses_any (V : Value) (N : Net) (t : Nat) (w : World) (B : Nat) (hv : NetIn w B V N) (hB : B ≤ w.heap.size) (hnet : netB N = true) (ht : t ≤ 80) :
    Calls Try.prog 65 #[V, .int .i64 t] w fun e w' => ∃ v, e = .returned v ∧ VcAt w' w.heap.size v N (vcT N.ends N.inputs t) ∧ Below w.heap.size w w' := by
  have HV := Lib.hid hv
  have HN := Lib.hid hnet
  obtain ⟨a, c, vs, ai, ci, ap, cp, rfl, _⟩ := hv
  have BA := Bx.made w 29 #[.slice a N.ends.length c, .slice ai N.ids.length ci, .slice ap N.inputs.length cp]
  have b0 : Below w.heap.size w (w.alloc (.cells #[.slice a N.ends.length c, .slice ai N.ids.length ci, .slice ap N.inputs.length cp] 29)) := (by repeat (first | exact Below.refl _ _ | assumption | refine Below.alloc ?_ (by first | (simp; done) | (simp; omega) | omega) _ | refine Below.setCell ?_ (by first | (simp; done) | (simp; omega) | omega) _ | refine Below.drew ?_ | refine Below.drewN ?_ _))
  clear hnet
  go_enter Try.func65, Try.ntmps65
  go_upto_region 1 with fail
  generalize w.alloc (.cells #[.slice a N.ends.length c, .slice ai N.ids.length ci, .slice ap N.inputs.length cp] 29) = w0 at *
  have q0 := BA.cell 0 _ rfl
  have q1 := BA.cell 1 _ rfl
  have q2 := BA.cell 2 _ rfl
  go_wp2_with fail
  refine (viStep_zero _ N w0 B (HV.out.below (b0.mono hB)) (Nat.le_trans hB b0.size) HN.out).mono ?_
  rintro e w1 ⟨v1, rfl, own1, bel1⟩
  have BA1 := BA.new bel1
  have bb := b0.trans (bel1.mono b0.size)
  have own1' : VcAt w1 w.heap.size v1 N (vcT N.ends N.inputs 0) := by obtain ⟨g, h1, h2⟩ := own1; exact ⟨g, h1, Ow.wide h2 b0.size (Nat.le_refl _)⟩
  clear q0 q1 q2 BA b0 bel1 own1
  go_wp2_with fail
  go_loopw [1, 5] (fun iv cv wr => ∃ s : Nat, s ≤ t ∧ iv = .int .i64 (t - s : Nat) ∧ VcAt wr w.heap.size cv N (vcT N.ends N.inputs s) ∧ Bx wr w.heap.size 29 #[.slice a N.ends.length c, .slice ai N.ids.length ci, .slice ap N.inputs.length cp] ∧ Below w.heap.size w wr) (fun iv _ _ => (intOf iv).toNat)
  case atStart => exact ⟨0, Nat.zero_le _, by rw [Nat.sub_zero], own1', BA1, bb⟩
  case round =>
    clear own1' BA1 bb
    obtain ⟨s, hs, rfl, hown, BA, bel⟩ := hrel
    have zw := bel.size
    obtain ⟨tr, htr⟩ : ∃ tr, tr = t - s := ⟨_, rfl⟩
    have HTR := Lib.hid htr
    have htr1 : tr ≤ 80 := by omega
    rw [← htr]
    by_cases hst : 0 < tr
    · have hs2 : s + 1 ≤ t := by omega
      clear htr
      have q0 := BA.cell 0 _ rfl
      have q1 := BA.cell 1 _ rfl
      have q2 := BA.cell 2 _ rfl
      go_wp2_with fail
      refine (viStep_succ _ N s _ _ _ B (HV.out.below (bel.mono hB)) hown (by omega) HN.out).mono ?_
      rintro e w1 ⟨v1, rfl, own1, bel1⟩
      have BA1 := BA.new bel1
      have bb := bel.trans (bel1.mono zw)
      have own1' : VcAt w1 w.heap.size v1 N (vcT N.ends N.inputs (s + 1)) := by obtain ⟨g, h1, h2⟩ := own1; exact ⟨g, h1, Ow.wide h2 zw (Nat.le_refl _)⟩
      clear q0 q1 q2 BA bel bel1 own1 hown
      go_wp2_with fail
      go_roundw
      case rel => exact ⟨s + 1, hs2, by have := HTR.out; go_num, own1', BA1, bb⟩
      case measure => simp [intOf]; omega
    · obtain rfl : s = t := by omega
      go_wp2_with fail
      go_ret
      exact ⟨_, rfl, hown, bel⟩
theorem l1Most_any (x y : Int) (w : World) : Calls Try.prog 99 #[.int .i64 x, .int .i64 y] w fun e w' => e = .returned (.int .i64 (max x y)) ∧ w' = w := by
  by_cases h : y < x
  · go_enter Try.func99, Try.ntmps99
    go_wp2_with fail
    go_ret
    exact ⟨ret_int (by omega), rfl⟩
  · go_enter Try.func99, Try.ntmps99
    go_wp2_with fail
    go_ret
    exact ⟨ret_int (by omega), rfl⟩
set_option maxHeartbeats 400000 in
theorem viMany_any (rows : RowsV) (inputs : List Int) (t : Nat) (a : Option Addr) (cap : Nat) (w : World) (B : Nat) (h : RdI w B a (vcT rows inputs t)) (hn : rows.length ≤ 40) :
    Calls Try.prog 88 #[.slice a rows.length cap] w fun e w' => e = .returned (.int .i64 (vmT rows inputs t : Nat)) ∧ w' = w := by
  have HL := Lib.hid (vcT_length rows inputs t)
  have HC := Lib.hid (fun v hv => vcT_nth rows inputs t v hv)
  have HS := Lib.hid (fun k => many_step (vqT_eqB rows inputs t) k)
  have HE : Hid (manyF (vqT rows inputs t) rows.length = vmT rows inputs t) := rfl
  have HB := Lib.hid (fun k => manyF_le (vqT rows inputs t) k)
  have HF := Lib.hid (fun k => (firF_spec (vqT rows inputs t) k).1)
  go_enter Try.func88, Try.ntmps88
  go_wp2_with fail
  go_loop [3, 8] (fun mv iv => ∃ k : Nat, k ≤ rows.length ∧ iv = .int .i64 k ∧ mv = .int .i64 (manyF (vqT rows inputs t) k : Nat)) (fun _ iv => rows.length - (intOf iv).toNat)
  case atStart => exact ⟨0, Nat.zero_le _, rfl, rfl⟩
  case round =>
    obtain ⟨k, hk, rfl, rfl⟩ := hrel
    by_cases hlt : k < rows.length
    · obtain ⟨g, off, rfl, _, hc⟩ := Rd.at h (show k < _ by rw [HL.out]; exact hlt)
      rw [HC.out k hlt] at hc
      have hb1 := HB.out k
      have hb2 : clsF (vqT rows inputs t) k ≤ 40 := Nat.le_trans (HB.out _) (by have := HF.out k; omega)
      have HST := Lib.hid (HS.out k)
      generalize manyF (vqT rows inputs t) k = m at *
      generalize clsF (vqT rows inputs t) k = x at *
      go_wp2_with (go_at_call 99; refine (l1Most_any _ _ _).mono ?_; rintro e w4 ⟨rfl, hw⟩; subst hw)
      go_round
      case rel => exact ⟨k + 1, by omega, by go_num, by rw [← HST.out]; congr 1; omega⟩
      case measure => simp [intOf]; omega
    · obtain rfl : k = rows.length := by omega
      rw [HE.out]
      go_wp2_with fail
      go_ret
      exact ⟨rfl, rfl⟩
theorem stab_next {rows : RowsV} {inputs : List Int} (hin : VIn rows) {s : Nat} (h1 : s < vmT rows inputs s) (hne : vmT rows inputs (s + 1) ≠ vmT rows inputs s) : s + 1 < vmT rows inputs (s + 1) := by
  have := vmT_mono inputs hin s
  omega
set_option maxRecDepth 100000 in
set_option maxHeartbeats 1600000 in
theorem viStable_any (V : Value) (N : Net) (w : World) (B : Nat) (hv : NetIn w B V N) (hB : B ≤ w.heap.size) (hnet : netB N = true) :
    Calls Try.prog 62 #[V] w fun e w' => e = .returned (.int .i64 (stT N.ends N.inputs : Nat)) ∧ Below w.heap.size w w' := by
  have HV := Lib.hid hv
  have HN := Lib.hid hnet
  have hle : N.ends.length ≤ 40 := (netB_small hnet).1
  have HIN := Lib.hid (vin_of_net hnet)
  have HST : Hid (0 < vmT N.ends N.inputs 0) := manyF_pos (by have := (netB_small hnet).2.1; omega)
  have HLE := Lib.hid (fun s => vmT_le N.ends N.inputs s)
  obtain ⟨a, c, vs, ai, ci, ap, cp, rfl, _⟩ := hv
  have BA := Bx.made w 29 #[.slice a N.ends.length c, .slice ai N.ids.length ci, .slice ap N.inputs.length cp]
  have b0 : Below w.heap.size w (w.alloc (.cells #[.slice a N.ends.length c, .slice ai N.ids.length ci, .slice ap N.inputs.length cp] 29)) := (by repeat (first | exact Below.refl _ _ | assumption | refine Below.alloc ?_ (by first | (simp; done) | (simp; omega) | omega) _ | refine Below.setCell ?_ (by first | (simp; done) | (simp; omega) | omega) _ | refine Below.drew ?_ | refine Below.drewN ?_ _))
  clear hnet
  go_enter Try.func62, Try.ntmps62
  go_upto_region 1 with fail
  generalize w.alloc (.cells #[.slice a N.ends.length c, .slice ai N.ids.length ci, .slice ap N.inputs.length cp] 29) = w0 at *
  have q0 := BA.cell 0 _ rfl
  have q1 := BA.cell 1 _ rfl
  have q2 := BA.cell 2 _ rfl
  go_wp2_with fail
  refine (viClasses_any _ N 0 w0 B (HV.out.below (b0.mono hB)) (Nat.le_trans hB b0.size) HN.out (by omega)).mono ?_
  rintro e w1 ⟨v1, rfl, own1, bel1⟩
  have BA1 := BA.new bel1
  have bb := b0.trans (bel1.mono b0.size)
  have own1' : VcAt w1 w.heap.size v1 N (vcT N.ends N.inputs 0) := by obtain ⟨g, h1, h2⟩ := own1; exact ⟨g, h1, Ow.wide h2 b0.size (Nat.le_refl _)⟩
  clear q0 q1 q2 BA b0 bel1 own1
  go_wp2_with fail
  go_loopw [3, 4] (fun cv iv wr => ∃ s : Nat, iv = .int .i64 s ∧ s < vmT N.ends N.inputs s ∧ (∀ r, r < s → vmT N.ends N.inputs (r + 1) ≠ vmT N.ends N.inputs r) ∧ VcAt wr w.heap.size cv N (vcT N.ends N.inputs s) ∧ Bx wr w.heap.size 29 #[.slice a N.ends.length c, .slice ai N.ids.length ci, .slice ap N.inputs.length cp] ∧ Below w.heap.size w wr) (fun _ iv _ => 60 - (intOf iv).toNat)
  case atStart => exact ⟨0, rfl, HST.out, fun r hr => absurd hr (by omega), own1', BA1, bb⟩
  case round =>
    clear own1' BA1 bb
    obtain ⟨s, rfl, hs1, hs2, hown, BA, bel⟩ := hrel
    have HS1 := Lib.hid hs1
    have HS2 := Lib.hid hs2
    have zw := bel.size
    have hs40 : s ≤ 40 := by have := HLE.out s; omega
    clear hs1 hs2
    have q0 := BA.cell 0 _ rfl
    have q1 := BA.cell 1 _ rfl
    have q2 := BA.cell 2 _ rfl
    go_wp2_with fail
    refine (viStep_succ _ N s _ _ _ B (HV.out.below (bel.mono hB)) hown (by omega) HN.out).mono ?_
    rintro e w1 ⟨v1, rfl, own1, bel1⟩
    have BA1 := BA.new bel1
    have bb := bel.trans (bel1.mono zw)
    have hown' := hown.new bel1
    have own1' : VcAt w1 w.heap.size v1 N (vcT N.ends N.inputs (s + 1)) := by obtain ⟨g, h1, h2⟩ := own1; exact ⟨g, h1, Ow.wide h2 zw (Nat.le_refl _)⟩
    clear q0 q1 q2 BA bel bel1 own1 hown
    have HM1 : Hid (Calls Try.prog 88 #[v1] w1 fun e w' => e = .returned (.int .i64 (vmT N.ends N.inputs (s + 1) : Nat)) ∧ w' = w1) := by
      obtain ⟨g, rfl, h2⟩ := own1'
      exact viMany_any N.ends N.inputs (s + 1) _ _ w1 _ h2.rd hle
    have HM2 : Hid (∀ v, VcAt w1 w.heap.size v N (vcT N.ends N.inputs s) → Calls Try.prog 88 #[v] w1 fun e w' => e = .returned (.int .i64 (vmT N.ends N.inputs s : Nat)) ∧ w' = w1) := by
      rintro v ⟨g, rfl, h2⟩
      exact viMany_any N.ends N.inputs s _ _ w1 _ h2.rd hle
    have HM3 := Lib.hid (HM2.out _ hown')
    clear HM2
    by_cases heq : vmT N.ends N.inputs (s + 1) = vmT N.ends N.inputs s
    · have HR : Hid (stT N.ends N.inputs = s) := stT_of (by omega) ⟨heq, HS2.out⟩
      have hb : (((vmT N.ends N.inputs (s + 1) : Nat) : Int) == ((vmT N.ends N.inputs s : Nat) : Int)) = true := by rw [heq]; simp
      clear heq
      generalize vmT N.ends N.inputs (s + 1) = m1 at *
      generalize vmT N.ends N.inputs s = m0 at *
      go_wp2_with fail
      refine HM1.out.mono ?_
      rintro e w4 ⟨rfl, hw⟩
      subst w4
      go_wp2_with fail
      refine HM3.out.mono ?_
      rintro e w4 ⟨rfl, hw⟩
      subst w4
      go_wp2_with fail
      go_ret
      exact ⟨ret_int (by rw [HR.out]), bb⟩
    · have hb : (((vmT N.ends N.inputs (s + 1) : Nat) : Int) == ((vmT N.ends N.inputs s : Nat) : Int)) = false := by rw [beq_eq_false_iff_ne]; omega
      have HN1 := Lib.hid (stab_next HIN.out HS1.out heq)
      have HN2 := Lib.hid (all_snoc1 HS2.out heq)
      clear heq
      generalize vmT N.ends N.inputs (s + 1) = m1 at hb HM1
      generalize vmT N.ends N.inputs s = m0 at hb HM3
      go_wp2_with fail
      refine HM1.out.mono ?_
      rintro e w4 ⟨rfl, hw⟩
      subst w4
      go_wp2_with fail
      refine HM3.out.mono ?_
      rintro e w4 ⟨rfl, hw⟩
      subst w4
      go_wp2_with fail
      go_roundw
      case rel => exact ⟨s + 1, by go_num, HN1.out, HN2.out, own1', BA1, bb⟩
      case measure => simp [intOf]; omega
end Go.Proofs.Ytlooinhdehkcdaa
