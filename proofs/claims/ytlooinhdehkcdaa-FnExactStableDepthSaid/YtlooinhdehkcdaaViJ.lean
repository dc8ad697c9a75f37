/- Classes of views: impl.classesAt, classCount, stable; ViewClasses and StableDepth, of spec and impl. -/
import Derived.Test.YtlooinhdehkcdaaViI
import Derived.Test.YtlooinhdehkcdaaViT
import Derived.Test.YtlooinhdehkcdaaShelf
namespace Go.Proofs.Ytlooinhdehkcdaa
open Go.RowKit Go.Maps
set_option linter.unusedVariables false
set_option linter.unusedSimpArgs false
theorem vcT_bd (rows : RowsV) (inputs : List Int) (t : Nat) (hn : rows.length ≤ 40) (j : Nat) : 0 ≤ nth (vcT rows inputs t) j ∧ nth (vcT rows inputs t) j ≤ 1000 := by
  by_cases h : j < rows.length
  · rw [vcT_nth _ _ _ _ h]
    have h1 := manyF_le (vqT rows inputs t) (firF (vqT rows inputs t) j)
    have h2 := (firF_spec (vqT rows inputs t) j).1
    unfold clsF
    omega
  · rw [nth_out _ _ (by rw [vcT_length]; omega)]
    omega
def vcOk (N : Net) (t : Int) : Bool := netB N && inR t 0 80
def vcR (N : Net) (t : Int) : List Int := if vcOk N t then vcT N.ends N.inputs t.toNat else []
theorem vcR_f {N : Net} {t : Int} (h : vcOk N t = false) : vcR N t = [] := by rw [vcR, h]; rfl
theorem vcR_t {N : Net} {t : Int} (h : vcOk N t = true) : vcR N t = vcT N.ends N.inputs t.toNat := by rw [vcR, h]; rfl
theorem vcOk_f {N : Net} {t : Int} (h : netB N = false) : vcOk N t = false := by rw [vcOk, h]; rfl
theorem vcOk_n {N : Net} {t : Int} (h : netB N = true) : vcOk N t = inR t 0 80 := by rw [vcOk, h]; rfl
theorem vcR_le {N : Net} {t : Int} : (vcR N t).length ≤ 1048576 := by
  cases h : vcOk N t with
  | false => rw [vcR_f h]; exact Nat.zero_le _
  | true =>
    rw [vcR_t h, vcT_length]
    rw [vcOk, Bool.and_eq_true] at h
    have := (netB_small h.1).1
    omega
def sdR (N : Net) : Int := if netB N then (stT N.ends N.inputs : Nat) else 0
theorem sdR_f {N : Net} (h : netB N = false) : sdR N = 0 := by rw [sdR, h]; rfl
theorem sdR_t {N : Net} (h : netB N = true) : sdR N = (stT N.ends N.inputs : Nat) := by rw [sdR, h]; rfl
theorem vcImpl_zero (V : Value) (N : Net) (w : World) (B : Nat) (hv : NetIn w B V N) (hB : B ≤ w.heap.size) (hnet : netB N = true) :
    Calls Try.prog 89 #[V, .slice none 0 0] w fun e w' => ∃ v, e = .returned v ∧ VcAt w' w.heap.size v N (vcT N.ends N.inputs 0) ∧ Below w.heap.size w w' := by
  refine (vcImpl_any V N none 0 [] false w B hv Rd.empty hB hnet (fun h => by cases h) rfl (fun j => by simp [nth])).mono ?_
  rintro e w1 ⟨g, rfl, own, bel⟩
  exact ⟨_, rfl, ⟨g, rfl, own⟩, bel⟩
theorem vcImpl_succ (V : Value) (N : Net) (t : Nat) (v : Value) (lo : Nat) (w : World) (B : Nat) (hv : NetIn w B V N) (hc : VcAt w lo v N (vcT N.ends N.inputs t)) (hB : B ≤ w.heap.size) (hnet : netB N = true) :
    Calls Try.prog 89 #[V, v] w fun e w' => ∃ v', e = .returned v' ∧ VcAt w' w.heap.size v' N (vcT N.ends N.inputs (t + 1)) ∧ Below w.heap.size w w' := by
  obtain ⟨g, rfl, own⟩ := hc
  have key := vcImpl_any V N (some ⟨g, 0, none⟩) N.ends.length (vcT N.ends N.inputs t) true w w.heap.size (hv.more hB) own.rd (Nat.le_refl _) hnet (fun _ => vcT_length _ _ _) rfl (vcT_bd _ _ _ (netB_small hnet).1)
  rw [vcT_length] at key
  refine key.mono ?_
  rintro e w1 ⟨g', rfl, own', bel⟩
  exact ⟨_, rfl, ⟨g', rfl, own'⟩, bel⟩
set_option maxRecDepth 100000 in
set_option maxHeartbeats 1600000 in
theorem classesAt_any (V : Value) (N : Net) (t : Nat) (w : World) (B : Nat) (hv : NetIn w B V N) (hB : B ≤ w.heap.size) (hnet : netB N = true) (ht : t ≤ 80) :
    Calls Try.prog 67 #[V, .int .i64 t] w fun e w' => ∃ v, e = .returned v ∧ VcAt w' w.heap.size v N (vcT N.ends N.inputs t) ∧ Below w.heap.size w w' := by
  have HV := Lib.hid hv
  have HN := Lib.hid hnet
  obtain ⟨a, c, vs, ai, ci, ap, cp, rfl, _⟩ := hv
  have BA := Bx.made w 29 #[.slice a N.ends.length c, .slice ai N.ids.length ci, .slice ap N.inputs.length cp]
  have b0 : Below w.heap.size w (w.alloc (.cells #[.slice a N.ends.length c, .slice ai N.ids.length ci, .slice ap N.inputs.length cp] 29)) := (by repeat (first | exact Below.refl _ _ | assumption | refine Below.alloc ?_ (by first | (simp; done) | (simp; omega) | omega) _ | refine Below.setCell ?_ (by first | (simp; done) | (simp; omega) | omega) _ | refine Below.drew ?_ | refine Below.drewN ?_ _))
  clear hnet
  go_enter Try.func67, Try.ntmps67
  go_upto_region 1 with fail
  generalize w.alloc (.cells #[.slice a N.ends.length c, .slice ai N.ids.length ci, .slice ap N.inputs.length cp] 29) = w0 at *
  have q0 := BA.cell 0 _ rfl
  have q1 := BA.cell 1 _ rfl
  have q2 := BA.cell 2 _ rfl
  go_wp2_with fail
  refine (vcImpl_zero _ N w0 B (HV.out.below (b0.mono hB)) (Nat.le_trans hB b0.size) HN.out).mono ?_
  rintro e w1 ⟨v1, rfl, own1, bel1⟩
  have BA1 := BA.new bel1
  have bb := b0.trans (bel1.mono b0.size)
  have own1' : VcAt w1 w.heap.size v1 N (vcT N.ends N.inputs 0) := by obtain ⟨g, h1, h2⟩ := own1; exact ⟨g, h1, Ow.wide h2 b0.size (Nat.le_refl _)⟩
  clear q0 q1 q2 BA b0 bel1 own1
  go_wp2_with fail
  go_loopw [5, 9] (fun cv iv wr => ∃ s : Nat, s ≤ t ∧ iv = .int .i64 s ∧ VcAt wr w.heap.size cv N (vcT N.ends N.inputs s) ∧ Bx wr w.heap.size 29 #[.slice a N.ends.length c, .slice ai N.ids.length ci, .slice ap N.inputs.length cp] ∧ Below w.heap.size w wr) (fun _ iv _ => t - (intOf iv).toNat)
  case atStart => exact ⟨0, Nat.zero_le _, rfl, own1', BA1, bb⟩
  case round =>
    clear own1' BA1 bb
    obtain ⟨s, hs, rfl, hown, BA, bel⟩ := hrel
    have zw := bel.size
    by_cases hst : s < t
    · have q0 := BA.cell 0 _ rfl
      have q1 := BA.cell 1 _ rfl
      have q2 := BA.cell 2 _ rfl
      go_wp2_with fail
      refine (vcImpl_succ _ N s _ _ _ B (HV.out.below (bel.mono hB)) hown (by omega) HN.out).mono ?_
      rintro e w1 ⟨v1, rfl, own1, bel1⟩
      have BA1 := BA.new bel1
      have bb := bel.trans (bel1.mono zw)
      have own1' : VcAt w1 w.heap.size v1 N (vcT N.ends N.inputs (s + 1)) := by obtain ⟨g, h1, h2⟩ := own1; exact ⟨g, h1, Ow.wide h2 zw (Nat.le_refl _)⟩
      clear q0 q1 q2 BA bel bel1 own1 hown
      go_wp2_with fail
      go_roundw
      case rel => exact ⟨s + 1, by omega, by go_num, own1', BA1, bb⟩
      case measure => simp [intOf]; omega
    · obtain rfl : s = t := by omega
      go_wp2_with fail
      go_ret
      exact ⟨_, rfl, hown, bel⟩
theorem viDepth_any (t : Int) (w : World) : Calls Try.prog 64 #[.int .i64 t] w fun e w' => e = .returned (.bool (inR t 0 80)) ∧ w' = w := by
  go_enter Try.func64, Try.ntmps64
  go_wp2_with (go_at_call 69; refine (l1In_any _ _ _ _).mono ?_; rintro e w' ⟨rfl, rfl⟩)
  go_ret
  exact ⟨rfl, rfl⟩
theorem isDepth_any (t : Int) (w : World) : Calls Try.prog 66 #[.int .i64 t] w fun e w' => e = .returned (.bool (inR t 0 80)) ∧ w' = w := by
  go_enter Try.func66, Try.ntmps66
  go_wp2_with (go_at_call 74; refine (within_any _ _ _ _).mono ?_; rintro e w' ⟨rfl, rfl⟩)
  go_ret
  exact ⟨rfl, rfl⟩
set_option maxRecDepth 100000 in
set_option maxHeartbeats 800000 in
theorem viewClassesS_any (V : Value) (N : Net) (t : Int) (w : World) (B : Nat) (hv : NetIn w B V N) (hB : B ≤ w.heap.size) (hs : NetSmall N) :
    Calls Try.prog 30 #[V, .int .i64 t] w (PostI (vcR N t) (vcOk N t) w) := by
  have HV := Lib.hid hv
  have HS := Lib.hid hs
  obtain ⟨a, c, vs, ai, ci, ap, cp, rfl, h1, h2, h3, _⟩ := hv
  have BA := Bx.made w 29 #[.slice a N.ends.length c, .slice ai N.ids.length ci, .slice ap N.inputs.length cp]
  have b0 : Below w.heap.size w (w.alloc (.cells #[.slice a N.ends.length c, .slice ai N.ids.length ci, .slice ap N.inputs.length cp] 29)) := (by repeat (first | exact Below.refl _ _ | assumption | refine Below.alloc ?_ (by first | (simp; done) | (simp; omega) | omega) _ | refine Below.setCell ?_ (by first | (simp; done) | (simp; omega) | omega) _ | refine Below.drew ?_ | refine Below.drewN ?_ _))
  clear hs h1 h2 h3
  go_enter Try.func30, Try.ntmps30
  go_wp2_with fail
  generalize w.alloc (.cells #[.slice a N.ends.length c, .slice ai N.ids.length ci, .slice ap N.inputs.length cp] 29) = w0 at *
  refine (neGood_any _ N w0 B (HV.out.below (b0.mono hB)) (Nat.le_trans hB b0.size) HS.out).mono ?_
  rintro e w1 ⟨rfl, bel1⟩
  replace BA := BA.new bel1
  have b1 := b0.trans (bel1.mono b0.size)
  have z1 := b1.size
  clear b0 bel1
  cases hn : netB N with
  | false =>
    have HF := Lib.hid (vcOk_f (t := t) hn)
    clear hn
    go_wp2_with fail
    go_ret2
    exact PostI.no (vcR_f HF.out) HF.out rfl b1
  | true =>
    have HN := Lib.hid hn
    have HK := Lib.hid (vcOk_n (t := t) hn)
    clear hn
    go_wp2_with fail
    refine (viDepth_any t w1).mono ?_
    rintro e w3 ⟨rfl, hww⟩
    subst w3
    cases ht : inR t 0 80 with
    | false =>
      have HF := Lib.hid (HK.out.trans ht)
      clear ht
      go_wp2_with fail
      go_ret2
      exact PostI.no (vcR_f HF.out) HF.out rfl b1
    | true =>
      have HF := Lib.hid (HK.out.trans ht)
      have ht2 := inR_iff.1 ht
      obtain ⟨tn, rfl⟩ := Int.eq_ofNat_of_zero_le ht2.1
      have htn : tn ≤ 80 := by omega
      clear ht ht2
      have c0 := BA.cell 0 _ rfl
      have c1 := BA.cell 1 _ rfl
      have c2 := BA.cell 2 _ rfl
      go_wp2_with fail
      refine (viClasses_any _ N tn w1 B (HV.out.below (b1.mono hB)) (Nat.le_trans hB z1) HN.out htn).mono ?_
      rintro e w2 ⟨v2, rfl, ⟨g, rfl, own2⟩, bel2⟩
      go_wp2_with fail
      go_ret2
      unfold PostI
      rw [vcR_t HF.out, Int.toNat_natCast, HF.out]
      exact ⟨some ⟨g, 0, none⟩, N.ends.length, by rw [vcT_length]; rfl, Ow.wide own2 z1 (Nat.le_refl _), b1.trans (bel2.mono z1)⟩
set_option maxRecDepth 100000 in
set_option maxHeartbeats 800000 in
theorem viewClasses_any (V : Value) (N : Net) (t : Int) (w : World) (B : Nat) (hv : NetIn w B V N) (hB : B ≤ w.heap.size) (hs : NetSmall N) :
    Calls Try.prog 31 #[V, .int .i64 t] w (PostI (vcR N t) (vcOk N t) w) := by
  have HV := Lib.hid hv
  have HS := Lib.hid hs
  obtain ⟨a, c, vs, ai, ci, ap, cp, rfl, h1, h2, h3, _⟩ := hv
  have BA := Bx.made w 29 #[.slice a N.ends.length c, .slice ai N.ids.length ci, .slice ap N.inputs.length cp]
  have b0 : Below w.heap.size w (w.alloc (.cells #[.slice a N.ends.length c, .slice ai N.ids.length ci, .slice ap N.inputs.length cp] 29)) := (by repeat (first | exact Below.refl _ _ | assumption | refine Below.alloc ?_ (by first | (simp; done) | (simp; omega) | omega) _ | refine Below.setCell ?_ (by first | (simp; done) | (simp; omega) | omega) _ | refine Below.drew ?_ | refine Below.drewN ?_ _))
  clear hs h1 h2 h3
  go_enter Try.func31, Try.ntmps31
  go_wp2_with fail
  generalize w.alloc (.cells #[.slice a N.ends.length c, .slice ai N.ids.length ci, .slice ap N.inputs.length cp] 29) = w0 at *
  refine (isNetwork_any _ N w0 B (HV.out.below (b0.mono hB)).rd (Nat.le_trans hB b0.size) HS.out).mono ?_
  rintro e w1 ⟨rfl, bel1⟩
  replace BA := BA.new bel1
  have b1 := b0.trans (bel1.mono b0.size)
  have z1 := b1.size
  clear b0 bel1
  cases hn : netB N with
  | false =>
    have HF := Lib.hid (vcOk_f (t := t) hn)
    clear hn
    go_wp2_with fail
    go_ret2
    exact PostI.no (vcR_f HF.out) HF.out rfl b1
  | true =>
    have HN := Lib.hid hn
    have HK := Lib.hid (vcOk_n (t := t) hn)
    clear hn
    go_wp2_with fail
    refine (isDepth_any t w1).mono ?_
    rintro e w3 ⟨rfl, hww⟩
    subst w3
    cases ht : inR t 0 80 with
    | false =>
      have HF := Lib.hid (HK.out.trans ht)
      clear ht
      go_wp2_with fail
      go_ret2
      exact PostI.no (vcR_f HF.out) HF.out rfl b1
    | true =>
      have HF := Lib.hid (HK.out.trans ht)
      have ht2 := inR_iff.1 ht
      obtain ⟨tn, rfl⟩ := Int.eq_ofNat_of_zero_le ht2.1
      have htn : tn ≤ 80 := by omega
      clear ht ht2
      have c0 := BA.cell 0 _ rfl
      have c1 := BA.cell 1 _ rfl
      have c2 := BA.cell 2 _ rfl
      go_wp2_with fail
      refine (classesAt_any _ N tn w1 B (HV.out.below (b1.mono hB)) (Nat.le_trans hB z1) HN.out htn).mono ?_
      rintro e w2 ⟨v2, rfl, ⟨g, rfl, own2⟩, bel2⟩
      go_wp2_with fail
      go_ret2
      unfold PostI
      rw [vcR_t HF.out, Int.toNat_natCast, HF.out]
      exact ⟨some ⟨g, 0, none⟩, N.ends.length, by rw [vcT_length]; rfl, Ow.wide own2 z1 (Nat.le_refl _), b1.trans (bel2.mono z1)⟩
theorem max_cl (rows : RowsV) (inputs : List Int) (t : Nat) : ∀ k, 0 < k → k ≤ rows.length → Lib.maxOf ((vcT rows inputs t).take k) + 1 = (manyF (vqT rows inputs t) k : Nat)
  | 0, h, _ => absurd h (by omega)
  | 1, _, h1 => by
    rw [Lib.maxOf_one]
    have h2 := vcT_nth rows inputs t 0 (by omega)
    have h3 := many_step (vqT_eqB rows inputs t) 0
    unfold nth at h2
    rw [h2, ← h3]
    simp [manyF]
  | k + 2, _, h1 => by
    have ih := max_cl rows inputs t (k + 1) (by omega) (by omega)
    rw [Lib.maxOf_step _ _ (by omega) (by rw [vcT_length]; omega)]
    have h2 := vcT_nth rows inputs t (k + 1) (by omega)
    have h3 := many_step (vqT_eqB rows inputs t) (k + 1)
    unfold nth at h2
    rw [h2, ← h3]
    omega
set_option maxHeartbeats 400000 in
theorem classCount_any (rows : RowsV) (inputs : List Int) (t g cap : Nat) (lo hi : Nat) (w : World) (h : OwI w lo hi (some ⟨g, 0, none⟩) cap (vcT rows inputs t)) (hn : rows.length ≤ 40) (hn1 : 1 ≤ rows.length) :
    Calls Try.prog 90 #[.slice (some ⟨g, 0, none⟩) rows.length cap] w fun e w' => e = .returned (.int .i64 (vmT rows inputs t : Nat)) ∧ w' = w := by
  have HL := Lib.hid (vcT_length rows inputs t)
  have HM := Lib.hid (max_cl rows inputs t rows.length (by omega) (Nat.le_refl _))
  have HV := Lib.hid (show manyF (vqT rows inputs t) rows.length = vmT rows inputs t from rfl)
  have hle := vmT_le rows inputs t
  have hc : ∀ j, j < (vcT rows inputs t).length → w.cell? ⟨g, 0 + j, none⟩ = some (.int .i64 ((vcT rows inputs t).getD j 0)) := fun j hj => by
    obtain ⟨g9, h9, _, _, _, hc, _⟩ := OwI.at h hj
    injection h9 with h9
    injection h9 with h9
    rw [Nat.zero_add, h9]
    exact hc
  go_enter Try.func90, Try.ntmps90
  go_wp2_with fail
  refine (Try.slices_Max_int g 0 rows.length cap (vcT rows inputs t) w (by omega) (by rw [HL.out]; exact Nat.le_refl _) (by omega) hc).mono ?_
  rintro e w' ⟨rfl, hw⟩
  subst w'
  have hmx : Lib.maxOf ((vcT rows inputs t).take rows.length) = ((vmT rows inputs t : Nat) : Int) - 1 := by have := HM.out; rw [HV.out] at this; omega
  rw [hmx]
  go_wp2_with fail
  go_ret
  exact ⟨ret_int (by omega), rfl⟩
set_option maxRecDepth 100000 in
set_option maxHeartbeats 1600000 in
theorem stable_any (V : Value) (N : Net) (w : World) (B : Nat) (hv : NetIn w B V N) (hB : B ≤ w.heap.size) (hnet : netB N = true) :
    Calls Try.prog 63 #[V] w fun e w' => ∃ v, e = .returned (.tuple #[.int .i64 (stT N.ends N.inputs : Nat), v]) ∧ Below w.heap.size w w' := by
  have HV := Lib.hid hv
  have HN := Lib.hid hnet
  have hle : N.ends.length ≤ 40 := (netB_small hnet).1
  have hle1 : 1 ≤ N.ends.length := (netB_small hnet).2.1
  have HIN := Lib.hid (vin_of_net hnet)
  have HST : Hid (0 < vmT N.ends N.inputs 0) := manyF_pos (by omega)
  have HLE := Lib.hid (fun s => vmT_le N.ends N.inputs s)
  obtain ⟨a, c, vs, ai, ci, ap, cp, rfl, _⟩ := hv
  have BA := Bx.made w 29 #[.slice a N.ends.length c, .slice ai N.ids.length ci, .slice ap N.inputs.length cp]
  have b0 : Below w.heap.size w (w.alloc (.cells #[.slice a N.ends.length c, .slice ai N.ids.length ci, .slice ap N.inputs.length cp] 29)) := (by repeat (first | exact Below.refl _ _ | assumption | refine Below.alloc ?_ (by first | (simp; done) | (simp; omega) | omega) _ | refine Below.setCell ?_ (by first | (simp; done) | (simp; omega) | omega) _ | refine Below.drew ?_ | refine Below.drewN ?_ _))
  clear hnet
  go_enter Try.func63, Try.ntmps63
  go_upto_region 1 with fail
  generalize w.alloc (.cells #[.slice a N.ends.length c, .slice ai N.ids.length ci, .slice ap N.inputs.length cp] 29) = w0 at *
  have q0 := BA.cell 0 _ rfl
  have q1 := BA.cell 1 _ rfl
  have q2 := BA.cell 2 _ rfl
  go_wp2_with fail
  refine (vcImpl_zero _ N w0 B (HV.out.below (b0.mono hB)) (Nat.le_trans hB b0.size) HN.out).mono ?_
  rintro e w1 ⟨v1, rfl, own1, bel1⟩
  have BA1 := BA.new bel1
  have bb := b0.trans (bel1.mono b0.size)
  have own1' : VcAt w1 w.heap.size v1 N (vcT N.ends N.inputs 0) := by obtain ⟨g, h1, h2⟩ := own1; exact ⟨g, h1, Ow.wide h2 b0.size (Nat.le_refl _)⟩
  clear q0 q1 q2 BA b0 bel1 own1
  go_wp2_with fail
  go_loopw [4, 5] (fun cv iv wr => ∃ s : Nat, iv = .int .i64 s ∧ s < vmT N.ends N.inputs s ∧ (∀ r, r < s → vmT N.ends N.inputs (r + 1) ≠ vmT N.ends N.inputs r) ∧ VcAt wr w.heap.size cv N (vcT N.ends N.inputs s) ∧ Bx wr w.heap.size 29 #[.slice a N.ends.length c, .slice ai N.ids.length ci, .slice ap N.inputs.length cp] ∧ Below w.heap.size w wr) (fun _ iv _ => 60 - (intOf iv).toNat)
  case atStart => exact ⟨0, rfl, HST.out, fun r hr => absurd hr (by omega), own1', BA1, bb⟩
  case round =>
    clear own1' BA1 bb
    obtain ⟨s, rfl, hs1, hs2, hown, BA, bel⟩ := hrel
    have HS1 := Lib.hid hs1
    have HS2 := Lib.hid hs2
    have zw := bel.size
    have hs40 : s ≤ 40 := by have := HLE.out s; omega
    clear hs1 hs2
    have q0 := BA.cell 0 _ rfl
    have q1 := BA.cell 1 _ rfl
    have q2 := BA.cell 2 _ rfl
    go_wp2_with fail
    refine (vcImpl_succ _ N s _ _ _ B (HV.out.below (bel.mono hB)) hown (by omega) HN.out).mono ?_
    rintro e w1 ⟨v1, rfl, own1, bel1⟩
    have BA1 := BA.new bel1
    have bb := bel.trans (bel1.mono zw)
    have hown' := hown.new bel1
    have own1' : VcAt w1 w.heap.size v1 N (vcT N.ends N.inputs (s + 1)) := by obtain ⟨g, h1, h2⟩ := own1; exact ⟨g, h1, Ow.wide h2 zw (Nat.le_refl _)⟩
    clear q0 q1 q2 BA bel bel1 own1 hown
    have HM1 : Hid (Calls Try.prog 90 #[v1] w1 fun e w' => e = .returned (.int .i64 (vmT N.ends N.inputs (s + 1) : Nat)) ∧ w' = w1) := by
      obtain ⟨g, rfl, h2⟩ := own1'
      exact classCount_any N.ends N.inputs (s + 1) g _ _ _ w1 h2 hle hle1
    have HM2 : Hid (∀ v, VcAt w1 w.heap.size v N (vcT N.ends N.inputs s) → Calls Try.prog 90 #[v] w1 fun e w' => e = .returned (.int .i64 (vmT N.ends N.inputs s : Nat)) ∧ w' = w1) := by
      rintro v ⟨g, rfl, h2⟩
      exact classCount_any N.ends N.inputs s g _ _ _ w1 h2 hle hle1
    have HM3 := Lib.hid (HM2.out _ hown')
    clear HM2
    by_cases heq : vmT N.ends N.inputs (s + 1) = vmT N.ends N.inputs s
    · have HR : Hid (stT N.ends N.inputs = s) := stT_of (by omega) ⟨heq, HS2.out⟩
      have hb : (((vmT N.ends N.inputs (s + 1) : Nat) : Int) == ((vmT N.ends N.inputs s : Nat) : Int)) = true := by rw [heq]; simp
      clear heq
      generalize vmT N.ends N.inputs (s + 1) = m1 at *
      generalize vmT N.ends N.inputs s = m0 at *
      go_wp2_with fail
      refine HM1.out.mono ?_
      rintro e w4 ⟨rfl, hw⟩
      subst w4
      go_wp2_with fail
      refine HM3.out.mono ?_
      rintro e w4 ⟨rfl, hw⟩
      subst w4
      go_wp2_with fail
      go_ret2
      rw [HR.out]
      exact ⟨_, rfl, bb⟩
    · have hb : (((vmT N.ends N.inputs (s + 1) : Nat) : Int) == ((vmT N.ends N.inputs s : Nat) : Int)) = false := by rw [beq_eq_false_iff_ne]; omega
      have HN1 := Lib.hid (stab_next HIN.out HS1.out heq)
      have HN2 := Lib.hid (all_snoc1 HS2.out heq)
      clear heq
      generalize vmT N.ends N.inputs (s + 1) = m1 at hb HM1
      generalize vmT N.ends N.inputs s = m0 at hb HM3
      go_wp2_with fail
      refine HM1.out.mono ?_
      rintro e w4 ⟨rfl, hw⟩
      subst w4
      go_wp2_with fail
      refine HM3.out.mono ?_
      rintro e w4 ⟨rfl, hw⟩
      subst w4
      go_wp2_with fail
      go_roundw
      case rel => exact ⟨s + 1, by go_num, HN1.out, HN2.out, own1', BA1, bb⟩
      case measure => simp [intOf]; omega
set_option maxRecDepth 100000 in
set_option maxHeartbeats 800000 in
theorem stableDepthS_any (V : Value) (N : Net) (w : World) (B : Nat) (hv : NetIn w B V N) (hB : B ≤ w.heap.size) (hs : NetSmall N) :
    Calls Try.prog 28 #[V] w (PostV (sdR N) (netB N) w) := by
  have HV := Lib.hid hv
  have HS := Lib.hid hs
  obtain ⟨a, c, vs, ai, ci, ap, cp, rfl, h1, h2, h3, _⟩ := hv
  have BA := Bx.made w 29 #[.slice a N.ends.length c, .slice ai N.ids.length ci, .slice ap N.inputs.length cp]
  have b0 : Below w.heap.size w (w.alloc (.cells #[.slice a N.ends.length c, .slice ai N.ids.length ci, .slice ap N.inputs.length cp] 29)) := (by repeat (first | exact Below.refl _ _ | assumption | refine Below.alloc ?_ (by first | (simp; done) | (simp; omega) | omega) _ | refine Below.setCell ?_ (by first | (simp; done) | (simp; omega) | omega) _ | refine Below.drew ?_ | refine Below.drewN ?_ _))
  clear hs h1 h2 h3
  go_enter Try.func28, Try.ntmps28
  go_wp2_with fail
  generalize w.alloc (.cells #[.slice a N.ends.length c, .slice ai N.ids.length ci, .slice ap N.inputs.length cp] 29) = w0 at *
  refine (neGood_any _ N w0 B (HV.out.below (b0.mono hB)) (Nat.le_trans hB b0.size) HS.out).mono ?_
  rintro e w1 ⟨rfl, bel1⟩
  replace BA := BA.new bel1
  have b1 := b0.trans (bel1.mono b0.size)
  have z1 := b1.size
  clear b0 bel1
  cases hn : netB N with
  | false =>
    have HF := Lib.hid hn
    clear hn
    go_wp2_with fail
    refine bodyPost_ret (v := .tuple #[.int .i64 0, .bool false]) (by simp [results, Try.results28, go_sem]) rfl ?_
    exact ⟨by rw [sdR_f HF.out, HF.out], b1⟩
  | true =>
    have HN := Lib.hid hn
    clear hn
    have c0 := BA.cell 0 _ rfl
    have c1 := BA.cell 1 _ rfl
    have c2 := BA.cell 2 _ rfl
    go_wp2_with fail
    refine (viStable_any _ N w1 B (HV.out.below (b1.mono hB)) (Nat.le_trans hB z1) HN.out).mono ?_; rintro e w2 ⟨rfl, bel2⟩
    go_wp2_with fail
    refine bodyPost_ret (v := .tuple #[.int .i64 (stT N.ends N.inputs : Nat), .bool true]) (by simp [results, Try.results28, go_sem]) rfl ?_
    exact ⟨by rw [sdR_t HN.out, HN.out], b1.trans (bel2.mono z1)⟩
set_option maxRecDepth 100000 in
set_option maxHeartbeats 800000 in
theorem stableDepth_any (V : Value) (N : Net) (w : World) (B : Nat) (hv : NetIn w B V N) (hB : B ≤ w.heap.size) (hs : NetSmall N) :
    Calls Try.prog 29 #[V] w (PostV (sdR N) (netB N) w) := by
  have HV := Lib.hid hv
  have HS := Lib.hid hs
  obtain ⟨a, c, vs, ai, ci, ap, cp, rfl, h1, h2, h3, _⟩ := hv
  have BA := Bx.made w 29 #[.slice a N.ends.length c, .slice ai N.ids.length ci, .slice ap N.inputs.length cp]
  have b0 : Below w.heap.size w (w.alloc (.cells #[.slice a N.ends.length c, .slice ai N.ids.length ci, .slice ap N.inputs.length cp] 29)) := (by repeat (first | exact Below.refl _ _ | assumption | refine Below.alloc ?_ (by first | (simp; done) | (simp; omega) | omega) _ | refine Below.setCell ?_ (by first | (simp; done) | (simp; omega) | omega) _ | refine Below.drew ?_ | refine Below.drewN ?_ _))
  clear hs h1 h2 h3
  go_enter Try.func29, Try.ntmps29
  go_wp2_with fail
  generalize w.alloc (.cells #[.slice a N.ends.length c, .slice ai N.ids.length ci, .slice ap N.inputs.length cp] 29) = w0 at *
  refine (isNetwork_any _ N w0 B (HV.out.below (b0.mono hB)).rd (Nat.le_trans hB b0.size) HS.out).mono ?_
  rintro e w1 ⟨rfl, bel1⟩
  replace BA := BA.new bel1
  have b1 := b0.trans (bel1.mono b0.size)
  have z1 := b1.size
  clear b0 bel1
  cases hn : netB N with
  | false =>
    have HF := Lib.hid hn
    clear hn
    go_wp2_with fail
    refine bodyPost_ret (v := .tuple #[.int .i64 0, .bool false]) (by simp [results, Try.results29, go_sem]) rfl ?_
    exact ⟨by rw [sdR_f HF.out, HF.out], b1⟩
  | true =>
    have HN := Lib.hid hn
    clear hn
    have c0 := BA.cell 0 _ rfl
    have c1 := BA.cell 1 _ rfl
    have c2 := BA.cell 2 _ rfl
    go_wp2_with fail
    refine (stable_any _ N w1 B (HV.out.below (b1.mono hB)) (Nat.le_trans hB z1) HN.out).mono ?_; rintro e w2 ⟨v2, rfl, bel2⟩
    go_wp2_with fail
    refine bodyPost_ret (v := .tuple #[.int .i64 (stT N.ends N.inputs : Nat), .bool true]) (by simp [results, Try.results29, go_sem]) rfl ?_
    exact ⟨by rw [sdR_t HN.out, HN.out], b1.trans (bel2.mono z1)⟩
end Go.Proofs.Ytlooinhdehkcdaa
