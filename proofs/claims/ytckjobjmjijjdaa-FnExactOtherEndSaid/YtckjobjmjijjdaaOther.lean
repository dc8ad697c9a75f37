/- Contracts and law: OtherEnd. -/
import Derived.Test.YtckjobjmjijjdaaNeGood
namespace Go.Proofs.Ytckjobjmjijjdaa
open Go.RowKit
set_option linter.unusedVariables false
set_option linter.unusedSimpArgs false
/-- valid, and the port is there -/
def npB (N : Net) (v i : Int) : Bool := netB N && hasP N.ends v i
theorem npB_f0 {N : Net} {v i : Int} (h : netB N = false) : npB N v i = false := by rw [npB, h]; rfl
theorem npB_f1 {N : Net} {v i : Int} (h : hasP N.ends v i = false) : npB N v i = false := by rw [npB, h]; simp
theorem npB_t {N : Net} {v i : Int} (h0 : netB N = true) (h : hasP N.ends v i = true) : npB N v i = true := by rw [npB, h0, h]; rfl
def oeR (N : Net) (v i : Int) : Int × Int := if npB N v i then nthE (rowOf N.ends v.toNat) i.toNat else (0, 0)
theorem oeR_no {N : Net} {v i : Int} (h : npB N v i = false) : oeR N v i = (0, 0) := by rw [oeR, h]; rfl
theorem oeR_yes {N : Net} {v i : Nat} (h : npB N v i = true) : oeR N v i = nthE (rowOf N.ends v) i := by rw [oeR, h]; rfl
def PostE (r : Int × Int) (ok : Bool) (w : World) (e : Ending) (w' : World) : Prop := e = .returned (.tuple #[.agg #[.int .i64 r.1, .int .i64 r.2], .bool ok]) ∧ Below w.heap.size w w'
theorem netB_40 {N : Net} (h : netB N = true) : N.ends.length ≤ 40 := by
  unfold netB at h
  simp only [Bool.and_eq_true] at h
  have := inR_iff.1 h.1.1.1
  omega
set_option maxHeartbeats 400000 in
theorem nePort_any (V : Value) (N : Net) (v i : Int) (w : World) (B : Nat) (hv : NetIn w B V N) (hB : B ≤ w.heap.size) (hs : NetSmall N) :
    Calls Try.prog 92 #[V, .int .i64 v, .int .i64 i] w fun e w' => e = .returned (.bool (npB N v i)) ∧ Below w.heap.size w w' := by
  have HV := Lib.hid hv
  obtain ⟨a, c, vs, ai, ci, ap, cp, rfl, h1, _⟩ := hv
  have BA := Bx.made w 46 #[.slice a N.ends.length c, .slice ai N.ids.length ci, .slice ap N.inputs.length cp]
  have b0 : Below w.heap.size w (w.alloc (.cells #[.slice a N.ends.length c, .slice ai N.ids.length ci, .slice ap N.inputs.length cp] 46)) := (by repeat (first | exact Below.refl _ _ | assumption | refine Below.alloc ?_ (by first | (simp; done) | (simp; omega) | omega) _ | refine Below.setCell ?_ (by first | (simp; done) | (simp; omega) | omega) _ | refine Below.drew ?_ | refine Below.drewN ?_ _))
  have HROW := Lib.hid hs.row
  have hl : N.ends.length ≤ 1048576 := by unfold NetSmall at hs; omega
  go_enter Try.func92, Try.ntmps92
  go_wp2_with fail
  refine (neGood_any _ N _ B (HV.out.below (b0.mono hB)) (Nat.le_trans hB b0.size) hs).mono ?_
  rintro e w1 ⟨rfl, bel1⟩
  replace BA := BA.new bel1
  have b1 := b0.trans (bel1.mono b0.size)
  have z1 := b1.size
  clear b0 bel1
  have c0 := BA.cell 0 _ rfl
  cases hn : netB N with
  | false =>
    have HX := Lib.hid (npB_f0 (v := v) (i := i) hn)
    clear hn
    go_wp2_with fail
    go_ret
    exact ⟨ret_bool HX.out.symm, b1⟩
  | true =>
    have HN := Lib.hid hn
    clear hn
    cases hp : hasN N.ends v with
    | false =>
      have HX := Lib.hid (npB_f1 (N := N) (hasP_f0 (q := i) hp))
      have HP : Hid (inR v 0 ((N.ends.length : Int) - 1) = false) := hp
      clear hp
      go_wp2_with fail
      refine (l1In_any _ _ _ _).mono ?_
      rintro e w' ⟨rfl, rfl⟩
      rw [HP.out]
      go_wp2_with fail
      go_ret
      exact ⟨ret_bool HX.out.symm, b1⟩
    | true =>
      obtain ⟨v, rfl, hlt⟩ := hasN_nat hp
      have HP : Hid (inR v 0 ((N.ends.length : Int) - 1) = true) := hp
      have HH := Lib.hid (hasP_at (q := i) hp)
      clear hp
      obtain ⟨g, off, hae, hgB, hc⟩ := Rd.at (h1.below (b1.mono hB)).1 hlt
      subst hae
      have hl2 := HROW.out v hlt
      go_wp2_with fail
      refine (l1In_any _ _ _ _).mono ?_
      rintro e w' ⟨rfl, rfl⟩
      rw [HP.out]
      go_wp2_with fail
      refine (l1In_any _ _ _ _).mono ?_
      rintro e w' ⟨rfl, rfl⟩
      go_wp2_with fail
      go_ret
      exact ⟨ret_bool (by rw [npB, HN.out, HH.out]; rfl), b1⟩
set_option maxHeartbeats 400000 in
theorem otherEndS_any (V : Value) (N : Net) (v i : Int) (w : World) (B : Nat) (hv : NetIn w B V N) (hB : B ≤ w.heap.size) (hs : NetSmall N) :
    Calls Try.prog 47 #[V, .int .i64 v, .int .i64 i] w (PostE (oeR N v i) (npB N v i) w) := by
  have HV := Lib.hid hv
  obtain ⟨a, c, vs, ai, ci, ap, cp, rfl, h1, _⟩ := hv
  have HROW := Lib.hid hs.row
  have hl : N.ends.length ≤ 1048576 := by unfold NetSmall at hs; omega
  have BA := Bx.made w 46 #[.slice a N.ends.length c, .slice ai N.ids.length ci, .slice ap N.inputs.length cp]
  have BE := Bx.made (w.alloc (.cells #[.slice a N.ends.length c, .slice ai N.ids.length ci, .slice ap N.inputs.length cp] 46)) 61 #[.int .i64 0, .int .i64 0]
  replace BA := BA.alloc (.cells #[.int .i64 0, .int .i64 0] 61)
  have b0 : Below w.heap.size w ((w.alloc (.cells #[.slice a N.ends.length c, .slice ai N.ids.length ci, .slice ap N.inputs.length cp] 46)).alloc (.cells #[.int .i64 0, .int .i64 0] 61)) := (by repeat (first | exact Below.refl _ _ | assumption | refine Below.alloc ?_ (by first | (simp; done) | (simp; omega) | omega) _ | refine Below.setCell ?_ (by first | (simp; done) | (simp; omega) | omega) _ | refine Below.drew ?_ | refine Below.drewN ?_ _))
  rw [World.size_alloc] at BE
  go_enter Try.func47, Try.ntmps47
  go_wp2_with fail
  refine (nePort_any _ N _ _ _ B (HV.out.below (b0.mono hB)) (Nat.le_trans hB b0.size) hs).mono ?_
  rintro e w1 ⟨rfl, bel1⟩
  replace BA := BA.new bel1
  replace BE := BE.new bel1
  have b1 := b0.trans (bel1.mono b0.size)
  have z1 : w.heap.size + 1 + 1 ≤ w1.heap.size := by have := bel1.size; simpa using this
  clear b0 bel1
  have c0 := BA.cell 0 _ rfl
  have e0 := BE.cell 0 _ rfl
  have e1 := BE.cell 1 _ rfl
  have f0 := BE.frozen 0
  have f1 := (BE.set 0 (.int .i64 0)).frozen 1
  have e2 := (BE.set 0 (.int .i64 0)).cell 1 _ rfl
  cases hp : npB N v i with
  | false =>
    have HOK := Lib.hid hp
    clear hp
    go_wp2_with fail
    generalize hW : World.setCell _ _ _ = W
    have B6 : Bx W (w.heap.size + 1) 61 #[.int .i64 0, .int .i64 0] := by rw [← hW]; exact (BE.set 0 _).set 1 _
    have bW : Below w.heap.size w W := by rw [← hW]; exact (by repeat (first | exact Below.refl _ _ | assumption | refine Below.alloc ?_ (by first | (simp; done) | (simp; omega) | omega) _ | refine Below.setCell ?_ (by first | (simp; done) | (simp; omega) | omega) _ | refine Below.drew ?_ | refine Below.drewN ?_ _))
    clear hW
    have d0 := B6.cell 0 _ rfl
    have d1 := B6.cell 1 _ rfl
    refine bodyPost_ret (v := .tuple #[.agg #[.int .i64 0, .int .i64 0], .bool false]) (by simp [results, Try.results47, go_sem, d0, d1]) rfl ?_
    rw [HOK.out, oeR_no HOK.out]
    exact ⟨rfl, bW⟩
  | true =>
    have HOK := Lib.hid hp
    have HPP : hasP N.ends v i = true := by rw [npB, Bool.and_eq_true] at hp; exact hp.2
    clear hp e0 e1 e2 f0 f1
    obtain ⟨v, i, rfl, rfl, hlt, hilt⟩ := hasP_nat HPP
    obtain ⟨x, y, hxy⟩ : ∃ x y, nthE (rowOf N.ends v) i = (x, y) := ⟨_, _, rfl⟩
    have b1B := b1.mono hB
    obtain ⟨g, off, hae, hgB, hc⟩ := Rd.at (h1.below b1B).1 hlt
    subst hae
    obtain ⟨g1, off1, hae1, hg1, hc1, hc2⟩ := RdE.at ((h1.below b1B).2 v hlt) hilt
    rw [hae1] at hc
    rw [hxy] at hc1 hc2
    have hl2 := HROW.out v hlt
    have HXY : Hid (oeR N v i = (x, y)) := (oeR_yes HOK.out).trans hxy
    clear hxy
    have f0 := BE.frozen 0
    have f1 := (BE.set 0 (.int .i64 x)).frozen 1
    have e0 := BE.cell 0 _ rfl
    have e1 := (BE.set 0 (.int .i64 x)).cell 1 _ rfl
    go_wp2_with fail
    generalize hW : World.setCell _ _ _ = W
    have B6 : Bx W (w.heap.size + 1) 61 #[.int .i64 x, .int .i64 y] := by rw [← hW]; exact (BE.set 0 _).set 1 _
    have bW : Below w.heap.size w W := by rw [← hW]; exact (by repeat (first | exact Below.refl _ _ | assumption | refine Below.alloc ?_ (by first | (simp; done) | (simp; omega) | omega) _ | refine Below.setCell ?_ (by first | (simp; done) | (simp; omega) | omega) _ | refine Below.drew ?_ | refine Below.drewN ?_ _))
    clear hW
    have d0 := B6.cell 0 _ rfl
    have d1 := B6.cell 1 _ rfl
    refine bodyPost_ret (v := .tuple #[.agg #[.int .i64 x, .int .i64 y], .bool true]) (by simp [results, Try.results47, go_sem, d0, d1]) rfl ?_
    rw [HOK.out, HXY.out]
    exact ⟨rfl, bW⟩
set_option maxHeartbeats 400000 in
theorem otherEnd_any (V : Value) (N : Net) (v i : Int) (w : World) (B : Nat) (hv : NetIn w B V N) (hB : B ≤ w.heap.size) (hs : NetSmall N) :
    Calls Try.prog 48 #[V, .int .i64 v, .int .i64 i] w (PostE (oeR N v i) (npB N v i) w) := by
  have HV := Lib.hid hv
  obtain ⟨a, c, vs, ai, ci, ap, cp, rfl, h1, _⟩ := hv
  have HROW := Lib.hid hs.row
  have hl : N.ends.length ≤ 1048576 := by unfold NetSmall at hs; omega
  have BA := Bx.made w 46 #[.slice a N.ends.length c, .slice ai N.ids.length ci, .slice ap N.inputs.length cp]
  have BE := Bx.made (w.alloc (.cells #[.slice a N.ends.length c, .slice ai N.ids.length ci, .slice ap N.inputs.length cp] 46)) 61 #[.int .i64 0, .int .i64 0]
  replace BA := BA.alloc (.cells #[.int .i64 0, .int .i64 0] 61)
  have b0 : Below w.heap.size w ((w.alloc (.cells #[.slice a N.ends.length c, .slice ai N.ids.length ci, .slice ap N.inputs.length cp] 46)).alloc (.cells #[.int .i64 0, .int .i64 0] 61)) := (by repeat (first | exact Below.refl _ _ | assumption | refine Below.alloc ?_ (by first | (simp; done) | (simp; omega) | omega) _ | refine Below.setCell ?_ (by first | (simp; done) | (simp; omega) | omega) _ | refine Below.drew ?_ | refine Below.drewN ?_ _))
  rw [World.size_alloc] at BE
  go_enter Try.func48, Try.ntmps48
  go_wp2_with fail
  refine (isNetwork_any _ N _ B (HV.out.below (b0.mono hB)).rd (Nat.le_trans hB b0.size) hs).mono ?_
  rintro e w1 ⟨rfl, bel1⟩
  replace BA := BA.new bel1
  replace BE := BE.new bel1
  have b1 := b0.trans (bel1.mono b0.size)
  have z1 : w.heap.size + 1 + 1 ≤ w1.heap.size := by have := bel1.size; simpa using this
  clear b0 bel1
  have c0 := BA.cell 0 _ rfl
  have c1 := BA.cell 1 _ rfl
  have c2 := BA.cell 2 _ rfl
  cases hn : netB N with
  | false =>
    have HOK := Lib.hid (npB_f0 (v := v) (i := i) hn)
    clear hn
    have e0 := BE.cell 0 _ rfl
    have e1 := BE.cell 1 _ rfl
    have f0 := BE.frozen 0
    have f1 := (BE.set 0 (.int .i64 0)).frozen 1
    have e2 := (BE.set 0 (.int .i64 0)).cell 1 _ rfl
    go_wp2_with fail
    generalize hW : World.setCell _ _ _ = W
    have B6 : Bx W (w.heap.size + 1) 61 #[.int .i64 0, .int .i64 0] := by rw [← hW]; exact (BE.set 0 _).set 1 _
    have bW : Below w.heap.size w W := by rw [← hW]; exact (by repeat (first | exact Below.refl _ _ | assumption | refine Below.alloc ?_ (by first | (simp; done) | (simp; omega) | omega) _ | refine Below.setCell ?_ (by first | (simp; done) | (simp; omega) | omega) _ | refine Below.drew ?_ | refine Below.drewN ?_ _))
    clear hW
    have d0 := B6.cell 0 _ rfl
    have d1 := B6.cell 1 _ rfl
    refine bodyPost_ret (v := .tuple #[.agg #[.int .i64 0, .int .i64 0], .bool false]) (by simp [results, Try.results48, go_sem, d0, d1]) rfl ?_
    rw [HOK.out, oeR_no HOK.out]
    exact ⟨rfl, bW⟩
  | true =>
  have HN := Lib.hid hn
  clear hn
  go_wp2_with fail
  clear c0 c1 c2
  refine (hasPort_any _ _ _ N.ends vs _ _ _ _ _ _ _ _ B (h1.below (b1.mono hB)) (by omega) hl HROW.out).mono ?_
  rintro e w2 ⟨rfl, bel2⟩
  replace BA := BA.new bel2
  replace BE := BE.new bel2
  have b2 := b1.trans (bel2.mono b1.size)
  have z2 : w.heap.size + 1 + 1 ≤ w2.heap.size := Nat.le_trans z1 bel2.size
  clear b1 bel2 z1
  have z1 := z2
  have b1 := b2
  clear z2 b2
  have c0 := BA.cell 0 _ rfl
  have c1 := BA.cell 1 _ rfl
  have c2 := BA.cell 2 _ rfl
  have e0 := BE.cell 0 _ rfl
  have e1 := BE.cell 1 _ rfl
  have f0 := BE.frozen 0
  have f1 := (BE.set 0 (.int .i64 0)).frozen 1
  have e2 := (BE.set 0 (.int .i64 0)).cell 1 _ rfl
  cases hp : hasP N.ends v i with
  | false =>
    have HOK := Lib.hid (npB_f1 (N := N) hp)
    clear hp
    go_wp2_with fail
    generalize hW : World.setCell _ _ _ = W
    have B6 : Bx W (w.heap.size + 1) 61 #[.int .i64 0, .int .i64 0] := by rw [← hW]; exact (BE.set 0 _).set 1 _
    have bW : Below w.heap.size w W := by rw [← hW]; exact (by repeat (first | exact Below.refl _ _ | assumption | refine Below.alloc ?_ (by first | (simp; done) | (simp; omega) | omega) _ | refine Below.setCell ?_ (by first | (simp; done) | (simp; omega) | omega) _ | refine Below.drew ?_ | refine Below.drewN ?_ _))
    clear hW
    have d0 := B6.cell 0 _ rfl
    have d1 := B6.cell 1 _ rfl
    refine bodyPost_ret (v := .tuple #[.agg #[.int .i64 0, .int .i64 0], .bool false]) (by simp [results, Try.results48, go_sem, d0, d1]) rfl ?_
    rw [HOK.out, oeR_no HOK.out]
    exact ⟨rfl, bW⟩
  | true =>
    have HOK := Lib.hid (npB_t HN.out hp)
    have HPP := hp
    clear hp e0 e1 e2 f0 f1
    obtain ⟨v, i, rfl, rfl, hlt, hilt⟩ := hasP_nat HPP
    obtain ⟨x, y, hxy⟩ : ∃ x y, nthE (rowOf N.ends v) i = (x, y) := ⟨_, _, rfl⟩
    have b1B := b1.mono hB
    obtain ⟨g, off, hae, hgB, hc⟩ := Rd.at (h1.below b1B).1 hlt
    subst hae
    obtain ⟨g1, off1, hae1, hg1, hc1, hc2⟩ := RdE.at ((h1.below b1B).2 v hlt) hilt
    rw [hae1] at hc
    rw [hxy] at hc1 hc2
    have hl2 := HROW.out v hlt
    have HXY : Hid (oeR N v i = (x, y)) := (oeR_yes HOK.out).trans hxy
    clear hxy
    have f0 := BE.frozen 0
    have f1 := (BE.set 0 (.int .i64 x)).frozen 1
    have e0 := BE.cell 0 _ rfl
    have e1 := (BE.set 0 (.int .i64 x)).cell 1 _ rfl
    go_wp2_with fail
    generalize hW : World.setCell _ _ _ = W
    have B6 : Bx W (w.heap.size + 1) 61 #[.int .i64 x, .int .i64 y] := by rw [← hW]; exact (BE.set 0 _).set 1 _
    have bW : Below w.heap.size w W := by rw [← hW]; exact (by repeat (first | exact Below.refl _ _ | assumption | refine Below.alloc ?_ (by first | (simp; done) | (simp; omega) | omega) _ | refine Below.setCell ?_ (by first | (simp; done) | (simp; omega) | omega) _ | refine Below.drew ?_ | refine Below.drewN ?_ _))
    clear hW
    have d0 := B6.cell 0 _ rfl
    have d1 := B6.cell 1 _ rfl
    refine bodyPost_ret (v := .tuple #[.agg #[.int .i64 x, .int .i64 y], .bool true]) (by simp [results, Try.results48, go_sem, d0, d1]) rfl ?_
    rw [HOK.out, HXY.out]
    exact ⟨rfl, bW⟩
end Go.Proofs.Ytckjobjmjijjdaa
