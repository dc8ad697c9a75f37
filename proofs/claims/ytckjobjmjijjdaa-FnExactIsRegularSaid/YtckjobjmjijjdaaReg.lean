/- Degrees; IsRegular. -/
import Derived.Test.YtckjobjmjijjdaaNeGood
import Derived.Test.YtckjobjmjijjdaaApp
namespace Go.Proofs.Ytckjobjmjijjdaa
open Go.RowKit
set_option linter.unusedVariables false
set_option linter.unusedSimpArgs false
def degs (rows : Rows2) : List Int := rows.map fun r => (r.length : Int)
theorem degs_length (rows : Rows2) : (degs rows).length = rows.length := by simp [degs]
theorem degs_nth (rows : Rows2) (j : Nat) (hj : j < rows.length) : nth (degs rows) j = ((rowOf rows j).length : Int) := by
  rw [nth_eq_getElem _ _ (by rw [degs_length]; exact hj)]
  simp [degs, rowOf, List.getD, hj]
theorem degs_take (rows : Rows2) (k : Nat) (h : k < rows.length) : (degs rows).take (k + 1) = (degs rows).take k ++ [((rowOf rows k).length : Int)] := by
  rw [take_snoc_nth _ _ (by rw [degs_length]; exact h), degs_nth _ _ h]
def regB (rows : Rows2) (d : Int) : Bool := allB (degs rows) d d
theorem regB_f {rows : Rows2} {d : Int} {k : Nat} (hk : k < rows.length) (h : ((rowOf rows k).length : Int) ≠ d) : regB rows d = false := by
  refine allB_f (k := k) (by rw [degs_length]; exact hk) ?_
  rw [degs_nth _ _ hk]
  cases hi : inR ((rowOf rows k).length : Int) d d with
  | false => rfl
  | true => have := inR_iff.1 hi; omega
theorem regB_t {rows : Rows2} {d : Int} (h : ∀ j, j < rows.length → ((rowOf rows j).length : Int) = d) : regB rows d = true := by
  refine allB_t fun j hj => ?_
  rw [degs_length] at hj
  rw [degs_nth _ _ hj, h j hj]
  exact inR_iff.2 ⟨Int.le_refl _, Int.le_refl _⟩
set_option maxHeartbeats 400000 in
theorem neDegrees_any (V : Value) (N : Net) (w : World) (B : Nat) (hv : NetIn w B V N) (hB : B ≤ w.heap.size) (hs : NetSmall N) :
    Calls Try.prog 93 #[V] w fun e w' => ∃ a cap, e = .returned (.slice a (degs N.ends).length cap) ∧ OwI w' w.heap.size w'.heap.size a cap (degs N.ends) ∧ Below w.heap.size w w' := by
  obtain ⟨a, c, vs, ai, ci, ap, cp, rfl, h1, _⟩ := hv
  have HROW := Lib.hid hs.row
  have hl : N.ends.length ≤ 1048576 := by unfold NetSmall at hs; omega
  have b0 : Below w.heap.size w (w.alloc (.cells #[.slice a N.ends.length c, .slice ai N.ids.length ci, .slice ap N.inputs.length cp] 46)) := (by repeat (first | exact Below.refl _ _ | assumption | refine Below.alloc ?_ (by first | (simp; done) | (simp; omega) | omega) _ | refine Below.setCell ?_ (by first | (simp; done) | (simp; omega) | omega) _ | refine Below.drew ?_ | refine Below.drewN ?_ _))
  have h12 := RdEE.below h1 (b0.mono hB)
  clear h1
  go_enter Try.func93, Try.ntmps93
  go_wp2_with fail
  generalize hW : w.alloc (.cells #[.slice a N.ends.length c, .slice ai N.ids.length ci, .slice ap N.inputs.length cp] 46) = w0 at *
  have z0 := b0.size
  have hB0 : B ≤ w0.heap.size := by omega
  clear hW
  go_loopw [3, 9] (fun v i wr => ∃ k : Nat, k ≤ N.ends.length ∧ i = .int .i64 k ∧ (∃ a cap, v = .slice a k cap ∧ OwI wr w0.heap.size wr.heap.size a cap ((degs N.ends).take k)) ∧ Below w0.heap.size w0 wr) (fun _ i _ => N.ends.length - (intOf i).toNat)
  case atStart => exact ⟨0, Nat.zero_le _, rfl, ⟨none, 0, rfl, Ow.nil _ _ _ _ _ _ _⟩, Below.refl _ _⟩
  case round =>
    obtain ⟨k, hk, rfl, ⟨a1, cap1, rfl, own1⟩, bel⟩ := hrel
    have hDw := bel.size
    by_cases hlt : k < N.ends.length
    · obtain ⟨g, off, rfl, _, hc1⟩ := Rd.at (h12.below (bel.mono hB0)).1 hlt
      have hl2 := HROW.out k hlt
      have hlk : ((degs N.ends).take k).length = k := by rw [List.length_take, degs_length]; omega
      have HLK := Lib.hid hlk
      have HT := Lib.hid (degs_take N.ends k hlt)
      have own1' : Ow wr w0.heap.size wr.heap.size 3 1 a1 k cap1 (fun j => .int .i64 (nth ((degs N.ends).take k) j)) := by have := own1; unfold OwI at this; rwa [hlk] at this
      clear hlk
      go_wp2_with (at_builtin; refine wpList_app rfl _ _ _ rfl 3 (.int .i64 0) 1 8 Try.underlying22 int_info rfl (by decide) w0.heap.size wr.heap.size a1 k cap1 _ rfl (Ow.alloc own1' _) ⟨wr.heap.size, 0, none⟩ 1 1 [.int .i64 ((rowOf N.ends k).length : Int)] rfl rfl (cell_one_new _ _ _) (by simp [Value.oneCell']) (by decide) (by unfold maxLen; omega) (by omega) (by simp; omega) ?_; intro g' cap' w2 own2 hgr _ _)
      go_roundw
      case rel =>
        refine ⟨k + 1, by omega, by go_num, ⟨some ⟨g', 0, none⟩, cap', rfl, ?_⟩, ?_⟩
        · rw [HT.out]; apply OwI.snoc; rw [HLK.out]; exact own2
        · exact below_app (bel.alloc hDw _) (Ow.alloc own1' _) hgr (Nat.le_refl _) (by simp; omega)
      case measure => simp [intOf]; omega
    · obtain rfl : k = N.ends.length := by omega
      go_wp2_with fail
      go_ret
      have ht : (degs N.ends).take N.ends.length = degs N.ends := by rw [← degs_length]; exact List.take_length
      rw [ht] at own1
      exact ⟨a1, cap1, by rw [degs_length]; rfl, Ow.wide own1 z0 (Nat.le_refl _), b0.trans (bel.mono z0)⟩
def IdxD (rows : Rows2) (d : Int) (w : World) (e : Ending) (w' : World) : Prop := ∃ r : Int, e = .returned (.int .i64 r) ∧ (0 ≤ r ↔ regB rows d = false) ∧ Below w.heap.size w w'
theorem offDeg_any (b : Option Addr) (n cb : Nat) (d : Int) (p : Nat) (w : World) (hn : n ≤ 1048576) (hp : w.cell? ⟨p, 0, none⟩ = some (.int .i64 d)) :
    Calls Try.prog 95 #[.slice b n cb, .pointer (some ⟨p, 0, none⟩)] w fun e w' => e = .returned (.bool (decide ((n : Int) ≠ d))) ∧ Qt w w' := by
  by_cases h : (n : Int) = d
  · subst h
    go_enter Try.func95, Try.ntmps95
    go_wp2_with fail
    go_ret
    exact ⟨ret_bool (by simp), Qt.refl _⟩
  · have hb : ((n : Int) == d) = false := beq_eq_false_iff_ne.2 h
    have HX := Lib.hid h
    clear h
    go_enter Try.func95, Try.ntmps95
    go_wp2_with fail
    go_ret
    exact ⟨ret_bool (by rw [decide_eq_true HX.out]; simp [HX.out]), Qt.refl _⟩
set_option maxHeartbeats 400000 in
theorem IndexD_any (a : Option Addr) (cap : Nat) (rows : Rows2) (vs : Nat → Option Addr × Nat) (d : Int) (p : Nat) (w : World) (B : Nat) (ha : RdEE w B a rows vs) (hl : rows.length ≤ 1048576) (hl2 : ∀ j, j < rows.length → (rowOf rows j).length ≤ 1048576) (hp : w.cell? ⟨p, 0, none⟩ = some (.int .i64 d)) :
    Calls Try.prog 110 #[.slice a rows.length cap, .func (.func 95) #[] #[.pointer (some ⟨p, 0, none⟩)]] w (IdxD rows d w) := by
  have HL2 := Lib.hid hl2
  clear hl2
  have ha1 := ha.1
  clear ha
  go_enter Try.func110, Try.ntmps110
  go_wp2_with fail
  go_loopw [8] (fun i wr => ∃ k : Nat, k ≤ rows.length ∧ i = .int .i64 k ∧ (∀ j, j < k → ((rowOf rows j).length : Int) = d) ∧ Qt w wr) (fun i _ => rows.length - (intOf i).toNat)
  case atStart => exact ⟨0, Nat.zero_le _, rfl, fun j h => absurd h (by omega), Qt.refl _⟩
  case round =>
    obtain ⟨k, hk, rfl, hall, hqt⟩ := hrel
    have Hall := Lib.hid hall
    clear hall
    by_cases hlt : k < rows.length
    · obtain ⟨g, off, rfl, _, hc1⟩ := Rd.at (Rd.qt ha1 hqt) hlt
      have hp1 := hqt.cell hp
      clear hp
      have hl3 := HL2.out k hlt
      by_cases hin : ((rowOf rows k).length : Int) = d
      · have HI := Lib.hid hin
        clear hin
        go_wp2_with fail
        refine (offDeg_any _ _ _ d p _ hl3 hp1).mono ?_
        rintro e w1 ⟨rfl, q1⟩
        rw [decide_eq_false (not_not_intro HI.out)]
        replace hqt := hqt.trans q1
        go_wp2_with fail
        go_roundw
        case rel =>
          refine ⟨k + 1, by omega, by go_num, fun j hj => ?_, hqt⟩
          by_cases e : j = k
          · rw [e]; exact HI.out
          · exact Hall.out j (by omega)
        case measure => simp [intOf]; omega
      · have HI := Lib.hid hin
        clear hin
        go_wp2_with fail
        refine (offDeg_any _ _ _ d p _ hl3 hp1).mono ?_
        rintro e w1 ⟨rfl, q1⟩
        rw [decide_eq_true HI.out]
        replace hqt := hqt.trans q1
        go_wp2_with fail
        go_ret
        exact ⟨_, rfl, ⟨fun _ => regB_f hlt HI.out, fun _ => by omega⟩, hqt.below _⟩
    · go_wp2_with fail
      go_ret
      exact ⟨_, rfl, ⟨fun h => by omega, fun h => by rw [regB_t fun j hj => Hall.out j (by omega)] at h; cases h⟩, hqt.below _⟩
set_option maxHeartbeats 400000 in
theorem ContainsD_any (a : Option Addr) (cap : Nat) (rows : Rows2) (vs : Nat → Option Addr × Nat) (d : Int) (p : Nat) (w : World) (B : Nat) (ha : RdEE w B a rows vs) (hl : rows.length ≤ 1048576) (hl2 : ∀ j, j < rows.length → (rowOf rows j).length ≤ 1048576) (hp : w.cell? ⟨p, 0, none⟩ = some (.int .i64 d)) :
    Calls Try.prog 94 #[.slice a rows.length cap, .func (.func 95) #[] #[.pointer (some ⟨p, 0, none⟩)]] w fun e w' => e = .returned (.bool (!regB rows d)) ∧ Below w.heap.size w w' := by
  go_enter Try.func94, Try.ntmps94
  go_wp2_with fail
  refine (IndexD_any a cap rows vs d p _ B ha hl hl2 hp).mono ?_
  rintro e w1 ⟨r, rfl, hr, bel1⟩
  have HR := Lib.hid hr
  clear hr hp hl2
  go_wp2_with fail
  go_ret
  refine ⟨ret_bool ?_, bel1⟩
  cases hb : regB rows d with
  | true =>
    have h1 : ¬ 0 ≤ r := fun h => by have := HR.out.1 h; rw [hb] at this; cases this
    simpa using h1
  | false =>
    have h1 : 0 ≤ r := HR.out.2 hb
    simpa using h1
def PostBB (b ok : Bool) (w : World) (e : Ending) (w' : World) : Prop := e = .returned (.tuple #[.bool b, .bool ok]) ∧ Below w.heap.size w w'
def rgB (N : Net) (d : Int) : Bool := netB N && regB N.ends d
theorem ret_bb {a b c d : Bool} (h : a = c) (k : b = d) : Ending.returned (.tuple #[.bool a, .bool b]) = .returned (.tuple #[.bool c, .bool d]) := by rw [h, k]
set_option maxHeartbeats 400000 in
theorem isRegular_any (V : Value) (N : Net) (d : Int) (w : World) (B : Nat) (hv : NetIn w B V N) (hB : B ≤ w.heap.size) (hs : NetSmall N) :
    Calls Try.prog 51 #[V, .int .i64 d] w (PostBB (rgB N d) (netB N) w) := by
  have HV := Lib.hid hv
  obtain ⟨a, c, vs, ai, ci, ap, cp, rfl, h1, _⟩ := hv
  have HROW := Lib.hid hs.row
  have hl : N.ends.length ≤ 1048576 := by unfold NetSmall at hs; omega
  have BA := (Bx.made w 46 #[.slice a N.ends.length c, .slice ai N.ids.length ci, .slice ap N.inputs.length cp]).alloc (.cells #[.int .i64 d] 3)
  have BD := Bx.made (w.alloc (.cells #[.slice a N.ends.length c, .slice ai N.ids.length ci, .slice ap N.inputs.length cp] 46)) 3 #[.int .i64 d]
  have b0 : Below w.heap.size w ((w.alloc (.cells #[.slice a N.ends.length c, .slice ai N.ids.length ci, .slice ap N.inputs.length cp] 46)).alloc (.cells #[.int .i64 d] 3)) := (by repeat (first | exact Below.refl _ _ | assumption | refine Below.alloc ?_ (by first | (simp; done) | (simp; omega) | omega) _ | refine Below.setCell ?_ (by first | (simp; done) | (simp; omega) | omega) _ | refine Below.drew ?_ | refine Below.drewN ?_ _))
  rw [World.size_alloc] at BD
  go_enter Try.func51, Try.ntmps51
  go_wp2_with fail
  refine (isNetwork_any _ N _ B (HV.out.below (b0.mono hB)).rd (Nat.le_trans hB b0.size) hs).mono ?_
  rintro e w1 ⟨rfl, bel1⟩
  replace BA := BA.new bel1
  replace BD := BD.new bel1
  have b1 := b0.trans (bel1.mono b0.size)
  have z1 := b1.size
  clear b0 bel1
  have c0 := BA.cell 0 _ rfl
  cases hn : netB N with
  | false =>
    have HN := Lib.hid hn
    clear hn
    go_wp2_with fail
    go_ret2
    exact ⟨ret_bb (by rw [rgB, HN.out]; rfl) HN.out.symm, b1⟩
  | true =>
    have HN := Lib.hid hn
    clear hn
    go_wp2_with fail
    refine (ContainsD_any _ _ N.ends vs d _ _ B (h1.below (b1.mono hB)) hl HROW.out (BD.cell 0 _ rfl)).mono ?_
    rintro e w2 ⟨rfl, bel2⟩
    go_wp2_with fail
    go_ret2
    exact ⟨ret_bb (by rw [rgB, HN.out]; simp) HN.out.symm, b1.trans (bel2.mono z1)⟩
set_option maxHeartbeats 400000 in
theorem isRegularS_any (V : Value) (N : Net) (d : Int) (w : World) (B : Nat) (hv : NetIn w B V N) (hB : B ≤ w.heap.size) (hs : NetSmall N) :
    Calls Try.prog 50 #[V, .int .i64 d] w (PostBB (rgB N d) (netB N) w) := by
  have HV := Lib.hid hv
  obtain ⟨a, c, vs, ai, ci, ap, cp, rfl, h1, _⟩ := hv
  have hl : N.ends.length ≤ 1048576 := by unfold NetSmall at hs; omega
  have BA := Bx.made w 46 #[.slice a N.ends.length c, .slice ai N.ids.length ci, .slice ap N.inputs.length cp]
  have b0 : Below w.heap.size w (w.alloc (.cells #[.slice a N.ends.length c, .slice ai N.ids.length ci, .slice ap N.inputs.length cp] 46)) := (by repeat (first | exact Below.refl _ _ | assumption | refine Below.alloc ?_ (by first | (simp; done) | (simp; omega) | omega) _ | refine Below.setCell ?_ (by first | (simp; done) | (simp; omega) | omega) _ | refine Below.drew ?_ | refine Below.drewN ?_ _))
  go_enter Try.func50, Try.ntmps50
  go_wp2_with fail
  refine (neGood_any _ N _ B (HV.out.below (b0.mono hB)) (Nat.le_trans hB b0.size) hs).mono ?_
  rintro e w1 ⟨rfl, bel1⟩
  replace BA := BA.new bel1
  have b1 := b0.trans (bel1.mono b0.size)
  have z1 := b1.size
  clear b0 bel1
  have c0 := BA.cell 0 _ rfl
  have c1 := BA.cell 1 _ rfl
  have c2 := BA.cell 2 _ rfl
  cases hn : netB N with
  | false =>
    have HN := Lib.hid hn
    clear hn
    go_wp2_with fail
    go_ret2
    exact ⟨ret_bb (by rw [rgB, HN.out]; rfl) HN.out.symm, b1⟩
  | true =>
    have HN := Lib.hid hn
    clear hn
    go_wp2_with fail
    refine (neDegrees_any _ N _ B (HV.out.below (b1.mono hB)) (Nat.le_trans hB z1) hs).mono ?_
    rintro e w2 ⟨a2, cap2, rfl, own2, bel2⟩
    have b2 := b1.trans (bel2.mono z1)
    clear b1 bel2
    go_wp2_with fail
    refine (l1All_any _ _ (degs N.ends) d d _ _ own2.rd (by rw [degs_length]; omega)).mono ?_
    rintro e w3 ⟨rfl, q3⟩
    have q3' : Qt _ w3 := q3
    go_wp2_with fail
    go_ret2
    exact ⟨ret_bb (by rw [rgB, HN.out]; rfl) HN.out.symm, b2.trans (q3'.below _)⟩
end Go.Proofs.Ytckjobjmjijjdaa
