/- NetworkText: impl's walk. -/
import Derived.Test.YtmjmgggfmccjmaaDoorNtP
import Derived.Test.YtmjmgggfmccjmaaDoorLab
import Derived.Test.YtmjmgggfmccjmaaDoorBld
import Derived.Test.YtmjmgggfmccjmaaDoorNtS
namespace Go.Proofs.YtmjmgggfmccjmaaDoor
open Go.RowKit
set_option linter.unusedVariables false
set_option linter.unusedSimpArgs false
theorem Bld.new {w w' : World} {B b : Nat} {l : List UInt8} (h : Bld w B b l) (hb : Below w.heap.size w w') : Bld w' B b l := by
  have hg : w.grownBy w' none := ⟨hb.os, hb.tape, hb.output, hb.size, fun k hk _ => hb.block k hk⟩
  have key : ∀ p, Lib.BuilderAt 91 5 B b p (Lib.byteCells l) w → Lib.BuilderAt 91 5 B b p (Lib.byteCells l) w' := by
    rintro p ⟨h1, v, h2, h3, h4⟩
    refine ⟨h1, v, ?_, ?_, h4⟩
    · have hlt : b < w.heap.size := by
        rcases Nat.lt_or_ge b w.heap.size with h' | h'
        · exact h'
        · rw [Array.getElem?_eq_none h'] at h2; cases h2
      exact (hb.block b hlt).trans h2
    · refine World.ownsRow.kept h3 hg ?_
      cases hv : v.ownBlock with
      | none => exact Or.inl rfl
      | some k => exact Or.inr (by simp)
  rcases h with h | h
  · exact Or.inl (key _ h)
  · exact Or.inr (key _ h)
set_option maxRecDepth 100000 in
set_option maxHeartbeats 3200000 in
theorem netText_any (V : Value) (N : Net) (w : World) (B : Nat) (hv : NetIn w B V N) (hB : B ≤ w.heap.size) (hs : NetSmall N) (hnet : netB N = true) (htab : PTab w) :
    Calls Tryd.prog 38 #[V] w fun e w' => e = .returned (.string (bs (ntT N N.ends.length))) ∧ Below w.heap.size w w' := by
  have HN := Lib.hid hnet
  have hn40 : N.ends.length ≤ 40 := (netB_small hnet).1
  have hn1 : 1 ≤ N.ends.length := (netB_small hnet).2.1
  have HIL := Lib.hid (netB_small hnet).2.2.2.2
  obtain ⟨a, c, vs, ai, ci, ap, cp, rfl, h1, h2, h3, _⟩ := hv
  obtain ⟨g0, off0, rfl, hg0, hc0⟩ := h1.1 (by omega)
  obtain ⟨gp, offp, rfl, hgp, hp0⟩ := h3 (by rw [HIL.out]; omega)
  have HC0 := Lib.hid hc0
  have HP0 := Lib.hid hp0
  have HR0 := Lib.hid h1.2
  have HI0 := Lib.hid h2
  have BA := Bx.made w 31 #[.slice (some ⟨g0, off0, none⟩) N.ends.length c, .slice ai N.ids.length ci, .slice (some ⟨gp, offp, none⟩) N.inputs.length cp]
  have b0 : Below w.heap.size w (w.alloc (.cells #[.slice (some ⟨g0, off0, none⟩) N.ends.length c, .slice ai N.ids.length ci, .slice (some ⟨gp, offp, none⟩) N.inputs.length cp] 31)) := (by repeat (first | exact Below.refl _ _ | assumption | refine Below.alloc ?_ (by first | (simp; done) | (simp; omega) | omega) _ | refine Below.setCell ?_ (by first | (simp; done) | (simp; omega) | omega) _ | refine Below.drew ?_ | refine Below.drewN ?_ _))
  have HLN : Hid (∀ k, k < N.ends.length → ∀ X : World, (Op.stringOp .add (bs (Lib.join (ntW N k) [32])) ⟨#[10]⟩).run Tryd.prog X = .ok (.string (bs (Lib.join (ntW N k) [32] ++ [10]))) X) := fun k hk X => str_add _ [10] X (by have := ntJoin_len hnet hk _ (Nat.le_refl _); rw [joinP_all] at this; simp; omega)
  have HJL : Hid (∀ k, k < N.ends.length → (Lib.join (ntW N k) [32]).length ≤ 8000800) := fun k hk => by have := ntJoin_len hnet hk _ (Nat.le_refl _); rw [joinP_all] at this; exact this
  have HTL : Hid (∀ k, k ≤ N.ends.length → (ntT N k).length ≤ 320032040) := fun k hk => ntT_le hnet hk
  have HTAB := Lib.hid (fun X bX => htab.below (w' := X) bX)
  clear hnet hs h1 h2 h3 hc0 hp0
  go_enter Tryd.func38, Tryd.ntmps38
  go_upto_region 1 with fail
  generalize w.alloc (.cells #[.slice (some ⟨g0, off0, none⟩) N.ends.length c, .slice ai N.ids.length ci, .slice (some ⟨gp, offp, none⟩) N.inputs.length cp] 31) = w0 at *
  have zA := BA.lt
  go_upto_region 2 with fail
  have hbl : Bld (w0.alloc (.cells #[.pointer none, .slice none 0 0] 91)) w0.heap.size w0.heap.size [] := Lib.fresh_isBuilder _ _ w0
  have BA1 := BA.alloc (.cells #[.pointer none, .slice none 0 0] 91)
  have b1 : Below w.heap.size w (w0.alloc (.cells #[.pointer none, .slice none 0 0] 91)) := b0.alloc b0.size _
  have z1 : w0.heap.size < (w0.alloc (.cells #[.pointer none, .slice none 0 0] 91)).heap.size := by simp
  generalize w0.alloc (.cells #[.pointer none, .slice none 0 0] 91) = w1 at *
  obtain ⟨bb, hbb⟩ : ∃ b, b = w0.heap.size := ⟨_, rfl⟩
  rw [← hbb] at hbl z1 zA ⊢
  clear hbb BA b0
  have q0 := BA1.cell 0 _ rfl
  go_wp2_with fail
  clear q0
  go_loopw [14] (fun iv wr => ∃ k : Nat, k ≤ N.ends.length ∧ iv = .int .i64 k ∧ Bld wr bb bb (ntT N k) ∧ bb < wr.heap.size ∧ Bx wr w.heap.size 31 #[.slice (some ⟨g0, off0, none⟩) N.ends.length c, .slice ai N.ids.length ci, .slice (some ⟨gp, offp, none⟩) N.inputs.length cp] ∧ Below w.heap.size w wr) (fun iv _ => N.ends.length - (intOf iv).toNat)
  case atStart => exact ⟨0, Nat.zero_le _, rfl, hbl, z1, BA1, b1⟩
  case round =>
    clear hbl BA1 b1 z1
    obtain ⟨k, hk, rfl, hbl, zbb, BA, b2⟩ := hrel
    obtain ⟨w2, hw2⟩ : ∃ w2, w2 = wr := ⟨_, rfl⟩
    subst hw2
    have z2 := b2.size
    have zA2 := BA.lt
    by_cases hlt : k < N.ends.length
    · have c1 := (b2.cell (p := ⟨g0, off0 + k, none⟩) (by show g0 < _; omega)).trans (HC0.out k hlt)
      have cp1 := (b2.cell (p := ⟨gp, offp + k, none⟩) (by show gp < _; omega)).trans (HP0.out k (by rw [HIL.out]; exact hlt))
      have hrow := (HR0.out k hlt).below (b2.mono hB)
      have h6 := net_row HN.out hlt
      have hki : k < N.inputs.length := by rw [HIL.out]; exact hlt
      have HBK := Lib.hid (fun j (hj : j < (rowOf N.ends k).length) => net_back HN.out hlt hj)
      have HRW := Lib.hid (fun j (hj : j < N.ends.length) => net_row HN.out hj)
      obtain ⟨hil0, mi, hmi, hmi2⟩ := inp_at HN.out hlt
      clear hil0
      have HMI := Lib.hid hmi
      have cp2 : w2.cell? ⟨gp, offp + k, none⟩ = some (.int .i64 (mi : Int)) := by rw [← hmi]; exact cp1
      have HWL := Lib.hid (ntW_length (N := N) (v := k))
      have HWE := Lib.hid (fun i x y hi he => ntW_end (N := N) (v := k) (i := i) (x := x) (y := y) hi he)
      have HWP := Lib.hid (fun j hj => ntW_pre (N := N) (v := k) (j := j) hj)
      have HLNk := HLN.out k hlt
      have hjl := HJL.out k hlt
      have htl := HTL.out k (Nat.le_of_lt hlt)
      have HTS : Hid (ntT N (k + 1) = ntT N k ++ (Lib.join (ntW N k) [32] ++ [10])) := rfl
      clear cp1 hmi
      generalize (vs k).1 = ax at *
      generalize (vs k).2 = cx at *
      obtain ⟨WL, hWL⟩ : ∃ WL, WL = ntW N k := ⟨_, rfl⟩
      rw [← hWL] at HWL HWE HWP HLNk hjl HTS
      clear hWL
      obtain ⟨es, hes⟩ : ∃ es, es = rowOf N.ends k := ⟨_, rfl⟩
      rw [← hes] at HWL HWE hrow h6 HBK c1
      clear hes
      have q0 := BA.cell 0 _ rfl
      have q1 := BA.cell 1 _ rfl
      have q2 := BA.cell 2 _ rfl
      have bel0 := Below.refl w2.heap.size w2
      have z0 : w2.heap.size ≤ w2.heap.size := Nat.le_refl _
      by_cases hid : 0 < N.ids.length
      · obtain ⟨hidl, mj, hmj, hmj2⟩ := ids_at HN.out hlt hid
        obtain ⟨gi, offi, rfl, hgi, hi0⟩ := HI0.out hid
        have ci1 := (b2.cell (p := ⟨gi, offi + k, none⟩) (by show gi < _; omega)).trans (hi0 k (by omega))
        have HMJ := Lib.hid hmj
        have ci2 : w2.cell? ⟨gi, offi + k, none⟩ = some (.int .i64 (mj : Int)) := by rw [← hmj]; exact ci1
        have hkd : k < N.ids.length := by omega
        have HIDL := Lib.hid hidl
        clear ci1 hmj hidl
        by_cases hin : mi = 0
        · have HPRE := Lib.hid (ntPre_10 hid HMJ.out (by rw [HMI.out, hin]; rfl))
          subst hin
          have hAa : ∀ X : World, (Op.stringOp .add ⟨#[35]⟩ (decB mj)).run Tryd.prog X = .ok (.string (bs (ntId mj))) X := fun X => str_add [35] (Lib.decDigits mj) X (by have := dec_len mj; simp; omega)
          have HLa : Hid (nthS WL 0 = ntId mj) := by show _ = _; rw [HWP.out 0 (by rw [HPRE.out]; simp), HPRE.out]; rfl
          go_wp2_with fail
          refine (itoa_any mj _ hmj2 (HTAB.out _ (b2.trans (bel0.mono z2)))).mono ?_
          rintro e w3a ⟨rfl, bel3a⟩
          have bel4a := bel0.trans (bel3a.mono z0)
          have z4a := bel4a.size
          have own3a : Ow w3a w2.heap.size w3a.heap.size 9 1 none 0 0 (cellS WL) := Ow.nil _ _ _ _ _ _ _
          go_upto_region 8 with (at_builtin; refine wpList_app rfl _ _ _ rfl 9 (.string ByteArray.empty) 1 16 Tryd.underlying61 str_info rfl (by decide) w2.heap.size w3a.heap.size none 0 0 _ rfl (own3a.alloc _) ⟨w3a.heap.size, 0, none⟩ 1 1 [.string (bs (ntId mj))] rfl rfl (cell_one_new _ _ _) (by simp [Value.oneCell']) (by decide) (by unfold maxLen; omega) (by omega) (by simp; omega) ?_; intro gwa cwa w4a own4a hgr4a _ _)
          have own5a : Ow w4a w2.heap.size w4a.heap.size 9 1 (some ⟨gwa, 0, none⟩) (0 + 1) cwa (cellS WL) := own4a.congr (cellS_app HLa.out)
          have bel5a := below_app (bel4a.alloc z4a _) (own3a.alloc _) hgr4a (Nat.le_refl _) (by simp; omega)
          have z5a := bel5a.size
          clear bel3a bel4a own3a own4a hgr4a hAa z4a
          clear q0 q1 q2 ci2
          have BAw4a := BA.new bel5a
          have q1w4a := BAw4a.cell 1 _ rfl
          have q2w4a := BAw4a.cell 2 _ rfl
          have cpw4a := (bel5a.cell (World.block_lt_of_cell? _ _ cp2)).trans cp2
          go_upto_region 10 with fail
          clear q1w4a q2w4a cpw4a BAw4a
          have HPL : Hid ((ntPre N k).length = 1) := by show _ = _; rw [HPRE.out]; rfl
          rw [HPL.out] at HWL HWE
          have hm2 : WL.length ≤ 8 := by have := HWL.out; omega
          go_wp2_with fail
          go_loopw [6, 51] (fun lv iv wx => ∃ i m : Nat, i ≤ es.length ∧ iv = .int .i64 i ∧ m = 1 + i ∧ (∃ a cap, lv = .slice a m cap ∧ Ow wx w2.heap.size wx.heap.size 9 1 a m cap (cellS WL)) ∧ Below w2.heap.size w2 wx) (fun _ iv _ => es.length - (intOf iv).toNat)
          case atStart => exact ⟨0, 1, Nat.zero_le _, rfl, rfl, ⟨_, _, rfl, own5a⟩, bel5a⟩
          case round =>
            clear bel5a c1 cp2
            obtain ⟨i, m, hi, rfl, hm, ⟨aw, cw, rfl, ownw⟩, belw⟩ := hrel
            have HM := Lib.hid hm
            have hm8 : m ≤ 8 := by omega
            clear hm
            have zx := belw.size
            by_cases hil : i < es.length
            · obtain ⟨p, q, hpq, hp, hq, _⟩ := HBK.out i hil
              have hq6 := HRW.out p hp
              have hp40 : p < 40 := by omega
              have hq40 : q < 40 := by omega
              have HLE : Hid (nthS WL m = ntE p q) := by show _ = _; rw [HM.out]; exact HWE.out i p q hil hpq
              obtain ⟨g1, off1, rfl, _, e1, e2⟩ := RdE.at (hrow.below ((belw.mono (by omega : w2.heap.size ≤ w2.heap.size)).mono (Nat.le_trans hB z2))) hil
              rw [hpq] at e1 e2
              have BE := Bx.made wr 44 #[.int .i64 (p : Int), .int .i64 (q : Int)]
              have belE : Below w2.heap.size w2 (wr.alloc (.cells #[.int .i64 (p : Int), .int .i64 (q : Int)] 44)) := belw.alloc zx _
              have ownE := (Ow.alloc ownw (.cells #[.int .i64 (p : Int), .int .i64 (q : Int)] 44)).top
              clear hpq
              go_upto_region 13 with fail
              generalize wr.alloc (.cells #[.int .i64 (p : Int), .int .i64 (q : Int)] 44) = wE at *
              have q0 := BE.cell 0 _ rfl
              have q1 := BE.cell 1 _ rfl
              have zE := belE.size
              clear e1 e2 ownw belw zx
              have HTE : Hid (∀ X, PTab X → Calls Tryd.prog 21 #[.agg #[.int .i64 (p : Int), .int .i64 (q : Int)]] X fun e w' => e = .returned (.tuple #[.string (bs (ntE p q)), .bool true]) ∧ Below X.heap.size X w') := fun X hX => by
                have hok : ptOk (p : Int) (q : Int) = true := ptOk_t (inR_t (by omega) (by omega)) (inR_t (by omega) (by omega))
                have := implPort_any (p : Int) (q : Int) X hX
                rw [ptR_t hok, hok, Int.toNat_natCast, Int.toNat_natCast, endT_bs] at this
                exact this
              go_wp2_with fail
              refine (HTE.out _ (HTAB.out _ (b2.trans (belE.mono z2)))).mono ?_
              rintro e w5 ⟨rfl, bel5⟩
              have own5 := (Ow.new ownE bel5).top
              have b25 := belE.trans (bel5.mono zE)
              have z5 := b25.size
              clear q0 q1 BE ownE belE bel5 zE HTE
              go_wp2_with (at_builtin; refine wpList_app rfl _ _ _ rfl 9 (.string ByteArray.empty) 1 16 Tryd.underlying61 str_info rfl (by decide) w2.heap.size w5.heap.size aw m cw _ rfl (own5.alloc _) ⟨w5.heap.size, 0, none⟩ 1 1 [.string (bs (ntE p q))] rfl rfl (cell_one_new _ _ _) (by simp [Value.oneCell']) (by decide) (by unfold maxLen; omega) (by omega) (by simp; omega) ?_; intro g' cap' w6 own6 hgr6 _ _)
              go_roundw
              case rel => exact ⟨i + 1, m + 1, by omega, by go_num, by have := HM.out; omega, ⟨some ⟨g', 0, none⟩, cap', rfl, own6.congr (cellS_app HLE.out)⟩, below_app (b25.alloc z5 _) (own5.alloc _) hgr6 (Nat.le_refl _) (by simp; omega)⟩
              case measure => simp [intOf]; omega
            · obtain rfl : i = es.length := by omega
              have HML : Hid (WL.length = m) := by show _ = _; rw [HWL.out, HM.out]
              have HJ : Hid (∀ X : World, Ow X w2.heap.size X.heap.size 9 1 aw m cw (cellS WL) → Calls Tryd.prog 55 #[.slice aw m cw, .string ⟨#[32]⟩] X fun e w' => e = .returned (.string (bs (Lib.join WL [32]))) ∧ Below X.heap.size X w') := by
                intro X hX
                have key := joinS_any WL aw cw ⟨#[32]⟩ X w2.heap.size X.heap.size (by rw [HML.out]; exact hX) (by show (Lib.join WL [32]).length ≤ _; omega) (by rw [HML.out]; omega)
                rw [HML.out] at key
                exact key
              have hbl2 := Bld.new hbl belw
              have BA2 := BA.new belw
              have b2x := b2.trans (belw.mono z2)
              have zb2 : bb < wr.heap.size := by omega
              go_wp2_with fail
              refine (HJ.out _ ownw).mono ?_
              rintro e w7 ⟨rfl, bel7⟩
              have hbl3 := Bld.new hbl2 bel7
              have BA3 := BA2.new bel7
              have b3 := b2x.trans (bel7.mono b2x.size)
              have zb3 : bb ≤ w7.heap.size := by have := bel7.size; omega
              have HW : Hid (Calls Tryd.prog 70 #[.pointer (some ⟨bb, 0, none⟩), .string (bs (Lib.join WL [32] ++ [10]))] w7 fun e w' => e = .returned (.tuple #[.int .i64 (Lib.join WL [32] ++ [10]).length, .nilIface]) ∧ Bld w' bb bb (ntT N k ++ (Lib.join WL [32] ++ [10])) ∧ Below bb w7 w') := writeS_any bb bb (ntT N k) (Lib.join WL [32] ++ [10]) w7 hbl3 (by simp; omega) zb3
              rw [← HTS.out] at HW
              clear hbl hbl2 hbl3 ownw belw BA BA2 b2x HJ
              generalize Lib.join WL [32] = jl at *
              generalize (jl ++ [10]).length = jn at *
              generalize jl ++ [10] = jm at *
              go_wp2_with fail
              refine HW.out.mono ?_
              rintro e w8 ⟨rfl, hbl4, bel8⟩
              go_wp2_with fail
              go_roundw
              case rel => exact ⟨k + 1, by omega, by go_num, hbl4, by have := bel8.size; have := bel7.size; omega, BA3.below bel8 zA, b3.trans (bel8.mono (by omega))⟩
              case measure => simp [intOf]; omega
        · have HPRE := Lib.hid (ntPre_11 hid HMJ.out (by rw [HMI.out]; omega) HMI.out)
          have hin2 : 0 < mi := by omega
          have hin3 : ((mi : Int) != 0) = true := by rw [bne_iff_ne]; omega
          have hmi3 : mi < 1000000 := by omega
          clear hin
          have hAa : ∀ X : World, (Op.stringOp .add ⟨#[35]⟩ (decB mj)).run Tryd.prog X = .ok (.string (bs (ntId mj))) X := fun X => str_add [35] (Lib.decDigits mj) X (by have := dec_len mj; simp; omega)
          have HLa : Hid (nthS WL 0 = ntId mj) := by show _ = _; rw [HWP.out 0 (by rw [HPRE.out]; simp), HPRE.out]; rfl
          go_wp2_with fail
          refine (itoa_any mj _ hmj2 (HTAB.out _ (b2.trans (bel0.mono z2)))).mono ?_
          rintro e w3a ⟨rfl, bel3a⟩
          have bel4a := bel0.trans (bel3a.mono z0)
          have z4a := bel4a.size
          have own3a : Ow w3a w2.heap.size w3a.heap.size 9 1 none 0 0 (cellS WL) := Ow.nil _ _ _ _ _ _ _
          go_upto_region 8 with (at_builtin; refine wpList_app rfl _ _ _ rfl 9 (.string ByteArray.empty) 1 16 Tryd.underlying61 str_info rfl (by decide) w2.heap.size w3a.heap.size none 0 0 _ rfl (own3a.alloc _) ⟨w3a.heap.size, 0, none⟩ 1 1 [.string (bs (ntId mj))] rfl rfl (cell_one_new _ _ _) (by simp [Value.oneCell']) (by decide) (by unfold maxLen; omega) (by omega) (by simp; omega) ?_; intro gwa cwa w4a own4a hgr4a _ _)
          have own5a : Ow w4a w2.heap.size w4a.heap.size 9 1 (some ⟨gwa, 0, none⟩) (0 + 1) cwa (cellS WL) := own4a.congr (cellS_app HLa.out)
          have bel5a := below_app (bel4a.alloc z4a _) (own3a.alloc _) hgr4a (Nat.le_refl _) (by simp; omega)
          have z5a := bel5a.size
          clear bel3a bel4a own3a own4a hgr4a hAa z4a
          clear q0 q1 q2 ci2
          have BAw4a := BA.new bel5a
          have q1w4a := BAw4a.cell 1 _ rfl
          have q2w4a := BAw4a.cell 2 _ rfl
          have cpw4a := (bel5a.cell (World.block_lt_of_cell? _ _ cp2)).trans cp2
          have hAb : ∀ X : World, (Op.stringOp .add ⟨#[47]⟩ (decB mi)).run Tryd.prog X = .ok (.string (bs (ntIn mi))) X := fun X => str_add [47] (Lib.decDigits mi) X (by have := dec_len mi; simp; omega)
          have HLb : Hid (nthS WL (0 + 1) = ntIn mi) := by show _ = _; rw [HWP.out (0 + 1) (by rw [HPRE.out]; simp), HPRE.out]; rfl
          go_wp2_with fail
          refine (itoa_any mi _ hmi3 (HTAB.out _ (b2.trans (bel5a.mono z2)))).mono ?_
          rintro e w3b ⟨rfl, bel3b⟩
          have bel4b := bel5a.trans (bel3b.mono z5a)
          have z4b := bel4b.size
          have own3b := (Ow.new own5a bel3b).top
          go_upto_region 10 with (at_builtin; refine wpList_app rfl _ _ _ rfl 9 (.string ByteArray.empty) 1 16 Tryd.underlying61 str_info rfl (by decide) w2.heap.size w3b.heap.size (some ⟨gwa, 0, none⟩) (0 + 1) cwa _ rfl (own3b.alloc _) ⟨w3b.heap.size, 0, none⟩ 1 1 [.string (bs (ntIn mi))] rfl rfl (cell_one_new _ _ _) (by simp [Value.oneCell']) (by decide) (by unfold maxLen; omega) (by omega) (by simp; omega) ?_; intro gwb cwb w4b own4b hgr4b _ _)
          have own5b : Ow w4b w2.heap.size w4b.heap.size 9 1 (some ⟨gwb, 0, none⟩) ((0 + 1) + 1) cwb (cellS WL) := own4b.congr (cellS_app HLb.out)
          have bel5b := below_app (bel4b.alloc z4b _) (own3b.alloc _) hgr4b (Nat.le_refl _) (by simp; omega)
          have z5b := bel5b.size
          clear bel3b bel4b own3b own4b hgr4b hAb z4b
          clear q1w4a q2w4a cpw4a BAw4a
          have HPL : Hid ((ntPre N k).length = 2) := by show _ = _; rw [HPRE.out]; rfl
          rw [HPL.out] at HWL HWE
          have hm2 : WL.length ≤ 8 := by have := HWL.out; omega
          go_wp2_with fail
          go_loopw [6, 51] (fun lv iv wx => ∃ i m : Nat, i ≤ es.length ∧ iv = .int .i64 i ∧ m = 2 + i ∧ (∃ a cap, lv = .slice a m cap ∧ Ow wx w2.heap.size wx.heap.size 9 1 a m cap (cellS WL)) ∧ Below w2.heap.size w2 wx) (fun _ iv _ => es.length - (intOf iv).toNat)
          case atStart => exact ⟨0, 2, Nat.zero_le _, rfl, rfl, ⟨_, _, rfl, own5b⟩, bel5b⟩
          case round =>
            clear bel5b c1 cp2
            obtain ⟨i, m, hi, rfl, hm, ⟨aw, cw, rfl, ownw⟩, belw⟩ := hrel
            have HM := Lib.hid hm
            have hm8 : m ≤ 8 := by omega
            clear hm
            have zx := belw.size
            by_cases hil : i < es.length
            · obtain ⟨p, q, hpq, hp, hq, _⟩ := HBK.out i hil
              have hq6 := HRW.out p hp
              have hp40 : p < 40 := by omega
              have hq40 : q < 40 := by omega
              have HLE : Hid (nthS WL m = ntE p q) := by show _ = _; rw [HM.out]; exact HWE.out i p q hil hpq
              obtain ⟨g1, off1, rfl, _, e1, e2⟩ := RdE.at (hrow.below ((belw.mono (by omega : w2.heap.size ≤ w2.heap.size)).mono (Nat.le_trans hB z2))) hil
              rw [hpq] at e1 e2
              have BE := Bx.made wr 44 #[.int .i64 (p : Int), .int .i64 (q : Int)]
              have belE : Below w2.heap.size w2 (wr.alloc (.cells #[.int .i64 (p : Int), .int .i64 (q : Int)] 44)) := belw.alloc zx _
              have ownE := (Ow.alloc ownw (.cells #[.int .i64 (p : Int), .int .i64 (q : Int)] 44)).top
              clear hpq
              go_upto_region 13 with fail
              generalize wr.alloc (.cells #[.int .i64 (p : Int), .int .i64 (q : Int)] 44) = wE at *
              have q0 := BE.cell 0 _ rfl
              have q1 := BE.cell 1 _ rfl
              have zE := belE.size
              clear e1 e2 ownw belw zx
              have HTE : Hid (∀ X, PTab X → Calls Tryd.prog 21 #[.agg #[.int .i64 (p : Int), .int .i64 (q : Int)]] X fun e w' => e = .returned (.tuple #[.string (bs (ntE p q)), .bool true]) ∧ Below X.heap.size X w') := fun X hX => by
                have hok : ptOk (p : Int) (q : Int) = true := ptOk_t (inR_t (by omega) (by omega)) (inR_t (by omega) (by omega))
                have := implPort_any (p : Int) (q : Int) X hX
                rw [ptR_t hok, hok, Int.toNat_natCast, Int.toNat_natCast, endT_bs] at this
                exact this
              go_wp2_with fail
              refine (HTE.out _ (HTAB.out _ (b2.trans (belE.mono z2)))).mono ?_
              rintro e w5 ⟨rfl, bel5⟩
              have own5 := (Ow.new ownE bel5).top
              have b25 := belE.trans (bel5.mono zE)
              have z5 := b25.size
              clear q0 q1 BE ownE belE bel5 zE HTE
              go_wp2_with (at_builtin; refine wpList_app rfl _ _ _ rfl 9 (.string ByteArray.empty) 1 16 Tryd.underlying61 str_info rfl (by decide) w2.heap.size w5.heap.size aw m cw _ rfl (own5.alloc _) ⟨w5.heap.size, 0, none⟩ 1 1 [.string (bs (ntE p q))] rfl rfl (cell_one_new _ _ _) (by simp [Value.oneCell']) (by decide) (by unfold maxLen; omega) (by omega) (by simp; omega) ?_; intro g' cap' w6 own6 hgr6 _ _)
              go_roundw
              case rel => exact ⟨i + 1, m + 1, by omega, by go_num, by have := HM.out; omega, ⟨some ⟨g', 0, none⟩, cap', rfl, own6.congr (cellS_app HLE.out)⟩, below_app (b25.alloc z5 _) (own5.alloc _) hgr6 (Nat.le_refl _) (by simp; omega)⟩
              case measure => simp [intOf]; omega
            · obtain rfl : i = es.length := by omega
              have HML : Hid (WL.length = m) := by show _ = _; rw [HWL.out, HM.out]
              have HJ : Hid (∀ X : World, Ow X w2.heap.size X.heap.size 9 1 aw m cw (cellS WL) → Calls Tryd.prog 55 #[.slice aw m cw, .string ⟨#[32]⟩] X fun e w' => e = .returned (.string (bs (Lib.join WL [32]))) ∧ Below X.heap.size X w') := by
                intro X hX
                have key := joinS_any WL aw cw ⟨#[32]⟩ X w2.heap.size X.heap.size (by rw [HML.out]; exact hX) (by show (Lib.join WL [32]).length ≤ _; omega) (by rw [HML.out]; omega)
                rw [HML.out] at key
                exact key
              have hbl2 := Bld.new hbl belw
              have BA2 := BA.new belw
              have b2x := b2.trans (belw.mono z2)
              have zb2 : bb < wr.heap.size := by omega
              go_wp2_with fail
              refine (HJ.out _ ownw).mono ?_
              rintro e w7 ⟨rfl, bel7⟩
              have hbl3 := Bld.new hbl2 bel7
              have BA3 := BA2.new bel7
              have b3 := b2x.trans (bel7.mono b2x.size)
              have zb3 : bb ≤ w7.heap.size := by have := bel7.size; omega
              have HW : Hid (Calls Tryd.prog 70 #[.pointer (some ⟨bb, 0, none⟩), .string (bs (Lib.join WL [32] ++ [10]))] w7 fun e w' => e = .returned (.tuple #[.int .i64 (Lib.join WL [32] ++ [10]).length, .nilIface]) ∧ Bld w' bb bb (ntT N k ++ (Lib.join WL [32] ++ [10])) ∧ Below bb w7 w') := writeS_any bb bb (ntT N k) (Lib.join WL [32] ++ [10]) w7 hbl3 (by simp; omega) zb3
              rw [← HTS.out] at HW
              clear hbl hbl2 hbl3 ownw belw BA BA2 b2x HJ
              generalize Lib.join WL [32] = jl at *
              generalize (jl ++ [10]).length = jn at *
              generalize jl ++ [10] = jm at *
              go_wp2_with fail
              refine HW.out.mono ?_
              rintro e w8 ⟨rfl, hbl4, bel8⟩
              go_wp2_with fail
              go_roundw
              case rel => exact ⟨k + 1, by omega, by go_num, hbl4, by have := bel8.size; have := bel7.size; omega, BA3.below bel8 zA, b3.trans (bel8.mono (by omega))⟩
              case measure => simp [intOf]; omega
      · have hid0 : ¬ 0 < N.ids.length := hid
        have hid1 : (N.ids.length : Int) = 0 ∨ True := Or.inr trivial
        by_cases hin : mi = 0
        · have HPRE := Lib.hid (ntPre_00 hid (by rw [HMI.out, hin]; rfl))
          subst hin
          go_upto_region 10 with fail
          clear q0 q1 q2
          have ownn : Ow w2 w2.heap.size w2.heap.size 9 1 none 0 0 (cellS WL) := Ow.nil _ _ _ _ _ _ _
          have HPL : Hid ((ntPre N k).length = 0) := by show _ = _; rw [HPRE.out]; rfl
          rw [HPL.out] at HWL HWE
          have hm2 : WL.length ≤ 8 := by have := HWL.out; omega
          go_wp2_with fail
          go_loopw [6, 51] (fun lv iv wx => ∃ i m : Nat, i ≤ es.length ∧ iv = .int .i64 i ∧ m = 0 + i ∧ (∃ a cap, lv = .slice a m cap ∧ Ow wx w2.heap.size wx.heap.size 9 1 a m cap (cellS WL)) ∧ Below w2.heap.size w2 wx) (fun _ iv _ => es.length - (intOf iv).toNat)
          case atStart => exact ⟨0, 0, Nat.zero_le _, rfl, rfl, ⟨_, _, rfl, ownn⟩, bel0⟩
          case round =>
            clear bel0 c1 cp2
            obtain ⟨i, m, hi, rfl, hm, ⟨aw, cw, rfl, ownw⟩, belw⟩ := hrel
            have HM := Lib.hid hm
            have hm8 : m ≤ 8 := by omega
            clear hm
            have zx := belw.size
            by_cases hil : i < es.length
            · obtain ⟨p, q, hpq, hp, hq, _⟩ := HBK.out i hil
              have hq6 := HRW.out p hp
              have hp40 : p < 40 := by omega
              have hq40 : q < 40 := by omega
              have HLE : Hid (nthS WL m = ntE p q) := by show _ = _; rw [HM.out]; exact HWE.out i p q hil hpq
              obtain ⟨g1, off1, rfl, _, e1, e2⟩ := RdE.at (hrow.below ((belw.mono (by omega : w2.heap.size ≤ w2.heap.size)).mono (Nat.le_trans hB z2))) hil
              rw [hpq] at e1 e2
              have BE := Bx.made wr 44 #[.int .i64 (p : Int), .int .i64 (q : Int)]
              have belE : Below w2.heap.size w2 (wr.alloc (.cells #[.int .i64 (p : Int), .int .i64 (q : Int)] 44)) := belw.alloc zx _
              have ownE := (Ow.alloc ownw (.cells #[.int .i64 (p : Int), .int .i64 (q : Int)] 44)).top
              clear hpq
              go_upto_region 13 with fail
              generalize wr.alloc (.cells #[.int .i64 (p : Int), .int .i64 (q : Int)] 44) = wE at *
              have q0 := BE.cell 0 _ rfl
              have q1 := BE.cell 1 _ rfl
              have zE := belE.size
              clear e1 e2 ownw belw zx
              have HTE : Hid (∀ X, PTab X → Calls Tryd.prog 21 #[.agg #[.int .i64 (p : Int), .int .i64 (q : Int)]] X fun e w' => e = .returned (.tuple #[.string (bs (ntE p q)), .bool true]) ∧ Below X.heap.size X w') := fun X hX => by
                have hok : ptOk (p : Int) (q : Int) = true := ptOk_t (inR_t (by omega) (by omega)) (inR_t (by omega) (by omega))
                have := implPort_any (p : Int) (q : Int) X hX
                rw [ptR_t hok, hok, Int.toNat_natCast, Int.toNat_natCast, endT_bs] at this
                exact this
              go_wp2_with fail
              refine (HTE.out _ (HTAB.out _ (b2.trans (belE.mono z2)))).mono ?_
              rintro e w5 ⟨rfl, bel5⟩
              have own5 := (Ow.new ownE bel5).top
              have b25 := belE.trans (bel5.mono zE)
              have z5 := b25.size
              clear q0 q1 BE ownE belE bel5 zE HTE
              go_wp2_with (at_builtin; refine wpList_app rfl _ _ _ rfl 9 (.string ByteArray.empty) 1 16 Tryd.underlying61 str_info rfl (by decide) w2.heap.size w5.heap.size aw m cw _ rfl (own5.alloc _) ⟨w5.heap.size, 0, none⟩ 1 1 [.string (bs (ntE p q))] rfl rfl (cell_one_new _ _ _) (by simp [Value.oneCell']) (by decide) (by unfold maxLen; omega) (by omega) (by simp; omega) ?_; intro g' cap' w6 own6 hgr6 _ _)
              go_roundw
              case rel => exact ⟨i + 1, m + 1, by omega, by go_num, by have := HM.out; omega, ⟨some ⟨g', 0, none⟩, cap', rfl, own6.congr (cellS_app HLE.out)⟩, below_app (b25.alloc z5 _) (own5.alloc _) hgr6 (Nat.le_refl _) (by simp; omega)⟩
              case measure => simp [intOf]; omega
            · obtain rfl : i = es.length := by omega
              have HML : Hid (WL.length = m) := by show _ = _; rw [HWL.out, HM.out]
              have HJ : Hid (∀ X : World, Ow X w2.heap.size X.heap.size 9 1 aw m cw (cellS WL) → Calls Tryd.prog 55 #[.slice aw m cw, .string ⟨#[32]⟩] X fun e w' => e = .returned (.string (bs (Lib.join WL [32]))) ∧ Below X.heap.size X w') := by
                intro X hX
                have key := joinS_any WL aw cw ⟨#[32]⟩ X w2.heap.size X.heap.size (by rw [HML.out]; exact hX) (by show (Lib.join WL [32]).length ≤ _; omega) (by rw [HML.out]; omega)
                rw [HML.out] at key
                exact key
              have hbl2 := Bld.new hbl belw
              have BA2 := BA.new belw
              have b2x := b2.trans (belw.mono z2)
              have zb2 : bb < wr.heap.size := by omega
              go_wp2_with fail
              refine (HJ.out _ ownw).mono ?_
              rintro e w7 ⟨rfl, bel7⟩
              have hbl3 := Bld.new hbl2 bel7
              have BA3 := BA2.new bel7
              have b3 := b2x.trans (bel7.mono b2x.size)
              have zb3 : bb ≤ w7.heap.size := by have := bel7.size; omega
              have HW : Hid (Calls Tryd.prog 70 #[.pointer (some ⟨bb, 0, none⟩), .string (bs (Lib.join WL [32] ++ [10]))] w7 fun e w' => e = .returned (.tuple #[.int .i64 (Lib.join WL [32] ++ [10]).length, .nilIface]) ∧ Bld w' bb bb (ntT N k ++ (Lib.join WL [32] ++ [10])) ∧ Below bb w7 w') := writeS_any bb bb (ntT N k) (Lib.join WL [32] ++ [10]) w7 hbl3 (by simp; omega) zb3
              rw [← HTS.out] at HW
              clear hbl hbl2 hbl3 ownw belw BA BA2 b2x HJ
              generalize Lib.join WL [32] = jl at *
              generalize (jl ++ [10]).length = jn at *
              generalize jl ++ [10] = jm at *
              go_wp2_with fail
              refine HW.out.mono ?_
              rintro e w8 ⟨rfl, hbl4, bel8⟩
              go_wp2_with fail
              go_roundw
              case rel => exact ⟨k + 1, by omega, by go_num, hbl4, by have := bel8.size; have := bel7.size; omega, BA3.below bel8 zA, b3.trans (bel8.mono (by omega))⟩
              case measure => simp [intOf]; omega
        · have HPRE := Lib.hid (ntPre_01 hid (by rw [HMI.out]; omega) HMI.out)
          have hin2 : 0 < mi := by omega
          have hin3 : ((mi : Int) != 0) = true := by rw [bne_iff_ne]; omega
          have hmi3 : mi < 1000000 := by omega
          clear hin
          have hAa : ∀ X : World, (Op.stringOp .add ⟨#[47]⟩ (decB mi)).run Tryd.prog X = .ok (.string (bs (ntIn mi))) X := fun X => str_add [47] (Lib.decDigits mi) X (by have := dec_len mi; simp; omega)
          have HLa : Hid (nthS WL 0 = ntIn mi) := by show _ = _; rw [HWP.out 0 (by rw [HPRE.out]; simp), HPRE.out]; rfl
          go_wp2_with fail
          refine (itoa_any mi _ hmi3 (HTAB.out _ (b2.trans (bel0.mono z2)))).mono ?_
          rintro e w3a ⟨rfl, bel3a⟩
          have bel4a := bel0.trans (bel3a.mono z0)
          have z4a := bel4a.size
          have own3a : Ow w3a w2.heap.size w3a.heap.size 9 1 none 0 0 (cellS WL) := Ow.nil _ _ _ _ _ _ _
          go_upto_region 10 with (at_builtin; refine wpList_app rfl _ _ _ rfl 9 (.string ByteArray.empty) 1 16 Tryd.underlying61 str_info rfl (by decide) w2.heap.size w3a.heap.size none 0 0 _ rfl (own3a.alloc _) ⟨w3a.heap.size, 0, none⟩ 1 1 [.string (bs (ntIn mi))] rfl rfl (cell_one_new _ _ _) (by simp [Value.oneCell']) (by decide) (by unfold maxLen; omega) (by omega) (by simp; omega) ?_; intro gwa cwa w4a own4a hgr4a _ _)
          have own5a : Ow w4a w2.heap.size w4a.heap.size 9 1 (some ⟨gwa, 0, none⟩) (0 + 1) cwa (cellS WL) := own4a.congr (cellS_app HLa.out)
          have bel5a := below_app (bel4a.alloc z4a _) (own3a.alloc _) hgr4a (Nat.le_refl _) (by simp; omega)
          have z5a := bel5a.size
          clear bel3a bel4a own3a own4a hgr4a hAa z4a
          clear q0 q1 q2
          have HPL : Hid ((ntPre N k).length = 1) := by show _ = _; rw [HPRE.out]; rfl
          rw [HPL.out] at HWL HWE
          have hm2 : WL.length ≤ 8 := by have := HWL.out; omega
          go_wp2_with fail
          go_loopw [6, 51] (fun lv iv wx => ∃ i m : Nat, i ≤ es.length ∧ iv = .int .i64 i ∧ m = 1 + i ∧ (∃ a cap, lv = .slice a m cap ∧ Ow wx w2.heap.size wx.heap.size 9 1 a m cap (cellS WL)) ∧ Below w2.heap.size w2 wx) (fun _ iv _ => es.length - (intOf iv).toNat)
          case atStart => exact ⟨0, 1, Nat.zero_le _, rfl, rfl, ⟨_, _, rfl, own5a⟩, bel5a⟩
          case round =>
            clear bel5a c1 cp2
            obtain ⟨i, m, hi, rfl, hm, ⟨aw, cw, rfl, ownw⟩, belw⟩ := hrel
            have HM := Lib.hid hm
            have hm8 : m ≤ 8 := by omega
            clear hm
            have zx := belw.size
            by_cases hil : i < es.length
            · obtain ⟨p, q, hpq, hp, hq, _⟩ := HBK.out i hil
              have hq6 := HRW.out p hp
              have hp40 : p < 40 := by omega
              have hq40 : q < 40 := by omega
              have HLE : Hid (nthS WL m = ntE p q) := by show _ = _; rw [HM.out]; exact HWE.out i p q hil hpq
              obtain ⟨g1, off1, rfl, _, e1, e2⟩ := RdE.at (hrow.below ((belw.mono (by omega : w2.heap.size ≤ w2.heap.size)).mono (Nat.le_trans hB z2))) hil
              rw [hpq] at e1 e2
              have BE := Bx.made wr 44 #[.int .i64 (p : Int), .int .i64 (q : Int)]
              have belE : Below w2.heap.size w2 (wr.alloc (.cells #[.int .i64 (p : Int), .int .i64 (q : Int)] 44)) := belw.alloc zx _
              have ownE := (Ow.alloc ownw (.cells #[.int .i64 (p : Int), .int .i64 (q : Int)] 44)).top
              clear hpq
              go_upto_region 13 with fail
              generalize wr.alloc (.cells #[.int .i64 (p : Int), .int .i64 (q : Int)] 44) = wE at *
              have q0 := BE.cell 0 _ rfl
              have q1 := BE.cell 1 _ rfl
              have zE := belE.size
              clear e1 e2 ownw belw zx
              have HTE : Hid (∀ X, PTab X → Calls Tryd.prog 21 #[.agg #[.int .i64 (p : Int), .int .i64 (q : Int)]] X fun e w' => e = .returned (.tuple #[.string (bs (ntE p q)), .bool true]) ∧ Below X.heap.size X w') := fun X hX => by
                have hok : ptOk (p : Int) (q : Int) = true := ptOk_t (inR_t (by omega) (by omega)) (inR_t (by omega) (by omega))
                have := implPort_any (p : Int) (q : Int) X hX
                rw [ptR_t hok, hok, Int.toNat_natCast, Int.toNat_natCast, endT_bs] at this
                exact this
              go_wp2_with fail
              refine (HTE.out _ (HTAB.out _ (b2.trans (belE.mono z2)))).mono ?_
              rintro e w5 ⟨rfl, bel5⟩
              have own5 := (Ow.new ownE bel5).top
              have b25 := belE.trans (bel5.mono zE)
              have z5 := b25.size
              clear q0 q1 BE ownE belE bel5 zE HTE
              go_wp2_with (at_builtin; refine wpList_app rfl _ _ _ rfl 9 (.string ByteArray.empty) 1 16 Tryd.underlying61 str_info rfl (by decide) w2.heap.size w5.heap.size aw m cw _ rfl (own5.alloc _) ⟨w5.heap.size, 0, none⟩ 1 1 [.string (bs (ntE p q))] rfl rfl (cell_one_new _ _ _) (by simp [Value.oneCell']) (by decide) (by unfold maxLen; omega) (by omega) (by simp; omega) ?_; intro g' cap' w6 own6 hgr6 _ _)
              go_roundw
              case rel => exact ⟨i + 1, m + 1, by omega, by go_num, by have := HM.out; omega, ⟨some ⟨g', 0, none⟩, cap', rfl, own6.congr (cellS_app HLE.out)⟩, below_app (b25.alloc z5 _) (own5.alloc _) hgr6 (Nat.le_refl _) (by simp; omega)⟩
              case measure => simp [intOf]; omega
            · obtain rfl : i = es.length := by omega
              have HML : Hid (WL.length = m) := by show _ = _; rw [HWL.out, HM.out]
              have HJ : Hid (∀ X : World, Ow X w2.heap.size X.heap.size 9 1 aw m cw (cellS WL) → Calls Tryd.prog 55 #[.slice aw m cw, .string ⟨#[32]⟩] X fun e w' => e = .returned (.string (bs (Lib.join WL [32]))) ∧ Below X.heap.size X w') := by
                intro X hX
                have key := joinS_any WL aw cw ⟨#[32]⟩ X w2.heap.size X.heap.size (by rw [HML.out]; exact hX) (by show (Lib.join WL [32]).length ≤ _; omega) (by rw [HML.out]; omega)
                rw [HML.out] at key
                exact key
              have hbl2 := Bld.new hbl belw
              have BA2 := BA.new belw
              have b2x := b2.trans (belw.mono z2)
              have zb2 : bb < wr.heap.size := by omega
              go_wp2_with fail
              refine (HJ.out _ ownw).mono ?_
              rintro e w7 ⟨rfl, bel7⟩
              have hbl3 := Bld.new hbl2 bel7
              have BA3 := BA2.new bel7
              have b3 := b2x.trans (bel7.mono b2x.size)
              have zb3 : bb ≤ w7.heap.size := by have := bel7.size; omega
              have HW : Hid (Calls Tryd.prog 70 #[.pointer (some ⟨bb, 0, none⟩), .string (bs (Lib.join WL [32] ++ [10]))] w7 fun e w' => e = .returned (.tuple #[.int .i64 (Lib.join WL [32] ++ [10]).length, .nilIface]) ∧ Bld w' bb bb (ntT N k ++ (Lib.join WL [32] ++ [10])) ∧ Below bb w7 w') := writeS_any bb bb (ntT N k) (Lib.join WL [32] ++ [10]) w7 hbl3 (by simp; omega) zb3
              rw [← HTS.out] at HW
              clear hbl hbl2 hbl3 ownw belw BA BA2 b2x HJ
              generalize Lib.join WL [32] = jl at *
              generalize (jl ++ [10]).length = jn at *
              generalize jl ++ [10] = jm at *
              go_wp2_with fail
              refine HW.out.mono ?_
              rintro e w8 ⟨rfl, hbl4, bel8⟩
              go_wp2_with fail
              go_roundw
              case rel => exact ⟨k + 1, by omega, by go_num, hbl4, by have := bel8.size; have := bel7.size; omega, BA3.below bel8 zA, b3.trans (bel8.mono (by omega))⟩
              case measure => simp [intOf]; omega
    · obtain rfl : k = N.ends.length := by omega
      have HST : Hid (Calls Tryd.prog 71 #[.pointer (some ⟨bb, 0, none⟩)] w2 fun e w' => e = .returned (.string (bs (ntT N N.ends.length))) ∧ Below bb w2 w') := Tryd.Builder_String_any bb bb (ntT N N.ends.length) w2 hbl (by omega)
      obtain ⟨t0, ht0⟩ : ∃ t, t = bs (ntT N N.ends.length) := ⟨_, rfl⟩
      have HT1 := Lib.hid ht0
      rw [← ht0] at HST
      clear ht0
      go_wp2_with fail
      refine HST.out.mono ?_
      rintro e w8 ⟨rfl, bel8⟩
      go_wp2_with fail
      go_ret
      exact ⟨ret_str HT1.out, b2.trans (bel8.mono (by omega))⟩
end Go.Proofs.YtmjmgggfmccjmaaDoor
