/- Law: CirculantNetwork. -/
import Derived.Test.YtabpimhkjgojhaaCirS
import Derived.Test.YtabpimhkjgojhaaSz
import Derived.Deep.RegionHeld3
namespace Go.Proofs.Ytabpimhkjgojhaa
open Go.RowKit
set_option linter.unusedVariables false
set_option linter.unusedSimpArgs false
set_option maxRecDepth 100000 in
set_option maxHeartbeats 2000000 in
theorem FnExactCirculantNetwork_walk (p0 : Int) (al1 : Option Addr) (capl1 : Nat) (l1 : List Int) (w : World) (hp00 : -9223372036854775808 ≤ p0) (hp01 : p0 ≤ 9223372036854775807) (ha1 : RdI w w.heap.size al1 l1) (hI1 : I64s l1) (hml1 : l1.length ≤ maxLen) :
    Calls Try.prog 3 #[.int .i64 p0, .slice al1 l1.length capl1] w fun e w' => e = .returned (.bool true) ∧ Below w.heap.size w w' := by
  unfold maxLen at hml1
  have b0 : Below w.heap.size w w := (by repeat (first | exact Below.refl _ _ | assumption | refine Below.alloc ?_ (by first | (simp; done) | (simp; omega) | omega) _ | refine Below.setCell ?_ (by first | (simp; done) | (simp; omega) | omega) _ | refine Below.drew ?_ | refine Below.drewN ?_ _))
  by_cases hlen1 : l1.length ≤ 1048576
  case neg =>
    go_enter Try.func3, Try.ntmps3
    go_wp2_with fail
    go_ret
    exact ⟨rfl, b0⟩
  have HS : Hid (∀ X A1 C1, RdI X X.heap.size A1 l1 → l1.length ≤ C1 → Calls Try.prog 15 #[.int .i64 p0, .slice A1 l1.length C1] X (PostN (ciR p0 l1) (ciB p0 l1) X)) := Lib.hid fun X A1 C1 r1 c1 => specCir_any p0 A1 C1 l1 X _ r1 (Nat.le_refl _) hlen1 ⟨hp00, hp01⟩
  have HI : Hid (∀ X A1 C1, RdI X X.heap.size A1 l1 → l1.length ≤ C1 → Calls Try.prog 17 #[.int .i64 p0, .slice A1 l1.length C1] X (PostN (ciR p0 l1) (ciB p0 l1) X)) := Lib.hid fun X A1 C1 r1 c1 => implCir_any p0 A1 C1 l1 X _ r1 (Nat.le_refl _) hlen1 ⟨hp00, hp01⟩
  have hR : NetSmall (ciR p0 l1) := ciR_sm
  generalize ciR p0 l1 = R at *
  generalize ciB p0 l1 = ok at *
  go_enter Try.func3, Try.ntmps3
  go_wp2_with fail
  have bT := b0
  clear b0
  refine (toIntS_any al1 capl1 l1 _ _ (Rd.below ha1 bT) bT.size (by omega)).mono ?_
  rintro e w2 ⟨rfl, owns1, bel⟩
  have z1 := bel.size
  replace bT := bT.trans (bel.mono bT.size)
  clear bel
  go_wp2_with fail
  refine (HS.out _ _ _ (Rd.more owns1.rd (by omega)) (Nat.le_refl _)).mono ?_
  rintro e w3 ⟨W, rfl, ownw, bel⟩
  obtain ⟨aW, cW, aiW, ciW, apW, cpW, rfl, ownw⟩ := ownw.shape
  replace owns1 := Ow.new owns1 bel
  have z2 := bel.size
  replace bT := bT.trans (bel.mono bT.size)
  clear bel
  clear owns1
  have BW := Bx.made w3 25 #[.slice aW R.ends.length cW, .slice aiW R.ids.length ciW, .slice apW R.inputs.length cpW]
  have bx : Below w3.heap.size w3 (w3.alloc (.cells #[.slice aW R.ends.length cW, .slice aiW R.ids.length ciW, .slice apW R.inputs.length cpW] 25)) := (by repeat (first | exact Below.refl _ _ | assumption | refine Below.alloc ?_ (by first | (simp; done) | (simp; omega) | omega) _ | refine Below.setCell ?_ (by first | (simp; done) | (simp; omega) | omega) _ | refine Below.drew ?_ | refine Below.drewN ?_ _))
  have zx : w3.heap.size + 1 ≤ (w3.alloc (.cells #[.slice aW R.ends.length cW, .slice aiW R.ids.length ciW, .slice apW R.inputs.length cpW] 25)).heap.size := by simp
  replace ownw := ownw.new bx
  have z3 := bx.size
  replace bT := bT.trans (bx.mono bT.size)
  go_wp2_with fail
  generalize w3.alloc (.cells #[.slice aW R.ends.length cW, .slice aiW R.ids.length ciW, .slice apW R.inputs.length cpW] 25) = w4 at *
  clear bx
  have z4 := zx
  clear zx
  refine (toIntS_any al1 capl1 l1 _ _ (Rd.below ha1 bT) bT.size (by omega)).mono ?_
  rintro e w5 ⟨rfl, ownx1, bel⟩
  replace ownw := ownw.new bel
  replace BW := BW.new bel
  have z5 := bel.size
  replace bT := bT.trans (bel.mono bT.size)
  clear bel
  go_wp2_with fail
  refine (HI.out _ _ _ (Rd.more ownx1.rd (by omega)) (Nat.le_refl _)).mono ?_
  rintro e w6 ⟨G, rfl, owng, bel⟩
  obtain ⟨aG, cG, aiG, ciG, apG, cpG, rfl, owng⟩ := owng.shape
  replace ownw := ownw.new bel
  replace BW := BW.new bel
  replace ownx1 := Ow.new ownx1 bel
  have z6 := bel.size
  replace bT := bT.trans (bel.mono bT.size)
  clear bel
  have hbb : (ok != ok) = false := by simp
  have BG := Bx.made w6 25 #[.slice aG R.ends.length cG, .slice aiG R.ids.length ciG, .slice apG R.inputs.length cpG]
  have bx : Below w6.heap.size w6 (w6.alloc (.cells #[.slice aG R.ends.length cG, .slice aiG R.ids.length ciG, .slice apG R.inputs.length cpG] 25)) := (by repeat (first | exact Below.refl _ _ | assumption | refine Below.alloc ?_ (by first | (simp; done) | (simp; omega) | omega) _ | refine Below.setCell ?_ (by first | (simp; done) | (simp; omega) | omega) _ | refine Below.drew ?_ | refine Below.drewN ?_ _))
  have zx : w6.heap.size + 1 ≤ (w6.alloc (.cells #[.slice aG R.ends.length cG, .slice aiG R.ids.length ciG, .slice apG R.inputs.length cpG] 25)).heap.size := by simp
  replace ownw := ownw.new bx
  replace BW := BW.new bx
  replace ownx1 := Ow.new ownx1 bx
  replace owng := owng.new bx
  have z7 := bx.size
  replace bT := bT.trans (bx.mono bT.size)
  have qBW0 := BW.cell 0 _ rfl
  have qBW1 := BW.cell 1 _ rfl
  have qBW2 := BW.cell 2 _ rfl
  go_wp2_with fail
  clear qBW0 qBW1 qBW2
  generalize w6.alloc (.cells #[.slice aG R.ends.length cG, .slice aiG R.ids.length ciG, .slice apG R.inputs.length cpG] 25) = w7 at *
  clear bx
  have z8 := zx
  clear zx
  refine (eqNetwork_any _ _ R _ _ _ _ _ owng ownw (by omega) (by omega) hR).mono ?_
  rintro e w8 ⟨rfl, bel⟩
  replace ownw := ownw.new bel
  replace BW := BW.new bel
  replace ownx1 := Ow.new ownx1 bel
  replace owng := owng.new bel
  replace BG := BG.new bel
  have z9 := bel.size
  replace bT := bT.trans (bel.mono bT.size)
  clear bel
  go_wp2_with fail
  refine (toIntS_any al1 capl1 l1 _ _ (Rd.below ha1 bT) bT.size (by omega)).mono ?_
  rintro e w9 ⟨rfl, owny, bel⟩
  replace ownw := ownw.new bel
  replace BW := BW.new bel
  replace ownx1 := Ow.new ownx1 bel
  replace owng := owng.new bel
  replace BG := BG.new bel
  have z10 := bel.size
  replace bT := bT.trans (bel.mono bT.size)
  clear bel
  go_wp2_with fail
  refine (eqIntS_any _ _ _ _ l1 l1 _ _ _ ownx1.rd owny.rd (by omega) (by omega)).mono ?_
  rintro e w10 ⟨rfl, mm, hh⟩
  have bel : Below w9.heap.size w9 w10 := below_of_drewN hh
  clear hh
  rw [decide_eq_true rfl]
  replace ownw := ownw.new bel
  replace BW := BW.new bel
  replace ownx1 := Ow.new ownx1 bel
  replace owng := owng.new bel
  replace BG := BG.new bel
  replace owny := Ow.new owny bel
  have z11 := bel.size
  replace bT := bT.trans (bel.mono bT.size)
  clear bel
  clear owny
  go_wp2_with fail
  refine (markIntS_any _ _ l1 (1) _ _ _ ownx1 (by   omega)).mono ?_
  rintro e w11 ⟨rfl, own8, fr0⟩
  have fr := fr0.mono (fun k (_ : k < _) hk => Ow.blk_in ownx1 hk)
  clear own8 fr0
  clear ownx1
  replace ownw := ownw.fr fr (fun k h1 h2 hc => by omega)
  replace BW := BW.fr fr (by omega)
  replace owng := owng.fr fr (fun k h1 h2 hc => by omega)
  replace BG := BG.fr fr (by omega)
  have z12 := fr.size
  replace bT := bT.trans (fr.below (B := w.heap.size) (fun k h1 h2 hc => by omega) bT.size)
  clear fr
  have d9 : decide (((1 + l1.length : Nat) : Int) < 0) = false := decide_eq_false (by omega)
  have qBG0 := BG.cell 0 _ rfl
  have qBG1 := BG.cell 1 _ rfl
  have qBG2 := BG.cell 2 _ rfl
  have qBW0 := BW.cell 0 _ rfl
  have qBW1 := BW.cell 1 _ rfl
  have qBW2 := BW.cell 2 _ rfl
  go_wp2_with fail
  clear qBG0 qBG1 qBG2 qBW0 qBW1 qBW2
  refine (eqNetwork_any _ _ R _ _ _ _ _ owng ownw (by omega) (by omega) hR).mono ?_
  rintro e w12 ⟨rfl, bel⟩
  replace ownw := ownw.new bel
  replace BW := BW.new bel
  replace owng := owng.new bel
  replace BG := BG.new bel
  have z13 := bel.size
  replace bT := bT.trans (bel.mono bT.size)
  clear bel
  have qBG0 := BG.cell 0 _ rfl
  have qBG1 := BG.cell 1 _ rfl
  have qBG2 := BG.cell 2 _ rfl
  go_wp2_with fail
  clear qBG0 qBG1 qBG2
  refine (markNetwork_any _ R 1 _ _ _ owng (by omega) hR (by omega)).mono ?_
  rintro e w13 ⟨rfl, owngm, fr⟩
  clear owng
  replace ownw := ownw.fr fr (fun k h1 h2 hc => by omega)
  replace BW := BW.fr fr (by omega)
  replace BG := BG.fr fr (by omega)
  have z14 := fr.size
  replace bT := bT.trans (fr.below (B := w.heap.size) (fun k h1 h2 hc => by omega) bT.size)
  clear fr
  have qBG0 := BG.cell 0 _ rfl
  have qBG1 := BG.cell 1 _ rfl
  have qBG2 := BG.cell 2 _ rfl
  go_wp2_with fail
  clear qBG0 qBG1 qBG2
  refine (heldNetwork_any _ R 1 _ _ _ owngm (by omega) hR (by omega)).mono ?_
  rintro e w14 ⟨rfl, bel⟩
  replace ownw := ownw.new bel
  replace BW := BW.new bel
  replace BG := BG.new bel
  replace owngm := owngm.new bel
  have z15 := bel.size
  replace bT := bT.trans (bel.mono bT.size)
  clear bel
  have hlt : ¬ (((1 + netTot R : Nat) : Int) < 0) := by omega
  go_wp2_with fail
  refine (toIntS_any al1 capl1 l1 _ _ (Rd.below ha1 bT) bT.size (by omega)).mono ?_
  rintro e w15 ⟨rfl, ownh1, bel⟩
  replace ownw := ownw.new bel
  replace BW := BW.new bel
  replace BG := BG.new bel
  replace owngm := owngm.new bel
  have z16 := bel.size
  replace bT := bT.trans (bel.mono bT.size)
  clear bel
  go_wp2_with fail
  refine (HI.out _ _ _ (Rd.more ownh1.rd (by omega)) (Nat.le_refl _)).mono ?_
  rintro e w16 ⟨H, rfl, ownh, bel⟩
  obtain ⟨aH, cH, aiH, ciH, apH, cpH, rfl, ownh⟩ := ownh.shape
  replace ownw := ownw.new bel
  replace BW := BW.new bel
  replace BG := BG.new bel
  replace owngm := owngm.new bel
  replace ownh1 := Ow.new ownh1 bel
  have z17 := bel.size
  replace bT := bT.trans (bel.mono bT.size)
  clear bel
  clear ownh1
  have BH := Bx.made w16 25 #[.slice aH R.ends.length cH, .slice aiH R.ids.length ciH, .slice apH R.inputs.length cpH]
  have bx : Below w16.heap.size w16 (w16.alloc (.cells #[.slice aH R.ends.length cH, .slice aiH R.ids.length ciH, .slice apH R.inputs.length cpH] 25)) := (by repeat (first | exact Below.refl _ _ | assumption | refine Below.alloc ?_ (by first | (simp; done) | (simp; omega) | omega) _ | refine Below.setCell ?_ (by first | (simp; done) | (simp; omega) | omega) _ | refine Below.drew ?_ | refine Below.drewN ?_ _))
  have zx : w16.heap.size + 1 ≤ (w16.alloc (.cells #[.slice aH R.ends.length cH, .slice aiH R.ids.length ciH, .slice apH R.inputs.length cpH] 25)).heap.size := by simp
  replace ownw := ownw.new bx
  replace BW := BW.new bx
  replace BG := BG.new bx
  replace owngm := owngm.new bx
  replace ownh := ownh.new bx
  have z18 := bx.size
  replace bT := bT.trans (bx.mono bT.size)
  have qBW0 := BW.cell 0 _ rfl
  have qBW1 := BW.cell 1 _ rfl
  have qBW2 := BW.cell 2 _ rfl
  go_wp2_with fail
  clear qBW0 qBW1 qBW2
  generalize w16.alloc (.cells #[.slice aH R.ends.length cH, .slice aiH R.ids.length ciH, .slice apH R.inputs.length cpH] 25) = w17 at *
  clear bx
  have z19 := zx
  clear zx
  clear BH
  refine (eqNetwork_any _ _ R _ _ _ _ _ ownh ownw (by omega) (by omega) hR).mono ?_
  rintro e w18 ⟨rfl, bel⟩
  replace ownw := ownw.new bel
  replace BW := BW.new bel
  replace BG := BG.new bel
  replace owngm := owngm.new bel
  replace ownh := ownh.new bel
  have z20 := bel.size
  replace bT := bT.trans (bel.mono bT.size)
  clear bel
  have qBG0 := BG.cell 0 _ rfl
  have qBG1 := BG.cell 1 _ rfl
  have qBG2 := BG.cell 2 _ rfl
  go_wp2_with fail
  clear qBG0 qBG1 qBG2
  refine (heldNetwork_any _ R 1 _ _ _ owngm (by omega) hR (by omega)).mono ?_
  rintro e w19 ⟨rfl, bel⟩
  replace ownw := ownw.new bel
  replace BW := BW.new bel
  replace BG := BG.new bel
  replace owngm := owngm.new bel
  replace ownh := ownh.new bel
  have z21 := bel.size
  replace bT := bT.trans (bel.mono bT.size)
  clear bel
  go_wp2_with fail
  go_ret
  exact ⟨rfl, bT⟩
end Go.Proofs.Ytabpimhkjgojhaa
