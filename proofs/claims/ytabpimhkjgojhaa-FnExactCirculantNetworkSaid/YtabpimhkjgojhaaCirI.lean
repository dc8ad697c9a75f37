/- CirculantNetwork: impl's walk. -/
import Derived.Test.YtabpimhkjgojhaaCirc
import Derived.Test.YtabpimhkjgojhaaAll
namespace Go.Proofs.Ytabpimhkjgojhaa
open Go.RowKit
set_option linter.unusedVariables false
set_option linter.unusedSimpArgs false

def ciB (k : Int) (st : List Int) : Bool := inR k 1 40 && decide (2 * st.length ≤ 6) && allB st 0 (k - 1)
def ciR (k : Int) (st : List Int) : Net := ifN (ciB k st) (wireN k.toNat (2 * st.length) (cirE k.toNat st))
theorem ciB_f0 {k : Int} {st : List Int} (h : inR k 1 40 = false) : ciB k st = false := by rw [ciB, h]; rfl
theorem ciB_f1 {k : Int} {st : List Int} (h : ¬ 2 * st.length ≤ 6) : ciB k st = false := by rw [ciB, decide_eq_false h, Bool.and_false]; rfl
theorem ciB_f2 {k : Int} {st : List Int} (h : allB st 0 (k - 1) = false) : ciB k st = false := by rw [ciB, h, Bool.and_false]
theorem ciR_f {k : Int} {st : List Int} (h : ciB k st = false) : ciR k st = nilN := by rw [ciR, h]; rfl
set_option maxRecDepth 100000 in
set_option maxHeartbeats 400000 in
theorem implCir_any (k : Int) (a : Option Addr) (cap : Nat) (st : List Int) (w : World) (B : Nat) (ha : RdI w B a st) (hB : B ≤ w.heap.size) (hl : st.length ≤ 1048576) (hr : -9223372036854775808 ≤ k ∧ k ≤ 9223372036854775807) :
    Calls Try.prog 17 #[.int .i64 k, .slice a st.length cap] w (PostN (ciR k st) (ciB k st) w) := by
  have BP := ((Bx.made w 3 #[.int .i64 k]).alloc (.cells #[.slice a st.length cap] 22)).alloc (.cells #[.slice none 0 0, .slice none 0 0, .slice none 0 0] 25)
  have BQ := (Bx.made (w.alloc (.cells #[.int .i64 k] 3)) 22 #[.slice a st.length cap]).alloc (.cells #[.slice none 0 0, .slice none 0 0, .slice none 0 0] 25)
  have BR := Bx.made ((w.alloc (.cells #[.int .i64 k] 3)).alloc (.cells #[.slice a st.length cap] 22)) 25 #[.slice none 0 0, .slice none 0 0, .slice none 0 0]
  have b0 : Below w.heap.size w (((w.alloc (.cells #[.int .i64 k] 3)).alloc (.cells #[.slice a st.length cap] 22)).alloc (.cells #[.slice none 0 0, .slice none 0 0, .slice none 0 0] 25)) := (by repeat (first | exact Below.refl _ _ | assumption | refine Below.alloc ?_ (by first | (simp; done) | (simp; omega) | omega) _ | refine Below.setCell ?_ (by first | (simp; done) | (simp; omega) | omega) _ | refine Below.drew ?_ | refine Below.drewN ?_ _))
  have z0 : w.heap.size + 1 + 1 + 1 ≤ (((w.alloc (.cells #[.int .i64 k] 3)).alloc (.cells #[.slice a st.length cap] 22)).alloc (.cells #[.slice none 0 0, .slice none 0 0, .slice none 0 0] 25)).heap.size := by simp
  simp only [World.size_alloc] at BQ BR
  have e0 := BR.cell 0 _ rfl
  have e1 := BR.cell 1 _ rfl
  have e2 := BR.cell 2 _ rfl
  have f0 := BR.frozen 0
  have f1 := BR.frozen 1
  have f2 := BR.frozen 2
  have ca := BP.cell 0 _ rfl
  have cb := BQ.cell 0 _ rfl
  cases hk : inR k 1 40 with
  | false =>
    have HK := Lib.hid hk
    have HF := Lib.hid (ciB_f0 (st := st) hk)
    clear hk
    go_enter Try.func17, Try.ntmps17
    go_wp2_with fail
    refine (within_any _ _ _ _).mono ?_
    rintro e w' ⟨rfl, rfl⟩
    rw [HK.out]
    generalize ((w.alloc (.cells #[.int .i64 k] 3)).alloc (.cells #[.slice a st.length cap] 22)).alloc (.cells #[.slice none 0 0, .slice none 0 0, .slice none 0 0] 25) = w0 at *
    go_wp2_with fail
    clear e0 e1 e2 f0 f1 f2
    generalize hW : World.setCell _ _ _ = W
    have B6 : Bx W (w.heap.size + 1 + 1) 25 #[.slice none 0 0, .slice none 0 0, .slice none 0 0] := by rw [← hW]; exact ((BR.set 0 _).set 1 _).set 2 _
    have fr6 : Fr (fun k => k = w.heap.size + 1 + 1) w0 W := by rw [← hW]; exact fr3 _ _ _ _ _
    clear hW
    have z6 := fr6.size
    have d0 := B6.cell 0 _ rfl
    have d1 := B6.cell 1 _ rfl
    have d2 := B6.cell 2 _ rfl
    refine bodyPost_ret (v := .tuple #[.agg #[.slice none 0 0, .slice none 0 0, .slice none 0 0], .bool false]) (by simp [results, Try.results17, go_sem, d0, d1, d2]) rfl ?_
    rw [ciR_f HF.out, HF.out]
    exact ⟨_, rfl, NetAt.nilN _ _ _, b0.trans (fr6.below (fun k h1 h2 hc => by omega) b0.size)⟩
  | true =>
    have HK := Lib.hid hk
    have hk2 := inR_iff.1 hk
    obtain ⟨kn, rfl⟩ := Int.eq_ofNat_of_zero_le (show 0 ≤ k by omega)
    clear hk hr
    by_cases h6 : st.length ≤ 6
    case neg =>
      have HF := Lib.hid (ciB_f1 (k := (kn : Int)) (st := st) (by omega))
      go_enter Try.func17, Try.ntmps17
      go_wp2_with fail
      refine (within_any _ _ _ _).mono ?_
      rintro e w' ⟨rfl, rfl⟩
      rw [HK.out]
      generalize ((w.alloc (.cells #[.int .i64 (kn : Int)] 3)).alloc (.cells #[.slice a st.length cap] 22)).alloc (.cells #[.slice none 0 0, .slice none 0 0, .slice none 0 0] 25) = w0 at *
      go_wp2_with fail
      clear e0 e1 e2 f0 f1 f2
      generalize hW : World.setCell _ _ _ = W
      have B6 : Bx W (w.heap.size + 1 + 1) 25 #[.slice none 0 0, .slice none 0 0, .slice none 0 0] := by rw [← hW]; exact ((BR.set 0 _).set 1 _).set 2 _
      have fr6 : Fr (fun k => k = w.heap.size + 1 + 1) w0 W := by rw [← hW]; exact fr3 _ _ _ _ _
      clear hW
      have z6 := fr6.size
      have d0 := B6.cell 0 _ rfl
      have d1 := B6.cell 1 _ rfl
      have d2 := B6.cell 2 _ rfl
      refine bodyPost_ret (v := .tuple #[.agg #[.slice none 0 0, .slice none 0 0, .slice none 0 0], .bool false]) (by simp [results, Try.results17, go_sem, d0, d1, d2]) rfl ?_
      rw [ciR_f HF.out, HF.out]
      exact ⟨_, rfl, NetAt.nilN _ _ _, b0.trans (fr6.below (fun k h1 h2 hc => by omega) b0.size)⟩
    go_enter Try.func17, Try.ntmps17
    go_wp2_with fail
    refine (within_any _ _ _ _).mono ?_
    rintro e w' ⟨rfl, rfl⟩
    rw [HK.out]
    generalize ((w.alloc (.cells #[.int .i64 (kn : Int)] 3)).alloc (.cells #[.slice a st.length cap] 22)).alloc (.cells #[.slice none 0 0, .slice none 0 0, .slice none 0 0] 25) = w0 at *
    go_wp2_with fail
    refine (allWithin_any a cap st 0 ((kn : Int) - 1) w0 B (Rd.below ha (b0.mono hB)) (Nat.le_trans hB b0.size) (by omega)).mono ?_
    rintro e w1 ⟨rfl, bel1⟩
    replace BP := BP.new bel1
    replace BQ := BQ.new bel1
    replace BR := BR.new bel1
    have z1 := bel1.size
    replace b0 := b0.trans (bel1.mono b0.size)
    clear e0 e1 e2 f0 f1 f2 ca cb bel1
    have e0 := BR.cell 0 _ rfl
    have e1 := BR.cell 1 _ rfl
    have e2 := BR.cell 2 _ rfl
    have f0 := BR.frozen 0
    have f1 := BR.frozen 1
    have f2 := BR.frozen 2
    have ca := BP.cell 0 _ rfl
    have cb := BQ.cell 0 _ rfl
    cases hall : allB st 0 ((kn : Int) - 1) with
    | false =>
      have HF := Lib.hid (ciB_f2 hall)
      clear hall
      go_wp2_with fail
      clear e0 e1 e2 f0 f1 f2
      generalize hW : World.setCell _ _ _ = W
      have B6 : Bx W (w.heap.size + 1 + 1) 25 #[.slice none 0 0, .slice none 0 0, .slice none 0 0] := by rw [← hW]; exact ((BR.set 0 _).set 1 _).set 2 _
      have fr6 : Fr (fun k => k = w.heap.size + 1 + 1) w1 W := by rw [← hW]; exact fr3 _ _ _ _ _
      clear hW
      have z6 := fr6.size
      have d0 := B6.cell 0 _ rfl
      have d1 := B6.cell 1 _ rfl
      have d2 := B6.cell 2 _ rfl
      refine bodyPost_ret (v := .tuple #[.agg #[.slice none 0 0, .slice none 0 0, .slice none 0 0], .bool false]) (by simp [results, Try.results17, go_sem, d0, d1, d2]) rfl ?_
      rw [ciR_f HF.out, HF.out]
      exact ⟨_, rfl, NetAt.nilN _ _ _, b0.trans (fr6.below (fun k h1 h2 hc => by omega) b0.size)⟩
    | true =>
      have HALL := Lib.hid hall
      have HOK := Lib.hid (show wdB (kn : Int) (2 * st.length) (cirE kn st) = ciB (kn : Int) st by
        have hb : ciB (kn : Int) st = decide (2 * st.length ≤ 6) := by rw [ciB, HK.out, hall, Bool.and_true]; rfl
        rw [hb]
        by_cases h7 : 2 * st.length ≤ 6
        · rw [decide_eq_true h7, wdB_t HK.out h7, Int.toNat_natCast]
          refine cir_ok (by omega) (by omega) h7 fun j hj => ?_
          have h8 := allB_at hall j hj
          unfold stp
          omega
        · rw [decide_eq_false h7]
          exact wdB_f (by rw [decide_eq_false h7, Bool.and_false]))
      clear hall
      have HW := Lib.hid (wiredCir_any (kn : Int) (2 * st.length) (cirE kn st) w.heap.size (w.heap.size + 1) w1 (by omega) (fun X v i bX hv hk hi hd => by
        have h8 := allB_at HALL.out (i / 2) (by omega)
        refine cir1_any kn w.heap.size (w.heap.size + 1) v (i / 2) st (decide (i % 2 = 1)) a cap B X ((BP.new bX).cell 0 _ rfl) ((BQ.new bX).cell 0 _ rfl) (Rd.below ha ((b0.trans (bX.mono b0.size)).mono hB)) (Nat.le_trans hB (Nat.le_trans b0.size bX.size)) (by omega) (by omega) (by omega) (by omega) (by omega) h8.1 (by omega) i ?_
        by_cases h9 : i % 2 = 1
        · simp [h9]; omega
        · simp [h9]; omega))
      rw [show ((2 * st.length : Nat) : Int) = 2 * (st.length : Int) by omega] at HW
      have HRR := Lib.hid (show wdR (kn : Int) (2 * st.length) (cirE kn st) = ciR (kn : Int) st by rw [wdR, HOK.out]; rfl)
      clear e0 e1 e2 f0 f1 f2
      go_wp2_with fail
      refine HW.out.mono ?_
      rw [HOK.out, HRR.out]
      rintro e w7 ⟨x7, rfl, own7, bel7⟩
      replace BR := BR.new bel7
      have bb := b0.trans (bel7.mono b0.size)
      have z7 := bel7.size
      clear bel7 HW HOK HRR
      obtain ⟨ay, cy, aiy, ciy, apy, cpy, rfl, own7⟩ := own7.shape
      generalize hRR : ciR (kn : Int) st = RR at *
      generalize hOO : ciB (kn : Int) st = oo at *
      have HR2 := Lib.hid (And.intro hRR hOO)
      clear hRR hOO
      have e0 := BR.cell 0 _ rfl
      have e1 := BR.cell 1 _ rfl
      have e2 := BR.cell 2 _ rfl
      have f0 := BR.frozen 0
      have f1 := BR.frozen 1
      have f2 := BR.frozen 2
      go_wp2_with fail
      clear e0 e1 e2 f0 f1 f2
      generalize hW : World.setCell _ _ _ = W
      have B6 : Bx W (w.heap.size + 1 + 1) 25 #[.slice ay RR.ends.length cy, .slice aiy RR.ids.length ciy, .slice apy RR.inputs.length cpy] := by rw [← hW]; exact ((BR.set 0 _).set 1 _).set 2 _
      have fr6 : Fr (fun k => k = w.heap.size + 1 + 1) w7 W := by rw [← hW]; exact fr3 _ _ _ _ _
      clear hW
      have z6 := fr6.size
      have d0 := B6.cell 0 _ rfl
      have d1 := B6.cell 1 _ rfl
      have d2 := B6.cell 2 _ rfl
      refine bodyPost_ret (v := .tuple #[.agg #[.slice ay RR.ends.length cy, .slice aiy RR.ids.length ciy, .slice apy RR.inputs.length cpy], .bool oo]) (by simp [results, Try.results17, go_sem, d0, d1, d2]) rfl ?_
      exact ⟨_, rfl, (own7.fr fr6 (fun k h1 h2 hc => by omega)).wide (lo' := w.heap.size) (hi' := W.heap.size) (by omega) (by omega), bb.trans (fr6.below (fun k h1 h2 hc => by omega) bb.size)⟩
end Go.Proofs.Ytabpimhkjgojhaa
