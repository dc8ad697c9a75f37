/- ParsePort: the law's walk. -/
import Derived.Test.YtmjmgggfmccjmaaDoorErr
import Derived.Test.YtmjmgggfmccjmaaDoorEnds
namespace Go.Proofs.YtmjmgggfmccjmaaDoor
open Go.RowKit
set_option linter.unusedVariables false
set_option linter.unusedSimpArgs false
set_option maxRecDepth 100000 in
set_option maxHeartbeats 800000 in
theorem specPP_any (s : ByteArray) (w : World) (hs : s.size ≤ 1048576) :
    Calls Tryd.prog 26 #[.string s] w fun e w' => e = .returned (.tuple #[.agg #[.int .i64 (ppE s.data.toList).1, .int .i64 (ppE s.data.toList).2], .bool (portOk s.data.toList)]) ∧ Below w.heap.size w w' := by
  have BE := Bx.made w 44 #[.int .i64 0, .int .i64 0]
  have b0 : Below w.heap.size w (w.alloc (.cells #[.int .i64 0, .int .i64 0] 44)) := (by repeat (first | exact Below.refl _ _ | assumption | refine Below.alloc ?_ (by first | (simp; done) | (simp; omega) | omega) _ | refine Below.setCell ?_ (by first | (simp; done) | (simp; omega) | omega) _ | refine Below.drew ?_ | refine Below.drewN ?_ _))
  have HT := Lib.hid (fun X => txPort_any s X hs)
  generalize (ppE s.data.toList).1 = x at *
  generalize (ppE s.data.toList).2 = y at *
  generalize portOk s.data.toList = ok at *
  go_enter Tryd.func26, Tryd.ntmps26
  go_upto_region 1 with fail
  generalize w.alloc (.cells #[.int .i64 0, .int .i64 0] 44) = w0 at *
  have HT2 : Hid (Calls Tryd.prog 56 #[.string s] w0 fun e w' => e = .returned (.tuple #[.agg #[.int .i64 x, .int .i64 y], .bool ok]) ∧ Bx w' w.heap.size 44 #[.int .i64 0, .int .i64 0] ∧ Below w.heap.size w w') := (HT.out _).mono fun e w' h => ⟨h.1, BE.new h.2, b0.trans (h.2.mono b0.size)⟩
  clear HT BE b0
  go_wp2_with (go_at_call 56; refine HT2.out.mono ?_; rintro e w1 ⟨rfl, BE, b1⟩; have z3 := BE.lt; have e0 := BE.cell 0 _ rfl; have e1 := BE.cell 1 _ rfl; have f0 := BE.frozen 0; have f1 := (BE.set 0 (.int .i64 x)).frozen 1; have e2 := (BE.set 0 (.int .i64 x)).cell 1 _ rfl)
  generalize hW : World.setCell _ _ _ = W
  have B6 : Bx W w.heap.size 44 #[.int .i64 x, .int .i64 y] := by rw [← hW]; exact (BE.set 0 _).set 1 _
  have bW : Below w.heap.size w W := by rw [← hW]; exact (by repeat (first | exact Below.refl _ _ | assumption | refine Below.alloc ?_ (by first | (simp; done) | (simp; omega) | omega) _ | refine Below.setCell ?_ (by first | (simp; done) | (simp; omega) | omega) _ | refine Below.drew ?_ | refine Below.drewN ?_ _))
  clear hW
  have d0 := B6.cell 0 _ rfl
  have d1 := B6.cell 1 _ rfl
  refine bodyPost_ret (v := .tuple #[.agg #[.int .i64 x, .int .i64 y], .bool ok]) (by simp [results, Tryd.results26, go_sem, d0, d1]) rfl ?_
  exact ⟨rfl, bW⟩
set_option maxRecDepth 100000 in
set_option maxHeartbeats 800000 in
theorem FnExactParsePort_walk (s : ByteArray) (w : World) (hsz : s.size ≤ maxLen) (hF : PTab w ∧ SErr w ∧ MLen w) :
    Calls Tryd.prog 7 #[.string s] w fun e w' => e = .returned (.bool true) ∧ Below w.heap.size w w' := by
  by_cases hs : s.size ≤ 1048576
  · have HS := Lib.hid (fun X => specPP_any s X hs)
    have HI := Lib.hid (fun X h1 h2 h3 => implPP_any s X h1 h2 h3 hs)
    obtain ⟨htab, herr, hml⟩ := hF
    generalize (ppE s.data.toList).1 = x at *
    generalize (ppE s.data.toList).2 = y at *
    generalize portOk s.data.toList = ok at *
    go_enter Tryd.func7, Tryd.ntmps7
    go_wp2_with fail
    refine (HS.out _).mono ?_
    rintro e w1 ⟨rfl, b1⟩
    have B1 := Bx.made w1 44 #[.int .i64 x, .int .i64 y]
    have z1 := b1.size
    have bW : Below w.heap.size w (w1.alloc (.cells #[.int .i64 x, .int .i64 y] 44)) := (by repeat (first | exact Below.refl _ _ | assumption | refine Below.alloc ?_ (by first | (simp; done) | (simp; omega) | omega) _ | refine Below.setCell ?_ (by first | (simp; done) | (simp; omega) | omega) _ | refine Below.drew ?_ | refine Below.drewN ?_ _))
    go_wp2_with fail
    generalize w1.alloc (.cells #[.int .i64 x, .int .i64 y] 44) = W at *
    refine (HI.out W (htab.below bW) (herr.below bW) (hml.below bW)).mono ?_
    rintro e w2 ⟨rfl, b2⟩
    replace B1 := B1.new b2
    replace b2 := bW.trans (b2.mono bW.size)
    clear bW HS HI
    have B2 := Bx.made w2 44 #[.int .i64 x, .int .i64 y]
    have B3 := B1.alloc (.cells #[.int .i64 x, .int .i64 y] 44)
    have z2 := b2.size
    have bX : Below w.heap.size w (w2.alloc (.cells #[.int .i64 x, .int .i64 y] 44)) := (by repeat (first | exact Below.refl _ _ | assumption | refine Below.alloc ?_ (by first | (simp; done) | (simp; omega) | omega) _ | refine Below.setCell ?_ (by first | (simp; done) | (simp; omega) | omega) _ | refine Below.drew ?_ | refine Below.drewN ?_ _))
    have q0 := B2.cell 0 _ rfl
    have q1 := B2.cell 1 _ rfl
    have q2 := B3.cell 0 _ rfl
    have q3 := B3.cell 1 _ rfl
    have hoo : (ok != ok) = false := by simp
    go_wp2_with fail
    refine (eqEnd_any x y x y _).mono ?_
    rintro e w3 ⟨rfl, b3⟩
    replace b3 := bX.trans (b3.mono bX.size)
    rw [decide_eq_true ⟨rfl, rfl⟩]
    clear q0 q1 q2 q3 B2 B3 bX
    go_wp2_with fail
    go_ret
    exact ⟨rfl, b3⟩
  · go_enter Tryd.func7, Tryd.ntmps7
    go_wp2_with fail
    go_ret
    exact ⟨rfl, Below.refl _ _⟩
end Go.Proofs.YtmjmgggfmccjmaaDoor
