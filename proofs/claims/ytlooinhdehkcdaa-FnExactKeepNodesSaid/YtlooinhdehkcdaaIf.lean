/- 'network' and 'neIf': a network if it is one. -/
import Derived.Test.YtlooinhdehkcdaaOwn
namespace Go.Proofs.Ytlooinhdehkcdaa
open Go.RowKit
set_option linter.unusedVariables false
set_option linter.unusedSimpArgs false


/-- the network and whether it is one: the argument's own memory, or nothing -/
def PostK (lo : Nat) (N : Net) (ok : Bool) (w : World) (e : Ending) (w' : World) : Prop :=
  ∃ v, e = .returned (.tuple #[v, .bool ok]) ∧ NetAt w' lo w'.heap.size v N ∧ Below w.heap.size w w'
set_option maxHeartbeats 400000 in
theorem network_any (V : Value) (N : Net) (w : World) (lo hi : Nat) (hv : NetAt w lo hi V N) (hh : hi ≤ w.heap.size) (hlo : lo ≤ w.heap.size) (hs : NetSmall N) :
    Calls Try.prog 40 #[V] w (PostK lo (ifN (netB N) N) (netB N) w) := by
  have HV := Lib.hid hv
  obtain ⟨a, c, vs, ai, ci, ap, cp, rfl, h1, h2, h3, h4⟩ := hv
  have BA := (Bx.made w 29 #[.slice a N.ends.length c, .slice ai N.ids.length ci, .slice ap N.inputs.length cp]).alloc (.cells #[.slice none 0 0, .slice none 0 0, .slice none 0 0] 29)
  have BR := Bx.made (w.alloc (.cells #[.slice a N.ends.length c, .slice ai N.ids.length ci, .slice ap N.inputs.length cp] 29)) 29 #[.slice none 0 0, .slice none 0 0, .slice none 0 0]
  have b0 : Below w.heap.size w ((w.alloc (.cells #[.slice a N.ends.length c, .slice ai N.ids.length ci, .slice ap N.inputs.length cp] 29)).alloc (.cells #[.slice none 0 0, .slice none 0 0, .slice none 0 0] 29)) := (by repeat (first | exact Below.refl _ _ | assumption | refine Below.alloc ?_ (by first | (simp; done) | (simp; omega) | omega) _ | refine Below.setCell ?_ (by first | (simp; done) | (simp; omega) | omega) _ | refine Below.drew ?_ | refine Below.drewN ?_ _))
  rw [World.size_alloc] at BR
  go_enter Try.func40, Try.ntmps40
  go_wp2_with fail
  refine (isNetwork_any _ N _ hi ((NetAt.in_ HV.out).below (b0.mono hh)).rd (Nat.le_trans hh b0.size) hs).mono ?_
  rintro e w1 ⟨rfl, bel1⟩
  replace BA := BA.new bel1
  replace BR := BR.new bel1
  have b1 := b0.trans (bel1.mono b0.size)
  have z1 := b1.size
  have zR := BR.lt
  clear b0 bel1
  have e0 := BR.cell 0 _ rfl
  have e1 := BR.cell 1 _ rfl
  have e2 := BR.cell 2 _ rfl
  have f0 := BR.frozen 0
  have f1 := BR.frozen 1
  have f2 := BR.frozen 2
  have c0 := BA.cell 0 _ rfl
  have c1 := BA.cell 1 _ rfl
  have c2 := BA.cell 2 _ rfl
  cases hn : netB N with
  | false =>
    have HN := Lib.hid hn
    clear hn
    go_wp2_with fail
    clear c0 c1 c2 e0 e1 e2 f0 f1 f2
    generalize hW : World.setCell _ _ _ = W
    have B6 : Bx W (w.heap.size + 1) 29 #[.slice none 0 0, .slice none 0 0, .slice none 0 0] := by rw [← hW]; exact ((BR.set 0 _).set 1 _).set 2 _
    have fr6 : Fr (fun k => k = w.heap.size + 1) w1 W := by rw [← hW]; exact fr3 _ _ _ _ _
    clear hW
    have z6 := fr6.size
    have d0 := B6.cell 0 _ rfl
    have d1 := B6.cell 1 _ rfl
    have d2 := B6.cell 2 _ rfl
    refine bodyPost_ret (v := .tuple #[.agg #[.slice none 0 0, .slice none 0 0, .slice none 0 0], .bool false]) (by simp [results, Try.results40, go_sem, d0, d1, d2]) rfl ?_
    rw [HN.out]
    exact ⟨_, rfl, NetAt.nilN _ _ _, b1.trans (fr6.below (fun k h1 h2 hc => by omega) z1)⟩
  | true =>
    have HN := Lib.hid hn
    clear hn
    go_wp2_with fail
    clear c0 c1 c2 e0 e1 e2 f0 f1 f2
    generalize hW : World.setCell _ _ _ = W
    have B6 : Bx W (w.heap.size + 1) 29 #[.slice a N.ends.length c, .slice ai N.ids.length ci, .slice ap N.inputs.length cp] := by rw [← hW]; exact ((BR.set 0 _).set 1 _).set 2 _
    have fr6 : Fr (fun k => k = w.heap.size + 1) w1 W := by rw [← hW]; exact fr3 _ _ _ _ _
    clear hW
    have z6 := fr6.size
    have d0 := B6.cell 0 _ rfl
    have d1 := B6.cell 1 _ rfl
    have d2 := B6.cell 2 _ rfl
    refine bodyPost_ret (v := .tuple #[.agg #[.slice a N.ends.length c, .slice ai N.ids.length ci, .slice ap N.inputs.length cp], .bool true]) (by simp [results, Try.results40, go_sem, d0, d1, d2]) rfl ?_
    rw [HN.out]
    exact ⟨_, rfl, ((HV.out.new b1).fr fr6 (fun k h1 h2 hc => by omega)).wide (Nat.le_refl _) (by omega), b1.trans (fr6.below (fun k h1 h2 hc => by omega) z1)⟩
set_option maxHeartbeats 400000 in
theorem neIf_any (V : Value) (N : Net) (w : World) (lo hi : Nat) (hv : NetAt w lo hi V N) (hh : hi ≤ w.heap.size) (hlo : lo ≤ w.heap.size) (hs : NetSmall N) :
    Calls Try.prog 36 #[V] w (PostK lo (ifN (netB N) N) (netB N) w) := by
  have HV := Lib.hid hv
  obtain ⟨a, c, vs, ai, ci, ap, cp, rfl, h1, h2, h3, h4⟩ := hv
  have BA := (Bx.made w 29 #[.slice a N.ends.length c, .slice ai N.ids.length ci, .slice ap N.inputs.length cp]).alloc (.cells #[.slice none 0 0, .slice none 0 0, .slice none 0 0] 29)
  have BR := Bx.made (w.alloc (.cells #[.slice a N.ends.length c, .slice ai N.ids.length ci, .slice ap N.inputs.length cp] 29)) 29 #[.slice none 0 0, .slice none 0 0, .slice none 0 0]
  have b0 : Below w.heap.size w ((w.alloc (.cells #[.slice a N.ends.length c, .slice ai N.ids.length ci, .slice ap N.inputs.length cp] 29)).alloc (.cells #[.slice none 0 0, .slice none 0 0, .slice none 0 0] 29)) := (by repeat (first | exact Below.refl _ _ | assumption | refine Below.alloc ?_ (by first | (simp; done) | (simp; omega) | omega) _ | refine Below.setCell ?_ (by first | (simp; done) | (simp; omega) | omega) _ | refine Below.drew ?_ | refine Below.drewN ?_ _))
  rw [World.size_alloc] at BR
  go_enter Try.func36, Try.ntmps36
  go_wp2_with fail
  refine (neGood_any _ N _ hi ((NetAt.in_ HV.out).below (b0.mono hh)) (Nat.le_trans hh b0.size) hs).mono ?_
  rintro e w1 ⟨rfl, bel1⟩
  replace BA := BA.new bel1
  replace BR := BR.new bel1
  have b1 := b0.trans (bel1.mono b0.size)
  have z1 := b1.size
  have zR := BR.lt
  clear b0 bel1
  have e0 := BR.cell 0 _ rfl
  have e1 := BR.cell 1 _ rfl
  have e2 := BR.cell 2 _ rfl
  have f0 := BR.frozen 0
  have f1 := BR.frozen 1
  have f2 := BR.frozen 2
  have c0 := BA.cell 0 _ rfl
  have c1 := BA.cell 1 _ rfl
  have c2 := BA.cell 2 _ rfl
  cases hn : netB N with
  | false =>
    have HN := Lib.hid hn
    clear hn
    go_wp2_with fail
    clear c0 c1 c2 e0 e1 e2 f0 f1 f2
    generalize hW : World.setCell _ _ _ = W
    have B6 : Bx W (w.heap.size + 1) 29 #[.slice none 0 0, .slice none 0 0, .slice none 0 0] := by rw [← hW]; exact ((BR.set 0 _).set 1 _).set 2 _
    have fr6 : Fr (fun k => k = w.heap.size + 1) w1 W := by rw [← hW]; exact fr3 _ _ _ _ _
    clear hW
    have z6 := fr6.size
    have d0 := B6.cell 0 _ rfl
    have d1 := B6.cell 1 _ rfl
    have d2 := B6.cell 2 _ rfl
    refine bodyPost_ret (v := .tuple #[.agg #[.slice none 0 0, .slice none 0 0, .slice none 0 0], .bool false]) (by simp [results, Try.results36, go_sem, d0, d1, d2]) rfl ?_
    rw [HN.out]
    exact ⟨_, rfl, NetAt.nilN _ _ _, b1.trans (fr6.below (fun k h1 h2 hc => by omega) z1)⟩
  | true =>
    have HN := Lib.hid hn
    clear hn
    go_wp2_with fail
    clear c0 c1 c2 e0 e1 e2 f0 f1 f2
    generalize hW : World.setCell _ _ _ = W
    have B6 : Bx W (w.heap.size + 1) 29 #[.slice a N.ends.length c, .slice ai N.ids.length ci, .slice ap N.inputs.length cp] := by rw [← hW]; exact ((BR.set 0 _).set 1 _).set 2 _
    have fr6 : Fr (fun k => k = w.heap.size + 1) w1 W := by rw [← hW]; exact fr3 _ _ _ _ _
    clear hW
    have z6 := fr6.size
    have d0 := B6.cell 0 _ rfl
    have d1 := B6.cell 1 _ rfl
    have d2 := B6.cell 2 _ rfl
    refine bodyPost_ret (v := .tuple #[.agg #[.slice a N.ends.length c, .slice ai N.ids.length ci, .slice ap N.inputs.length cp], .bool true]) (by simp [results, Try.results36, go_sem, d0, d1, d2]) rfl ?_
    rw [HN.out]
    exact ⟨_, rfl, ((HV.out.new b1).fr fr6 (fun k h1 h2 hc => by omega)).wide (Nat.le_refl _) (by omega), b1.trans (fr6.below (fun k h1 h2 hc => by omega) z1)⟩
end Go.Proofs.Ytlooinhdehkcdaa
