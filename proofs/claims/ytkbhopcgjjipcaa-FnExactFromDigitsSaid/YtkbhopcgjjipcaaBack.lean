/- slices.Backward over ints: its contract as an iterator; PolynomialAt and FromDigits: the walks. -/
import Derived.Test.YtkbhopcgjjipcaaAll
import Derived.RangeFuncBox
import Derived.RangeFuncLeaves
import Derived.RangeFuncWrites
import Derived.Shelf.Abstract
import Derived.WalkKit
import Derived.OwnWalkIn
import Derived.TacticsInMore
import Derived.LoopNIn
import Derived.LoopIn
namespace Go.Proofs.Ytkbhopcgjjipcaa
open Go.RowKit Go.Shelf
set_option linter.unusedVariables false
set_option linter.unusedSimpArgs false
attribute [local go_sem] Oper.semAt_some
/-- an index and a small number -/
abbrev Bk : Type := { x : Nat × Int // 0 ≤ x.2 ∧ x.2 ≤ 999 }
def bkEnc (x : Bk) : Array Value := #[Value.int .i64 (x.1.1 : Int), Value.int .i64 x.1.2]
def Sm (zs : List Int) : Prop := ∀ j, 0 ≤ nth zs j ∧ nth zs j ≤ 999
def bkF (zs : List Int) (h : Sm zs) (k : Nat) : Bk := ⟨(zs.length - 1 - k, nth zs (zs.length - 1 - k)), h _⟩
def bkTo (zs : List Int) (h : Sm zs) (k : Nat) : List Bk := (List.range k).map (bkF zs h)
theorem bkTo_succ (zs : List Int) (h : Sm zs) (k : Nat) : bkTo zs h (k + 1) = bkTo zs h k ++ [bkF zs h k] := by simp [bkTo, List.range_succ]
theorem bkTo_length (zs : List Int) (h : Sm zs) (k : Nat) : (bkTo zs h k).length = k := by simp [bkTo]
/-- what lay below n₀ and the box Bs lie as they lay -/
def KB (n₀ Bs : Nat) (A B : World) : Prop := Below n₀ A B ∧ ∀ t v, Boxed A Bs t v → Boxed B Bs t v
theorem KB.refl (n₀ Bs : Nat) (A : World) : KB n₀ Bs A A := ⟨Below.refl _ _, fun _ _ h => h⟩
theorem KB.trans {n₀ Bs : Nat} {A B C : World} (h : KB n₀ Bs A B) (k : KB n₀ Bs B C) : KB n₀ Bs A C := ⟨h.1.trans k.1, fun t v x => k.2 t v (h.2 t v x)⟩
theorem KB.put {n₀ Bs : Nat} {w : World} (hn : n₀ ≤ w.heap.size) (hBs : Bs < w.heap.size) (W : World) (l : Nat) (o o' : Obj) (hl : w.heap.size ≤ l) (h : W.heap[l]? = some o) (h1 : o.isCells = false) (h2 : o.isWalk = false) : KB n₀ Bs W (W.putObj l o') :=
  ⟨belowK_b hn W l o o' hl h h1 h2, fun t v x => x.kept (grownBy_putObj' W l o') (by intro e; cases e; omega)⟩
theorem KB.set {n₀ Bs b : Nat} (W : World) (v : Value) (hb : n₀ ≤ b) (hne : Bs ≠ b) : KB n₀ Bs W (W.setCell ⟨b, 0, none⟩ v) :=
  ⟨(Below.refl _ W).setCell (p := ⟨b, 0, none⟩) hb _, fun t u x => x.kept (grownBy_setCell' W b v) (by intro e; cases e; exact hne rfl)⟩
set_option maxRecDepth 100000 in
set_option maxHeartbeats 2000000 in
/-- slices.Backward's closure, at every loop body that keeps what lay below n₀ -/
theorem back1_in (F : Fence) (n : Nat) (h8 : F.fn 31) (hro : F.round = none) (hn : 1 ≤ n) (l Bs n₀ : Nat) (a : Option Addr) (cap : Nat) (zs : List Int) (hz : Sm zs) (hlen : zs.length ≤ 60) (J Jx : List Bk → World → Prop)
    (hY : ∀ pre x W, J pre W → pre.length < zs.length → YieldAt F (n - 1) Try.prog l (bkEnc x) W fun e W' =>
      (e = .returned (.bool true) ∧ J (pre ++ [x]) W' ∧ KB n₀ Bs W W') ∨ (e = .returned (.bool false) ∧ Jx (pre ++ [x]) W'))
    (W : World) (hBs : Boxed W Bs 25 (.slice a zs.length cap)) (ha : RdI W n₀ a zs) (h0 : J [] W) :
    CallsIn F n Try.prog 31 #[.func (.yield l) #[] #[], .pointer (some ⟨Bs, 0, none⟩)] W fun e W' => (∃ v, e = .returned v) ∧
      ((∃ ys, ys = bkTo zs hz zs.length ∧ J ys W') ∨ (∃ pre, (∃ k, k ≤ zs.length ∧ pre = bkTo zs hz k) ∧ Jx pre W')) := by
  refine callsIn_of_wp Try.func31 rfl h8 ?_ hro
  simp only [Try.ntmps31, List.size_toArray, List.length_cons, List.length_nil, Nat.reduceAdd, Nat.reduceSub, Array.replicate_succ, Array.replicate_zero, List.push_toArray, List.append_toArray, List.nil_append, List.cons_append]
  have hBs0 := hBs.cell
  gi_wp2
  gi_loopw [3] (fun i wr => ∃ k : Nat, k ≤ zs.length ∧ i = .int .i64 ((zs.length : Int) - 1 - (k : Int)) ∧ J (bkTo zs hz k) wr ∧ KB n₀ Bs W wr)
    (fun i _ => (intOf i + 1).toNat)
  case atStart => exact ⟨0, Nat.zero_le _, by simp, h0, KB.refl _ _ _⟩
  case round =>
    obtain ⟨k, hk, rfl, hJs, hnx⟩ := hrel
    have hBs' := (hnx.2 _ _ hBs).cell
    by_cases hlt : k < zs.length
    · obtain ⟨g, off, rfl, _, hc⟩ := Rd.at (Rd.below ha hnx.1) (j := zs.length - 1 - k) (by omega)
      have hi : ((zs.length : Int) - 1 - (k : Int)) = ((zs.length - 1 - k : Nat) : Int) := by omega
      have hge : (0 : Int) ≤ ((zs.length - 1 - k : Nat) : Int) := by omega
      have hlt2 : zs.length - 1 - k < zs.length := by omega
      obtain ⟨fn, tmps, assign, body, hy, hR⟩ := hY _ (bkF zs hz k) wr hJs (by rw [bkTo_length]; exact hlt)
      dsimp only [bkEnc, bkF] at hy
      have HI := Lib.hid hi
      rw [hi]
      clear hi
      generalize hm : zs.length - 1 - k = m at *
      have HM := Lib.hid hm
      clear hm
      gi_wp2
      refine hR.mono ?_
      rintro e W3 (⟨rfl, hJ3, hk3⟩ | ⟨rfl, hJx3⟩)
      · gi_wp2
        go_roundw
        case rel => exact ⟨k + 1, hlt, congrArg (Value.int .i64) (by have := HI.out; omega), by rw [bkTo_succ]; exact hJ3, hnx.trans hk3⟩
        case measure => first | (simp [intOf]; done) | (simp [intOf]; omega)
      · gi_wp2
        refine bodyPost_ret (results_none rfl _ _ _) rfl ?_
        exact ⟨⟨_, rfl⟩, .inr ⟨_, ⟨k + 1, by omega, (bkTo_succ _ _ _).symm⟩, hJx3⟩⟩
    · have hke : k = zs.length := by omega
      have hge : ¬ (0 : Int) ≤ ((zs.length : Int) - 1 - (k : Int)) := by omega
      have HK := Lib.hid hke
      clear hke
      rw [HK.out] at hJs
      generalize ((zs.length : Int) - 1 - (k : Int)) = iv at *
      gi_wp2
      go_end0
      exact ⟨⟨_, rfl⟩, .inl hJs⟩
theorem backward_in (F : Fence) (n : Nat) (h5 : F.fn 23) (hro : F.round = none) (a : Option Addr) (len cap : Nat) (w : World) :
    CallsIn F n Try.prog 23 #[.slice a len cap] w fun e w' => e = .returned (.func (.func 31) #[] #[.pointer (some ⟨w.heap.size, 0, none⟩)]) ∧ w' = w.alloc (.cells #[.slice a len cap] 25) := by
  refine callsIn_of_wp Try.func23 rfl h5 ?_ hro
  simp only [Try.ntmps23, List.size_toArray, List.length_cons, List.length_nil, Nat.reduceAdd, Nat.reduceSub, Array.replicate_succ, Array.replicate_zero, List.push_toArray, List.append_toArray, List.nil_append, List.cons_append]
  gi_wp2
  go_ret
  exact ⟨rfl, rfl⟩
theorem back_stops (F : Fence) (n : Nat) (h8 : F.fn 31) (hro : F.round = none) (hn : 1 ≤ n) (Bs n₀ : Nat) (a : Option Addr) (cap : Nat) (zs : List Int) (hz : Sm zs) (hlen : zs.length ≤ 60) (w : World) (hn₀ : n₀ ≤ w.heap.size)
    (hc : Boxed w Bs 25 (.slice a zs.length cap)) (hI : RdI w n₀ a zs) :
    SeqStopsK F n Try.prog 31 #[.pointer (some ⟨Bs, 0, none⟩)] bkEnc (KB n₀ Bs) (fun ys => ys = bkTo zs hz zs.length)
      (fun pre => ∃ k, k ≤ zs.length ∧ pre = bkTo zs hz k) zs.length w := fun l J Jx W hW _ _ hY h0 =>
  back1_in F n h8 hro hn l Bs n₀ a cap zs hz hlen J Jx hY W ((hW.block Bs hc.lt).trans hc) (Rd.below hI (hW.mono hn₀)) h0
end Go.Proofs.Ytkbhopcgjjipcaa
