/- RemoveEdge, KeepNodes: a map from ends to ends that the call owns. -/
import Derived.Test.YtlooinhdehkcdaaRmvE
import Derived.Maps.OwnSet
import Derived.Maps.OwnOps
import Derived.Maps.Views
import Derived.DeepKeys4
namespace Go.Proofs.Ytlooinhdehkcdaa
open Go.RowKit Go.Maps
set_option linter.unusedVariables false
set_option linter.unusedSimpArgs false
/-- an end as a value, as a datum -/
def eV (e : Int × Int) : Value := .agg #[.int .i64 e.1, .int .i64 e.2]
def eD (e : Int × Int) : DataW Unit := .agg [.lit (.int .i64 e.1), .lit (.int .i64 e.2)]
theorem eD_inj {e e' : Int × Int} (h : eD e = eD e') : e = e' := by
  obtain ⟨a, b⟩ := e
  obtain ⟨c, d⟩ := e'
  unfold eD at h
  simp only [DataW.agg.injEq, List.cons.injEq, DataW.lit.injEq, Lit.int.injEq, true_and, and_true] at h
  exact Prod.ext h.1 h.2
theorem eV_inj {e e' : Int × Int} (h : eV e = eV e') : e = e' := by
  obtain ⟨a, b⟩ := e
  obtain ⟨c, d⟩ := e'
  unfold eV at h
  simp only [Value.agg.injEq, Array.mk.injEq, List.cons.injEq, Value.int.injEq, true_and, and_true] at h
  exact Prod.ext h.1 h.2
/-- how an element reads -/
def elE : Value → Option (DataW Unit × List MemPlace)
  | .agg cs => match cs.toList with
    | [.int .i64 x, .int .i64 y] => some (eD (x, y), [])
    | _ => none
  | _ => none
theorem elE_eV (e : Int × Int) : elE (eV e) = some (eD e, []) := rfl
theorem elE_inv {v : Value} {z : DataW Unit × List MemPlace} (h : elE v = some z) : ∃ e, v = eV e ∧ z = (eD e, []) := by
  unfold elE at h
  split at h
  · rename_i cs
    split at h
    · rename_i x y hl
      refine ⟨(x, y), ?_, by injection h with h; exact h.symm⟩
      unfold eV
      rw [← hl]
    · cases h
  · cases h
def I64p (e : Int × Int) : Prop := (-9223372036854775808 ≤ e.1 ∧ e.1 ≤ 9223372036854775807) ∧ -9223372036854775808 ≤ e.2 ∧ e.2 ≤ 9223372036854775807
theorem wf_i64' {z : Int} (h : -9223372036854775808 ≤ z ∧ z ≤ 9223372036854775807) : (Lit.int .i64 z).wf = true := by
  simp [Lit.wf, IntKind.min, IntKind.max, IntKind.signed, IntKind.bits]
  omega
theorem ek_laid : laidOutB Try.prog = true := by kernel_rfl
theorem ek_row : (62 : TypeId) < Try.prog.types.size := of_decide_eq_true (by kernel_rfl)
set_option maxRecDepth 100000 in
theorem ek_wide : (match Try.prog.underlying 62 with | some (.array _ _) | some (.struct _) => true | _ => false) = true := by rw [Try.underlying62]
set_option maxRecDepth 100000 in
theorem ek_law : Keyed Try.prog 62 := Keyed.of_law (deep_law_laid ek_laid (m := 2) (by omega) ek_row (by kernel_rfl) ek_wide)
theorem ek_cells : Try.prog.cellsOf 62 = 2 := by kernel_rfl
theorem int_cells' : Try.prog.cellsOf 3 = 1 := by kernel_rfl
theorem end_zero9 (w : World) : (zeroValue 62).run Try.prog w = .ok (eV (0, 0)) w := by kernel_rfl
def kE (e : Int × Int) : Lit := .string (keyBytes [Lit.int .i64 e.1, Lit.int .i64 e.2])
theorem int_lits (d : Nat) {z : Int} (h : -9223372036854775808 ≤ z ∧ z ≤ 9223372036854775807) : Try.prog.keyLits (d + 1) 3 [.int .i64 z] = some [Lit.int .i64 z] := by
  unfold Program.keyLits
  rw [Try.underlying3]
  simp only
  rw [if_pos ⟨trivial, wf_i64' h⟩]
set_option maxRecDepth 100000 in
theorem keyOf_eV {e : Int × Int} (h : I64p e) : keyOf Try.prog 62 (eV e) = some (kE e) := by
  have hk : Try.prog.keyType 62 = true := by kernel_rfl
  have hf : (eV e).formed Try.prog 62 = true := by
    unfold eV Value.formed
    rw [Try.underlying62]
    simp only
    rw [ek_cells]
    rfl
  obtain ⟨d, hd⟩ : ∃ d, Try.prog.types.size = d + 1 := ⟨Try.prog.types.size - 1, by have : 0 < Try.prog.types.size := Nat.lt_of_le_of_lt (Nat.zero_le _) ek_row; omega⟩
  have hc : (eV e).cells.toList = [.int .i64 e.1, .int .i64 e.2] := rfl
  unfold keyOf
  rw [Try.underlying62]
  simp only
  rw [hk, hf, Bool.and_self, if_pos rfl, hc]
  unfold Program.keyLits
  rw [Try.underlying62]
  simp only
  rw [if_pos ⟨by rw [ek_cells]; rfl, by kernel_rfl⟩]
  simp only [List.mapM_cons, List.mapM_nil, int_cells', List.drop_zero, List.drop_succ_cons, List.take_succ_cons, List.take_zero, hd]
  rw [int_lits d h.1, int_lits d h.2]
  rfl
theorem kE_inj {e e' : Int × Int} (h : I64p e) (h' : I64p e') (he : kE e = kE e') : e = e' := by
  have h1 := keyOf_eV h
  have h2 := keyOf_eV h'
  rw [he] at h1
  exact eV_inj (ek_law.inj h1 h2)
/-- block b holds, for each end of has, its image by f -/
def PMap (w : World) (b n : Nat) (has : Int × Int → Prop) (f : Int × Int → Int × Int) : Prop :=
  ∃ D : DataW Unit, w.ownsMap Try.prog 62 elE b n D ∧ ∀ e, has e → I64p e ∧ D.atKey (kE e) (eD (0, 0)) = eD (f e)
theorem PMap.made (w : World) (f : Int × Int → Int × Int) : PMap (w.alloc (.map #[] 0)) w.heap.size 0 (fun _ => False) f :=
  ⟨.map [], World.ownsMap_made w _ _ _, fun e h => h.elim⟩
theorem PMap.mono {w : World} {b n n' : Nat} {has has' : Int × Int → Prop} {f : Int × Int → Int × Int} (h : PMap w b n has f) (hn : n ≤ n') (hh : ∀ e, has' e → has e) : PMap w b n' has' f := by
  obtain ⟨D, h1, h2⟩ := h
  exact ⟨D, h1.mono hn, fun e he => h2 e (hh e he)⟩
theorem PMap.lt {w : World} {b n : Nat} {has : Int × Int → Prop} {f : Int × Int → Int × Int} (h : PMap w b n has f) : b < w.heap.size := by
  obtain ⟨D, h1, _⟩ := h
  exact h1.lt
theorem ownsMap_block {P : Program} {k : TypeId} {R : Value → Option (DataW Unit × List MemPlace)} {w w' : World} {b n : Nat} {D : DataW Unit} (h : w.ownsMap P k R b n D) (hb : w'.heap[b]? = w.heap[b]?) : w'.ownsMap P k R b n D := by
  obtain ⟨es, c, e1, h2⟩ := h
  exact ⟨es, c, hb.trans e1, h2⟩
theorem PMap.block {w w' : World} {b n : Nat} {has : Int × Int → Prop} {f : Int × Int → Int × Int} (h : PMap w b n has f) (hb : w'.heap[b]? = w.heap[b]?) : PMap w' b n has f := by
  obtain ⟨D, h1, h2⟩ := h
  exact ⟨D, ownsMap_block h1 hb, h2⟩
theorem PMap.new {w w' : World} {b n : Nat} {has : Int × Int → Prop} {f : Int × Int → Int × Int} (h : PMap w b n has f) (hb : Below w.heap.size w w') : PMap w' b n has f := h.block (hb.block b h.lt)
theorem PMap.fr {C : Nat → Prop} {w w' : World} {b n : Nat} {has : Int × Int → Prop} {f : Int × Int → Int × Int} (h : PMap w b n has f) (hf : Fr C w w') (hc : ¬ C b) : PMap w' b n has f := h.block (hf.block b h.lt hc)
theorem PMap.ne_row {w : World} {b n : Nat} {has : Int × Int → Prop} {f : Int × Int → Int × Int} {lo hi s m cap : Nat} {t : TypeId} {a : Option Addr} {g : Nat → Value} (h : PMap w b n has f) (ho : Ow w lo hi t s a m cap g) : blk a cap ≠ some b := fun hk => by
  obtain ⟨D, ⟨es, c, e1, _⟩, _⟩ := h
  obtain ⟨hc, y, rfl, hy⟩ := blk_some hk
  obtain ⟨g1, F1, e2, _, _, ⟨c1, hr1, _⟩, _⟩ := ho.2.2 hc
  injection e2 with e2
  subst e2
  simp only at hy
  subst hy
  rw [e1] at hr1
  injection hr1 with hr1
  cases hr1
theorem PMap.ne_box {w : World} {b n x : Nat} {has : Int × Int → Prop} {f : Int × Int → Int × Int} {t : TypeId} {cs : Array Value} (h : PMap w b n has f) (ho : Bx w x t cs) : x ≠ b := fun hk => by
  obtain ⟨D, ⟨es, c, e1, _⟩, _⟩ := h
  subst hk
  unfold Bx at ho
  rw [e1] at ho
  injection ho with ho
  cases ho
/-- one end more is stored -/
theorem PMap.stored {w' : World} {b n : Nat} {has has' : Int × Int → Prop} {f : Int × Int → Int × Int} {D : DataW Unit} {e u : Int × Int} (hm : IsMap D) (h : ∀ e, has e → I64p e ∧ D.atKey (kE e) (eD (0, 0)) = eD (f e)) (he : I64p e) (hu : f e = u)
    (hh : ∀ x, has' x → has x ∨ x = e) (h1 : w'.ownsMap Try.prog 62 elE b (n + 1) (D.put (kE e) (eD u))) : PMap w' b (n + 1) has' f := by
  have hkl : WideAt.IsKeyLit (kE e) := ek_law.key (keyOf_eV he)
  refine ⟨_, h1, fun x hx => ?_⟩
  by_cases c : x = e
  · subst c
    exact ⟨he, by rw [atKey_put_same hm hkl, hu]⟩
  · have hx2 := h x ((hh x hx).resolve_right c)
    exact ⟨hx2.1, by rw [atKey_put_other (fun h3 => c (kE_inj hx2.1 he h3))]; exact hx2.2⟩
/-- 'm[k]' without ok, elements that are ends -/
theorem wpList_lookup_ownE {P : Program} (w : World) {ops : Array Oper} {rest : List Oper} {o : Oper} {a : Act} {Q : Exit → Act → World → Prop}
    (hg : o.guard = none) (m x : Operand) (t : TypeId) (hop : o.op = Op.lookup t m x false)
    (k e : TypeId) (K : Keyed P k) (ht : P.underlying t = some (.map k e)) (hz : (zeroValue e).run P w = .ok (eV (0, 0)) w) (b n : Nat) (D : DataW Unit)
    (hm : a.eval m = .map (some b)) (hown : w.ownsMap P k elE b n D) (key : Value) (kl : Lit) (hx : a.eval x = key) (hkey : keyOf P k key = some kl) (X Y : Int) (hu : D.atKey kl (eD (0, 0)) = eD (X, Y))
    (hK : wpList P ops Q rest (a.put o.dst (.agg #[.int .i64 X, .int .i64 Y])) w) :
    wpList P ops Q (o :: rest) a w := by
  refine wpList_plain hg fun K' hK' => ?_
  obtain ⟨v, ps, hrun, hv⟩ := hown.lookup K ht hz (elE_eV (0, 0)) hkey
  obtain ⟨u', rfl, hz2⟩ := elE_inv hv
  have hu2 : u' = (X, Y) := by
    injection hz2 with h1 _
    rw [hu] at h1
    exact (eD_inj h1).symm
  subst hu2
  unfold Oper.wp
  simp [execOp, hop, hm, hx, hrun, Result.andThen]
  exact hK' _ _ hK
end Go.Proofs.Ytlooinhdehkcdaa
