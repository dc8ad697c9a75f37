/- Words for memory: rows that are read, rows that the call owns, and what may have turned between two worlds. -/
import Derived.Test.YtlooinhdehkcdaaMem
import Derived.OpenShut
namespace Go.Proofs.Ytlooinhdehkcdaa
open Go.RowKit
set_option linter.unusedVariables false

/-- the j-th number of a list -/
def nth (zs : List Int) (j : Nat) : Int := zs.getD j 0
theorem nth_cons_zero (z : Int) (zs : List Int) : nth (z :: zs) 0 = z := rfl
theorem nth_cons_succ (z : Int) (zs : List Int) (j : Nat) : nth (z :: zs) (j + 1) = nth zs j := rfl
theorem nth_mem (zs : List Int) (j : Nat) (h : j < zs.length) : nth zs j ∈ zs := by
  unfold nth
  rw [List.getD_eq_getElem?_getD, List.getElem?_eq_getElem h]
  exact List.getElem_mem h
theorem nth_eq_getElem (zs : List Int) (j : Nat) (h : j < zs.length) : nth zs j = zs[j] := by
  unfold nth
  rw [List.getD_eq_getElem?_getD, List.getElem?_eq_getElem h]; rfl
theorem nth_append_left (xs ys : List Int) (j : Nat) (h : j < xs.length) : nth (xs ++ ys) j = nth xs j := by
  unfold nth; rw [List.getD_eq_getElem?_getD, List.getD_eq_getElem?_getD, List.getElem?_append_left h]
theorem nth_append_right (xs ys : List Int) (j : Nat) (h : xs.length ≤ j) : nth (xs ++ ys) j = nth ys (j - xs.length) := by
  unfold nth; rw [List.getD_eq_getElem?_getD, List.getD_eq_getElem?_getD, List.getElem?_append_right h]
theorem list_ext_nth {xs ys : List Int} (hl : xs.length = ys.length) (h : ∀ j, j < xs.length → nth xs j = nth ys j) : xs = ys := by
  apply List.ext_getElem hl
  intro j h1 h2
  have := h j h1
  rwa [nth_eq_getElem _ _ h1, nth_eq_getElem _ _ h2] at this
theorem take_snoc_nth (zs : List Int) (k : Nat) (h : k < zs.length) : zs.take (k + 1) = zs.take k ++ [nth zs k] := by
  rw [List.take_succ_eq_append_getElem h, nth_eq_getElem _ _ h]
theorem nth_take (zs : List Int) (k j : Nat) (h : j < k) : nth (zs.take k) j = nth zs j := by
  unfold nth; rw [List.getD_eq_getElem?_getD, List.getD_eq_getElem?_getD, List.getElem?_take_of_lt h]
theorem nth_drop (zs : List Int) (k j : Nat) : nth (zs.drop k) j = nth zs (k + j) := by
  unfold nth; rw [List.getD_eq_getElem?_getD, List.getD_eq_getElem?_getD, List.getElem?_drop]

/-- every number of the list is an int's -/
def I64s (zs : List Int) : Prop := ∀ z ∈ zs, -9223372036854775808 ≤ z ∧ z ≤ 9223372036854775807
theorem I64s.nth {zs : List Int} (h : I64s zs) (j : Nat) (hj : j < zs.length) : -9223372036854775808 ≤ nth zs j ∧ nth zs j ≤ 9223372036854775807 := h _ (nth_mem _ _ hj)

/-! ### what may have turned -/
structure Fr (C : Nat → Prop) (w w' : World) : Prop where
  os : w'.os = w.os
  tape : w'.tape = w.tape
  output : w'.output = w.output
  size : w.heap.size ≤ w'.heap.size
  block : ∀ k, k < w.heap.size → ¬ C k → w'.heap[k]? = w.heap[k]?
section
variable {C D : Nat → Prop} {w w' w'' : World}
theorem Fr.refl (C : Nat → Prop) (w : World) : Fr C w w := ⟨rfl, rfl, rfl, Nat.le_refl _, fun _ _ _ => rfl⟩
theorem Fr.trans (h : Fr C w w') (k : Fr C w' w'') : Fr C w w'' :=
  ⟨k.os.trans h.os, k.tape.trans h.tape, k.output.trans h.output, Nat.le_trans h.size k.size, fun i hi hc => (k.block i (Nat.lt_of_lt_of_le hi h.size) hc).trans (h.block i hi hc)⟩
theorem Fr.mono (h : Fr C w w') (hd : ∀ k, k < w.heap.size → C k → D k) : Fr D w w' :=
  ⟨h.os, h.tape, h.output, h.size, fun k hk hc => h.block k hk fun c => hc (hd k hk c)⟩
theorem Fr.of_below {B : Nat} (h : Below B w w') : Fr (fun k => B ≤ k) w w' := ⟨h.os, h.tape, h.output, h.size, fun k hk hc => h.block k (by omega)⟩
theorem Fr.of_new (h : Below w.heap.size w w') : Fr C w w' := ⟨h.os, h.tape, h.output, h.size, fun k hk hc => h.block k hk⟩
theorem Fr.of_grown {row : Option Nat} (h : w.grownBy w' row) : Fr (fun k => some k = row) w w' := ⟨h.os, h.tape, h.output, h.size, fun k hk hc => h.block k hk hc⟩
theorem Fr.below (h : Fr C w w') {B : Nat} (hc : ∀ k, k < B → k < w.heap.size → ¬ C k) (hB : B ≤ w.heap.size) : Below B w w' :=
  ⟨h.os, h.tape, h.output, h.size, fun k hk => h.block k (by omega) (hc k hk (by omega))⟩
theorem Fr.drew (h : Fr C w w') : Fr C w w'.drew := ⟨h.os, h.tape, h.output, h.size, h.block⟩
theorem Fr.drewN (h : Fr C w w') (n : Nat) : Fr C w (w'.drewN n) := ⟨h.os, h.tape, h.output, h.size, h.block⟩
theorem Fr.setCell (h : Fr C w w') {p : Addr} (hp : C p.block ∨ w.heap.size ≤ p.block) (u : Value) : Fr C w (w'.setCell p u) :=
  ⟨h.os, h.tape, h.output, by simpa [World.setCell] using h.size, fun k hk hc => (Below.heap_setCell _ _ _ _ (by
    rintro rfl
    rcases hp with hp | hp
    · exact hc hp
    · omega)).trans (h.block k hk hc)⟩
theorem Fr.alloc (h : Fr C w w') (o : Obj) : Fr C w (w'.alloc o) :=
  ⟨h.os, h.tape, h.output, by simpa using Nat.le_succ_of_le h.size, fun k hk hc => (Below.heap_alloc _ _ _ (Nat.lt_of_lt_of_le hk h.size)).trans (h.block k hk hc)⟩
end

/-! ### worlds that differ by draws alone -/
def Qt (w w' : World) : Prop := ∃ m, w' = w.drewN m
theorem Qt.refl (w : World) : Qt w w := ⟨0, rfl⟩
theorem Qt.trans {a b c : World} (h : Qt a b) (k : Qt b c) : Qt a c := by
  obtain ⟨m, rfl⟩ := h
  obtain ⟨n, rfl⟩ := k
  exact ⟨m + n, by rw [World.drewN_drewN]⟩
theorem Qt.drewN {a b : World} (h : Qt a b) (n : Nat) : Qt a (b.drewN n) := h.trans ⟨n, rfl⟩
theorem Qt.drew {a b : World} (h : Qt a b) : Qt a b.drew := h.trans ⟨1, rfl⟩
theorem Qt.cell {a b : World} (h : Qt a b) {p : Addr} {v : Value} (hc : a.cell? p = some v) : b.cell? p = some v := by obtain ⟨m, rfl⟩ := h; exact hc
theorem Qt.below {a b : World} (h : Qt a b) (B : Nat) : Below B a b := by obtain ⟨m, rfl⟩ := h; exact ⟨rfl, rfl, rfl, Nat.le_refl _, fun _ _ => rfl⟩
theorem Qt.le {a b : World} (h : Qt a b) : b.heap.size ≤ a.heap.size := by obtain ⟨m, rfl⟩ := h; exact Nat.le_refl _
/-! ### rows that are read -/
/-- the slice value '.slice a n _' reads, cell by cell, as f 0 .. f (n - 1) -/
def Rd (w : World) (B : Nat) (a : Option Addr) (n : Nat) (f : Nat → Value) : Prop :=
  0 < n → ∃ g off, a = some ⟨g, off, none⟩ ∧ g < B ∧ ∀ j, j < n → w.cell? ⟨g, off + j, none⟩ = some (f j)
def RdI (w : World) (B : Nat) (a : Option Addr) (zs : List Int) : Prop := Rd w B a zs.length fun j => .int .i64 (nth zs j)
section
variable {w w' : World} {B B' n m : Nat} {a : Option Addr} {f f' : Nat → Value} {C : Nat → Prop}
theorem Rd.at (h : Rd w B a n f) {j : Nat} (hj : j < n) : ∃ g off, a = some ⟨g, off, none⟩ ∧ g < B ∧ w.cell? ⟨g, off + j, none⟩ = some (f j) := by
  obtain ⟨g, off, ha, hg, hc⟩ := h (by omega)
  exact ⟨g, off, ha, hg, hc j hj⟩
theorem Rd.keep (h : Rd w B a n f) (hk : ∀ p : Addr, p.block < B → w'.cell? p = w.cell? p) : Rd w' B a n f := fun hn => by
  obtain ⟨g, off, ha, hg, hc⟩ := h hn
  exact ⟨g, off, ha, hg, fun j hj => (hk _ hg).trans (hc j hj)⟩
theorem Rd.below (h : Rd w B a n f) (hb : Below B w w') : Rd w' B a n f := h.keep fun p hp => hb.cell hp
theorem Rd.drewN (h : Rd w B a n f) (k : Nat) : Rd (w.drewN k) B a n f := h
theorem Rd.qt (h : Rd w B a n f) (hq : Qt w w') : Rd w' B a n f := by obtain ⟨m, rfl⟩ := hq; exact h
theorem Rd.more (h : Rd w B a n f) (hB : B ≤ B') : Rd w B' a n f := fun hn => by
  obtain ⟨g, off, ha, hg, hc⟩ := h hn
  exact ⟨g, off, ha, by omega, hc⟩
theorem Rd.take (h : Rd w B a n f) (hm : m ≤ n) : Rd w B a m f := fun hn => by
  obtain ⟨g, off, ha, hg, hc⟩ := h (by omega)
  exact ⟨g, off, ha, hg, fun j hj => hc j (by omega)⟩
theorem Rd.congr (h : Rd w B a n f) (e : ∀ j, j < n → f j = f' j) : Rd w B a n f' := fun hn => by
  obtain ⟨g, off, ha, hg, hc⟩ := h hn
  exact ⟨g, off, ha, hg, fun j hj => by rw [hc j hj, e j hj]⟩
theorem Rd.empty : Rd w B a 0 f := fun h => absurd h (by omega)
theorem Rd.lt (h : Rd w B a n f) : Rd w w.heap.size a n f := fun hn => by
  obtain ⟨g, off, ha, hg, hc⟩ := h hn
  exact ⟨g, off, ha, World.block_lt_of_cell? w _ (hc 0 hn), hc⟩
end

/-! ### rows that are the call's own -/
/-- the block that a slice value writes to -/
def blk (a : Option Addr) (cap : Nat) : Option Nat := if cap = 0 then none else a.map (·.block)
/-- the slice value '.slice a n cap' (elements of type e, size cells each) is a row of its own, in a block from lo on and below hi, whose first cells are f 0 .. ; without capacity its address says nothing -/
def Ow (w : World) (lo hi : Nat) (e : TypeId) (size : Nat) (a : Option Addr) (n cap : Nat) (f : Nat → Value) : Prop :=
  n ≤ cap ∧ cap ≤ maxLen ∧ (0 < cap → ∃ g F, a = some ⟨g, 0, none⟩ ∧ lo ≤ g ∧ g < hi ∧ w.rowIs g e (cap * size) F ∧ ∀ j, j < n * size → F j = f j)
def OwI (w : World) (lo hi : Nat) (a : Option Addr) (cap : Nat) (zs : List Int) : Prop := Ow w lo hi 3 1 a zs.length cap fun j => .int .i64 (nth zs j)
section
variable {w w' : World} {lo hi lo' hi' size n cap : Nat} {e : TypeId} {a : Option Addr} {f f' : Nat → Value} {C : Nat → Prop}
theorem Ow.keep (h : Ow w lo hi e size a n cap f) (hk : ∀ k, lo ≤ k → k < hi → k < w.heap.size → blk a cap = some k → w'.heap[k]? = w.heap[k]?) : Ow w' lo hi e size a n cap f := by
  obtain ⟨h1, h2, h3⟩ := h
  refine ⟨h1, h2, fun hc => ?_⟩
  obtain ⟨g, F, ha, hl, hh, hr, hf⟩ := h3 hc
  exact ⟨g, F, ha, hl, hh, hr.of_block (hk g hl hh hr.lt (by rw [blk, if_neg (by omega), ha]; rfl)), hf⟩
theorem Ow.fr (h : Ow w lo hi e size a n cap f) (hf : Fr C w w') (hc : ∀ k, lo ≤ k → k < hi → ¬ C k) : Ow w' lo hi e size a n cap f :=
  h.keep fun k h1 h2 h3 _ => hf.block k h3 (hc k h1 h2)
theorem Ow.new (h : Ow w lo hi e size a n cap f) (hf : Below w.heap.size w w') : Ow w' lo hi e size a n cap f := h.keep fun k _ _ h3 _ => hf.block k h3
theorem Ow.grown {row : Option Nat} (h : Ow w lo hi e size a n cap f) (hg : w.grownBy w' row) (hne : blk a cap = none ∨ blk a cap ≠ row) : Ow w' lo hi e size a n cap f :=
  h.keep fun k _ _ h3 hb => hg.block k h3 (by
    rcases hne with hn | hn
    · rw [hb] at hn; cases hn
    · rw [hb] at hn; exact hn)
theorem Ow.wide (h : Ow w lo hi e size a n cap f) (h1 : lo' ≤ lo) (h2 : hi ≤ hi') : Ow w lo' hi' e size a n cap f := by
  obtain ⟨g1, g2, h3⟩ := h
  refine ⟨g1, g2, fun hc => ?_⟩
  obtain ⟨g, F, ha, hl, hh, hr, hf⟩ := h3 hc
  exact ⟨g, F, ha, by omega, by omega, hr, hf⟩
theorem Ow.top (h : Ow w lo hi e size a n cap f) : Ow w lo w.heap.size e size a n cap f := by
  obtain ⟨g1, g2, h3⟩ := h
  refine ⟨g1, g2, fun hc => ?_⟩
  obtain ⟨g, F, ha, hl, hh, hr, hf⟩ := h3 hc
  exact ⟨g, F, ha, hl, hr.lt, hr, hf⟩
theorem Ow.rd (h : Ow w lo hi e 1 a n cap f) : Rd w hi a n f := fun hn => by
  obtain ⟨g1, g2, h3⟩ := h
  obtain ⟨g, F, ha, hl, hh, hr, hf⟩ := h3 (by omega)
  exact ⟨g, 0, ha, hh, fun j hj => by rw [Nat.zero_add, hr.cell (by omega), hf j (by omega)]⟩
theorem Ow.congr (h : Ow w lo hi e size a n cap f) (he : ∀ j, j < n * size → f j = f' j) : Ow w lo hi e size a n cap f' := by
  obtain ⟨g1, g2, h3⟩ := h
  refine ⟨g1, g2, fun hc => ?_⟩
  obtain ⟨g, F, ha, hl, hh, hr, hf⟩ := h3 hc
  exact ⟨g, F, ha, hl, hh, hr, fun j hj => (hf j hj).trans (he j hj)⟩
theorem Ow.nil (w : World) (lo hi : Nat) (e : TypeId) (size : Nat) (a : Option Addr) (f : Nat → Value) : Ow w lo hi e size a 0 0 f :=
  ⟨Nat.le_refl _, Nat.zero_le _, fun h => absurd h (by omega)⟩
theorem Ow.of_row {g : Nat} {F : Nat → Value} (hr : w.rowIs g e (cap * size) F) (hl : lo ≤ g) (hh : g < hi) (hn : n ≤ cap) (hm : cap ≤ maxLen) (hf : ∀ j, j < n * size → F j = f j) : Ow w lo hi e size (some ⟨g, 0, none⟩) n cap f :=
  ⟨hn, hm, fun _ => ⟨g, F, rfl, hl, hh, hr, hf⟩⟩
end
theorem blk_some {a : Option Addr} {cap k : Nat} (h : blk a cap = some k) : 0 < cap ∧ ∃ x, a = some x ∧ x.block = k := by
  unfold blk at h
  split at h
  · cases h
  · rename_i hc
    obtain ⟨x, hx, rfl⟩ := Option.map_eq_some_iff.1 h
    exact ⟨by omega, x, hx, rfl⟩
theorem Ow.blk_in {w : World} {lo hi : Nat} {e : TypeId} {size : Nat} {a : Option Addr} {n cap : Nat} {f : Nat → Value} (h : Ow w lo hi e size a n cap f) {k : Nat} (hb : blk a cap = some k) : lo ≤ k ∧ k < hi := by
  obtain ⟨hc, x, rfl, rfl⟩ := blk_some hb
  obtain ⟨_, _, h3⟩ := h
  obtain ⟨g, F, ha, hl, hh, _⟩ := h3 hc
  injection ha with ha
  subst ha
  exact ⟨hl, hh⟩
theorem Ow.frB {w w' : World} {lo hi : Nat} {e : TypeId} {size : Nat} {a : Option Addr} {n cap : Nat} {f : Nat → Value} {C : Nat → Prop} (h : Ow w lo hi e size a n cap f) (hf : Fr C w w') (hc : ∀ k, blk a cap = some k → ¬ C k) : Ow w' lo hi e size a n cap f :=
  h.keep fun k _ _ h3 hb => hf.block k h3 (hc k hb)
theorem Ow.alloc {w : World} {lo hi e size : Nat} {a : Option Addr} {n cap : Nat} {f : Nat → Value} (h : Ow w lo hi e size a n cap f) (o : Obj) : Ow (w.alloc o) lo hi e size a n cap f :=
  h.new ((Below.refl _ _).alloc (Nat.le_refl _) _)
/-- behind an append onto an own row nothing below has turned -/
theorem below_app {D lo hi e size : Nat} {w0 w w' : World} {a : Option Addr} {n cap : Nat} {f : Nat → Value} (hb : Below D w0 w) (ho : Ow w lo hi e size a n cap f) (hg : w.grownBy w' (blk a cap)) (hD : D ≤ lo) (hw : D ≤ w.heap.size) : Below D w0 w' :=
  hb.grown hg hw fun k hk => Nat.le_trans hD (ho.blk_in hk).1
theorem OwI.rd {w : World} {lo hi : Nat} {a : Option Addr} {cap : Nat} {zs : List Int} (h : OwI w lo hi a cap zs) : RdI w hi a zs := Ow.rd h

/-! ### a block that is known whole -/
def Bx (w : World) (b : Nat) (t : TypeId) (cs : Array Value) : Prop := w.heap[b]? = some (.cells cs t (0, 0))
section
variable {w w' : World} {b : Nat} {t : TypeId} {cs : Array Value}
theorem Bx.lt (h : Bx w b t cs) : b < w.heap.size := (Array.getElem?_eq_some_iff.1 h).1
theorem Bx.cell (h : Bx w b t cs) (i : Nat) (v : Value) (hi : cs[i]? = some v) : w.cell? ⟨b, i, none⟩ = some v := by
  unfold Bx at h; simp [World.cell?, h, hi]
theorem Bx.frozen (h : Bx w b t cs) (i : Nat) : w.frozen? ⟨b, i, none⟩ = false := by
  unfold Bx at h; simp [World.frozen?, h]
theorem Bx.made (w : World) (t : TypeId) (cs : Array Value) : Bx (w.alloc (.cells cs t)) w.heap.size t cs := heap_alloc_new w _
theorem Bx.alloc (h : Bx w b t cs) (o : Obj) : Bx (w.alloc o) b t cs := (Below.heap_alloc w o b h.lt).trans h
theorem Bx.new (h : Bx w b t cs) (hb : Below w.heap.size w w') : Bx w' b t cs := (hb.block b h.lt).trans h
theorem Bx.below {B : Nat} (h : Bx w b t cs) (hb : Below B w w') (hB : b < B) : Bx w' b t cs := (hb.block b hB).trans h
theorem Bx.fr {C : Nat → Prop} (h : Bx w b t cs) (hf : Fr C w w') (hc : ¬ C b) : Bx w' b t cs := (hf.block b h.lt hc).trans h
theorem Bx.qt (h : Bx w b t cs) (hq : Qt w w') : Bx w' b t cs := by obtain ⟨m, rfl⟩ := hq; exact h
theorem Bx.far (h : Bx w b t cs) {p : Addr} (hp : b ≠ p.block) (u : Value) : Bx (w.setCell p u) b t cs := (Below.heap_setCell w p u b hp).trans h
theorem Bx.set (h : Bx w b t cs) (i : Nat) (u : Value) : Bx (w.setCell ⟨b, i, none⟩ u) b t (cs.setIfInBounds i u) := by
  unfold Bx at h ⊢
  simp [World.setCell, Array.getElem?_modify, h]
end
theorem fr_set (w : World) (b o : Nat) (u : Value) : Fr (fun k => k = b) w (w.setCell ⟨b, o, none⟩ u) := Fr.setCell (C := fun k => k = b) (p := ⟨b, o, none⟩) (Fr.refl _ w) (.inl rfl) u
theorem size_set (w : World) (p : Addr) (u : Value) : (w.setCell p u).heap.size = w.heap.size := by simp [World.setCell]
/-- what the row's step tells of a slice of ints that came in -/
def IsRow (k : IntKind) (w : World) (a : Option Addr) (len cap : Nat) (zs : List Int) : Prop :=
  (a = none ∧ len = 0 ∧ cap = 0 ∧ zs = []) ∨
  ∃ x, a = some x ∧ len ≤ cap ∧ cap ≤ maxLen ∧ zs.length = cap ∧ (∀ i, i < zs.length → w.cell? (x.add i) = some (.int k (zs.getD i 0))) ∧ ∀ n ∈ zs, (Lit.int k n).wf = true
theorem IsRow.rd {w : World} {a : Option Addr} {len cap : Nat} {zs : List Int} (h : IsRow .i64 w a len cap zs) :
    ∃ ys : List Int, ys.length = len ∧ RdI w w.heap.size a ys ∧ I64s ys ∧ len ≤ maxLen := by
  rcases h with ⟨rfl, rfl, rfl, rfl⟩ | ⟨x, rfl, hl, hm, hz, hc, hw⟩
  · exact ⟨[], rfl, Rd.empty, fun z hz => by simp at hz, by simp [maxLen]⟩
  · have hlen : (zs.take len).length = len := by simp; omega
    refine ⟨zs.take len, hlen, fun hn => ?_, fun z hz => bounds_i64 (hw z (List.mem_of_mem_take hz)), by omega⟩
    obtain ⟨b, off, spot⟩ := x
    have h0 := hc 0 (by omega)
    have hspot : spot = none := by simpa [Addr.add] using World.cell?_spot h0
    subst hspot
    refine ⟨b, off, rfl, by simpa [Addr.add] using World.block_lt_of_cell? w _ h0, fun j hj => ?_⟩
    have := hc j (by omega)
    rw [Addr.add_lit] at this
    rw [this]; show _ = some (Value.int .i64 (nth (zs.take len) j)); rw [nth_take _ _ _ (by omega)]; rfl
end Go.Proofs.Ytlooinhdehkcdaa
