/- RegularTree: impl's walk; the law. -/
import Derived.Test.YtlooinhdehkcdaaTre
import Derived.Test.YtlooinhdehkcdaaUntil
import Derived.Test.YtlooinhdehkcdaaWith
import Derived.Deep.DeepCutAuto
namespace Go.Proofs.Ytlooinhdehkcdaa
open Go.RowKit
set_option linter.unusedVariables false
set_option linter.unusedSimpArgs false



/-- a network in a variable, and one more list of ints -/
def TI (w : World) (lo b : Nat) (N : Net) (ad : Option Addr) (cd : Nat) (ds : List Int) : Prop :=
  ∃ a c vs ai ci ap cp, Bx w b 29 #[.slice a N.ends.length c, .slice ai N.ids.length ci, .slice ap N.inputs.length cp] ∧ RowsE w lo w.heap.size a c N.ends vs ∧ OwI w lo w.heap.size ai ci N.ids ∧ OwI w lo w.heap.size ap cp N.inputs ∧ OwI w lo w.heap.size ad cd ds ∧ (blk ai ci = none ∨ blk ai ci ≠ blk ap cp) ∧ (blk ap cp = none ∨ blk ap cp ≠ blk ad cd) ∧ (blk ai ci = none ∨ blk ai ci ≠ blk ad cd)
theorem TI.nbx {w : World} {lo b : Nat} {N : Net} {ad : Option Addr} {cd : Nat} {ds : List Int} (h : TI w lo b N ad cd ds) : NBx w lo b N := by
  obtain ⟨a, c, vs, ai, ci, ap, cp, hbx, hE, owni, ownp, ownd, hdis, _⟩ := h
  exact ⟨a, c, vs, ai, ci, ap, cp, hbx, hE, owni, ownp, hdis⟩
theorem or_ne {x y y' : Option Nat} {k : Nat} (h : x = none ∨ x ≠ y) (hn : y' = y ∨ y' = some k) (hk : x ≠ some k) : x = none ∨ x ≠ y' := by
  rcases hn with rfl | rfl
  · exact h
  · exact .inr hk
def DsB (ds : List Int) : Prop := ∀ j, j < ds.length → 0 ≤ nth ds j ∧ nth ds j ≤ (j : Int)
theorem DsB_zero : DsB [0] := fun j hj => by
  obtain rfl : j = 0 := by simpa using hj
  decide
theorem DsB.snoc {ds : List Int} {v : Nat} (h : DsB ds) (hv : v < ds.length) : DsB (ds ++ [nth ds v + 1]) := fun j hj => by
  rw [List.length_append] at hj
  simp only [List.length_cons, List.length_nil] at hj
  by_cases e : j < ds.length
  · rw [nth_append_left _ _ _ e]; exact h j e
  · rw [nth_append_right _ _ _ (by omega), show j - ds.length = 0 by omega, nth_cons_zero]
    have := h v hv
    omega
theorem wrapT (n : Int) (h : -9223372036854775808 ≤ n ∧ n ≤ 9223372036854775807) : IntKind.i64.wrap n = n := by
  simp [IntKind.wrap, IntKind.bits, IntKind.signed]
  omega
theorem news1 (w : World) (t : TypeId) (b : Nat) (x : Value) (h : Bx w b t #[x]) : ∀ j u, [x][j]? = some u → w.cell? (Addr.add ⟨b, 0, none⟩ j) = some u := by
  intro j u hj
  match j, hj with
  | 0, hj => rw [Addr.add_lit]; exact h.cell 0 _ hj
  | n + 1, hj => simp at hj
/-- what a region's operations keep: the variable, its three lists, one more list of ints, the result's variable -/
def RG (w : World) (lo b : Nat) (ai : Option Addr) (ci : Nat) (ids : List Int) (cs : Array Value) (X : World) (aE : Option Addr) (cE : Nat) (rows : Rows2) (vs : Nat → Option Addr × Nat) (aP : Option Addr) (cP : Nat) (ins : List Int) (aD : Option Addr) (cD : Nat) (ds : List Int) : Prop :=
  Bx X b 29 cs ∧ RowsE X lo X.heap.size aE cE rows vs ∧ OwI X lo X.heap.size ai ci ids ∧ OwI X lo X.heap.size aP cP ins ∧ OwI X lo X.heap.size aD cD ds ∧ (blk ai ci = none ∨ blk ai ci ≠ blk aP cP) ∧ (blk aP cP = none ∨ blk aP cP ≠ blk aD cD) ∧ (blk ai ci = none ∨ blk ai ci ≠ blk aD cD) ∧
    Bx X w.heap.size 29 #[.slice none 0 0, .slice none 0 0, .slice none 0 0] ∧ Below w.heap.size w X ∧ lo ≤ X.heap.size ∧ w.heap.size < lo ∧ lo ≤ b
section
variable {w X X' : World} {lo b ci cE cP cD u g c' : Nat} {ai aE aP aD : Option Addr} {ids ins ds : List Int} {cs : Array Value} {rows : Rows2} {vs : Nat → Option Addr × Nat} {z : Int}
theorem RG.new (h : RG w lo b ai ci ids cs X aE cE rows vs aP cP ins aD cD ds) (hb : Below X.heap.size X X') : RG w lo b ai ci ids cs X' aE cE rows vs aP cP ins aD cD ds := by
  obtain ⟨h1, h2, h3, h4, h5, h6, h7, h8, h9, h10, h11, h12, h13⟩ := h
  exact ⟨h1.new hb, RowsAt.top (RowsAt.new h2 hb), Ow.top (Ow.new h3 hb), Ow.top (Ow.new h4 hb), Ow.top (Ow.new h5 hb), h6, h7, h8, h9.new hb, h10.trans (hb.mono h10.size), Nat.le_trans h11 hb.size, h12, h13⟩
theorem RG.lo_ (h : RG w lo b ai ci ids cs X aE cE rows vs aP cP ins aD cD ds) : lo ≤ X.heap.size := h.2.2.2.2.2.2.2.2.2.2.1
theorem RG.E (h : RG w lo b ai ci ids cs X aE cE rows vs aP cP ins aD cD ds) (hu : rows.length = u) : Ow X lo X.heap.size 60 1 aE u cE (fun j => .slice (vs j).1 (rowOf rows j).length (vs j).2) := by subst hu; exact h.2.1.1
theorem RG.P (h : RG w lo b ai ci ids cs X aE cE rows vs aP cP ins aD cD ds) (hu : ins.length = u) : Ow X lo X.heap.size 3 1 aP u cP (fun j => .int .i64 (nth ins j)) := by subst hu; exact h.2.2.2.1
theorem RG.D (h : RG w lo b ai ci ids cs X aE cE rows vs aP cP ins aD cD ds) (hu : ds.length = u) : Ow X lo X.heap.size 3 1 aD u cD (fun j => .int .i64 (nth ds j)) := by subst hu; exact h.2.2.2.2.1
theorem RG.ends (h : RG w lo b ai ci ids cs X aE cE rows vs aP cP ins aD cD ds) (hu : rows.length = u) (hg : X.grownBy X' (blk aE cE))
    (ho : Ow X' lo X'.heap.size 60 1 (some ⟨g, 0, none⟩) (u + 1) c' (app (fun j => .slice (vs j).1 (rowOf rows j).length (vs j).2) (u * 1) [.slice none 0 0])) : ∃ v', RG w lo b ai ci ids cs X' (some ⟨g, 0, none⟩) c' (rows ++ [[]]) v' aP cP ins aD cD ds := by
  subst hu
  obtain ⟨h1, h2, h3, h4, h5, h6, h7, h8, h9, h10, h11, h12, h13⟩ := h
  have hf : Fr (fun x => some x = blk aE cE) X X' := Fr.of_grown hg
  have hE3 := RowsAt.snoc (r := ([] : List (Int × Int))) (b := none) (cb := 0) h2 (by decide) (Ow.nil _ _ _ _ _ _ _) h11 (Nat.le_refl _) hg ho
  have hi : ∀ {a2 : Option Addr} {n2 c2 lo2 hi2 : Nat} {f2 : Nat → Value}, Ow X lo2 hi2 3 1 a2 n2 c2 f2 → Ow X' lo2 hi2 3 1 a2 n2 c2 f2 := fun hx => Ow.frB hx hf (fun x hk hc => ne_of_or (h2.1.ne_of_type hx (by decide)) hc.symm hk)
  have hz := hf.size
  exact ⟨_, h1.fr hf (fun hc => h1.ne_row h2.1 (by decide) hc.symm), hE3, Ow.top (hi h3), Ow.top (hi h4), Ow.top (hi h5), h6, h7, h8, h9.fr hf (fun hc => h9.ne_row h2.1 (by decide) hc.symm), h10.trans (hf.below (B := w.heap.size) (fun x _ _ hc => by have := (h2.1.blk_in hc.symm).1; omega) h10.size), Nat.le_trans h11 hz, h12, h13⟩
theorem RG.inputs (h : RG w lo b ai ci ids cs X aE cE rows vs aP cP ins aD cD ds) (hu : ins.length = u) (hg : X.grownBy X' (blk aP cP)) (hn : blk aP cP = some g ∨ g = X.heap.size)
    (ho : Ow X' lo X'.heap.size 3 1 (some ⟨g, 0, none⟩) (u + 1) c' (app (fun j => .int .i64 (nth ins j)) (u * 1) [.int .i64 z])) : RG w lo b ai ci ids cs X' aE cE rows vs (some ⟨g, 0, none⟩) c' (ins ++ [z]) aD cD ds := by
  subst hu
  obtain ⟨h1, h2, h3, h4, h5, h6, h7, h8, h9, h10, h11, h12, h13⟩ := h
  have hf : Fr (fun x => some x = blk aP cP) X X' := Fr.of_grown hg
  have hb : blk (some (⟨g, 0, none⟩ : Addr)) c' = some g := by have := ho.1; rw [blk, if_neg (by omega)]; rfl
  have hn2 : blk (some (⟨g, 0, none⟩ : Addr)) c' = blk aP cP ∨ blk (some (⟨g, 0, none⟩ : Addr)) c' = some X.heap.size := by rw [hb]; exact hn.imp (fun h => h.symm) (fun h => by rw [h])
  have hpd : blk (some (⟨g, 0, none⟩ : Addr)) c' = none ∨ blk (some (⟨g, 0, none⟩ : Addr)) c' ≠ blk aD cD := by
    rcases hn2 with hn3 | hn3
    · rw [hn3]; exact h7
    · refine .inr fun he => ?_
      have := (Ow.blk_in h5 (he.symm.trans hn3)).2
      omega
  have hz := hf.size
  exact ⟨h1.fr hf (fun hc => h1.ne_row h4 (by decide) hc.symm), RowsAt.top (RowsAt.frB h2 hf (fun x hx hc => ne_of_or (h2.1.ne_of_type h4 (by decide)) hx hc.symm) (fun j hj x hx hc => ne_of_or ((h2.2.1 j hj).ne_of_type h4 (by decide)) hx hc.symm)), Ow.top (Ow.frB h3 hf (fun x hx hc => ne_of_or h6 hx hc.symm)), OwI.snoc ho, Ow.top (Ow.frB h5 hf (fun x hx hc => ne_of_or h7 hc.symm hx)),
    or_ne h6 hn2 (fun hc => by have := (Ow.blk_in h3 hc).2; omega), hpd, h8, h9.fr hf (fun hc => h9.ne_row h4 (by decide) hc.symm), h10.trans (hf.below (B := w.heap.size) (fun x _ _ hc => by have := (Ow.blk_in h4 hc.symm).1; omega) h10.size), Nat.le_trans h11 hz, h12, h13⟩
theorem RG.dep (h : RG w lo b ai ci ids cs X aE cE rows vs aP cP ins aD cD ds) (hu : ds.length = u) (hg : X.grownBy X' (blk aD cD)) (hn : blk aD cD = some g ∨ g = X.heap.size)
    (ho : Ow X' lo X'.heap.size 3 1 (some ⟨g, 0, none⟩) (u + 1) c' (app (fun j => .int .i64 (nth ds j)) (u * 1) [.int .i64 z])) : RG w lo b ai ci ids cs X' aE cE rows vs aP cP ins (some ⟨g, 0, none⟩) c' (ds ++ [z]) := by
  subst hu
  obtain ⟨h1, h2, h3, h4, h5, h6, h7, h8, h9, h10, h11, h12, h13⟩ := h
  have hf : Fr (fun x => some x = blk aD cD) X X' := Fr.of_grown hg
  have hb : blk (some (⟨g, 0, none⟩ : Addr)) c' = some g := by have := ho.1; rw [blk, if_neg (by omega)]; rfl
  have hn2 : blk (some (⟨g, 0, none⟩ : Addr)) c' = blk aD cD ∨ blk (some (⟨g, 0, none⟩ : Addr)) c' = some X.heap.size := by rw [hb]; exact hn.imp (fun h => h.symm) (fun h => by rw [h])
  have hz := hf.size
  exact ⟨h1.fr hf (fun hc => h1.ne_row h5 (by decide) hc.symm), RowsAt.top (RowsAt.frB h2 hf (fun x hx hc => ne_of_or (h2.1.ne_of_type h5 (by decide)) hx hc.symm) (fun j hj x hx hc => ne_of_or ((h2.2.1 j hj).ne_of_type h5 (by decide)) hx hc.symm)), Ow.top (Ow.frB h3 hf (fun x hx hc => ne_of_or h8 hx hc.symm)), Ow.top (Ow.frB h4 hf (fun x hx hc => ne_of_or h7 hx hc.symm)), OwI.snoc ho,
    h6, or_ne h7 hn2 (fun hc => by have := (Ow.blk_in h4 hc).2; omega), or_ne h8 hn2 (fun hc => by have := (Ow.blk_in h3 hc).2; omega), h9.fr hf (fun hc => h9.ne_row h5 (by decide) hc.symm), h10.trans (hf.below (B := w.heap.size) (fun x _ _ hc => by have := (Ow.blk_in h5 hc.symm).1; omega) h10.size), Nat.le_trans h11 hz, h12, h13⟩
theorem RG.fin {x y : Value} (h : RG w lo b ai ci ids #[x, .slice ai ids.length ci, y] X aE cE rows vs aP cP ins aD cD ds) (hu : rows.length = u) (hu2 : ins.length = u) :
    TI ((X.setCell ⟨b, 0, none⟩ (.slice aE u cE)).setCell ⟨b, 2, none⟩ (.slice aP u cP)) lo b { ends := rows, ids := ids, inputs := ins } aD cD ds ∧ Bx ((X.setCell ⟨b, 0, none⟩ (.slice aE u cE)).setCell ⟨b, 2, none⟩ (.slice aP u cP)) w.heap.size 29 #[.slice none 0 0, .slice none 0 0, .slice none 0 0] ∧ Below w.heap.size w ((X.setCell ⟨b, 0, none⟩ (.slice aE u cE)).setCell ⟨b, 2, none⟩ (.slice aP u cP)) ∧ lo ≤ ((X.setCell ⟨b, 0, none⟩ (.slice aE u cE)).setCell ⟨b, 2, none⟩ (.slice aP u cP)).heap.size := by
  subst hu
  obtain ⟨h1, h2, h3, h4, h5, h6, h7, h8, h9, h10, h11, h12, h13⟩ := h
  have hs : Fr (fun k => k = b) X ((X.setCell ⟨b, 0, none⟩ (.slice aE rows.length cE)).setCell ⟨b, 2, none⟩ (.slice aP rows.length cP)) := (fr_set X b 0 _).trans (fr_set _ b 2 _)
  have hi : ∀ {t2 s2 n2 c2 lo2 hi2 : Nat} {a2 : Option Addr} {f2 : Nat → Value}, t2 ≠ 29 → Ow X lo2 hi2 t2 s2 a2 n2 c2 f2 → ∀ k, blk a2 c2 = some k → ¬ k = b := fun ht hx k hk hc => h1.ne_row hx (fun e => ht e.symm) (hc ▸ hk)
  have hb2 := (h1.set 0 (.slice aE rows.length cE)).set 2 (.slice aP rows.length cP)
  refine ⟨⟨aE, cE, vs, ai, ci, aP, cP, ?_, RowsAt.top (RowsAt.frB h2 hs (hi (by decide) h2.1) (fun j hj => hi (by decide) (h2.2.1 j hj))), Ow.top (Ow.frB h3 hs (hi (by decide) h3)), Ow.top (Ow.frB h4 hs (hi (by decide) h4)), Ow.top (Ow.frB h5 hs (hi (by decide) h5)), h6, h7, h8⟩, h9.fr hs (by omega), h10.trans (hs.below (B := w.heap.size) (fun k _ _ hc => by omega) h10.size), Nat.le_trans h11 hs.size⟩
  show Bx _ b _ #[.slice aE rows.length cE, .slice ai ids.length ci, .slice aP ins.length cP]
  rw [hu2]
  exact hb2
end
set_option maxRecDepth 100000 in
set_option maxHeartbeats 6400000 in
theorem implRT_any (d p : Int) (w : World) (hd : -9223372036854775808 ≤ d ∧ d ≤ 9223372036854775807) (hp : -9223372036854775808 ≤ p ∧ p ≤ 9223372036854775807) :
    Calls Try.prog 20 #[.int .i64 d, .int .i64 p] w (PostN (rtR d p) (rtOk d p) w) := by
  have BR := Bx.made w 29 #[.slice none 0 0, .slice none 0 0, .slice none 0 0]
  have bb : Below w.heap.size w (w.alloc (.cells #[.slice none 0 0, .slice none 0 0, .slice none 0 0] 29)) := (by repeat (first | exact Below.refl _ _ | assumption | refine Below.alloc ?_ (by first | (simp; done) | (simp; omega) | omega) _ | refine Below.setCell ?_ (by first | (simp; done) | (simp; omega) | omega) _ | refine Below.drew ?_ | refine Below.drewN ?_ _))
  have z0 : w.heap.size + 1 ≤ (w.alloc (.cells #[.slice none 0 0, .slice none 0 0, .slice none 0 0] 29)).heap.size := by simp
  cases hb : rtB d p with
  | false =>
    have HF := Lib.hid (rtE_f hb)
    rcases rtB_cases hb with h1 | ⟨h1, h2⟩ | ⟨h1, h2, h3, h4⟩
    all_goals
      clear hb
      go_enter Try.func20, Try.ntmps20
      go_upto_region 2 with fail
      generalize w.alloc (.cells #[.slice none 0 0, .slice none 0 0, .slice none 0 0] 29) = w0 at *
      have e0 := BR.cell 0 _ rfl
      have e1 := BR.cell 1 _ rfl
      have e2 := BR.cell 2 _ rfl
      have f0 := BR.frozen 0
      have f1 := BR.frozen 1
      have f2 := BR.frozen 2
      go_wp2_with fail
      clear e0 e1 e2 f0 f1 f2
      generalize hW : World.setCell _ _ _ = W
      have B6 : Bx W (w.heap.size) 29 #[.slice none 0 0, .slice none 0 0, .slice none 0 0] := by rw [← hW]; exact ((BR.set 0 _).set 1 _).set 2 _
      have fr6 : Fr (fun k => k = w.heap.size) w0 W := by rw [← hW]; exact fr3 _ _ _ _ _
      clear hW
      have z6 := fr6.size
      have d0 := B6.cell 0 _ rfl
      have d1 := B6.cell 1 _ rfl
      have d2 := B6.cell 2 _ rfl
      refine bodyPost_ret (v := .tuple #[.agg #[.slice none 0 0, .slice none 0 0, .slice none 0 0], .bool false]) (by simp [results, Try.results20, go_sem, d0, d1, d2]) rfl ?_
      rw [rtR, rtOk, HF.out]
      exact ⟨_, rfl, NetAt.nilN _ _ _, bb.trans (fr6.below (fun k h1 h2 hc => by omega) bb.size)⟩
  | true =>
  have HRT := Lib.hid (rtE_t hb)
  obtain ⟨h0, h1, h2⟩ := rtB_true hb
  have g0 : ¬ d < 0 := by omega
  have g1 : ¬ p < 0 := by omega
  obtain ⟨R, hR⟩ : ∃ R, R = rtE d p := ⟨_, rfl⟩
  rw [← hR] at HRT
  have HR := Lib.hid hR
  clear hR hb
  by_cases h6 : 6 < d
  all_goals
    try have g2 : ¬ 0 < p := by omega
    clear h2
    go_enter Try.func20, Try.ntmps20
    go_wp2_with fail
    try clear g2
    generalize w.alloc (.cells #[.slice none 0 0, .slice none 0 0, .slice none 0 0] 29) = w0 at *
    refine (emptyNetwork_any 1 _).mono ?_
    rintro e w1 ⟨v1, rfl, own1, bel1⟩
    replace own1 : NetAt w1 w0.heap.size w1.heap.size v1 (emptyN 1) := own1
    obtain ⟨a1, c1, vs1, ai1, ci1, ap1, cp1, rfl, hE, owni, ownp, hdis⟩ := own1
    replace BR := BR.new bel1
    have z1 := bel1.size
    replace bb := bb.trans (bel1.mono bb.size)
    obtain ⟨lo, hlo0⟩ : ∃ lo, lo = w0.heap.size := ⟨_, rfl⟩
    rw [← hlo0] at hE owni ownp
    have zl : w.heap.size + 1 ≤ lo := by omega
    have zl2 : lo ≤ w1.heap.size := by omega
    clear bel1 hlo0
    have hel1 : (emptyN 1).ends.length = 1 := rfl
    have BO := Bx.made w1 29 #[.slice a1 (emptyN 1).ends.length c1, .slice ai1 (emptyN 1).ids.length ci1, .slice ap1 (emptyN 1).inputs.length cp1]
    have b2 : Below w1.heap.size w1 (w1.alloc (.cells #[.slice a1 (emptyN 1).ends.length c1, .slice ai1 (emptyN 1).ids.length ci1, .slice ap1 (emptyN 1).inputs.length cp1] 29)) := (by repeat (first | exact Below.refl _ _ | assumption | refine Below.alloc ?_ (by first | (simp; done) | (simp; omega) | omega) _ | refine Below.setCell ?_ (by first | (simp; done) | (simp; omega) | omega) _ | refine Below.drew ?_ | refine Below.drewN ?_ _))
    clear hel1
    go_upto_region 4 with fail
    generalize w1.alloc (.cells #[.slice a1 (emptyN 1).ends.length c1, .slice ai1 (emptyN 1).ids.length ci1, .slice ap1 (emptyN 1).inputs.length cp1] 29) = w2 at *
    obtain ⟨b, hb⟩ : ∃ b, b = w1.heap.size := ⟨_, rfl⟩
    rw [← hb] at BO ⊢
    replace BR := BR.new b2
    replace bb := bb.trans (b2.mono bb.size)
    have zlo : lo ≤ w2.heap.size := Nat.le_trans zl2 b2.size
    have zb : lo ≤ b := by omega
    replace hE := RowsAt.top (RowsAt.new hE b2)
    replace owni := Ow.top (Ow.new owni b2)
    replace ownp := Ow.top (Ow.new ownp b2)
    clear hb b2 zl2 z1 z0
    have b3 : Below w2.heap.size w2 (w2.alloc (.cells #[.int .i64 0] 3)) := (by repeat (first | exact Below.refl _ _ | assumption | refine Below.alloc ?_ (by first | (simp; done) | (simp; omega) | omega) _ | refine Below.setCell ?_ (by first | (simp; done) | (simp; omega) | omega) _ | refine Below.drew ?_ | refine Below.drewN ?_ _))
    have BL := Bx.made w2 3 #[.int .i64 0]
    have hown : OwI (w2.alloc (.cells #[.int .i64 0] 3)) lo (w2.alloc (.cells #[.int .i64 0] 3)).heap.size (some ⟨w2.heap.size, 0, none⟩) 1 [0] := by
      refine Ow.of_row (F := fun _ => .int .i64 0) ⟨_, BL, rfl, fun i hi => ?_⟩ zlo (by simp) (Nat.le_refl _) (by decide) fun j hj => ?_
      · match i, hi with
        | 0, _ => rfl
      · obtain rfl : j = 0 := by simpa using hj
        rfl
    have hnk : ∀ {x : Option Addr} {cx n2 : Nat} {f2 : Nat → Value}, Ow w2 lo w2.heap.size 3 1 x n2 cx f2 → (blk x cx = none ∨ blk x cx ≠ blk (some (⟨w2.heap.size, 0, none⟩ : Addr)) 1) := fun {x cx n2 f2} h => by
      cases hk : blk x cx with
      | none => exact .inl rfl
      | some y =>
        refine .inr fun he => ?_
        have h8 := (Ow.blk_in h hk).2
        have h7 : y = w2.heap.size := by simpa [blk] using he
        omega
    have hTI : TI (w2.alloc (.cells #[.int .i64 0] 3)) lo b (treeN []) (some ⟨w2.heap.size, 0, none⟩) 1 [0] :=
      ⟨a1, c1, vs1, ai1, ci1, ap1, cp1, BO.new b3, RowsAt.top (RowsAt.new hE b3), Ow.top (Ow.new owni b3), Ow.top (Ow.new ownp b3), hown, hdis, hnk ownp, hnk owni⟩
    replace BR := BR.new b3
    replace bb := bb.trans (b3.mono bb.size)
    replace zlo := Nat.le_trans zlo b3.size
    clear BL hown b3 hnk hE owni ownp hdis BO
    go_upto_region 5 with fail
    generalize w2.alloc (.cells #[.int .i64 0] 3) = w3 at *
    obtain ⟨gl, hgl⟩ : ∃ gl, gl = w2.heap.size := ⟨_, rfl⟩
    rw [← hgl] at hTI ⊢
    clear hgl
    go_wp2_with fail
    go_loopw [8, 9] (fun dv vv wr => ∃ (es : List Nat) (ds : List Int) (v f : Nat) (ad : Option Addr) (cd : Nat), dv = .slice ad (es.length + 1) cd ∧ vv = .int .i64 v ∧ f + es.length + v = 100 ∧ runI d p f es ds v 0 = R ∧ v ≤ es.length + 1 ∧ es.length ≤ 39 ∧ Hang es ∧ ds.length = es.length + 1 ∧ DsB ds ∧ TI wr lo b (treeN es) ad cd ds ∧ Bx wr w.heap.size 29 #[.slice none 0 0, .slice none 0 0, .slice none 0 0] ∧ Below w.heap.size w wr ∧ lo ≤ wr.heap.size) (fun _ vv _ => 50 - (intOf vv).toNat)
    case atStart => exact ⟨[], [0], 0, 100, _, _, rfl, rfl, rfl, HRT.out.symm, by simp, by simp, fun j hj => absurd hj (by simp), rfl, DsB_zero, hTI, BR, bb, zlo⟩
    case round =>
      clear hTI BR bb zlo
      obtain ⟨es, ds, v, f, ad, cd, rfl, rfl, hf, hrun, hvu, hes, hH, hdl, hDB, hTI, BR, bb, zlo⟩ := hrel
      have HH := Lib.hid hH
      have HRN := Lib.hid hrun
      have HDL := Lib.hid hdl
      have HDB := Lib.hid hDB
      have hf1 := Nat.le_of_eq hf
      have hf2 := Nat.le_of_eq hf.symm
      clear hH hrun hdl hDB hf
      have hTI2 := Lib.hid hTI
      obtain ⟨a, c, vs, ai, ci, ap, cp, hbx, hE, owni, ownp, ownd, hdis, hdpd, hdid⟩ := hTI
      rw [treeN_length] at hbx
      have q0 := hbx.cell 0 _ rfl
      clear hbx hE owni ownp ownd hdis hdpd hdid
      obtain ⟨f, rfl⟩ : ∃ f', f = f' + 1 := ⟨f - 1, by omega⟩
      by_cases hlt : v < es.length + 1
      · skip
        have hltI : decide ((v : Int) < (es.length : Int) + 1) = true := decide_eq_true (by omega)
        go_upto_if 42 with fail
        clear q0 hltI
        go_cut [10] (fun cv W => cv = .int .i64 (chl d v) ∧ W = wr)
        case first =>
          by_cases hvz : v = 0
          · have hv0 : ((v : Int) == 0) = true := beq_iff_eq.2 (by omega)
            have HCH := Lib.hid (show d = chl d v by rw [chl, if_pos hvz])
            clear hvz
            go_wp2_with fail
            go_meet
            exact ⟨by rw [← HCH.out], rfl⟩
          · have hv0 : ((v : Int) == 0) = false := beq_eq_false_iff_ne.2 (by omega)
            have HCH := Lib.hid (show d - 1 = chl d v by rw [chl, if_neg hvz])
            clear hvz
            go_wp2_with fail
            go_meet
            exact ⟨by rw [← HCH.out], rfl⟩
        case rest =>
        obtain ⟨rfl, hwW⟩ := hcut
        subst hwW
        obtain ⟨ch, hch⟩ : ∃ ch, ch = chl d v := ⟨_, rfl⟩
        have hchd : ch ≤ d := by rw [hch, chl]; split <;> omega
        rw [← hch]
        have HCH := Lib.hid hch.symm
        clear hch
        go_wp2_with fail
        go_loopw [8, 11] (fun dv cv wr => ∃ (es : List Nat) (ds : List Int) (c f : Nat) (ad : Option Addr) (cd : Nat), dv = .slice ad (es.length + 1) cd ∧ cv = .int .i64 c ∧ f + es.length + v = 100 ∧ runI d p f es ds v c = R ∧ v < es.length + 1 ∧ es.length ≤ 39 ∧ Hang es ∧ ds.length = es.length + 1 ∧ DsB ds ∧ TI wr lo b (treeN es) ad cd ds ∧ Bx wr w.heap.size 29 #[.slice none 0 0, .slice none 0 0, .slice none 0 0] ∧ Below w.heap.size w wr ∧ lo ≤ wr.heap.size) (fun _ cv _ => (ch).toNat - (intOf cv).toNat)
        case atStart => exact ⟨es, ds, 0, f + 1, ad, cd, rfl, rfl, by omega, HRN.out, hlt, hes, HH.out, HDL.out, HDB.out, hTI2.out, BR, bb, zlo⟩
        case round =>
          clear hTI2 BR bb zlo HH HRN HDL HDB hf1 hf2 hes hlt
          obtain ⟨es, ds, c, f, ad, cd, rfl, rfl, hf, hrun, hlt, hes, hH, hdl, hDB, hTI, BR, bb, zlo⟩ := hrel
          have HH := Lib.hid hH
          have HRN := Lib.hid hrun
          have HDL := Lib.hid hdl
          have HDB := Lib.hid hDB
          have hvd := hDB v (by omega)
          have hf1 := Nat.le_of_eq hf
          have hf2 := Nat.le_of_eq hf.symm
          obtain ⟨f, rfl⟩ : ∃ f', f = f' + 1 := ⟨f - 1, by omega⟩
          obtain ⟨u, hu⟩ : ∃ u, u = es.length + 1 := ⟨_, rfl⟩
          have HU := Lib.hid hu
          have HDLU := Lib.hid (show ds.length = u by omega)
          have zu : u ≤ 40 := by omega
          have zuv : v < u := by omega
          have hvd2 : nth ds v ≤ 40 := by omega
          have hvd1 : 0 ≤ nth ds v := by omega
          have HTI := Lib.hid hTI
          obtain ⟨a, ce, vs, ai, ci, ap, cp, hbx, hE, owni, ownp, ownd, hdis, hdpd, hdid⟩ := hTI
          have HEL := Lib.hid (show (treeN es).ends.length = u by rw [treeN_length]; exact hu.symm)
          have HPL := Lib.hid (show (treeN es).inputs.length = u by rw [treeN_inputs]; exact hu.symm)
          have HIL0 := Lib.hid (show (treeN es).ids.length = 0 by rw [treeN_ids]; rfl)
          rw [HEL.out, HPL.out, HIL0.out] at hbx
          obtain ⟨A, hA, _, _⟩ := Ow.addr hE.1 (by rw [HEL.out]; omega)
          obtain ⟨gd, hgd, _, _⟩ := Ow.addr ownd (by omega)
          subst hA
          subst hgd
          have RdD := Lib.hid (fun (X : World) (H0 : Nat) (h : OwI X lo H0 (some ⟨gd, 0, none⟩) cd ds) => show X.cell? ⟨gd, v, none⟩ = some (.int .i64 (nth ds v)) by
            obtain ⟨g2, off2, hae, _, hc⟩ := Rd.at (OwI.rd h) (show v < ds.length by rw [HDLU.out]; exact zuv)
            obtain ⟨rfl, rfl⟩ : gd = g2 ∧ 0 = off2 := by injection hae with h; injection h with h1 h2; exact ⟨h1, h2⟩
            rwa [Nat.zero_add] at hc)
          rw [← hu]
          clear hH hrun hdl hDB hf hvd hu
          have hcd0 := RdD.out _ _ ownd
          by_cases hgo : (c : Int) < ch ∧ nth ds v < p
          · obtain ⟨hc, hdp⟩ := hgo
            have HGO := Lib.hid (And.intro hc hdp)
            have hcb : (c : Int) + 1 ≤ 9223372036854775807 := by omega
            have HC2 := Lib.hid hc
            have hwr : IntKind.i64.wrap (nth ds v + 1) = nth ds v + 1 := wrapT _ (by omega)
            have q0 := hbx.cell 0 _ rfl
            by_cases h40 : u = 40
            · have HF := Lib.hid (show rtE d p = none by rw [← HR.out, ← HRN.out]; exact runI_full (by have := HU.out; omega) (by rw [HCH.out]; exact hc) hdp (by have := HU.out; omega))
              have h40' : ((u : Int) == 40) = true := beq_iff_eq.2 (by omega)
              clear h40
              have e0 := BR.cell 0 _ rfl
              have e1 := BR.cell 1 _ rfl
              have e2 := BR.cell 2 _ rfl
              have f0 := BR.frozen 0
              have f1 := BR.frozen 1
              have f2 := BR.frozen 2
              go_wp2_with fail
              clear e0 e1 e2 f0 f1 f2
              generalize hW : World.setCell _ _ _ = W
              have B6 : Bx W (w.heap.size) 29 #[.slice none 0 0, .slice none 0 0, .slice none 0 0] := by rw [← hW]; exact ((BR.set 0 _).set 1 _).set 2 _
              have fr6 : Fr (fun k => k = w.heap.size) wr W := by rw [← hW]; exact fr3 _ _ _ _ _
              clear hW
              have z6 := fr6.size
              have d0 := B6.cell 0 _ rfl
              have d1 := B6.cell 1 _ rfl
              have d2 := B6.cell 2 _ rfl
              refine bodyPost_ret (v := .tuple #[.agg #[.slice none 0 0, .slice none 0 0, .slice none 0 0], .bool false]) (by simp [results, Try.results20, go_sem, d0, d1, d2]) rfl ?_
              rw [rtR, rtOk, HF.out]
              exact ⟨_, rfl, NetAt.nilN _ _ _, bb.trans (fr6.below (fun k h1 h2 hc => by omega) bb.size)⟩
            · have h40' : ((u : Int) == 40) = false := beq_eq_false_iff_ne.2 (by omega)
              have zu2 : u + 1 ≤ 40 := by omega
              have HST := Lib.hid (show runI d p f (es ++ [v]) (ds ++ [nth ds v + 1]) v (c + 1) = R by rw [← HRN.out]; exact (runI_grow (by have := HU.out; omega) (by rw [HCH.out]; exact hc) hdp (by have := HU.out; omega)).symm)
              clear h40
              go_upto_region 16 with fail
              clear q0 h40'
              obtain ⟨cc, hcc⟩ : ∃ cc, cc = c := ⟨_, rfl⟩
              obtain ⟨c, hce⟩ : ∃ c0, c0 = ce := ⟨_, rfl⟩
              rw [← hce] at hbx hE
              clear hce
              go_cut [8] (fun dv W => ∃ ad' cd', dv = .slice ad' (u + 1) cd' ∧ TI W lo b (moreN (treeN es)) ad' cd' (ds ++ [nth ds v + 1]) ∧ Bx W w.heap.size 29 #[.slice none 0 0, .slice none 0 0, .slice none 0 0] ∧ Below w.heap.size w W ∧ lo ≤ W.heap.size)
              case first =>
                have hR0 : RG w lo b ai ci (treeN es).ids #[.slice (some ⟨A, 0, none⟩) u c, .slice ai (treeN es).ids.length ci, .slice ap u cp] wr.drew (some ⟨A, 0, none⟩) c (treeN es).ends vs ap cp (treeN es).inputs (some ⟨gd, 0, none⟩) cd ds := ⟨by rw [HIL0.out]; exact hbx, hE, owni, ownp, ownd, hdis, hdpd, hdid, BR, bb.drew, zlo, by omega, zb⟩
                have hcd : wr.drew.cell? ⟨gd, v, none⟩ = some (.int .i64 (nth ds v)) := hcd0
                have HPB := Lib.hid (fun (x : Nat) (hx : blk ap cp = some x) => show x < wr.drew.heap.size from (Ow.blk_in ownp hx).2)
                have HS0 := Lib.hid (fun (X : World) (rows : Rows2) (aE aP aD : Option Addr) (cE cP cD : Nat) (vv : Nat → Option Addr × Nat) (ins dd : List Int) (h : RG w lo b ai ci (treeN es).ids #[.slice (some ⟨A, 0, none⟩) u c, .slice ai (treeN es).ids.length ci, .slice ap u cp] X aE cE rows vv aP cP ins aD cD dd) => And.intro (h.1.cell 0 _ rfl) (h.1.cell 2 _ rfl))
                clear hbx hE owni ownp ownd hdis hdpd hdid BR bb zlo
                refine wp_region_until 15 (fun X => X.cell? ⟨b, 0, none⟩ = some (.slice (some ⟨A, 0, none⟩) u c) ∧ X.cell? ⟨b, 2, none⟩ = some (.slice ap u cp) ∧ X.cell? ⟨gd, v, none⟩ = some (.int .i64 (nth ds v))) (by kernel_rfl) ⟨hR0.1.cell 0 _ rfl, hR0.1.cell 2 _ rfl, hcd⟩ (fun hHeld => ?_)
                clear hcd hcd0
                generalize wr.drew = wd at *
                refine wpU_take (i := 0) (v := ?_) rfl (by kernel_rfl) (by kernel_rfl) (by kernel_rfl) (by kernel_rfl) (by kernel_rfl) (by kernel_rfl) (fun _ _ _ h => h) (Or.inl ⟨by rfl, ?_⟩) (by assumption) ?_
                rotate_left
                · (intro w hSw; (try dsimp only at hSw); obtain ⟨hq0, hq1, hq2⟩ := hSw; go_simp; try with_reducible rfl)
                try simp only [Act.put, List.getElem_toArray, List.getElem_cons_zero, List.getElem_cons_succ, List.setIfInBounds_toArray, List.set_cons_zero, List.set_cons_succ]
                refine wpU_take (i := 1) (v := ?_) rfl (by kernel_rfl) (by kernel_rfl) (by kernel_rfl) (by kernel_rfl) (by kernel_rfl) (by kernel_rfl) (fun _ _ _ h => h) (Or.inl ⟨by rfl, ?_⟩) (by assumption) ?_
                rotate_left
                · (intro w hSw; (try dsimp only at hSw); obtain ⟨hq0, hq1, hq2⟩ := hSw; go_simp; try with_reducible rfl)
                try simp only [Act.put, List.getElem_toArray, List.getElem_cons_zero, List.getElem_cons_succ, List.setIfInBounds_toArray, List.set_cons_zero, List.set_cons_succ]
                refine wpU_take (i := 4) (v := ?_) rfl (by kernel_rfl) (by kernel_rfl) (by kernel_rfl) (by kernel_rfl) (by kernel_rfl) (by kernel_rfl) (fun _ _ _ h => h) (Or.inl ⟨by rfl, ?_⟩) (by assumption) ?_
                rotate_left
                · (intro w hSw; (try dsimp only at hSw); obtain ⟨hq0, hq1, hq2⟩ := hSw; go_simp; try with_reducible rfl)
                try simp only [Act.put, List.getElem_toArray, List.getElem_cons_zero, List.getElem_cons_succ, List.setIfInBounds_toArray, List.set_cons_zero, List.set_cons_succ]
                refine wpU_take (i := 5) (v := ?_) rfl (by kernel_rfl) (by kernel_rfl) (by kernel_rfl) (by kernel_rfl) (by kernel_rfl) (by kernel_rfl) (fun _ _ _ h => h) (Or.inl ⟨by rfl, ?_⟩) (by assumption) ?_
                rotate_left
                · (intro w hSw; (try dsimp only at hSw); obtain ⟨hq0, hq1, hq2⟩ := hSw; go_simp; try with_reducible rfl)
                try simp only [Act.put, List.getElem_toArray, List.getElem_cons_zero, List.getElem_cons_succ, List.setIfInBounds_toArray, List.set_cons_zero, List.set_cons_succ]
                refine wpU_take (i := 8) (v := ?_) rfl (by kernel_rfl) (by kernel_rfl) (by kernel_rfl) (by kernel_rfl) (by kernel_rfl) (by kernel_rfl) (fun _ _ _ h => h) (Or.inl ⟨by rfl, ?_⟩) (by assumption) ?_
                rotate_left
                · (intro w hSw; (try dsimp only at hSw); obtain ⟨hq0, hq1, hq2⟩ := hSw; go_simp; try with_reducible rfl)
                try simp only [Act.put, List.getElem_toArray, List.getElem_cons_zero, List.getElem_cons_succ, List.setIfInBounds_toArray, List.set_cons_zero, List.set_cons_succ]
                refine wpU_take (i := 9) (v := ?_) rfl (by kernel_rfl) (by kernel_rfl) (by kernel_rfl) (by kernel_rfl) (by kernel_rfl) (by kernel_rfl) (fun _ _ _ h => h) (Or.inl ⟨by rfl, ?_⟩) (by assumption) ?_
                rotate_left
                · (intro w hSw; (try dsimp only at hSw); obtain ⟨hq0, hq1, hq2⟩ := hSw; go_simp; try with_reducible rfl)
                try simp only [Act.put, List.getElem_toArray, List.getElem_cons_zero, List.getElem_cons_succ, List.setIfInBounds_toArray, List.set_cons_zero, List.set_cons_succ]
                refine wpU_take (i := 10) (v := ?_) rfl (by kernel_rfl) (by kernel_rfl) (by kernel_rfl) (by kernel_rfl) (by kernel_rfl) (by kernel_rfl) (fun _ _ _ h => h) (Or.inl ⟨by rfl, ?_⟩) (by assumption) ?_
                rotate_left
                · (intro w hSw; (try dsimp only at hSw); obtain ⟨hq0, hq1, hq2⟩ := hSw; go_simp; try with_reducible rfl)
                try simp only [Act.put, List.getElem_toArray, List.getElem_cons_zero, List.getElem_cons_succ, List.setIfInBounds_toArray, List.set_cons_zero, List.set_cons_succ]
                refine wpU_take (i := 11) (v := ?_) rfl (by kernel_rfl) (by kernel_rfl) (by kernel_rfl) (by kernel_rfl) (by kernel_rfl) (by kernel_rfl) (fun _ _ _ h => h) (Or.inl ⟨by rfl, ?_⟩) (by assumption) ?_
                rotate_left
                · (intro w hSw; (try dsimp only at hSw); obtain ⟨hq0, hq1, hq2⟩ := hSw; go_simp; try with_reducible rfl)
                try simp only [Act.put, List.getElem_toArray, List.getElem_cons_zero, List.getElem_cons_succ, List.setIfInBounds_toArray, List.set_cons_zero, List.set_cons_succ]
                refine wpU_take (i := 12) (v := ?_) rfl (by kernel_rfl) (by kernel_rfl) (by kernel_rfl) (by kernel_rfl) (by kernel_rfl) (by kernel_rfl) (fun _ _ _ h => h) (Or.inl ⟨by rfl, ?_⟩) (by assumption) ?_
                rotate_left
                · (intro w hSw; (try dsimp only at hSw); obtain ⟨hq0, hq1, hq2⟩ := hSw; go_simp; try with_reducible rfl)
                try simp only [Act.put, List.getElem_toArray, List.getElem_cons_zero, List.getElem_cons_succ, List.setIfInBounds_toArray, List.set_cons_zero, List.set_cons_succ]
                refine wpU_take (i := 13) (v := ?_) rfl (by kernel_rfl) (by kernel_rfl) (by kernel_rfl) (by kernel_rfl) (by kernel_rfl) (by kernel_rfl) (fun _ _ _ h => h) (Or.inl ⟨by rfl, ?_⟩) (by assumption) ?_
                rotate_left
                · (intro w hSw; (try dsimp only at hSw); obtain ⟨hq0, hq1, hq2⟩ := hSw; go_simp; try with_reducible rfl)
                try simp only [Act.put, List.getElem_toArray, List.getElem_cons_zero, List.getElem_cons_succ, List.setIfInBounds_toArray, List.set_cons_zero, List.set_cons_succ]
                refine wpU_ready (rs := [2, 6, 14]) (by kernel_rfl) (by simp) (by kernel_rfl) ?_
                refine AllReadyU.cons (o := _) rfl (fun K hK => ?_) (AllReadyU.cons (o := _) rfl (fun K hK => ?_) (AllReadyU.cons (o := _) rfl (fun K hK => ?_) AllReadyU.nil))
                · go_simp
                  have B2 := Bx.made wd 60 #[.slice none 0 0]
                  have ba : Below wd.heap.size wd (wd.alloc (.cells #[.slice none 0 0] 60)) := (by repeat (first | exact Below.refl _ _ | assumption | refine Below.alloc ?_ (by first | (simp; done) | (simp; omega) | omega) _ | refine Below.setCell ?_ (by first | (simp; done) | (simp; omega) | omega) _ | refine Below.drew ?_ | refine Below.drewN ?_ _))
                  replace hR0 := hR0.new ba
                  obtain ⟨g2, hg2⟩ : ∃ g, g = wd.heap.size := ⟨_, rfl⟩
                  rw [← hg2] at B2 ⊢
                  have zg2 : wd.heap.size ≤ g2 := by omega
                  have zz := ba.size
                  clear ba hg2
                  generalize wd.alloc (.cells #[.slice none 0 0] 60) = x2 at *
                  refine hK.out _ _ ⟨hR0.1.cell 0 _ rfl, hR0.1.cell 2 _ rfl, RdD.out _ _ (hR0.D rfl)⟩ (fun hHeld => ?_)
                  clear hK K
                  try simp only [Act.put, List.getElem_toArray, List.getElem_cons_zero, List.getElem_cons_succ, List.setIfInBounds_toArray, List.set_cons_zero, List.set_cons_succ]
                  refine wpU_ready (rs := [3, 6, 14]) (by kernel_rfl) (by simp) (by kernel_rfl) ?_
                  refine AllReadyU.cons (o := _) rfl (fun K hK => ?_) (AllReadyU.cons (o := _) rfl (fun K hK => ?_) (AllReadyU.cons (o := _) rfl (fun K hK => ?_) AllReadyU.nil))
                  · rw [if_pos (by rfl)]
                    refine step_app _ _ _ rfl 60 (.slice none 0 0) 1 24 Try.underlying27 ends_info rfl (by decide) lo x2.heap.size (some ⟨A, 0, none⟩) u c _ rfl (hR0.E HEL.out) ⟨g2, 0, none⟩ 1 1 [.slice none 0 0] rfl rfl (news1 _ _ _ _ B2) (by simp [Value.oneCell']) (by decide) (by unfold maxLen; omega) (by omega) hR0.lo_ ?_
                    intro gE cE x3 ownE hgr _ _
                    have zz := (Fr.of_grown hgr).size
                    obtain ⟨vE, hRE⟩ := hR0.ends HEL.out hgr ownE
                    replace hR0 := hRE
                    clear hRE hgr ownE B2
                    refine hK.out _ _ ⟨hR0.1.cell 0 _ rfl, hR0.1.cell 2 _ rfl, RdD.out _ _ (hR0.D rfl)⟩ (fun hHeld => ?_)
                    clear hK K
                    try simp only [Act.put, List.getElem_toArray, List.getElem_cons_zero, List.getElem_cons_succ, List.setIfInBounds_toArray, List.set_cons_zero, List.set_cons_succ]
                    refine wpU_ready (rs := [6, 14]) (by kernel_rfl) (by simp) (by kernel_rfl) ?_
                    refine AllReadyU.cons (o := _) rfl (fun K hK => ?_) (AllReadyU.cons (o := _) rfl (fun K hK => ?_) AllReadyU.nil)
                    · go_simp
                      have B6 := Bx.made x3 3 #[.int .i64 0]
                      have ba : Below x3.heap.size x3 (x3.alloc (.cells #[.int .i64 0] 3)) := (by repeat (first | exact Below.refl _ _ | assumption | refine Below.alloc ?_ (by first | (simp; done) | (simp; omega) | omega) _ | refine Below.setCell ?_ (by first | (simp; done) | (simp; omega) | omega) _ | refine Below.drew ?_ | refine Below.drewN ?_ _))
                      replace hR0 := hR0.new ba
                      obtain ⟨g6, hg6⟩ : ∃ g, g = x3.heap.size := ⟨_, rfl⟩
                      rw [← hg6] at B6 ⊢
                      have zg6 : wd.heap.size ≤ g6 := by omega
                      have zz := ba.size
                      clear ba hg6
                      generalize x3.alloc (.cells #[.int .i64 0] 3) = x6 at *
                      refine hK.out _ _ ⟨hR0.1.cell 0 _ rfl, hR0.1.cell 2 _ rfl, RdD.out _ _ (hR0.D rfl)⟩ (fun hHeld => ?_)
                      clear hK K
                      try simp only [Act.put, List.getElem_toArray, List.getElem_cons_zero, List.getElem_cons_succ, List.setIfInBounds_toArray, List.set_cons_zero, List.set_cons_succ]
                      refine wpU_ready (rs := [7, 14]) (by kernel_rfl) (by simp) (by kernel_rfl) ?_
                      refine AllReadyU.cons (o := _) rfl (fun K hK => ?_) (AllReadyU.cons (o := _) rfl (fun K hK => ?_) AllReadyU.nil)
                      · rw [if_pos (by rfl)]
                        refine step_app _ _ _ rfl 3 (.int .i64 0) 1 8 Try.underlying23 int_info rfl (by decide) lo x6.heap.size ap u cp _ rfl (hR0.P HPL.out) ⟨g6, 0, none⟩ 1 1 [.int .i64 0] rfl rfl (news1 _ _ _ _ B6) (by simp [Value.oneCell']) (by decide) (by unfold maxLen; omega) (by omega) hR0.lo_ ?_
                        intro gP cP x7 ownP hgr hnew _
                        have zz := (Fr.of_grown hgr).size
                        replace hR0 := hR0.inputs HPL.out hgr hnew ownP
                        clear hgr hnew ownP B6
                        refine hK.out _ _ ⟨hR0.1.cell 0 _ rfl, hR0.1.cell 2 _ rfl, RdD.out _ _ (hR0.D rfl)⟩ (fun hHeld => ?_)
                        clear hK K
                        try simp only [Act.put, List.getElem_toArray, List.getElem_cons_zero, List.getElem_cons_succ, List.setIfInBounds_toArray, List.set_cons_zero, List.set_cons_succ]
                        refine wpU_ready (rs := [14]) (by kernel_rfl) (by simp) (by kernel_rfl) ?_
                        refine AllReadyU.cons (o := _) rfl (fun K hK => ?_) AllReadyU.nil
                        · go_simp
                          have B14 := Bx.made x7 3 #[.int .i64 (nth ds v + 1)]
                          have ba : Below x7.heap.size x7 (x7.alloc (.cells #[.int .i64 (nth ds v + 1)] 3)) := (by repeat (first | exact Below.refl _ _ | assumption | refine Below.alloc ?_ (by first | (simp; done) | (simp; omega) | omega) _ | refine Below.setCell ?_ (by first | (simp; done) | (simp; omega) | omega) _ | refine Below.drew ?_ | refine Below.drewN ?_ _))
                          replace hR0 := hR0.new ba
                          obtain ⟨g14, hg14⟩ : ∃ g, g = x7.heap.size := ⟨_, rfl⟩
                          rw [← hg14] at B14 ⊢
                          have zg14 : wd.heap.size ≤ g14 := by omega
                          have zz := ba.size
                          clear ba hg14
                          generalize x7.alloc (.cells #[.int .i64 (nth ds v + 1)] 3) = x14 at *
                          refine hK.out _ _ ⟨hR0.1.cell 0 _ rfl, hR0.1.cell 2 _ rfl, RdD.out _ _ (hR0.D rfl)⟩ (fun hHeld => ?_)
                          clear hK K
                          try simp only [Act.put, List.getElem_toArray, List.getElem_cons_zero, List.getElem_cons_succ, List.setIfInBounds_toArray, List.set_cons_zero, List.set_cons_succ]
                          refine wpU_last (by kernel_rfl) ?_
                          refine wpAnyH_ready (rs := [15]) (by kernel_rfl) (by simp) ?_
                          refine AllReadyH.cons (o := _) rfl (fun K hK => ?_) AllReadyH.nil
                          rw [if_pos (by rfl)]
                          refine step_app _ _ _ rfl 3 (.int .i64 0) 1 8 Try.underlying23 int_info rfl (by decide) lo x14.heap.size (some ⟨gd, 0, none⟩) u cd _ rfl (hR0.D HDLU.out) ⟨g14, 0, none⟩ 1 1 [.int .i64 (nth ds v + 1)] rfl rfl (news1 _ _ _ _ B14) (by simp [Value.oneCell']) (by decide) (by unfold maxLen; omega) (by omega) hR0.lo_ ?_
                          intro gD cD x15 ownD hgr hnew _
                          replace hR0 := hR0.dep HDLU.out hgr hnew ownD
                          clear hgr hnew ownD B14
                          refine hK.out _ _ trivial (fun _ => ?_)
                          clear hK K
                          try simp only [Act.put, List.getElem_toArray, List.getElem_cons_zero, List.getElem_cons_succ, List.setIfInBounds_toArray, List.set_cons_zero, List.set_cons_succ]
                          refine wpAnyH_ready (rs := [16]) (by kernel_rfl) (by simp) ?_
                          refine AllReadyH.cons (o := _) rfl (fun K hK => ?_) AllReadyH.nil
                          go_simp
                          refine hK.out _ _ trivial (fun _ => ?_)
                          clear hK K
                          try simp only [Act.put, List.getElem_toArray, List.getElem_cons_zero, List.getElem_cons_succ, List.setIfInBounds_toArray, List.set_cons_zero, List.set_cons_succ]
                          refine wpAnyH_ready (rs := [17]) (by kernel_rfl) (by simp) ?_
                          refine AllReadyH.cons (o := _) rfl (fun K hK => ?_) AllReadyH.nil
                          have q0 := hR0.1.cell 0 _ rfl
                          have f0 := hR0.1.frozen 0
                          go_simp
                          clear q0 f0
                          refine hK.out _ _ trivial (fun _ => ?_)
                          clear hK K
                          try simp only [Act.put, List.getElem_toArray, List.getElem_cons_zero, List.getElem_cons_succ, List.setIfInBounds_toArray, List.set_cons_zero, List.set_cons_succ]
                          refine wpAnyH_ready (rs := [18]) (by kernel_rfl) (by simp) ?_
                          refine AllReadyH.cons (o := _) rfl (fun K hK => ?_) AllReadyH.nil
                          go_simp
                          refine hK.out _ _ trivial (fun _ => ?_)
                          clear hK K
                          try simp only [Act.put, List.getElem_toArray, List.getElem_cons_zero, List.getElem_cons_succ, List.setIfInBounds_toArray, List.set_cons_zero, List.set_cons_succ]
                          refine wpAnyH_ready (rs := [19]) (by kernel_rfl) (by simp) ?_
                          refine AllReadyH.cons (o := _) rfl (fun K hK => ?_) AllReadyH.nil
                          have q2 := (hR0.1.set 0 (.slice (some ⟨gE, 0, none⟩) (u + 1) cE)).cell 2 _ rfl
                          have f2 := (hR0.1.set 0 (.slice (some ⟨gE, 0, none⟩) (u + 1) cE)).frozen 2
                          go_simp
                          clear q2 f2
                          refine hK.out _ _ trivial (fun _ => ?_)
                          clear hK K
                          try simp only [Act.put, List.getElem_toArray, List.getElem_cons_zero, List.getElem_cons_succ, List.setIfInBounds_toArray, List.set_cons_zero, List.set_cons_succ]
                          refine wpAnyH_ready (rs := [20]) (by kernel_rfl) (by simp) ?_
                          refine AllReadyH.cons (o := _) rfl (fun K hK => ?_) AllReadyH.nil
                          go_simp
                          refine hK.out _ _ trivial (fun _ => ?_)
                          clear hK K
                          try simp only [Act.put, List.getElem_toArray, List.getElem_cons_zero, List.getElem_cons_succ, List.setIfInBounds_toArray, List.set_cons_zero, List.set_cons_succ]
                          refine wpAnyH_done (by kernel_rfl) ?_ _
                          go_wp2_with fail
                          go_meet
                          obtain ⟨r1, r2, r3, r4⟩ := hR0.fin (u := u + 1) (by rw [List.length_append, HEL.out]; rfl) (by rw [List.length_append, HPL.out]; rfl)
                          exact ⟨some ⟨gD, 0, none⟩, cD, rfl, r1, r2, r3, r4⟩
                      · go_simp
                        have B14 := Bx.made x6 3 #[.int .i64 (nth ds v + 1)]
                        have ba : Below x6.heap.size x6 (x6.alloc (.cells #[.int .i64 (nth ds v + 1)] 3)) := (by repeat (first | exact Below.refl _ _ | assumption | refine Below.alloc ?_ (by first | (simp; done) | (simp; omega) | omega) _ | refine Below.setCell ?_ (by first | (simp; done) | (simp; omega) | omega) _ | refine Below.drew ?_ | refine Below.drewN ?_ _))
                        replace hR0 := hR0.new ba
                        replace B6 := B6.new ba
                        obtain ⟨g14, hg14⟩ : ∃ g, g = x6.heap.size := ⟨_, rfl⟩
                        rw [← hg14] at B14 ⊢
                        have zg14 : wd.heap.size ≤ g14 := by omega
                        have zz := ba.size
                        clear ba hg14
                        generalize x6.alloc (.cells #[.int .i64 (nth ds v + 1)] 3) = x14 at *
                        refine hK.out _ _ ⟨hR0.1.cell 0 _ rfl, hR0.1.cell 2 _ rfl, RdD.out _ _ (hR0.D rfl)⟩ (fun hHeld => ?_)
                        clear hK K
                        try simp only [Act.put, List.getElem_toArray, List.getElem_cons_zero, List.getElem_cons_succ, List.setIfInBounds_toArray, List.set_cons_zero, List.set_cons_succ]
                        refine wpU_ready (rs := [7]) (by kernel_rfl) (by simp) (by kernel_rfl) ?_
                        refine AllReadyU.cons (o := _) rfl (fun K hK => ?_) AllReadyU.nil
                        · rw [if_pos (by rfl)]
                          refine step_app _ _ _ rfl 3 (.int .i64 0) 1 8 Try.underlying23 int_info rfl (by decide) lo x14.heap.size ap u cp _ rfl (hR0.P HPL.out) ⟨g6, 0, none⟩ 1 1 [.int .i64 0] rfl rfl (news1 _ _ _ _ B6) (by simp [Value.oneCell']) (by decide) (by unfold maxLen; omega) (by omega) hR0.lo_ ?_
                          intro gP cP x7 ownP hgr hnew _
                          replace B14 := B14.fr (Fr.of_grown hgr) (fun h => by have := HPB.out _ h.symm; omega)
                          have zz := (Fr.of_grown hgr).size
                          replace hR0 := hR0.inputs HPL.out hgr hnew ownP
                          clear hgr hnew ownP B6
                          refine hK.out _ _ ⟨hR0.1.cell 0 _ rfl, hR0.1.cell 2 _ rfl, RdD.out _ _ (hR0.D rfl)⟩ (fun hHeld => ?_)
                          clear hK K
                          try simp only [Act.put, List.getElem_toArray, List.getElem_cons_zero, List.getElem_cons_succ, List.setIfInBounds_toArray, List.set_cons_zero, List.set_cons_succ]
                          refine wpU_last (by kernel_rfl) ?_
                          refine wpAnyH_ready (rs := [15]) (by kernel_rfl) (by simp) ?_
                          refine AllReadyH.cons (o := _) rfl (fun K hK => ?_) AllReadyH.nil
                          rw [if_pos (by rfl)]
                          refine step_app _ _ _ rfl 3 (.int .i64 0) 1 8 Try.underlying23 int_info rfl (by decide) lo x7.heap.size (some ⟨gd, 0, none⟩) u cd _ rfl (hR0.D HDLU.out) ⟨g14, 0, none⟩ 1 1 [.int .i64 (nth ds v + 1)] rfl rfl (news1 _ _ _ _ B14) (by simp [Value.oneCell']) (by decide) (by unfold maxLen; omega) (by omega) hR0.lo_ ?_
                          intro gD cD x15 ownD hgr hnew _
                          replace hR0 := hR0.dep HDLU.out hgr hnew ownD
                          clear hgr hnew ownD B14
                          refine hK.out _ _ trivial (fun _ => ?_)
                          clear hK K
                          try simp only [Act.put, List.getElem_toArray, List.getElem_cons_zero, List.getElem_cons_succ, List.setIfInBounds_toArray, List.set_cons_zero, List.set_cons_succ]
                          refine wpAnyH_ready (rs := [16]) (by kernel_rfl) (by simp) ?_
                          refine AllReadyH.cons (o := _) rfl (fun K hK => ?_) AllReadyH.nil
                          go_simp
                          refine hK.out _ _ trivial (fun _ => ?_)
                          clear hK K
                          try simp only [Act.put, List.getElem_toArray, List.getElem_cons_zero, List.getElem_cons_succ, List.setIfInBounds_toArray, List.set_cons_zero, List.set_cons_succ]
                          refine wpAnyH_ready (rs := [17]) (by kernel_rfl) (by simp) ?_
                          refine AllReadyH.cons (o := _) rfl (fun K hK => ?_) AllReadyH.nil
                          have q0 := hR0.1.cell 0 _ rfl
                          have f0 := hR0.1.frozen 0
                          go_simp
                          clear q0 f0
                          refine hK.out _ _ trivial (fun _ => ?_)
                          clear hK K
                          try simp only [Act.put, List.getElem_toArray, List.getElem_cons_zero, List.getElem_cons_succ, List.setIfInBounds_toArray, List.set_cons_zero, List.set_cons_succ]
                          refine wpAnyH_ready (rs := [18]) (by kernel_rfl) (by simp) ?_
                          refine AllReadyH.cons (o := _) rfl (fun K hK => ?_) AllReadyH.nil
                          go_simp
                          refine hK.out _ _ trivial (fun _ => ?_)
                          clear hK K
                          try simp only [Act.put, List.getElem_toArray, List.getElem_cons_zero, List.getElem_cons_succ, List.setIfInBounds_toArray, List.set_cons_zero, List.set_cons_succ]
                          refine wpAnyH_ready (rs := [19]) (by kernel_rfl) (by simp) ?_
                          refine AllReadyH.cons (o := _) rfl (fun K hK => ?_) AllReadyH.nil
                          have q2 := (hR0.1.set 0 (.slice (some ⟨gE, 0, none⟩) (u + 1) cE)).cell 2 _ rfl
                          have f2 := (hR0.1.set 0 (.slice (some ⟨gE, 0, none⟩) (u + 1) cE)).frozen 2
                          go_simp
                          clear q2 f2
                          refine hK.out _ _ trivial (fun _ => ?_)
                          clear hK K
                          try simp only [Act.put, List.getElem_toArray, List.getElem_cons_zero, List.getElem_cons_succ, List.setIfInBounds_toArray, List.set_cons_zero, List.set_cons_succ]
                          refine wpAnyH_ready (rs := [20]) (by kernel_rfl) (by simp) ?_
                          refine AllReadyH.cons (o := _) rfl (fun K hK => ?_) AllReadyH.nil
                          go_simp
                          refine hK.out _ _ trivial (fun _ => ?_)
                          clear hK K
                          try simp only [Act.put, List.getElem_toArray, List.getElem_cons_zero, List.getElem_cons_succ, List.setIfInBounds_toArray, List.set_cons_zero, List.set_cons_succ]
                          refine wpAnyH_done (by kernel_rfl) ?_ _
                          go_wp2_with fail
                          go_meet
                          obtain ⟨r1, r2, r3, r4⟩ := hR0.fin (u := u + 1) (by rw [List.length_append, HEL.out]; rfl) (by rw [List.length_append, HPL.out]; rfl)
                          exact ⟨some ⟨gD, 0, none⟩, cD, rfl, r1, r2, r3, r4⟩
                    · go_simp
                      have B14 := Bx.made x3 3 #[.int .i64 (nth ds v + 1)]
                      have ba : Below x3.heap.size x3 (x3.alloc (.cells #[.int .i64 (nth ds v + 1)] 3)) := (by repeat (first | exact Below.refl _ _ | assumption | refine Below.alloc ?_ (by first | (simp; done) | (simp; omega) | omega) _ | refine Below.setCell ?_ (by first | (simp; done) | (simp; omega) | omega) _ | refine Below.drew ?_ | refine Below.drewN ?_ _))
                      replace hR0 := hR0.new ba
                      obtain ⟨g14, hg14⟩ : ∃ g, g = x3.heap.size := ⟨_, rfl⟩
                      rw [← hg14] at B14 ⊢
                      have zg14 : wd.heap.size ≤ g14 := by omega
                      have zz := ba.size
                      clear ba hg14
                      generalize x3.alloc (.cells #[.int .i64 (nth ds v + 1)] 3) = x14 at *
                      refine hK.out _ _ ⟨hR0.1.cell 0 _ rfl, hR0.1.cell 2 _ rfl, RdD.out _ _ (hR0.D rfl)⟩ (fun hHeld => ?_)
                      clear hK K
                      try simp only [Act.put, List.getElem_toArray, List.getElem_cons_zero, List.getElem_cons_succ, List.setIfInBounds_toArray, List.set_cons_zero, List.set_cons_succ]
                      refine wpU_ready (rs := [6]) (by kernel_rfl) (by simp) (by kernel_rfl) ?_
                      refine AllReadyU.cons (o := _) rfl (fun K hK => ?_) AllReadyU.nil
                      · go_simp
                        have B6 := Bx.made x14 3 #[.int .i64 0]
                        have ba : Below x14.heap.size x14 (x14.alloc (.cells #[.int .i64 0] 3)) := (by repeat (first | exact Below.refl _ _ | assumption | refine Below.alloc ?_ (by first | (simp; done) | (simp; omega) | omega) _ | refine Below.setCell ?_ (by first | (simp; done) | (simp; omega) | omega) _ | refine Below.drew ?_ | refine Below.drewN ?_ _))
                        replace hR0 := hR0.new ba
                        replace B14 := B14.new ba
                        obtain ⟨g6, hg6⟩ : ∃ g, g = x14.heap.size := ⟨_, rfl⟩
                        rw [← hg6] at B6 ⊢
                        have zg6 : wd.heap.size ≤ g6 := by omega
                        have zz := ba.size
                        clear ba hg6
                        generalize x14.alloc (.cells #[.int .i64 0] 3) = x6 at *
                        refine hK.out _ _ ⟨hR0.1.cell 0 _ rfl, hR0.1.cell 2 _ rfl, RdD.out _ _ (hR0.D rfl)⟩ (fun hHeld => ?_)
                        clear hK K
                        try simp only [Act.put, List.getElem_toArray, List.getElem_cons_zero, List.getElem_cons_succ, List.setIfInBounds_toArray, List.set_cons_zero, List.set_cons_succ]
                        refine wpU_ready (rs := [7]) (by kernel_rfl) (by simp) (by kernel_rfl) ?_
                        refine AllReadyU.cons (o := _) rfl (fun K hK => ?_) AllReadyU.nil
                        · rw [if_pos (by rfl)]
                          refine step_app _ _ _ rfl 3 (.int .i64 0) 1 8 Try.underlying23 int_info rfl (by decide) lo x6.heap.size ap u cp _ rfl (hR0.P HPL.out) ⟨g6, 0, none⟩ 1 1 [.int .i64 0] rfl rfl (news1 _ _ _ _ B6) (by simp [Value.oneCell']) (by decide) (by unfold maxLen; omega) (by omega) hR0.lo_ ?_
                          intro gP cP x7 ownP hgr hnew _
                          replace B14 := B14.fr (Fr.of_grown hgr) (fun h => by have := HPB.out _ h.symm; omega)
                          have zz := (Fr.of_grown hgr).size
                          replace hR0 := hR0.inputs HPL.out hgr hnew ownP
                          clear hgr hnew ownP B6
                          refine hK.out _ _ ⟨hR0.1.cell 0 _ rfl, hR0.1.cell 2 _ rfl, RdD.out _ _ (hR0.D rfl)⟩ (fun hHeld => ?_)
                          clear hK K
                          try simp only [Act.put, List.getElem_toArray, List.getElem_cons_zero, List.getElem_cons_succ, List.setIfInBounds_toArray, List.set_cons_zero, List.set_cons_succ]
                          refine wpU_last (by kernel_rfl) ?_
                          refine wpAnyH_ready (rs := [15]) (by kernel_rfl) (by simp) ?_
                          refine AllReadyH.cons (o := _) rfl (fun K hK => ?_) AllReadyH.nil
                          rw [if_pos (by rfl)]
                          refine step_app _ _ _ rfl 3 (.int .i64 0) 1 8 Try.underlying23 int_info rfl (by decide) lo x7.heap.size (some ⟨gd, 0, none⟩) u cd _ rfl (hR0.D HDLU.out) ⟨g14, 0, none⟩ 1 1 [.int .i64 (nth ds v + 1)] rfl rfl (news1 _ _ _ _ B14) (by simp [Value.oneCell']) (by decide) (by unfold maxLen; omega) (by omega) hR0.lo_ ?_
                          intro gD cD x15 ownD hgr hnew _
                          replace hR0 := hR0.dep HDLU.out hgr hnew ownD
                          clear hgr hnew ownD B14
                          refine hK.out _ _ trivial (fun _ => ?_)
                          clear hK K
                          try simp only [Act.put, List.getElem_toArray, List.getElem_cons_zero, List.getElem_cons_succ, List.setIfInBounds_toArray, List.set_cons_zero, List.set_cons_succ]
                          refine wpAnyH_ready (rs := [16]) (by kernel_rfl) (by simp) ?_
                          refine AllReadyH.cons (o := _) rfl (fun K hK => ?_) AllReadyH.nil
                          go_simp
                          refine hK.out _ _ trivial (fun _ => ?_)
                          clear hK K
                          try simp only [Act.put, List.getElem_toArray, List.getElem_cons_zero, List.getElem_cons_succ, List.setIfInBounds_toArray, List.set_cons_zero, List.set_cons_succ]
                          refine wpAnyH_ready (rs := [17]) (by kernel_rfl) (by simp) ?_
                          refine AllReadyH.cons (o := _) rfl (fun K hK => ?_) AllReadyH.nil
                          have q0 := hR0.1.cell 0 _ rfl
                          have f0 := hR0.1.frozen 0
                          go_simp
                          clear q0 f0
                          refine hK.out _ _ trivial (fun _ => ?_)
                          clear hK K
                          try simp only [Act.put, List.getElem_toArray, List.getElem_cons_zero, List.getElem_cons_succ, List.setIfInBounds_toArray, List.set_cons_zero, List.set_cons_succ]
                          refine wpAnyH_ready (rs := [18]) (by kernel_rfl) (by simp) ?_
                          refine AllReadyH.cons (o := _) rfl (fun K hK => ?_) AllReadyH.nil
                          go_simp
                          refine hK.out _ _ trivial (fun _ => ?_)
                          clear hK K
                          try simp only [Act.put, List.getElem_toArray, List.getElem_cons_zero, List.getElem_cons_succ, List.setIfInBounds_toArray, List.set_cons_zero, List.set_cons_succ]
                          refine wpAnyH_ready (rs := [19]) (by kernel_rfl) (by simp) ?_
                          refine AllReadyH.cons (o := _) rfl (fun K hK => ?_) AllReadyH.nil
                          have q2 := (hR0.1.set 0 (.slice (some ⟨gE, 0, none⟩) (u + 1) cE)).cell 2 _ rfl
                          have f2 := (hR0.1.set 0 (.slice (some ⟨gE, 0, none⟩) (u + 1) cE)).frozen 2
                          go_simp
                          clear q2 f2
                          refine hK.out _ _ trivial (fun _ => ?_)
                          clear hK K
                          try simp only [Act.put, List.getElem_toArray, List.getElem_cons_zero, List.getElem_cons_succ, List.setIfInBounds_toArray, List.set_cons_zero, List.set_cons_succ]
                          refine wpAnyH_ready (rs := [20]) (by kernel_rfl) (by simp) ?_
                          refine AllReadyH.cons (o := _) rfl (fun K hK => ?_) AllReadyH.nil
                          go_simp
                          refine hK.out _ _ trivial (fun _ => ?_)
                          clear hK K
                          try simp only [Act.put, List.getElem_toArray, List.getElem_cons_zero, List.getElem_cons_succ, List.setIfInBounds_toArray, List.set_cons_zero, List.set_cons_succ]
                          refine wpAnyH_done (by kernel_rfl) ?_ _
                          go_wp2_with fail
                          go_meet
                          obtain ⟨r1, r2, r3, r4⟩ := hR0.fin (u := u + 1) (by rw [List.length_append, HEL.out]; rfl) (by rw [List.length_append, HPL.out]; rfl)
                          exact ⟨some ⟨gD, 0, none⟩, cD, rfl, r1, r2, r3, r4⟩
                  · go_simp
                    have B6 := Bx.made x2 3 #[.int .i64 0]
                    have ba : Below x2.heap.size x2 (x2.alloc (.cells #[.int .i64 0] 3)) := (by repeat (first | exact Below.refl _ _ | assumption | refine Below.alloc ?_ (by first | (simp; done) | (simp; omega) | omega) _ | refine Below.setCell ?_ (by first | (simp; done) | (simp; omega) | omega) _ | refine Below.drew ?_ | refine Below.drewN ?_ _))
                    replace hR0 := hR0.new ba
                    replace B2 := B2.new ba
                    obtain ⟨g6, hg6⟩ : ∃ g, g = x2.heap.size := ⟨_, rfl⟩
                    rw [← hg6] at B6 ⊢
                    have zg6 : wd.heap.size ≤ g6 := by omega
                    have zz := ba.size
                    clear ba hg6
                    generalize x2.alloc (.cells #[.int .i64 0] 3) = x6 at *
                    refine hK.out _ _ ⟨hR0.1.cell 0 _ rfl, hR0.1.cell 2 _ rfl, RdD.out _ _ (hR0.D rfl)⟩ (fun hHeld => ?_)
                    clear hK K
                    try simp only [Act.put, List.getElem_toArray, List.getElem_cons_zero, List.getElem_cons_succ, List.setIfInBounds_toArray, List.set_cons_zero, List.set_cons_succ]
                    refine wpU_ready (rs := [3, 14]) (by kernel_rfl) (by simp) (by kernel_rfl) ?_
                    refine AllReadyU.cons (o := _) rfl (fun K hK => ?_) (AllReadyU.cons (o := _) rfl (fun K hK => ?_) AllReadyU.nil)
                    · rw [if_pos (by rfl)]
                      refine step_app _ _ _ rfl 60 (.slice none 0 0) 1 24 Try.underlying27 ends_info rfl (by decide) lo x6.heap.size (some ⟨A, 0, none⟩) u c _ rfl (hR0.E HEL.out) ⟨g2, 0, none⟩ 1 1 [.slice none 0 0] rfl rfl (news1 _ _ _ _ B2) (by simp [Value.oneCell']) (by decide) (by unfold maxLen; omega) (by omega) hR0.lo_ ?_
                      intro gE cE x3 ownE hgr _ _
                      replace B6 := B6.fr (Fr.of_grown hgr) (fun h => B6.ne_row (hR0.E HEL.out) (by decide) h.symm)
                      have zz := (Fr.of_grown hgr).size
                      obtain ⟨vE, hRE⟩ := hR0.ends HEL.out hgr ownE
                      replace hR0 := hRE
                      clear hRE hgr ownE B2
                      refine hK.out _ _ ⟨hR0.1.cell 0 _ rfl, hR0.1.cell 2 _ rfl, RdD.out _ _ (hR0.D rfl)⟩ (fun hHeld => ?_)
                      clear hK K
                      try simp only [Act.put, List.getElem_toArray, List.getElem_cons_zero, List.getElem_cons_succ, List.setIfInBounds_toArray, List.set_cons_zero, List.set_cons_succ]
                      refine wpU_ready (rs := [7, 14]) (by kernel_rfl) (by simp) (by kernel_rfl) ?_
                      refine AllReadyU.cons (o := _) rfl (fun K hK => ?_) (AllReadyU.cons (o := _) rfl (fun K hK => ?_) AllReadyU.nil)
                      · rw [if_pos (by rfl)]
                        refine step_app _ _ _ rfl 3 (.int .i64 0) 1 8 Try.underlying23 int_info rfl (by decide) lo x3.heap.size ap u cp _ rfl (hR0.P HPL.out) ⟨g6, 0, none⟩ 1 1 [.int .i64 0] rfl rfl (news1 _ _ _ _ B6) (by simp [Value.oneCell']) (by decide) (by unfold maxLen; omega) (by omega) hR0.lo_ ?_
                        intro gP cP x7 ownP hgr hnew _
                        have zz := (Fr.of_grown hgr).size
                        replace hR0 := hR0.inputs HPL.out hgr hnew ownP
                        clear hgr hnew ownP B6
                        refine hK.out _ _ ⟨hR0.1.cell 0 _ rfl, hR0.1.cell 2 _ rfl, RdD.out _ _ (hR0.D rfl)⟩ (fun hHeld => ?_)
                        clear hK K
                        try simp only [Act.put, List.getElem_toArray, List.getElem_cons_zero, List.getElem_cons_succ, List.setIfInBounds_toArray, List.set_cons_zero, List.set_cons_succ]
                        refine wpU_ready (rs := [14]) (by kernel_rfl) (by simp) (by kernel_rfl) ?_
                        refine AllReadyU.cons (o := _) rfl (fun K hK => ?_) AllReadyU.nil
                        · go_simp
                          have B14 := Bx.made x7 3 #[.int .i64 (nth ds v + 1)]
                          have ba : Below x7.heap.size x7 (x7.alloc (.cells #[.int .i64 (nth ds v + 1)] 3)) := (by repeat (first | exact Below.refl _ _ | assumption | refine Below.alloc ?_ (by first | (simp; done) | (simp; omega) | omega) _ | refine Below.setCell ?_ (by first | (simp; done) | (simp; omega) | omega) _ | refine Below.drew ?_ | refine Below.drewN ?_ _))
                          replace hR0 := hR0.new ba
                          obtain ⟨g14, hg14⟩ : ∃ g, g = x7.heap.size := ⟨_, rfl⟩
                          rw [← hg14] at B14 ⊢
                          have zg14 : wd.heap.size ≤ g14 := by omega
                          have zz := ba.size
                          clear ba hg14
                          generalize x7.alloc (.cells #[.int .i64 (nth ds v + 1)] 3) = x14 at *
                          refine hK.out _ _ ⟨hR0.1.cell 0 _ rfl, hR0.1.cell 2 _ rfl, RdD.out _ _ (hR0.D rfl)⟩ (fun hHeld => ?_)
                          clear hK K
                          try simp only [Act.put, List.getElem_toArray, List.getElem_cons_zero, List.getElem_cons_succ, List.setIfInBounds_toArray, List.set_cons_zero, List.set_cons_succ]
                          refine wpU_last (by kernel_rfl) ?_
                          refine wpAnyH_ready (rs := [15]) (by kernel_rfl) (by simp) ?_
                          refine AllReadyH.cons (o := _) rfl (fun K hK => ?_) AllReadyH.nil
                          rw [if_pos (by rfl)]
                          refine step_app _ _ _ rfl 3 (.int .i64 0) 1 8 Try.underlying23 int_info rfl (by decide) lo x14.heap.size (some ⟨gd, 0, none⟩) u cd _ rfl (hR0.D HDLU.out) ⟨g14, 0, none⟩ 1 1 [.int .i64 (nth ds v + 1)] rfl rfl (news1 _ _ _ _ B14) (by simp [Value.oneCell']) (by decide) (by unfold maxLen; omega) (by omega) hR0.lo_ ?_
                          intro gD cD x15 ownD hgr hnew _
                          replace hR0 := hR0.dep HDLU.out hgr hnew ownD
                          clear hgr hnew ownD B14
                          refine hK.out _ _ trivial (fun _ => ?_)
                          clear hK K
                          try simp only [Act.put, List.getElem_toArray, List.getElem_cons_zero, List.getElem_cons_succ, List.setIfInBounds_toArray, List.set_cons_zero, List.set_cons_succ]
                          refine wpAnyH_ready (rs := [16]) (by kernel_rfl) (by simp) ?_
                          refine AllReadyH.cons (o := _) rfl (fun K hK => ?_) AllReadyH.nil
                          go_simp
                          refine hK.out _ _ trivial (fun _ => ?_)
                          clear hK K
                          try simp only [Act.put, List.getElem_toArray, List.getElem_cons_zero, List.getElem_cons_succ, List.setIfInBounds_toArray, List.set_cons_zero, List.set_cons_succ]
                          refine wpAnyH_ready (rs := [17]) (by kernel_rfl) (by simp) ?_
                          refine AllReadyH.cons (o := _) rfl (fun K hK => ?_) AllReadyH.nil
                          have q0 := hR0.1.cell 0 _ rfl
                          have f0 := hR0.1.frozen 0
                          go_simp
                          clear q0 f0
                          refine hK.out _ _ trivial (fun _ => ?_)
                          clear hK K
                          try simp only [Act.put, List.getElem_toArray, List.getElem_cons_zero, List.getElem_cons_succ, List.setIfInBounds_toArray, List.set_cons_zero, List.set_cons_succ]
                          refine wpAnyH_ready (rs := [18]) (by kernel_rfl) (by simp) ?_
                          refine AllReadyH.cons (o := _) rfl (fun K hK => ?_) AllReadyH.nil
                          go_simp
                          refine hK.out _ _ trivial (fun _ => ?_)
                          clear hK K
                          try simp only [Act.put, List.getElem_toArray, List.getElem_cons_zero, List.getElem_cons_succ, List.setIfInBounds_toArray, List.set_cons_zero, List.set_cons_succ]
                          refine wpAnyH_ready (rs := [19]) (by kernel_rfl) (by simp) ?_
                          refine AllReadyH.cons (o := _) rfl (fun K hK => ?_) AllReadyH.nil
                          have q2 := (hR0.1.set 0 (.slice (some ⟨gE, 0, none⟩) (u + 1) cE)).cell 2 _ rfl
                          have f2 := (hR0.1.set 0 (.slice (some ⟨gE, 0, none⟩) (u + 1) cE)).frozen 2
                          go_simp
                          clear q2 f2
                          refine hK.out _ _ trivial (fun _ => ?_)
                          clear hK K
                          try simp only [Act.put, List.getElem_toArray, List.getElem_cons_zero, List.getElem_cons_succ, List.setIfInBounds_toArray, List.set_cons_zero, List.set_cons_succ]
                          refine wpAnyH_ready (rs := [20]) (by kernel_rfl) (by simp) ?_
                          refine AllReadyH.cons (o := _) rfl (fun K hK => ?_) AllReadyH.nil
                          go_simp
                          refine hK.out _ _ trivial (fun _ => ?_)
                          clear hK K
                          try simp only [Act.put, List.getElem_toArray, List.getElem_cons_zero, List.getElem_cons_succ, List.setIfInBounds_toArray, List.set_cons_zero, List.set_cons_succ]
                          refine wpAnyH_done (by kernel_rfl) ?_ _
                          go_wp2_with fail
                          go_meet
                          obtain ⟨r1, r2, r3, r4⟩ := hR0.fin (u := u + 1) (by rw [List.length_append, HEL.out]; rfl) (by rw [List.length_append, HPL.out]; rfl)
                          exact ⟨some ⟨gD, 0, none⟩, cD, rfl, r1, r2, r3, r4⟩
                      · go_simp
                        have B14 := Bx.made x3 3 #[.int .i64 (nth ds v + 1)]
                        have ba : Below x3.heap.size x3 (x3.alloc (.cells #[.int .i64 (nth ds v + 1)] 3)) := (by repeat (first | exact Below.refl _ _ | assumption | refine Below.alloc ?_ (by first | (simp; done) | (simp; omega) | omega) _ | refine Below.setCell ?_ (by first | (simp; done) | (simp; omega) | omega) _ | refine Below.drew ?_ | refine Below.drewN ?_ _))
                        replace hR0 := hR0.new ba
                        replace B6 := B6.new ba
                        obtain ⟨g14, hg14⟩ : ∃ g, g = x3.heap.size := ⟨_, rfl⟩
                        rw [← hg14] at B14 ⊢
                        have zg14 : wd.heap.size ≤ g14 := by omega
                        have zz := ba.size
                        clear ba hg14
                        generalize x3.alloc (.cells #[.int .i64 (nth ds v + 1)] 3) = x14 at *
                        refine hK.out _ _ ⟨hR0.1.cell 0 _ rfl, hR0.1.cell 2 _ rfl, RdD.out _ _ (hR0.D rfl)⟩ (fun hHeld => ?_)
                        clear hK K
                        try simp only [Act.put, List.getElem_toArray, List.getElem_cons_zero, List.getElem_cons_succ, List.setIfInBounds_toArray, List.set_cons_zero, List.set_cons_succ]
                        refine wpU_ready (rs := [7]) (by kernel_rfl) (by simp) (by kernel_rfl) ?_
                        refine AllReadyU.cons (o := _) rfl (fun K hK => ?_) AllReadyU.nil
                        · rw [if_pos (by rfl)]
                          refine step_app _ _ _ rfl 3 (.int .i64 0) 1 8 Try.underlying23 int_info rfl (by decide) lo x14.heap.size ap u cp _ rfl (hR0.P HPL.out) ⟨g6, 0, none⟩ 1 1 [.int .i64 0] rfl rfl (news1 _ _ _ _ B6) (by simp [Value.oneCell']) (by decide) (by unfold maxLen; omega) (by omega) hR0.lo_ ?_
                          intro gP cP x7 ownP hgr hnew _
                          replace B14 := B14.fr (Fr.of_grown hgr) (fun h => by have := HPB.out _ h.symm; omega)
                          have zz := (Fr.of_grown hgr).size
                          replace hR0 := hR0.inputs HPL.out hgr hnew ownP
                          clear hgr hnew ownP B6
                          refine hK.out _ _ ⟨hR0.1.cell 0 _ rfl, hR0.1.cell 2 _ rfl, RdD.out _ _ (hR0.D rfl)⟩ (fun hHeld => ?_)
                          clear hK K
                          try simp only [Act.put, List.getElem_toArray, List.getElem_cons_zero, List.getElem_cons_succ, List.setIfInBounds_toArray, List.set_cons_zero, List.set_cons_succ]
                          refine wpU_last (by kernel_rfl) ?_
                          refine wpAnyH_ready (rs := [15]) (by kernel_rfl) (by simp) ?_
                          refine AllReadyH.cons (o := _) rfl (fun K hK => ?_) AllReadyH.nil
                          rw [if_pos (by rfl)]
                          refine step_app _ _ _ rfl 3 (.int .i64 0) 1 8 Try.underlying23 int_info rfl (by decide) lo x7.heap.size (some ⟨gd, 0, none⟩) u cd _ rfl (hR0.D HDLU.out) ⟨g14, 0, none⟩ 1 1 [.int .i64 (nth ds v + 1)] rfl rfl (news1 _ _ _ _ B14) (by simp [Value.oneCell']) (by decide) (by unfold maxLen; omega) (by omega) hR0.lo_ ?_
                          intro gD cD x15 ownD hgr hnew _
                          replace hR0 := hR0.dep HDLU.out hgr hnew ownD
                          clear hgr hnew ownD B14
                          refine hK.out _ _ trivial (fun _ => ?_)
                          clear hK K
                          try simp only [Act.put, List.getElem_toArray, List.getElem_cons_zero, List.getElem_cons_succ, List.setIfInBounds_toArray, List.set_cons_zero, List.set_cons_succ]
                          refine wpAnyH_ready (rs := [16]) (by kernel_rfl) (by simp) ?_
                          refine AllReadyH.cons (o := _) rfl (fun K hK => ?_) AllReadyH.nil
                          go_simp
                          refine hK.out _ _ trivial (fun _ => ?_)
                          clear hK K
                          try simp only [Act.put, List.getElem_toArray, List.getElem_cons_zero, List.getElem_cons_succ, List.setIfInBounds_toArray, List.set_cons_zero, List.set_cons_succ]
                          refine wpAnyH_ready (rs := [17]) (by kernel_rfl) (by simp) ?_
                          refine AllReadyH.cons (o := _) rfl (fun K hK => ?_) AllReadyH.nil
                          have q0 := hR0.1.cell 0 _ rfl
                          have f0 := hR0.1.frozen 0
                          go_simp
                          clear q0 f0
                          refine hK.out _ _ trivial (fun _ => ?_)
                          clear hK K
                          try simp only [Act.put, List.getElem_toArray, List.getElem_cons_zero, List.getElem_cons_succ, List.setIfInBounds_toArray, List.set_cons_zero, List.set_cons_succ]
                          refine wpAnyH_ready (rs := [18]) (by kernel_rfl) (by simp) ?_
                          refine AllReadyH.cons (o := _) rfl (fun K hK => ?_) AllReadyH.nil
                          go_simp
                          refine hK.out _ _ trivial (fun _ => ?_)
                          clear hK K
                          try simp only [Act.put, List.getElem_toArray, List.getElem_cons_zero, List.getElem_cons_succ, List.setIfInBounds_toArray, List.set_cons_zero, List.set_cons_succ]
                          refine wpAnyH_ready (rs := [19]) (by kernel_rfl) (by simp) ?_
                          refine AllReadyH.cons (o := _) rfl (fun K hK => ?_) AllReadyH.nil
                          have q2 := (hR0.1.set 0 (.slice (some ⟨gE, 0, none⟩) (u + 1) cE)).cell 2 _ rfl
                          have f2 := (hR0.1.set 0 (.slice (some ⟨gE, 0, none⟩) (u + 1) cE)).frozen 2
                          go_simp
                          clear q2 f2
                          refine hK.out _ _ trivial (fun _ => ?_)
                          clear hK K
                          try simp only [Act.put, List.getElem_toArray, List.getElem_cons_zero, List.getElem_cons_succ, List.setIfInBounds_toArray, List.set_cons_zero, List.set_cons_succ]
                          refine wpAnyH_ready (rs := [20]) (by kernel_rfl) (by simp) ?_
                          refine AllReadyH.cons (o := _) rfl (fun K hK => ?_) AllReadyH.nil
                          go_simp
                          refine hK.out _ _ trivial (fun _ => ?_)
                          clear hK K
                          try simp only [Act.put, List.getElem_toArray, List.getElem_cons_zero, List.getElem_cons_succ, List.setIfInBounds_toArray, List.set_cons_zero, List.set_cons_succ]
                          refine wpAnyH_done (by kernel_rfl) ?_ _
                          go_wp2_with fail
                          go_meet
                          obtain ⟨r1, r2, r3, r4⟩ := hR0.fin (u := u + 1) (by rw [List.length_append, HEL.out]; rfl) (by rw [List.length_append, HPL.out]; rfl)
                          exact ⟨some ⟨gD, 0, none⟩, cD, rfl, r1, r2, r3, r4⟩
                    · go_simp
                      have B14 := Bx.made x6 3 #[.int .i64 (nth ds v + 1)]
                      have ba : Below x6.heap.size x6 (x6.alloc (.cells #[.int .i64 (nth ds v + 1)] 3)) := (by repeat (first | exact Below.refl _ _ | assumption | refine Below.alloc ?_ (by first | (simp; done) | (simp; omega) | omega) _ | refine Below.setCell ?_ (by first | (simp; done) | (simp; omega) | omega) _ | refine Below.drew ?_ | refine Below.drewN ?_ _))
                      replace hR0 := hR0.new ba
                      replace B2 := B2.new ba
                      replace B6 := B6.new ba
                      obtain ⟨g14, hg14⟩ : ∃ g, g = x6.heap.size := ⟨_, rfl⟩
                      rw [← hg14] at B14 ⊢
                      have zg14 : wd.heap.size ≤ g14 := by omega
                      have zz := ba.size
                      clear ba hg14
                      generalize x6.alloc (.cells #[.int .i64 (nth ds v + 1)] 3) = x14 at *
                      refine hK.out _ _ ⟨hR0.1.cell 0 _ rfl, hR0.1.cell 2 _ rfl, RdD.out _ _ (hR0.D rfl)⟩ (fun hHeld => ?_)
                      clear hK K
                      try simp only [Act.put, List.getElem_toArray, List.getElem_cons_zero, List.getElem_cons_succ, List.setIfInBounds_toArray, List.set_cons_zero, List.set_cons_succ]
                      refine wpU_ready (rs := [3]) (by kernel_rfl) (by simp) (by kernel_rfl) ?_
                      refine AllReadyU.cons (o := _) rfl (fun K hK => ?_) AllReadyU.nil
                      · rw [if_pos (by rfl)]
                        refine step_app _ _ _ rfl 60 (.slice none 0 0) 1 24 Try.underlying27 ends_info rfl (by decide) lo x14.heap.size (some ⟨A, 0, none⟩) u c _ rfl (hR0.E HEL.out) ⟨g2, 0, none⟩ 1 1 [.slice none 0 0] rfl rfl (news1 _ _ _ _ B2) (by simp [Value.oneCell']) (by decide) (by unfold maxLen; omega) (by omega) hR0.lo_ ?_
                        intro gE cE x3 ownE hgr _ _
                        replace B6 := B6.fr (Fr.of_grown hgr) (fun h => B6.ne_row (hR0.E HEL.out) (by decide) h.symm)
                        replace B14 := B14.fr (Fr.of_grown hgr) (fun h => B14.ne_row (hR0.E HEL.out) (by decide) h.symm)
                        have zz := (Fr.of_grown hgr).size
                        obtain ⟨vE, hRE⟩ := hR0.ends HEL.out hgr ownE
                        replace hR0 := hRE
                        clear hRE hgr ownE B2
                        refine hK.out _ _ ⟨hR0.1.cell 0 _ rfl, hR0.1.cell 2 _ rfl, RdD.out _ _ (hR0.D rfl)⟩ (fun hHeld => ?_)
                        clear hK K
                        try simp only [Act.put, List.getElem_toArray, List.getElem_cons_zero, List.getElem_cons_succ, List.setIfInBounds_toArray, List.set_cons_zero, List.set_cons_succ]
                        refine wpU_ready (rs := [7]) (by kernel_rfl) (by simp) (by kernel_rfl) ?_
                        refine AllReadyU.cons (o := _) rfl (fun K hK => ?_) AllReadyU.nil
                        · rw [if_pos (by rfl)]
                          refine step_app _ _ _ rfl 3 (.int .i64 0) 1 8 Try.underlying23 int_info rfl (by decide) lo x3.heap.size ap u cp _ rfl (hR0.P HPL.out) ⟨g6, 0, none⟩ 1 1 [.int .i64 0] rfl rfl (news1 _ _ _ _ B6) (by simp [Value.oneCell']) (by decide) (by unfold maxLen; omega) (by omega) hR0.lo_ ?_
                          intro gP cP x7 ownP hgr hnew _
                          replace B14 := B14.fr (Fr.of_grown hgr) (fun h => by have := HPB.out _ h.symm; omega)
                          have zz := (Fr.of_grown hgr).size
                          replace hR0 := hR0.inputs HPL.out hgr hnew ownP
                          clear hgr hnew ownP B6
                          refine hK.out _ _ ⟨hR0.1.cell 0 _ rfl, hR0.1.cell 2 _ rfl, RdD.out _ _ (hR0.D rfl)⟩ (fun hHeld => ?_)
                          clear hK K
                          try simp only [Act.put, List.getElem_toArray, List.getElem_cons_zero, List.getElem_cons_succ, List.setIfInBounds_toArray, List.set_cons_zero, List.set_cons_succ]
                          refine wpU_last (by kernel_rfl) ?_
                          refine wpAnyH_ready (rs := [15]) (by kernel_rfl) (by simp) ?_
                          refine AllReadyH.cons (o := _) rfl (fun K hK => ?_) AllReadyH.nil
                          rw [if_pos (by rfl)]
                          refine step_app _ _ _ rfl 3 (.int .i64 0) 1 8 Try.underlying23 int_info rfl (by decide) lo x7.heap.size (some ⟨gd, 0, none⟩) u cd _ rfl (hR0.D HDLU.out) ⟨g14, 0, none⟩ 1 1 [.int .i64 (nth ds v + 1)] rfl rfl (news1 _ _ _ _ B14) (by simp [Value.oneCell']) (by decide) (by unfold maxLen; omega) (by omega) hR0.lo_ ?_
                          intro gD cD x15 ownD hgr hnew _
                          replace hR0 := hR0.dep HDLU.out hgr hnew ownD
                          clear hgr hnew ownD B14
                          refine hK.out _ _ trivial (fun _ => ?_)
                          clear hK K
                          try simp only [Act.put, List.getElem_toArray, List.getElem_cons_zero, List.getElem_cons_succ, List.setIfInBounds_toArray, List.set_cons_zero, List.set_cons_succ]
                          refine wpAnyH_ready (rs := [16]) (by kernel_rfl) (by simp) ?_
                          refine AllReadyH.cons (o := _) rfl (fun K hK => ?_) AllReadyH.nil
                          go_simp
                          refine hK.out _ _ trivial (fun _ => ?_)
                          clear hK K
                          try simp only [Act.put, List.getElem_toArray, List.getElem_cons_zero, List.getElem_cons_succ, List.setIfInBounds_toArray, List.set_cons_zero, List.set_cons_succ]
                          refine wpAnyH_ready (rs := [17]) (by kernel_rfl) (by simp) ?_
                          refine AllReadyH.cons (o := _) rfl (fun K hK => ?_) AllReadyH.nil
                          have q0 := hR0.1.cell 0 _ rfl
                          have f0 := hR0.1.frozen 0
                          go_simp
                          clear q0 f0
                          refine hK.out _ _ trivial (fun _ => ?_)
                          clear hK K
                          try simp only [Act.put, List.getElem_toArray, List.getElem_cons_zero, List.getElem_cons_succ, List.setIfInBounds_toArray, List.set_cons_zero, List.set_cons_succ]
                          refine wpAnyH_ready (rs := [18]) (by kernel_rfl) (by simp) ?_
                          refine AllReadyH.cons (o := _) rfl (fun K hK => ?_) AllReadyH.nil
                          go_simp
                          refine hK.out _ _ trivial (fun _ => ?_)
                          clear hK K
                          try simp only [Act.put, List.getElem_toArray, List.getElem_cons_zero, List.getElem_cons_succ, List.setIfInBounds_toArray, List.set_cons_zero, List.set_cons_succ]
                          refine wpAnyH_ready (rs := [19]) (by kernel_rfl) (by simp) ?_
                          refine AllReadyH.cons (o := _) rfl (fun K hK => ?_) AllReadyH.nil
                          have q2 := (hR0.1.set 0 (.slice (some ⟨gE, 0, none⟩) (u + 1) cE)).cell 2 _ rfl
                          have f2 := (hR0.1.set 0 (.slice (some ⟨gE, 0, none⟩) (u + 1) cE)).frozen 2
                          go_simp
                          clear q2 f2
                          refine hK.out _ _ trivial (fun _ => ?_)
                          clear hK K
                          try simp only [Act.put, List.getElem_toArray, List.getElem_cons_zero, List.getElem_cons_succ, List.setIfInBounds_toArray, List.set_cons_zero, List.set_cons_succ]
                          refine wpAnyH_ready (rs := [20]) (by kernel_rfl) (by simp) ?_
                          refine AllReadyH.cons (o := _) rfl (fun K hK => ?_) AllReadyH.nil
                          go_simp
                          refine hK.out _ _ trivial (fun _ => ?_)
                          clear hK K
                          try simp only [Act.put, List.getElem_toArray, List.getElem_cons_zero, List.getElem_cons_succ, List.setIfInBounds_toArray, List.set_cons_zero, List.set_cons_succ]
                          refine wpAnyH_done (by kernel_rfl) ?_ _
                          go_wp2_with fail
                          go_meet
                          obtain ⟨r1, r2, r3, r4⟩ := hR0.fin (u := u + 1) (by rw [List.length_append, HEL.out]; rfl) (by rw [List.length_append, HPL.out]; rfl)
                          exact ⟨some ⟨gD, 0, none⟩, cD, rfl, r1, r2, r3, r4⟩
                  · go_simp
                    have B14 := Bx.made x2 3 #[.int .i64 (nth ds v + 1)]
                    have ba : Below x2.heap.size x2 (x2.alloc (.cells #[.int .i64 (nth ds v + 1)] 3)) := (by repeat (first | exact Below.refl _ _ | assumption | refine Below.alloc ?_ (by first | (simp; done) | (simp; omega) | omega) _ | refine Below.setCell ?_ (by first | (simp; done) | (simp; omega) | omega) _ | refine Below.drew ?_ | refine Below.drewN ?_ _))
                    replace hR0 := hR0.new ba
                    replace B2 := B2.new ba
                    obtain ⟨g14, hg14⟩ : ∃ g, g = x2.heap.size := ⟨_, rfl⟩
                    rw [← hg14] at B14 ⊢
                    have zg14 : wd.heap.size ≤ g14 := by omega
                    have zz := ba.size
                    clear ba hg14
                    generalize x2.alloc (.cells #[.int .i64 (nth ds v + 1)] 3) = x14 at *
                    refine hK.out _ _ ⟨hR0.1.cell 0 _ rfl, hR0.1.cell 2 _ rfl, RdD.out _ _ (hR0.D rfl)⟩ (fun hHeld => ?_)
                    clear hK K
                    try simp only [Act.put, List.getElem_toArray, List.getElem_cons_zero, List.getElem_cons_succ, List.setIfInBounds_toArray, List.set_cons_zero, List.set_cons_succ]
                    refine wpU_ready (rs := [3, 6]) (by kernel_rfl) (by simp) (by kernel_rfl) ?_
                    refine AllReadyU.cons (o := _) rfl (fun K hK => ?_) (AllReadyU.cons (o := _) rfl (fun K hK => ?_) AllReadyU.nil)
                    · rw [if_pos (by rfl)]
                      refine step_app _ _ _ rfl 60 (.slice none 0 0) 1 24 Try.underlying27 ends_info rfl (by decide) lo x14.heap.size (some ⟨A, 0, none⟩) u c _ rfl (hR0.E HEL.out) ⟨g2, 0, none⟩ 1 1 [.slice none 0 0] rfl rfl (news1 _ _ _ _ B2) (by simp [Value.oneCell']) (by decide) (by unfold maxLen; omega) (by omega) hR0.lo_ ?_
                      intro gE cE x3 ownE hgr _ _
                      replace B14 := B14.fr (Fr.of_grown hgr) (fun h => B14.ne_row (hR0.E HEL.out) (by decide) h.symm)
                      have zz := (Fr.of_grown hgr).size
                      obtain ⟨vE, hRE⟩ := hR0.ends HEL.out hgr ownE
                      replace hR0 := hRE
                      clear hRE hgr ownE B2
                      refine hK.out _ _ ⟨hR0.1.cell 0 _ rfl, hR0.1.cell 2 _ rfl, RdD.out _ _ (hR0.D rfl)⟩ (fun hHeld => ?_)
                      clear hK K
                      try simp only [Act.put, List.getElem_toArray, List.getElem_cons_zero, List.getElem_cons_succ, List.setIfInBounds_toArray, List.set_cons_zero, List.set_cons_succ]
                      refine wpU_ready (rs := [6]) (by kernel_rfl) (by simp) (by kernel_rfl) ?_
                      refine AllReadyU.cons (o := _) rfl (fun K hK => ?_) AllReadyU.nil
                      · go_simp
                        have B6 := Bx.made x3 3 #[.int .i64 0]
                        have ba : Below x3.heap.size x3 (x3.alloc (.cells #[.int .i64 0] 3)) := (by repeat (first | exact Below.refl _ _ | assumption | refine Below.alloc ?_ (by first | (simp; done) | (simp; omega) | omega) _ | refine Below.setCell ?_ (by first | (simp; done) | (simp; omega) | omega) _ | refine Below.drew ?_ | refine Below.drewN ?_ _))
                        replace hR0 := hR0.new ba
                        replace B14 := B14.new ba
                        obtain ⟨g6, hg6⟩ : ∃ g, g = x3.heap.size := ⟨_, rfl⟩
                        rw [← hg6] at B6 ⊢
                        have zg6 : wd.heap.size ≤ g6 := by omega
                        have zz := ba.size
                        clear ba hg6
                        generalize x3.alloc (.cells #[.int .i64 0] 3) = x6 at *
                        refine hK.out _ _ ⟨hR0.1.cell 0 _ rfl, hR0.1.cell 2 _ rfl, RdD.out _ _ (hR0.D rfl)⟩ (fun hHeld => ?_)
                        clear hK K
                        try simp only [Act.put, List.getElem_toArray, List.getElem_cons_zero, List.getElem_cons_succ, List.setIfInBounds_toArray, List.set_cons_zero, List.set_cons_succ]
                        refine wpU_ready (rs := [7]) (by kernel_rfl) (by simp) (by kernel_rfl) ?_
                        refine AllReadyU.cons (o := _) rfl (fun K hK => ?_) AllReadyU.nil
                        · rw [if_pos (by rfl)]
                          refine step_app _ _ _ rfl 3 (.int .i64 0) 1 8 Try.underlying23 int_info rfl (by decide) lo x6.heap.size ap u cp _ rfl (hR0.P HPL.out) ⟨g6, 0, none⟩ 1 1 [.int .i64 0] rfl rfl (news1 _ _ _ _ B6) (by simp [Value.oneCell']) (by decide) (by unfold maxLen; omega) (by omega) hR0.lo_ ?_
                          intro gP cP x7 ownP hgr hnew _
                          replace B14 := B14.fr (Fr.of_grown hgr) (fun h => by have := HPB.out _ h.symm; omega)
                          have zz := (Fr.of_grown hgr).size
                          replace hR0 := hR0.inputs HPL.out hgr hnew ownP
                          clear hgr hnew ownP B6
                          refine hK.out _ _ ⟨hR0.1.cell 0 _ rfl, hR0.1.cell 2 _ rfl, RdD.out _ _ (hR0.D rfl)⟩ (fun hHeld => ?_)
                          clear hK K
                          try simp only [Act.put, List.getElem_toArray, List.getElem_cons_zero, List.getElem_cons_succ, List.setIfInBounds_toArray, List.set_cons_zero, List.set_cons_succ]
                          refine wpU_last (by kernel_rfl) ?_
                          refine wpAnyH_ready (rs := [15]) (by kernel_rfl) (by simp) ?_
                          refine AllReadyH.cons (o := _) rfl (fun K hK => ?_) AllReadyH.nil
                          rw [if_pos (by rfl)]
                          refine step_app _ _ _ rfl 3 (.int .i64 0) 1 8 Try.underlying23 int_info rfl (by decide) lo x7.heap.size (some ⟨gd, 0, none⟩) u cd _ rfl (hR0.D HDLU.out) ⟨g14, 0, none⟩ 1 1 [.int .i64 (nth ds v + 1)] rfl rfl (news1 _ _ _ _ B14) (by simp [Value.oneCell']) (by decide) (by unfold maxLen; omega) (by omega) hR0.lo_ ?_
                          intro gD cD x15 ownD hgr hnew _
                          replace hR0 := hR0.dep HDLU.out hgr hnew ownD
                          clear hgr hnew ownD B14
                          refine hK.out _ _ trivial (fun _ => ?_)
                          clear hK K
                          try simp only [Act.put, List.getElem_toArray, List.getElem_cons_zero, List.getElem_cons_succ, List.setIfInBounds_toArray, List.set_cons_zero, List.set_cons_succ]
                          refine wpAnyH_ready (rs := [16]) (by kernel_rfl) (by simp) ?_
                          refine AllReadyH.cons (o := _) rfl (fun K hK => ?_) AllReadyH.nil
                          go_simp
                          refine hK.out _ _ trivial (fun _ => ?_)
                          clear hK K
                          try simp only [Act.put, List.getElem_toArray, List.getElem_cons_zero, List.getElem_cons_succ, List.setIfInBounds_toArray, List.set_cons_zero, List.set_cons_succ]
                          refine wpAnyH_ready (rs := [17]) (by kernel_rfl) (by simp) ?_
                          refine AllReadyH.cons (o := _) rfl (fun K hK => ?_) AllReadyH.nil
                          have q0 := hR0.1.cell 0 _ rfl
                          have f0 := hR0.1.frozen 0
                          go_simp
                          clear q0 f0
                          refine hK.out _ _ trivial (fun _ => ?_)
                          clear hK K
                          try simp only [Act.put, List.getElem_toArray, List.getElem_cons_zero, List.getElem_cons_succ, List.setIfInBounds_toArray, List.set_cons_zero, List.set_cons_succ]
                          refine wpAnyH_ready (rs := [18]) (by kernel_rfl) (by simp) ?_
                          refine AllReadyH.cons (o := _) rfl (fun K hK => ?_) AllReadyH.nil
                          go_simp
                          refine hK.out _ _ trivial (fun _ => ?_)
                          clear hK K
                          try simp only [Act.put, List.getElem_toArray, List.getElem_cons_zero, List.getElem_cons_succ, List.setIfInBounds_toArray, List.set_cons_zero, List.set_cons_succ]
                          refine wpAnyH_ready (rs := [19]) (by kernel_rfl) (by simp) ?_
                          refine AllReadyH.cons (o := _) rfl (fun K hK => ?_) AllReadyH.nil
                          have q2 := (hR0.1.set 0 (.slice (some ⟨gE, 0, none⟩) (u + 1) cE)).cell 2 _ rfl
                          have f2 := (hR0.1.set 0 (.slice (some ⟨gE, 0, none⟩) (u + 1) cE)).frozen 2
                          go_simp
                          clear q2 f2
                          refine hK.out _ _ trivial (fun _ => ?_)
                          clear hK K
                          try simp only [Act.put, List.getElem_toArray, List.getElem_cons_zero, List.getElem_cons_succ, List.setIfInBounds_toArray, List.set_cons_zero, List.set_cons_succ]
                          refine wpAnyH_ready (rs := [20]) (by kernel_rfl) (by simp) ?_
                          refine AllReadyH.cons (o := _) rfl (fun K hK => ?_) AllReadyH.nil
                          go_simp
                          refine hK.out _ _ trivial (fun _ => ?_)
                          clear hK K
                          try simp only [Act.put, List.getElem_toArray, List.getElem_cons_zero, List.getElem_cons_succ, List.setIfInBounds_toArray, List.set_cons_zero, List.set_cons_succ]
                          refine wpAnyH_done (by kernel_rfl) ?_ _
                          go_wp2_with fail
                          go_meet
                          obtain ⟨r1, r2, r3, r4⟩ := hR0.fin (u := u + 1) (by rw [List.length_append, HEL.out]; rfl) (by rw [List.length_append, HPL.out]; rfl)
                          exact ⟨some ⟨gD, 0, none⟩, cD, rfl, r1, r2, r3, r4⟩
                    · go_simp
                      have B6 := Bx.made x14 3 #[.int .i64 0]
                      have ba : Below x14.heap.size x14 (x14.alloc (.cells #[.int .i64 0] 3)) := (by repeat (first | exact Below.refl _ _ | assumption | refine Below.alloc ?_ (by first | (simp; done) | (simp; omega) | omega) _ | refine Below.setCell ?_ (by first | (simp; done) | (simp; omega) | omega) _ | refine Below.drew ?_ | refine Below.drewN ?_ _))
                      replace hR0 := hR0.new ba
                      replace B2 := B2.new ba
                      replace B14 := B14.new ba
                      obtain ⟨g6, hg6⟩ : ∃ g, g = x14.heap.size := ⟨_, rfl⟩
                      rw [← hg6] at B6 ⊢
                      have zg6 : wd.heap.size ≤ g6 := by omega
                      have zz := ba.size
                      clear ba hg6
                      generalize x14.alloc (.cells #[.int .i64 0] 3) = x6 at *
                      refine hK.out _ _ ⟨hR0.1.cell 0 _ rfl, hR0.1.cell 2 _ rfl, RdD.out _ _ (hR0.D rfl)⟩ (fun hHeld => ?_)
                      clear hK K
                      try simp only [Act.put, List.getElem_toArray, List.getElem_cons_zero, List.getElem_cons_succ, List.setIfInBounds_toArray, List.set_cons_zero, List.set_cons_succ]
                      refine wpU_ready (rs := [3]) (by kernel_rfl) (by simp) (by kernel_rfl) ?_
                      refine AllReadyU.cons (o := _) rfl (fun K hK => ?_) AllReadyU.nil
                      · rw [if_pos (by rfl)]
                        refine step_app _ _ _ rfl 60 (.slice none 0 0) 1 24 Try.underlying27 ends_info rfl (by decide) lo x6.heap.size (some ⟨A, 0, none⟩) u c _ rfl (hR0.E HEL.out) ⟨g2, 0, none⟩ 1 1 [.slice none 0 0] rfl rfl (news1 _ _ _ _ B2) (by simp [Value.oneCell']) (by decide) (by unfold maxLen; omega) (by omega) hR0.lo_ ?_
                        intro gE cE x3 ownE hgr _ _
                        replace B6 := B6.fr (Fr.of_grown hgr) (fun h => B6.ne_row (hR0.E HEL.out) (by decide) h.symm)
                        replace B14 := B14.fr (Fr.of_grown hgr) (fun h => B14.ne_row (hR0.E HEL.out) (by decide) h.symm)
                        have zz := (Fr.of_grown hgr).size
                        obtain ⟨vE, hRE⟩ := hR0.ends HEL.out hgr ownE
                        replace hR0 := hRE
                        clear hRE hgr ownE B2
                        refine hK.out _ _ ⟨hR0.1.cell 0 _ rfl, hR0.1.cell 2 _ rfl, RdD.out _ _ (hR0.D rfl)⟩ (fun hHeld => ?_)
                        clear hK K
                        try simp only [Act.put, List.getElem_toArray, List.getElem_cons_zero, List.getElem_cons_succ, List.setIfInBounds_toArray, List.set_cons_zero, List.set_cons_succ]
                        refine wpU_ready (rs := [7]) (by kernel_rfl) (by simp) (by kernel_rfl) ?_
                        refine AllReadyU.cons (o := _) rfl (fun K hK => ?_) AllReadyU.nil
                        · rw [if_pos (by rfl)]
                          refine step_app _ _ _ rfl 3 (.int .i64 0) 1 8 Try.underlying23 int_info rfl (by decide) lo x3.heap.size ap u cp _ rfl (hR0.P HPL.out) ⟨g6, 0, none⟩ 1 1 [.int .i64 0] rfl rfl (news1 _ _ _ _ B6) (by simp [Value.oneCell']) (by decide) (by unfold maxLen; omega) (by omega) hR0.lo_ ?_
                          intro gP cP x7 ownP hgr hnew _
                          replace B14 := B14.fr (Fr.of_grown hgr) (fun h => by have := HPB.out _ h.symm; omega)
                          have zz := (Fr.of_grown hgr).size
                          replace hR0 := hR0.inputs HPL.out hgr hnew ownP
                          clear hgr hnew ownP B6
                          refine hK.out _ _ ⟨hR0.1.cell 0 _ rfl, hR0.1.cell 2 _ rfl, RdD.out _ _ (hR0.D rfl)⟩ (fun hHeld => ?_)
                          clear hK K
                          try simp only [Act.put, List.getElem_toArray, List.getElem_cons_zero, List.getElem_cons_succ, List.setIfInBounds_toArray, List.set_cons_zero, List.set_cons_succ]
                          refine wpU_last (by kernel_rfl) ?_
                          refine wpAnyH_ready (rs := [15]) (by kernel_rfl) (by simp) ?_
                          refine AllReadyH.cons (o := _) rfl (fun K hK => ?_) AllReadyH.nil
                          rw [if_pos (by rfl)]
                          refine step_app _ _ _ rfl 3 (.int .i64 0) 1 8 Try.underlying23 int_info rfl (by decide) lo x7.heap.size (some ⟨gd, 0, none⟩) u cd _ rfl (hR0.D HDLU.out) ⟨g14, 0, none⟩ 1 1 [.int .i64 (nth ds v + 1)] rfl rfl (news1 _ _ _ _ B14) (by simp [Value.oneCell']) (by decide) (by unfold maxLen; omega) (by omega) hR0.lo_ ?_
                          intro gD cD x15 ownD hgr hnew _
                          replace hR0 := hR0.dep HDLU.out hgr hnew ownD
                          clear hgr hnew ownD B14
                          refine hK.out _ _ trivial (fun _ => ?_)
                          clear hK K
                          try simp only [Act.put, List.getElem_toArray, List.getElem_cons_zero, List.getElem_cons_succ, List.setIfInBounds_toArray, List.set_cons_zero, List.set_cons_succ]
                          refine wpAnyH_ready (rs := [16]) (by kernel_rfl) (by simp) ?_
                          refine AllReadyH.cons (o := _) rfl (fun K hK => ?_) AllReadyH.nil
                          go_simp
                          refine hK.out _ _ trivial (fun _ => ?_)
                          clear hK K
                          try simp only [Act.put, List.getElem_toArray, List.getElem_cons_zero, List.getElem_cons_succ, List.setIfInBounds_toArray, List.set_cons_zero, List.set_cons_succ]
                          refine wpAnyH_ready (rs := [17]) (by kernel_rfl) (by simp) ?_
                          refine AllReadyH.cons (o := _) rfl (fun K hK => ?_) AllReadyH.nil
                          have q0 := hR0.1.cell 0 _ rfl
                          have f0 := hR0.1.frozen 0
                          go_simp
                          clear q0 f0
                          refine hK.out _ _ trivial (fun _ => ?_)
                          clear hK K
                          try simp only [Act.put, List.getElem_toArray, List.getElem_cons_zero, List.getElem_cons_succ, List.setIfInBounds_toArray, List.set_cons_zero, List.set_cons_succ]
                          refine wpAnyH_ready (rs := [18]) (by kernel_rfl) (by simp) ?_
                          refine AllReadyH.cons (o := _) rfl (fun K hK => ?_) AllReadyH.nil
                          go_simp
                          refine hK.out _ _ trivial (fun _ => ?_)
                          clear hK K
                          try simp only [Act.put, List.getElem_toArray, List.getElem_cons_zero, List.getElem_cons_succ, List.setIfInBounds_toArray, List.set_cons_zero, List.set_cons_succ]
                          refine wpAnyH_ready (rs := [19]) (by kernel_rfl) (by simp) ?_
                          refine AllReadyH.cons (o := _) rfl (fun K hK => ?_) AllReadyH.nil
                          have q2 := (hR0.1.set 0 (.slice (some ⟨gE, 0, none⟩) (u + 1) cE)).cell 2 _ rfl
                          have f2 := (hR0.1.set 0 (.slice (some ⟨gE, 0, none⟩) (u + 1) cE)).frozen 2
                          go_simp
                          clear q2 f2
                          refine hK.out _ _ trivial (fun _ => ?_)
                          clear hK K
                          try simp only [Act.put, List.getElem_toArray, List.getElem_cons_zero, List.getElem_cons_succ, List.setIfInBounds_toArray, List.set_cons_zero, List.set_cons_succ]
                          refine wpAnyH_ready (rs := [20]) (by kernel_rfl) (by simp) ?_
                          refine AllReadyH.cons (o := _) rfl (fun K hK => ?_) AllReadyH.nil
                          go_simp
                          refine hK.out _ _ trivial (fun _ => ?_)
                          clear hK K
                          try simp only [Act.put, List.getElem_toArray, List.getElem_cons_zero, List.getElem_cons_succ, List.setIfInBounds_toArray, List.set_cons_zero, List.set_cons_succ]
                          refine wpAnyH_done (by kernel_rfl) ?_ _
                          go_wp2_with fail
                          go_meet
                          obtain ⟨r1, r2, r3, r4⟩ := hR0.fin (u := u + 1) (by rw [List.length_append, HEL.out]; rfl) (by rw [List.length_append, HPL.out]; rfl)
                          exact ⟨some ⟨gD, 0, none⟩, cD, rfl, r1, r2, r3, r4⟩
                · go_simp
                  have B6 := Bx.made wd 3 #[.int .i64 0]
                  have ba : Below wd.heap.size wd (wd.alloc (.cells #[.int .i64 0] 3)) := (by repeat (first | exact Below.refl _ _ | assumption | refine Below.alloc ?_ (by first | (simp; done) | (simp; omega) | omega) _ | refine Below.setCell ?_ (by first | (simp; done) | (simp; omega) | omega) _ | refine Below.drew ?_ | refine Below.drewN ?_ _))
                  replace hR0 := hR0.new ba
                  obtain ⟨g6, hg6⟩ : ∃ g, g = wd.heap.size := ⟨_, rfl⟩
                  rw [← hg6] at B6 ⊢
                  have zg6 : wd.heap.size ≤ g6 := by omega
                  have zz := ba.size
                  clear ba hg6
                  generalize wd.alloc (.cells #[.int .i64 0] 3) = x6 at *
                  refine hK.out _ _ ⟨hR0.1.cell 0 _ rfl, hR0.1.cell 2 _ rfl, RdD.out _ _ (hR0.D rfl)⟩ (fun hHeld => ?_)
                  clear hK K
                  try simp only [Act.put, List.getElem_toArray, List.getElem_cons_zero, List.getElem_cons_succ, List.setIfInBounds_toArray, List.set_cons_zero, List.set_cons_succ]
                  refine wpU_ready (rs := [2, 14]) (by kernel_rfl) (by simp) (by kernel_rfl) ?_
                  refine AllReadyU.cons (o := _) rfl (fun K hK => ?_) (AllReadyU.cons (o := _) rfl (fun K hK => ?_) AllReadyU.nil)
                  · go_simp
                    have B2 := Bx.made x6 60 #[.slice none 0 0]
                    have ba : Below x6.heap.size x6 (x6.alloc (.cells #[.slice none 0 0] 60)) := (by repeat (first | exact Below.refl _ _ | assumption | refine Below.alloc ?_ (by first | (simp; done) | (simp; omega) | omega) _ | refine Below.setCell ?_ (by first | (simp; done) | (simp; omega) | omega) _ | refine Below.drew ?_ | refine Below.drewN ?_ _))
                    replace hR0 := hR0.new ba
                    replace B6 := B6.new ba
                    obtain ⟨g2, hg2⟩ : ∃ g, g = x6.heap.size := ⟨_, rfl⟩
                    rw [← hg2] at B2 ⊢
                    have zg2 : wd.heap.size ≤ g2 := by omega
                    have zz := ba.size
                    clear ba hg2
                    generalize x6.alloc (.cells #[.slice none 0 0] 60) = x2 at *
                    refine hK.out _ _ ⟨hR0.1.cell 0 _ rfl, hR0.1.cell 2 _ rfl, RdD.out _ _ (hR0.D rfl)⟩ (fun hHeld => ?_)
                    clear hK K
                    try simp only [Act.put, List.getElem_toArray, List.getElem_cons_zero, List.getElem_cons_succ, List.setIfInBounds_toArray, List.set_cons_zero, List.set_cons_succ]
                    refine wpU_ready (rs := [3, 14]) (by kernel_rfl) (by simp) (by kernel_rfl) ?_
                    refine AllReadyU.cons (o := _) rfl (fun K hK => ?_) (AllReadyU.cons (o := _) rfl (fun K hK => ?_) AllReadyU.nil)
                    · rw [if_pos (by rfl)]
                      refine step_app _ _ _ rfl 60 (.slice none 0 0) 1 24 Try.underlying27 ends_info rfl (by decide) lo x2.heap.size (some ⟨A, 0, none⟩) u c _ rfl (hR0.E HEL.out) ⟨g2, 0, none⟩ 1 1 [.slice none 0 0] rfl rfl (news1 _ _ _ _ B2) (by simp [Value.oneCell']) (by decide) (by unfold maxLen; omega) (by omega) hR0.lo_ ?_
                      intro gE cE x3 ownE hgr _ _
                      replace B6 := B6.fr (Fr.of_grown hgr) (fun h => B6.ne_row (hR0.E HEL.out) (by decide) h.symm)
                      have zz := (Fr.of_grown hgr).size
                      obtain ⟨vE, hRE⟩ := hR0.ends HEL.out hgr ownE
                      replace hR0 := hRE
                      clear hRE hgr ownE B2
                      refine hK.out _ _ ⟨hR0.1.cell 0 _ rfl, hR0.1.cell 2 _ rfl, RdD.out _ _ (hR0.D rfl)⟩ (fun hHeld => ?_)
                      clear hK K
                      try simp only [Act.put, List.getElem_toArray, List.getElem_cons_zero, List.getElem_cons_succ, List.setIfInBounds_toArray, List.set_cons_zero, List.set_cons_succ]
                      refine wpU_ready (rs := [7, 14]) (by kernel_rfl) (by simp) (by kernel_rfl) ?_
                      refine AllReadyU.cons (o := _) rfl (fun K hK => ?_) (AllReadyU.cons (o := _) rfl (fun K hK => ?_) AllReadyU.nil)
                      · rw [if_pos (by rfl)]
                        refine step_app _ _ _ rfl 3 (.int .i64 0) 1 8 Try.underlying23 int_info rfl (by decide) lo x3.heap.size ap u cp _ rfl (hR0.P HPL.out) ⟨g6, 0, none⟩ 1 1 [.int .i64 0] rfl rfl (news1 _ _ _ _ B6) (by simp [Value.oneCell']) (by decide) (by unfold maxLen; omega) (by omega) hR0.lo_ ?_
                        intro gP cP x7 ownP hgr hnew _
                        have zz := (Fr.of_grown hgr).size
                        replace hR0 := hR0.inputs HPL.out hgr hnew ownP
                        clear hgr hnew ownP B6
                        refine hK.out _ _ ⟨hR0.1.cell 0 _ rfl, hR0.1.cell 2 _ rfl, RdD.out _ _ (hR0.D rfl)⟩ (fun hHeld => ?_)
                        clear hK K
                        try simp only [Act.put, List.getElem_toArray, List.getElem_cons_zero, List.getElem_cons_succ, List.setIfInBounds_toArray, List.set_cons_zero, List.set_cons_succ]
                        refine wpU_ready (rs := [14]) (by kernel_rfl) (by simp) (by kernel_rfl) ?_
                        refine AllReadyU.cons (o := _) rfl (fun K hK => ?_) AllReadyU.nil
                        · go_simp
                          have B14 := Bx.made x7 3 #[.int .i64 (nth ds v + 1)]
                          have ba : Below x7.heap.size x7 (x7.alloc (.cells #[.int .i64 (nth ds v + 1)] 3)) := (by repeat (first | exact Below.refl _ _ | assumption | refine Below.alloc ?_ (by first | (simp; done) | (simp; omega) | omega) _ | refine Below.setCell ?_ (by first | (simp; done) | (simp; omega) | omega) _ | refine Below.drew ?_ | refine Below.drewN ?_ _))
                          replace hR0 := hR0.new ba
                          obtain ⟨g14, hg14⟩ : ∃ g, g = x7.heap.size := ⟨_, rfl⟩
                          rw [← hg14] at B14 ⊢
                          have zg14 : wd.heap.size ≤ g14 := by omega
                          have zz := ba.size
                          clear ba hg14
                          generalize x7.alloc (.cells #[.int .i64 (nth ds v + 1)] 3) = x14 at *
                          refine hK.out _ _ ⟨hR0.1.cell 0 _ rfl, hR0.1.cell 2 _ rfl, RdD.out _ _ (hR0.D rfl)⟩ (fun hHeld => ?_)
                          clear hK K
                          try simp only [Act.put, List.getElem_toArray, List.getElem_cons_zero, List.getElem_cons_succ, List.setIfInBounds_toArray, List.set_cons_zero, List.set_cons_succ]
                          refine wpU_last (by kernel_rfl) ?_
                          refine wpAnyH_ready (rs := [15]) (by kernel_rfl) (by simp) ?_
                          refine AllReadyH.cons (o := _) rfl (fun K hK => ?_) AllReadyH.nil
                          rw [if_pos (by rfl)]
                          refine step_app _ _ _ rfl 3 (.int .i64 0) 1 8 Try.underlying23 int_info rfl (by decide) lo x14.heap.size (some ⟨gd, 0, none⟩) u cd _ rfl (hR0.D HDLU.out) ⟨g14, 0, none⟩ 1 1 [.int .i64 (nth ds v + 1)] rfl rfl (news1 _ _ _ _ B14) (by simp [Value.oneCell']) (by decide) (by unfold maxLen; omega) (by omega) hR0.lo_ ?_
                          intro gD cD x15 ownD hgr hnew _
                          replace hR0 := hR0.dep HDLU.out hgr hnew ownD
                          clear hgr hnew ownD B14
                          refine hK.out _ _ trivial (fun _ => ?_)
                          clear hK K
                          try simp only [Act.put, List.getElem_toArray, List.getElem_cons_zero, List.getElem_cons_succ, List.setIfInBounds_toArray, List.set_cons_zero, List.set_cons_succ]
                          refine wpAnyH_ready (rs := [16]) (by kernel_rfl) (by simp) ?_
                          refine AllReadyH.cons (o := _) rfl (fun K hK => ?_) AllReadyH.nil
                          go_simp
                          refine hK.out _ _ trivial (fun _ => ?_)
                          clear hK K
                          try simp only [Act.put, List.getElem_toArray, List.getElem_cons_zero, List.getElem_cons_succ, List.setIfInBounds_toArray, List.set_cons_zero, List.set_cons_succ]
                          refine wpAnyH_ready (rs := [17]) (by kernel_rfl) (by simp) ?_
                          refine AllReadyH.cons (o := _) rfl (fun K hK => ?_) AllReadyH.nil
                          have q0 := hR0.1.cell 0 _ rfl
                          have f0 := hR0.1.frozen 0
                          go_simp
                          clear q0 f0
                          refine hK.out _ _ trivial (fun _ => ?_)
                          clear hK K
                          try simp only [Act.put, List.getElem_toArray, List.getElem_cons_zero, List.getElem_cons_succ, List.setIfInBounds_toArray, List.set_cons_zero, List.set_cons_succ]
                          refine wpAnyH_ready (rs := [18]) (by kernel_rfl) (by simp) ?_
                          refine AllReadyH.cons (o := _) rfl (fun K hK => ?_) AllReadyH.nil
                          go_simp
                          refine hK.out _ _ trivial (fun _ => ?_)
                          clear hK K
                          try simp only [Act.put, List.getElem_toArray, List.getElem_cons_zero, List.getElem_cons_succ, List.setIfInBounds_toArray, List.set_cons_zero, List.set_cons_succ]
                          refine wpAnyH_ready (rs := [19]) (by kernel_rfl) (by simp) ?_
                          refine AllReadyH.cons (o := _) rfl (fun K hK => ?_) AllReadyH.nil
                          have q2 := (hR0.1.set 0 (.slice (some ⟨gE, 0, none⟩) (u + 1) cE)).cell 2 _ rfl
                          have f2 := (hR0.1.set 0 (.slice (some ⟨gE, 0, none⟩) (u + 1) cE)).frozen 2
                          go_simp
                          clear q2 f2
                          refine hK.out _ _ trivial (fun _ => ?_)
                          clear hK K
                          try simp only [Act.put, List.getElem_toArray, List.getElem_cons_zero, List.getElem_cons_succ, List.setIfInBounds_toArray, List.set_cons_zero, List.set_cons_succ]
                          refine wpAnyH_ready (rs := [20]) (by kernel_rfl) (by simp) ?_
                          refine AllReadyH.cons (o := _) rfl (fun K hK => ?_) AllReadyH.nil
                          go_simp
                          refine hK.out _ _ trivial (fun _ => ?_)
                          clear hK K
                          try simp only [Act.put, List.getElem_toArray, List.getElem_cons_zero, List.getElem_cons_succ, List.setIfInBounds_toArray, List.set_cons_zero, List.set_cons_succ]
                          refine wpAnyH_done (by kernel_rfl) ?_ _
                          go_wp2_with fail
                          go_meet
                          obtain ⟨r1, r2, r3, r4⟩ := hR0.fin (u := u + 1) (by rw [List.length_append, HEL.out]; rfl) (by rw [List.length_append, HPL.out]; rfl)
                          exact ⟨some ⟨gD, 0, none⟩, cD, rfl, r1, r2, r3, r4⟩
                      · go_simp
                        have B14 := Bx.made x3 3 #[.int .i64 (nth ds v + 1)]
                        have ba : Below x3.heap.size x3 (x3.alloc (.cells #[.int .i64 (nth ds v + 1)] 3)) := (by repeat (first | exact Below.refl _ _ | assumption | refine Below.alloc ?_ (by first | (simp; done) | (simp; omega) | omega) _ | refine Below.setCell ?_ (by first | (simp; done) | (simp; omega) | omega) _ | refine Below.drew ?_ | refine Below.drewN ?_ _))
                        replace hR0 := hR0.new ba
                        replace B6 := B6.new ba
                        obtain ⟨g14, hg14⟩ : ∃ g, g = x3.heap.size := ⟨_, rfl⟩
                        rw [← hg14] at B14 ⊢
                        have zg14 : wd.heap.size ≤ g14 := by omega
                        have zz := ba.size
                        clear ba hg14
                        generalize x3.alloc (.cells #[.int .i64 (nth ds v + 1)] 3) = x14 at *
                        refine hK.out _ _ ⟨hR0.1.cell 0 _ rfl, hR0.1.cell 2 _ rfl, RdD.out _ _ (hR0.D rfl)⟩ (fun hHeld => ?_)
                        clear hK K
                        try simp only [Act.put, List.getElem_toArray, List.getElem_cons_zero, List.getElem_cons_succ, List.setIfInBounds_toArray, List.set_cons_zero, List.set_cons_succ]
                        refine wpU_ready (rs := [7]) (by kernel_rfl) (by simp) (by kernel_rfl) ?_
                        refine AllReadyU.cons (o := _) rfl (fun K hK => ?_) AllReadyU.nil
                        · rw [if_pos (by rfl)]
                          refine step_app _ _ _ rfl 3 (.int .i64 0) 1 8 Try.underlying23 int_info rfl (by decide) lo x14.heap.size ap u cp _ rfl (hR0.P HPL.out) ⟨g6, 0, none⟩ 1 1 [.int .i64 0] rfl rfl (news1 _ _ _ _ B6) (by simp [Value.oneCell']) (by decide) (by unfold maxLen; omega) (by omega) hR0.lo_ ?_
                          intro gP cP x7 ownP hgr hnew _
                          replace B14 := B14.fr (Fr.of_grown hgr) (fun h => by have := HPB.out _ h.symm; omega)
                          have zz := (Fr.of_grown hgr).size
                          replace hR0 := hR0.inputs HPL.out hgr hnew ownP
                          clear hgr hnew ownP B6
                          refine hK.out _ _ ⟨hR0.1.cell 0 _ rfl, hR0.1.cell 2 _ rfl, RdD.out _ _ (hR0.D rfl)⟩ (fun hHeld => ?_)
                          clear hK K
                          try simp only [Act.put, List.getElem_toArray, List.getElem_cons_zero, List.getElem_cons_succ, List.setIfInBounds_toArray, List.set_cons_zero, List.set_cons_succ]
                          refine wpU_last (by kernel_rfl) ?_
                          refine wpAnyH_ready (rs := [15]) (by kernel_rfl) (by simp) ?_
                          refine AllReadyH.cons (o := _) rfl (fun K hK => ?_) AllReadyH.nil
                          rw [if_pos (by rfl)]
                          refine step_app _ _ _ rfl 3 (.int .i64 0) 1 8 Try.underlying23 int_info rfl (by decide) lo x7.heap.size (some ⟨gd, 0, none⟩) u cd _ rfl (hR0.D HDLU.out) ⟨g14, 0, none⟩ 1 1 [.int .i64 (nth ds v + 1)] rfl rfl (news1 _ _ _ _ B14) (by simp [Value.oneCell']) (by decide) (by unfold maxLen; omega) (by omega) hR0.lo_ ?_
                          intro gD cD x15 ownD hgr hnew _
                          replace hR0 := hR0.dep HDLU.out hgr hnew ownD
                          clear hgr hnew ownD B14
                          refine hK.out _ _ trivial (fun _ => ?_)
                          clear hK K
                          try simp only [Act.put, List.getElem_toArray, List.getElem_cons_zero, List.getElem_cons_succ, List.setIfInBounds_toArray, List.set_cons_zero, List.set_cons_succ]
                          refine wpAnyH_ready (rs := [16]) (by kernel_rfl) (by simp) ?_
                          refine AllReadyH.cons (o := _) rfl (fun K hK => ?_) AllReadyH.nil
                          go_simp
                          refine hK.out _ _ trivial (fun _ => ?_)
                          clear hK K
                          try simp only [Act.put, List.getElem_toArray, List.getElem_cons_zero, List.getElem_cons_succ, List.setIfInBounds_toArray, List.set_cons_zero, List.set_cons_succ]
                          refine wpAnyH_ready (rs := [17]) (by kernel_rfl) (by simp) ?_
                          refine AllReadyH.cons (o := _) rfl (fun K hK => ?_) AllReadyH.nil
                          have q0 := hR0.1.cell 0 _ rfl
                          have f0 := hR0.1.frozen 0
                          go_simp
                          clear q0 f0
                          refine hK.out _ _ trivial (fun _ => ?_)
                          clear hK K
                          try simp only [Act.put, List.getElem_toArray, List.getElem_cons_zero, List.getElem_cons_succ, List.setIfInBounds_toArray, List.set_cons_zero, List.set_cons_succ]
                          refine wpAnyH_ready (rs := [18]) (by kernel_rfl) (by simp) ?_
                          refine AllReadyH.cons (o := _) rfl (fun K hK => ?_) AllReadyH.nil
                          go_simp
                          refine hK.out _ _ trivial (fun _ => ?_)
                          clear hK K
                          try simp only [Act.put, List.getElem_toArray, List.getElem_cons_zero, List.getElem_cons_succ, List.setIfInBounds_toArray, List.set_cons_zero, List.set_cons_succ]
                          refine wpAnyH_ready (rs := [19]) (by kernel_rfl) (by simp) ?_
                          refine AllReadyH.cons (o := _) rfl (fun K hK => ?_) AllReadyH.nil
                          have q2 := (hR0.1.set 0 (.slice (some ⟨gE, 0, none⟩) (u + 1) cE)).cell 2 _ rfl
                          have f2 := (hR0.1.set 0 (.slice (some ⟨gE, 0, none⟩) (u + 1) cE)).frozen 2
                          go_simp
                          clear q2 f2
                          refine hK.out _ _ trivial (fun _ => ?_)
                          clear hK K
                          try simp only [Act.put, List.getElem_toArray, List.getElem_cons_zero, List.getElem_cons_succ, List.setIfInBounds_toArray, List.set_cons_zero, List.set_cons_succ]
                          refine wpAnyH_ready (rs := [20]) (by kernel_rfl) (by simp) ?_
                          refine AllReadyH.cons (o := _) rfl (fun K hK => ?_) AllReadyH.nil
                          go_simp
                          refine hK.out _ _ trivial (fun _ => ?_)
                          clear hK K
                          try simp only [Act.put, List.getElem_toArray, List.getElem_cons_zero, List.getElem_cons_succ, List.setIfInBounds_toArray, List.set_cons_zero, List.set_cons_succ]
                          refine wpAnyH_done (by kernel_rfl) ?_ _
                          go_wp2_with fail
                          go_meet
                          obtain ⟨r1, r2, r3, r4⟩ := hR0.fin (u := u + 1) (by rw [List.length_append, HEL.out]; rfl) (by rw [List.length_append, HPL.out]; rfl)
                          exact ⟨some ⟨gD, 0, none⟩, cD, rfl, r1, r2, r3, r4⟩
                    · go_simp
                      have B14 := Bx.made x2 3 #[.int .i64 (nth ds v + 1)]
                      have ba : Below x2.heap.size x2 (x2.alloc (.cells #[.int .i64 (nth ds v + 1)] 3)) := (by repeat (first | exact Below.refl _ _ | assumption | refine Below.alloc ?_ (by first | (simp; done) | (simp; omega) | omega) _ | refine Below.setCell ?_ (by first | (simp; done) | (simp; omega) | omega) _ | refine Below.drew ?_ | refine Below.drewN ?_ _))
                      replace hR0 := hR0.new ba
                      replace B2 := B2.new ba
                      replace B6 := B6.new ba
                      obtain ⟨g14, hg14⟩ : ∃ g, g = x2.heap.size := ⟨_, rfl⟩
                      rw [← hg14] at B14 ⊢
                      have zg14 : wd.heap.size ≤ g14 := by omega
                      have zz := ba.size
                      clear ba hg14
                      generalize x2.alloc (.cells #[.int .i64 (nth ds v + 1)] 3) = x14 at *
                      refine hK.out _ _ ⟨hR0.1.cell 0 _ rfl, hR0.1.cell 2 _ rfl, RdD.out _ _ (hR0.D rfl)⟩ (fun hHeld => ?_)
                      clear hK K
                      try simp only [Act.put, List.getElem_toArray, List.getElem_cons_zero, List.getElem_cons_succ, List.setIfInBounds_toArray, List.set_cons_zero, List.set_cons_succ]
                      refine wpU_ready (rs := [3]) (by kernel_rfl) (by simp) (by kernel_rfl) ?_
                      refine AllReadyU.cons (o := _) rfl (fun K hK => ?_) AllReadyU.nil
                      · rw [if_pos (by rfl)]
                        refine step_app _ _ _ rfl 60 (.slice none 0 0) 1 24 Try.underlying27 ends_info rfl (by decide) lo x14.heap.size (some ⟨A, 0, none⟩) u c _ rfl (hR0.E HEL.out) ⟨g2, 0, none⟩ 1 1 [.slice none 0 0] rfl rfl (news1 _ _ _ _ B2) (by simp [Value.oneCell']) (by decide) (by unfold maxLen; omega) (by omega) hR0.lo_ ?_
                        intro gE cE x3 ownE hgr _ _
                        replace B6 := B6.fr (Fr.of_grown hgr) (fun h => B6.ne_row (hR0.E HEL.out) (by decide) h.symm)
                        replace B14 := B14.fr (Fr.of_grown hgr) (fun h => B14.ne_row (hR0.E HEL.out) (by decide) h.symm)
                        have zz := (Fr.of_grown hgr).size
                        obtain ⟨vE, hRE⟩ := hR0.ends HEL.out hgr ownE
                        replace hR0 := hRE
                        clear hRE hgr ownE B2
                        refine hK.out _ _ ⟨hR0.1.cell 0 _ rfl, hR0.1.cell 2 _ rfl, RdD.out _ _ (hR0.D rfl)⟩ (fun hHeld => ?_)
                        clear hK K
                        try simp only [Act.put, List.getElem_toArray, List.getElem_cons_zero, List.getElem_cons_succ, List.setIfInBounds_toArray, List.set_cons_zero, List.set_cons_succ]
                        refine wpU_ready (rs := [7]) (by kernel_rfl) (by simp) (by kernel_rfl) ?_
                        refine AllReadyU.cons (o := _) rfl (fun K hK => ?_) AllReadyU.nil
                        · rw [if_pos (by rfl)]
                          refine step_app _ _ _ rfl 3 (.int .i64 0) 1 8 Try.underlying23 int_info rfl (by decide) lo x3.heap.size ap u cp _ rfl (hR0.P HPL.out) ⟨g6, 0, none⟩ 1 1 [.int .i64 0] rfl rfl (news1 _ _ _ _ B6) (by simp [Value.oneCell']) (by decide) (by unfold maxLen; omega) (by omega) hR0.lo_ ?_
                          intro gP cP x7 ownP hgr hnew _
                          replace B14 := B14.fr (Fr.of_grown hgr) (fun h => by have := HPB.out _ h.symm; omega)
                          have zz := (Fr.of_grown hgr).size
                          replace hR0 := hR0.inputs HPL.out hgr hnew ownP
                          clear hgr hnew ownP B6
                          refine hK.out _ _ ⟨hR0.1.cell 0 _ rfl, hR0.1.cell 2 _ rfl, RdD.out _ _ (hR0.D rfl)⟩ (fun hHeld => ?_)
                          clear hK K
                          try simp only [Act.put, List.getElem_toArray, List.getElem_cons_zero, List.getElem_cons_succ, List.setIfInBounds_toArray, List.set_cons_zero, List.set_cons_succ]
                          refine wpU_last (by kernel_rfl) ?_
                          refine wpAnyH_ready (rs := [15]) (by kernel_rfl) (by simp) ?_
                          refine AllReadyH.cons (o := _) rfl (fun K hK => ?_) AllReadyH.nil
                          rw [if_pos (by rfl)]
                          refine step_app _ _ _ rfl 3 (.int .i64 0) 1 8 Try.underlying23 int_info rfl (by decide) lo x7.heap.size (some ⟨gd, 0, none⟩) u cd _ rfl (hR0.D HDLU.out) ⟨g14, 0, none⟩ 1 1 [.int .i64 (nth ds v + 1)] rfl rfl (news1 _ _ _ _ B14) (by simp [Value.oneCell']) (by decide) (by unfold maxLen; omega) (by omega) hR0.lo_ ?_
                          intro gD cD x15 ownD hgr hnew _
                          replace hR0 := hR0.dep HDLU.out hgr hnew ownD
                          clear hgr hnew ownD B14
                          refine hK.out _ _ trivial (fun _ => ?_)
                          clear hK K
                          try simp only [Act.put, List.getElem_toArray, List.getElem_cons_zero, List.getElem_cons_succ, List.setIfInBounds_toArray, List.set_cons_zero, List.set_cons_succ]
                          refine wpAnyH_ready (rs := [16]) (by kernel_rfl) (by simp) ?_
                          refine AllReadyH.cons (o := _) rfl (fun K hK => ?_) AllReadyH.nil
                          go_simp
                          refine hK.out _ _ trivial (fun _ => ?_)
                          clear hK K
                          try simp only [Act.put, List.getElem_toArray, List.getElem_cons_zero, List.getElem_cons_succ, List.setIfInBounds_toArray, List.set_cons_zero, List.set_cons_succ]
                          refine wpAnyH_ready (rs := [17]) (by kernel_rfl) (by simp) ?_
                          refine AllReadyH.cons (o := _) rfl (fun K hK => ?_) AllReadyH.nil
                          have q0 := hR0.1.cell 0 _ rfl
                          have f0 := hR0.1.frozen 0
                          go_simp
                          clear q0 f0
                          refine hK.out _ _ trivial (fun _ => ?_)
                          clear hK K
                          try simp only [Act.put, List.getElem_toArray, List.getElem_cons_zero, List.getElem_cons_succ, List.setIfInBounds_toArray, List.set_cons_zero, List.set_cons_succ]
                          refine wpAnyH_ready (rs := [18]) (by kernel_rfl) (by simp) ?_
                          refine AllReadyH.cons (o := _) rfl (fun K hK => ?_) AllReadyH.nil
                          go_simp
                          refine hK.out _ _ trivial (fun _ => ?_)
                          clear hK K
                          try simp only [Act.put, List.getElem_toArray, List.getElem_cons_zero, List.getElem_cons_succ, List.setIfInBounds_toArray, List.set_cons_zero, List.set_cons_succ]
                          refine wpAnyH_ready (rs := [19]) (by kernel_rfl) (by simp) ?_
                          refine AllReadyH.cons (o := _) rfl (fun K hK => ?_) AllReadyH.nil
                          have q2 := (hR0.1.set 0 (.slice (some ⟨gE, 0, none⟩) (u + 1) cE)).cell 2 _ rfl
                          have f2 := (hR0.1.set 0 (.slice (some ⟨gE, 0, none⟩) (u + 1) cE)).frozen 2
                          go_simp
                          clear q2 f2
                          refine hK.out _ _ trivial (fun _ => ?_)
                          clear hK K
                          try simp only [Act.put, List.getElem_toArray, List.getElem_cons_zero, List.getElem_cons_succ, List.setIfInBounds_toArray, List.set_cons_zero, List.set_cons_succ]
                          refine wpAnyH_ready (rs := [20]) (by kernel_rfl) (by simp) ?_
                          refine AllReadyH.cons (o := _) rfl (fun K hK => ?_) AllReadyH.nil
                          go_simp
                          refine hK.out _ _ trivial (fun _ => ?_)
                          clear hK K
                          try simp only [Act.put, List.getElem_toArray, List.getElem_cons_zero, List.getElem_cons_succ, List.setIfInBounds_toArray, List.set_cons_zero, List.set_cons_succ]
                          refine wpAnyH_done (by kernel_rfl) ?_ _
                          go_wp2_with fail
                          go_meet
                          obtain ⟨r1, r2, r3, r4⟩ := hR0.fin (u := u + 1) (by rw [List.length_append, HEL.out]; rfl) (by rw [List.length_append, HPL.out]; rfl)
                          exact ⟨some ⟨gD, 0, none⟩, cD, rfl, r1, r2, r3, r4⟩
                  · go_simp
                    have B14 := Bx.made x6 3 #[.int .i64 (nth ds v + 1)]
                    have ba : Below x6.heap.size x6 (x6.alloc (.cells #[.int .i64 (nth ds v + 1)] 3)) := (by repeat (first | exact Below.refl _ _ | assumption | refine Below.alloc ?_ (by first | (simp; done) | (simp; omega) | omega) _ | refine Below.setCell ?_ (by first | (simp; done) | (simp; omega) | omega) _ | refine Below.drew ?_ | refine Below.drewN ?_ _))
                    replace hR0 := hR0.new ba
                    replace B6 := B6.new ba
                    obtain ⟨g14, hg14⟩ : ∃ g, g = x6.heap.size := ⟨_, rfl⟩
                    rw [← hg14] at B14 ⊢
                    have zg14 : wd.heap.size ≤ g14 := by omega
                    have zz := ba.size
                    clear ba hg14
                    generalize x6.alloc (.cells #[.int .i64 (nth ds v + 1)] 3) = x14 at *
                    refine hK.out _ _ ⟨hR0.1.cell 0 _ rfl, hR0.1.cell 2 _ rfl, RdD.out _ _ (hR0.D rfl)⟩ (fun hHeld => ?_)
                    clear hK K
                    try simp only [Act.put, List.getElem_toArray, List.getElem_cons_zero, List.getElem_cons_succ, List.setIfInBounds_toArray, List.set_cons_zero, List.set_cons_succ]
                    refine wpU_ready (rs := [2]) (by kernel_rfl) (by simp) (by kernel_rfl) ?_
                    refine AllReadyU.cons (o := _) rfl (fun K hK => ?_) AllReadyU.nil
                    · go_simp
                      have B2 := Bx.made x14 60 #[.slice none 0 0]
                      have ba : Below x14.heap.size x14 (x14.alloc (.cells #[.slice none 0 0] 60)) := (by repeat (first | exact Below.refl _ _ | assumption | refine Below.alloc ?_ (by first | (simp; done) | (simp; omega) | omega) _ | refine Below.setCell ?_ (by first | (simp; done) | (simp; omega) | omega) _ | refine Below.drew ?_ | refine Below.drewN ?_ _))
                      replace hR0 := hR0.new ba
                      replace B6 := B6.new ba
                      replace B14 := B14.new ba
                      obtain ⟨g2, hg2⟩ : ∃ g, g = x14.heap.size := ⟨_, rfl⟩
                      rw [← hg2] at B2 ⊢
                      have zg2 : wd.heap.size ≤ g2 := by omega
                      have zz := ba.size
                      clear ba hg2
                      generalize x14.alloc (.cells #[.slice none 0 0] 60) = x2 at *
                      refine hK.out _ _ ⟨hR0.1.cell 0 _ rfl, hR0.1.cell 2 _ rfl, RdD.out _ _ (hR0.D rfl)⟩ (fun hHeld => ?_)
                      clear hK K
                      try simp only [Act.put, List.getElem_toArray, List.getElem_cons_zero, List.getElem_cons_succ, List.setIfInBounds_toArray, List.set_cons_zero, List.set_cons_succ]
                      refine wpU_ready (rs := [3]) (by kernel_rfl) (by simp) (by kernel_rfl) ?_
                      refine AllReadyU.cons (o := _) rfl (fun K hK => ?_) AllReadyU.nil
                      · rw [if_pos (by rfl)]
                        refine step_app _ _ _ rfl 60 (.slice none 0 0) 1 24 Try.underlying27 ends_info rfl (by decide) lo x2.heap.size (some ⟨A, 0, none⟩) u c _ rfl (hR0.E HEL.out) ⟨g2, 0, none⟩ 1 1 [.slice none 0 0] rfl rfl (news1 _ _ _ _ B2) (by simp [Value.oneCell']) (by decide) (by unfold maxLen; omega) (by omega) hR0.lo_ ?_
                        intro gE cE x3 ownE hgr _ _
                        replace B6 := B6.fr (Fr.of_grown hgr) (fun h => B6.ne_row (hR0.E HEL.out) (by decide) h.symm)
                        replace B14 := B14.fr (Fr.of_grown hgr) (fun h => B14.ne_row (hR0.E HEL.out) (by decide) h.symm)
                        have zz := (Fr.of_grown hgr).size
                        obtain ⟨vE, hRE⟩ := hR0.ends HEL.out hgr ownE
                        replace hR0 := hRE
                        clear hRE hgr ownE B2
                        refine hK.out _ _ ⟨hR0.1.cell 0 _ rfl, hR0.1.cell 2 _ rfl, RdD.out _ _ (hR0.D rfl)⟩ (fun hHeld => ?_)
                        clear hK K
                        try simp only [Act.put, List.getElem_toArray, List.getElem_cons_zero, List.getElem_cons_succ, List.setIfInBounds_toArray, List.set_cons_zero, List.set_cons_succ]
                        refine wpU_ready (rs := [7]) (by kernel_rfl) (by simp) (by kernel_rfl) ?_
                        refine AllReadyU.cons (o := _) rfl (fun K hK => ?_) AllReadyU.nil
                        · rw [if_pos (by rfl)]
                          refine step_app _ _ _ rfl 3 (.int .i64 0) 1 8 Try.underlying23 int_info rfl (by decide) lo x3.heap.size ap u cp _ rfl (hR0.P HPL.out) ⟨g6, 0, none⟩ 1 1 [.int .i64 0] rfl rfl (news1 _ _ _ _ B6) (by simp [Value.oneCell']) (by decide) (by unfold maxLen; omega) (by omega) hR0.lo_ ?_
                          intro gP cP x7 ownP hgr hnew _
                          replace B14 := B14.fr (Fr.of_grown hgr) (fun h => by have := HPB.out _ h.symm; omega)
                          have zz := (Fr.of_grown hgr).size
                          replace hR0 := hR0.inputs HPL.out hgr hnew ownP
                          clear hgr hnew ownP B6
                          refine hK.out _ _ ⟨hR0.1.cell 0 _ rfl, hR0.1.cell 2 _ rfl, RdD.out _ _ (hR0.D rfl)⟩ (fun hHeld => ?_)
                          clear hK K
                          try simp only [Act.put, List.getElem_toArray, List.getElem_cons_zero, List.getElem_cons_succ, List.setIfInBounds_toArray, List.set_cons_zero, List.set_cons_succ]
                          refine wpU_last (by kernel_rfl) ?_
                          refine wpAnyH_ready (rs := [15]) (by kernel_rfl) (by simp) ?_
                          refine AllReadyH.cons (o := _) rfl (fun K hK => ?_) AllReadyH.nil
                          rw [if_pos (by rfl)]
                          refine step_app _ _ _ rfl 3 (.int .i64 0) 1 8 Try.underlying23 int_info rfl (by decide) lo x7.heap.size (some ⟨gd, 0, none⟩) u cd _ rfl (hR0.D HDLU.out) ⟨g14, 0, none⟩ 1 1 [.int .i64 (nth ds v + 1)] rfl rfl (news1 _ _ _ _ B14) (by simp [Value.oneCell']) (by decide) (by unfold maxLen; omega) (by omega) hR0.lo_ ?_
                          intro gD cD x15 ownD hgr hnew _
                          replace hR0 := hR0.dep HDLU.out hgr hnew ownD
                          clear hgr hnew ownD B14
                          refine hK.out _ _ trivial (fun _ => ?_)
                          clear hK K
                          try simp only [Act.put, List.getElem_toArray, List.getElem_cons_zero, List.getElem_cons_succ, List.setIfInBounds_toArray, List.set_cons_zero, List.set_cons_succ]
                          refine wpAnyH_ready (rs := [16]) (by kernel_rfl) (by simp) ?_
                          refine AllReadyH.cons (o := _) rfl (fun K hK => ?_) AllReadyH.nil
                          go_simp
                          refine hK.out _ _ trivial (fun _ => ?_)
                          clear hK K
                          try simp only [Act.put, List.getElem_toArray, List.getElem_cons_zero, List.getElem_cons_succ, List.setIfInBounds_toArray, List.set_cons_zero, List.set_cons_succ]
                          refine wpAnyH_ready (rs := [17]) (by kernel_rfl) (by simp) ?_
                          refine AllReadyH.cons (o := _) rfl (fun K hK => ?_) AllReadyH.nil
                          have q0 := hR0.1.cell 0 _ rfl
                          have f0 := hR0.1.frozen 0
                          go_simp
                          clear q0 f0
                          refine hK.out _ _ trivial (fun _ => ?_)
                          clear hK K
                          try simp only [Act.put, List.getElem_toArray, List.getElem_cons_zero, List.getElem_cons_succ, List.setIfInBounds_toArray, List.set_cons_zero, List.set_cons_succ]
                          refine wpAnyH_ready (rs := [18]) (by kernel_rfl) (by simp) ?_
                          refine AllReadyH.cons (o := _) rfl (fun K hK => ?_) AllReadyH.nil
                          go_simp
                          refine hK.out _ _ trivial (fun _ => ?_)
                          clear hK K
                          try simp only [Act.put, List.getElem_toArray, List.getElem_cons_zero, List.getElem_cons_succ, List.setIfInBounds_toArray, List.set_cons_zero, List.set_cons_succ]
                          refine wpAnyH_ready (rs := [19]) (by kernel_rfl) (by simp) ?_
                          refine AllReadyH.cons (o := _) rfl (fun K hK => ?_) AllReadyH.nil
                          have q2 := (hR0.1.set 0 (.slice (some ⟨gE, 0, none⟩) (u + 1) cE)).cell 2 _ rfl
                          have f2 := (hR0.1.set 0 (.slice (some ⟨gE, 0, none⟩) (u + 1) cE)).frozen 2
                          go_simp
                          clear q2 f2
                          refine hK.out _ _ trivial (fun _ => ?_)
                          clear hK K
                          try simp only [Act.put, List.getElem_toArray, List.getElem_cons_zero, List.getElem_cons_succ, List.setIfInBounds_toArray, List.set_cons_zero, List.set_cons_succ]
                          refine wpAnyH_ready (rs := [20]) (by kernel_rfl) (by simp) ?_
                          refine AllReadyH.cons (o := _) rfl (fun K hK => ?_) AllReadyH.nil
                          go_simp
                          refine hK.out _ _ trivial (fun _ => ?_)
                          clear hK K
                          try simp only [Act.put, List.getElem_toArray, List.getElem_cons_zero, List.getElem_cons_succ, List.setIfInBounds_toArray, List.set_cons_zero, List.set_cons_succ]
                          refine wpAnyH_done (by kernel_rfl) ?_ _
                          go_wp2_with fail
                          go_meet
                          obtain ⟨r1, r2, r3, r4⟩ := hR0.fin (u := u + 1) (by rw [List.length_append, HEL.out]; rfl) (by rw [List.length_append, HPL.out]; rfl)
                          exact ⟨some ⟨gD, 0, none⟩, cD, rfl, r1, r2, r3, r4⟩
                · go_simp
                  have B14 := Bx.made wd 3 #[.int .i64 (nth ds v + 1)]
                  have ba : Below wd.heap.size wd (wd.alloc (.cells #[.int .i64 (nth ds v + 1)] 3)) := (by repeat (first | exact Below.refl _ _ | assumption | refine Below.alloc ?_ (by first | (simp; done) | (simp; omega) | omega) _ | refine Below.setCell ?_ (by first | (simp; done) | (simp; omega) | omega) _ | refine Below.drew ?_ | refine Below.drewN ?_ _))
                  replace hR0 := hR0.new ba
                  obtain ⟨g14, hg14⟩ : ∃ g, g = wd.heap.size := ⟨_, rfl⟩
                  rw [← hg14] at B14 ⊢
                  have zg14 : wd.heap.size ≤ g14 := by omega
                  have zz := ba.size
                  clear ba hg14
                  generalize wd.alloc (.cells #[.int .i64 (nth ds v + 1)] 3) = x14 at *
                  refine hK.out _ _ ⟨hR0.1.cell 0 _ rfl, hR0.1.cell 2 _ rfl, RdD.out _ _ (hR0.D rfl)⟩ (fun hHeld => ?_)
                  clear hK K
                  try simp only [Act.put, List.getElem_toArray, List.getElem_cons_zero, List.getElem_cons_succ, List.setIfInBounds_toArray, List.set_cons_zero, List.set_cons_succ]
                  refine wpU_ready (rs := [2, 6]) (by kernel_rfl) (by simp) (by kernel_rfl) ?_
                  refine AllReadyU.cons (o := _) rfl (fun K hK => ?_) (AllReadyU.cons (o := _) rfl (fun K hK => ?_) AllReadyU.nil)
                  · go_simp
                    have B2 := Bx.made x14 60 #[.slice none 0 0]
                    have ba : Below x14.heap.size x14 (x14.alloc (.cells #[.slice none 0 0] 60)) := (by repeat (first | exact Below.refl _ _ | assumption | refine Below.alloc ?_ (by first | (simp; done) | (simp; omega) | omega) _ | refine Below.setCell ?_ (by first | (simp; done) | (simp; omega) | omega) _ | refine Below.drew ?_ | refine Below.drewN ?_ _))
                    replace hR0 := hR0.new ba
                    replace B14 := B14.new ba
                    obtain ⟨g2, hg2⟩ : ∃ g, g = x14.heap.size := ⟨_, rfl⟩
                    rw [← hg2] at B2 ⊢
                    have zg2 : wd.heap.size ≤ g2 := by omega
                    have zz := ba.size
                    clear ba hg2
                    generalize x14.alloc (.cells #[.slice none 0 0] 60) = x2 at *
                    refine hK.out _ _ ⟨hR0.1.cell 0 _ rfl, hR0.1.cell 2 _ rfl, RdD.out _ _ (hR0.D rfl)⟩ (fun hHeld => ?_)
                    clear hK K
                    try simp only [Act.put, List.getElem_toArray, List.getElem_cons_zero, List.getElem_cons_succ, List.setIfInBounds_toArray, List.set_cons_zero, List.set_cons_succ]
                    refine wpU_ready (rs := [3, 6]) (by kernel_rfl) (by simp) (by kernel_rfl) ?_
                    refine AllReadyU.cons (o := _) rfl (fun K hK => ?_) (AllReadyU.cons (o := _) rfl (fun K hK => ?_) AllReadyU.nil)
                    · rw [if_pos (by rfl)]
                      refine step_app _ _ _ rfl 60 (.slice none 0 0) 1 24 Try.underlying27 ends_info rfl (by decide) lo x2.heap.size (some ⟨A, 0, none⟩) u c _ rfl (hR0.E HEL.out) ⟨g2, 0, none⟩ 1 1 [.slice none 0 0] rfl rfl (news1 _ _ _ _ B2) (by simp [Value.oneCell']) (by decide) (by unfold maxLen; omega) (by omega) hR0.lo_ ?_
                      intro gE cE x3 ownE hgr _ _
                      replace B14 := B14.fr (Fr.of_grown hgr) (fun h => B14.ne_row (hR0.E HEL.out) (by decide) h.symm)
                      have zz := (Fr.of_grown hgr).size
                      obtain ⟨vE, hRE⟩ := hR0.ends HEL.out hgr ownE
                      replace hR0 := hRE
                      clear hRE hgr ownE B2
                      refine hK.out _ _ ⟨hR0.1.cell 0 _ rfl, hR0.1.cell 2 _ rfl, RdD.out _ _ (hR0.D rfl)⟩ (fun hHeld => ?_)
                      clear hK K
                      try simp only [Act.put, List.getElem_toArray, List.getElem_cons_zero, List.getElem_cons_succ, List.setIfInBounds_toArray, List.set_cons_zero, List.set_cons_succ]
                      refine wpU_ready (rs := [6]) (by kernel_rfl) (by simp) (by kernel_rfl) ?_
                      refine AllReadyU.cons (o := _) rfl (fun K hK => ?_) AllReadyU.nil
                      · go_simp
                        have B6 := Bx.made x3 3 #[.int .i64 0]
                        have ba : Below x3.heap.size x3 (x3.alloc (.cells #[.int .i64 0] 3)) := (by repeat (first | exact Below.refl _ _ | assumption | refine Below.alloc ?_ (by first | (simp; done) | (simp; omega) | omega) _ | refine Below.setCell ?_ (by first | (simp; done) | (simp; omega) | omega) _ | refine Below.drew ?_ | refine Below.drewN ?_ _))
                        replace hR0 := hR0.new ba
                        replace B14 := B14.new ba
                        obtain ⟨g6, hg6⟩ : ∃ g, g = x3.heap.size := ⟨_, rfl⟩
                        rw [← hg6] at B6 ⊢
                        have zg6 : wd.heap.size ≤ g6 := by omega
                        have zz := ba.size
                        clear ba hg6
                        generalize x3.alloc (.cells #[.int .i64 0] 3) = x6 at *
                        refine hK.out _ _ ⟨hR0.1.cell 0 _ rfl, hR0.1.cell 2 _ rfl, RdD.out _ _ (hR0.D rfl)⟩ (fun hHeld => ?_)
                        clear hK K
                        try simp only [Act.put, List.getElem_toArray, List.getElem_cons_zero, List.getElem_cons_succ, List.setIfInBounds_toArray, List.set_cons_zero, List.set_cons_succ]
                        refine wpU_ready (rs := [7]) (by kernel_rfl) (by simp) (by kernel_rfl) ?_
                        refine AllReadyU.cons (o := _) rfl (fun K hK => ?_) AllReadyU.nil
                        · rw [if_pos (by rfl)]
                          refine step_app _ _ _ rfl 3 (.int .i64 0) 1 8 Try.underlying23 int_info rfl (by decide) lo x6.heap.size ap u cp _ rfl (hR0.P HPL.out) ⟨g6, 0, none⟩ 1 1 [.int .i64 0] rfl rfl (news1 _ _ _ _ B6) (by simp [Value.oneCell']) (by decide) (by unfold maxLen; omega) (by omega) hR0.lo_ ?_
                          intro gP cP x7 ownP hgr hnew _
                          replace B14 := B14.fr (Fr.of_grown hgr) (fun h => by have := HPB.out _ h.symm; omega)
                          have zz := (Fr.of_grown hgr).size
                          replace hR0 := hR0.inputs HPL.out hgr hnew ownP
                          clear hgr hnew ownP B6
                          refine hK.out _ _ ⟨hR0.1.cell 0 _ rfl, hR0.1.cell 2 _ rfl, RdD.out _ _ (hR0.D rfl)⟩ (fun hHeld => ?_)
                          clear hK K
                          try simp only [Act.put, List.getElem_toArray, List.getElem_cons_zero, List.getElem_cons_succ, List.setIfInBounds_toArray, List.set_cons_zero, List.set_cons_succ]
                          refine wpU_last (by kernel_rfl) ?_
                          refine wpAnyH_ready (rs := [15]) (by kernel_rfl) (by simp) ?_
                          refine AllReadyH.cons (o := _) rfl (fun K hK => ?_) AllReadyH.nil
                          rw [if_pos (by rfl)]
                          refine step_app _ _ _ rfl 3 (.int .i64 0) 1 8 Try.underlying23 int_info rfl (by decide) lo x7.heap.size (some ⟨gd, 0, none⟩) u cd _ rfl (hR0.D HDLU.out) ⟨g14, 0, none⟩ 1 1 [.int .i64 (nth ds v + 1)] rfl rfl (news1 _ _ _ _ B14) (by simp [Value.oneCell']) (by decide) (by unfold maxLen; omega) (by omega) hR0.lo_ ?_
                          intro gD cD x15 ownD hgr hnew _
                          replace hR0 := hR0.dep HDLU.out hgr hnew ownD
                          clear hgr hnew ownD B14
                          refine hK.out _ _ trivial (fun _ => ?_)
                          clear hK K
                          try simp only [Act.put, List.getElem_toArray, List.getElem_cons_zero, List.getElem_cons_succ, List.setIfInBounds_toArray, List.set_cons_zero, List.set_cons_succ]
                          refine wpAnyH_ready (rs := [16]) (by kernel_rfl) (by simp) ?_
                          refine AllReadyH.cons (o := _) rfl (fun K hK => ?_) AllReadyH.nil
                          go_simp
                          refine hK.out _ _ trivial (fun _ => ?_)
                          clear hK K
                          try simp only [Act.put, List.getElem_toArray, List.getElem_cons_zero, List.getElem_cons_succ, List.setIfInBounds_toArray, List.set_cons_zero, List.set_cons_succ]
                          refine wpAnyH_ready (rs := [17]) (by kernel_rfl) (by simp) ?_
                          refine AllReadyH.cons (o := _) rfl (fun K hK => ?_) AllReadyH.nil
                          have q0 := hR0.1.cell 0 _ rfl
                          have f0 := hR0.1.frozen 0
                          go_simp
                          clear q0 f0
                          refine hK.out _ _ trivial (fun _ => ?_)
                          clear hK K
                          try simp only [Act.put, List.getElem_toArray, List.getElem_cons_zero, List.getElem_cons_succ, List.setIfInBounds_toArray, List.set_cons_zero, List.set_cons_succ]
                          refine wpAnyH_ready (rs := [18]) (by kernel_rfl) (by simp) ?_
                          refine AllReadyH.cons (o := _) rfl (fun K hK => ?_) AllReadyH.nil
                          go_simp
                          refine hK.out _ _ trivial (fun _ => ?_)
                          clear hK K
                          try simp only [Act.put, List.getElem_toArray, List.getElem_cons_zero, List.getElem_cons_succ, List.setIfInBounds_toArray, List.set_cons_zero, List.set_cons_succ]
                          refine wpAnyH_ready (rs := [19]) (by kernel_rfl) (by simp) ?_
                          refine AllReadyH.cons (o := _) rfl (fun K hK => ?_) AllReadyH.nil
                          have q2 := (hR0.1.set 0 (.slice (some ⟨gE, 0, none⟩) (u + 1) cE)).cell 2 _ rfl
                          have f2 := (hR0.1.set 0 (.slice (some ⟨gE, 0, none⟩) (u + 1) cE)).frozen 2
                          go_simp
                          clear q2 f2
                          refine hK.out _ _ trivial (fun _ => ?_)
                          clear hK K
                          try simp only [Act.put, List.getElem_toArray, List.getElem_cons_zero, List.getElem_cons_succ, List.setIfInBounds_toArray, List.set_cons_zero, List.set_cons_succ]
                          refine wpAnyH_ready (rs := [20]) (by kernel_rfl) (by simp) ?_
                          refine AllReadyH.cons (o := _) rfl (fun K hK => ?_) AllReadyH.nil
                          go_simp
                          refine hK.out _ _ trivial (fun _ => ?_)
                          clear hK K
                          try simp only [Act.put, List.getElem_toArray, List.getElem_cons_zero, List.getElem_cons_succ, List.setIfInBounds_toArray, List.set_cons_zero, List.set_cons_succ]
                          refine wpAnyH_done (by kernel_rfl) ?_ _
                          go_wp2_with fail
                          go_meet
                          obtain ⟨r1, r2, r3, r4⟩ := hR0.fin (u := u + 1) (by rw [List.length_append, HEL.out]; rfl) (by rw [List.length_append, HPL.out]; rfl)
                          exact ⟨some ⟨gD, 0, none⟩, cD, rfl, r1, r2, r3, r4⟩
                    · go_simp
                      have B6 := Bx.made x2 3 #[.int .i64 0]
                      have ba : Below x2.heap.size x2 (x2.alloc (.cells #[.int .i64 0] 3)) := (by repeat (first | exact Below.refl _ _ | assumption | refine Below.alloc ?_ (by first | (simp; done) | (simp; omega) | omega) _ | refine Below.setCell ?_ (by first | (simp; done) | (simp; omega) | omega) _ | refine Below.drew ?_ | refine Below.drewN ?_ _))
                      replace hR0 := hR0.new ba
                      replace B2 := B2.new ba
                      replace B14 := B14.new ba
                      obtain ⟨g6, hg6⟩ : ∃ g, g = x2.heap.size := ⟨_, rfl⟩
                      rw [← hg6] at B6 ⊢
                      have zg6 : wd.heap.size ≤ g6 := by omega
                      have zz := ba.size
                      clear ba hg6
                      generalize x2.alloc (.cells #[.int .i64 0] 3) = x6 at *
                      refine hK.out _ _ ⟨hR0.1.cell 0 _ rfl, hR0.1.cell 2 _ rfl, RdD.out _ _ (hR0.D rfl)⟩ (fun hHeld => ?_)
                      clear hK K
                      try simp only [Act.put, List.getElem_toArray, List.getElem_cons_zero, List.getElem_cons_succ, List.setIfInBounds_toArray, List.set_cons_zero, List.set_cons_succ]
                      refine wpU_ready (rs := [3]) (by kernel_rfl) (by simp) (by kernel_rfl) ?_
                      refine AllReadyU.cons (o := _) rfl (fun K hK => ?_) AllReadyU.nil
                      · rw [if_pos (by rfl)]
                        refine step_app _ _ _ rfl 60 (.slice none 0 0) 1 24 Try.underlying27 ends_info rfl (by decide) lo x6.heap.size (some ⟨A, 0, none⟩) u c _ rfl (hR0.E HEL.out) ⟨g2, 0, none⟩ 1 1 [.slice none 0 0] rfl rfl (news1 _ _ _ _ B2) (by simp [Value.oneCell']) (by decide) (by unfold maxLen; omega) (by omega) hR0.lo_ ?_
                        intro gE cE x3 ownE hgr _ _
                        replace B6 := B6.fr (Fr.of_grown hgr) (fun h => B6.ne_row (hR0.E HEL.out) (by decide) h.symm)
                        replace B14 := B14.fr (Fr.of_grown hgr) (fun h => B14.ne_row (hR0.E HEL.out) (by decide) h.symm)
                        have zz := (Fr.of_grown hgr).size
                        obtain ⟨vE, hRE⟩ := hR0.ends HEL.out hgr ownE
                        replace hR0 := hRE
                        clear hRE hgr ownE B2
                        refine hK.out _ _ ⟨hR0.1.cell 0 _ rfl, hR0.1.cell 2 _ rfl, RdD.out _ _ (hR0.D rfl)⟩ (fun hHeld => ?_)
                        clear hK K
                        try simp only [Act.put, List.getElem_toArray, List.getElem_cons_zero, List.getElem_cons_succ, List.setIfInBounds_toArray, List.set_cons_zero, List.set_cons_succ]
                        refine wpU_ready (rs := [7]) (by kernel_rfl) (by simp) (by kernel_rfl) ?_
                        refine AllReadyU.cons (o := _) rfl (fun K hK => ?_) AllReadyU.nil
                        · rw [if_pos (by rfl)]
                          refine step_app _ _ _ rfl 3 (.int .i64 0) 1 8 Try.underlying23 int_info rfl (by decide) lo x3.heap.size ap u cp _ rfl (hR0.P HPL.out) ⟨g6, 0, none⟩ 1 1 [.int .i64 0] rfl rfl (news1 _ _ _ _ B6) (by simp [Value.oneCell']) (by decide) (by unfold maxLen; omega) (by omega) hR0.lo_ ?_
                          intro gP cP x7 ownP hgr hnew _
                          replace B14 := B14.fr (Fr.of_grown hgr) (fun h => by have := HPB.out _ h.symm; omega)
                          have zz := (Fr.of_grown hgr).size
                          replace hR0 := hR0.inputs HPL.out hgr hnew ownP
                          clear hgr hnew ownP B6
                          refine hK.out _ _ ⟨hR0.1.cell 0 _ rfl, hR0.1.cell 2 _ rfl, RdD.out _ _ (hR0.D rfl)⟩ (fun hHeld => ?_)
                          clear hK K
                          try simp only [Act.put, List.getElem_toArray, List.getElem_cons_zero, List.getElem_cons_succ, List.setIfInBounds_toArray, List.set_cons_zero, List.set_cons_succ]
                          refine wpU_last (by kernel_rfl) ?_
                          refine wpAnyH_ready (rs := [15]) (by kernel_rfl) (by simp) ?_
                          refine AllReadyH.cons (o := _) rfl (fun K hK => ?_) AllReadyH.nil
                          rw [if_pos (by rfl)]
                          refine step_app _ _ _ rfl 3 (.int .i64 0) 1 8 Try.underlying23 int_info rfl (by decide) lo x7.heap.size (some ⟨gd, 0, none⟩) u cd _ rfl (hR0.D HDLU.out) ⟨g14, 0, none⟩ 1 1 [.int .i64 (nth ds v + 1)] rfl rfl (news1 _ _ _ _ B14) (by simp [Value.oneCell']) (by decide) (by unfold maxLen; omega) (by omega) hR0.lo_ ?_
                          intro gD cD x15 ownD hgr hnew _
                          replace hR0 := hR0.dep HDLU.out hgr hnew ownD
                          clear hgr hnew ownD B14
                          refine hK.out _ _ trivial (fun _ => ?_)
                          clear hK K
                          try simp only [Act.put, List.getElem_toArray, List.getElem_cons_zero, List.getElem_cons_succ, List.setIfInBounds_toArray, List.set_cons_zero, List.set_cons_succ]
                          refine wpAnyH_ready (rs := [16]) (by kernel_rfl) (by simp) ?_
                          refine AllReadyH.cons (o := _) rfl (fun K hK => ?_) AllReadyH.nil
                          go_simp
                          refine hK.out _ _ trivial (fun _ => ?_)
                          clear hK K
                          try simp only [Act.put, List.getElem_toArray, List.getElem_cons_zero, List.getElem_cons_succ, List.setIfInBounds_toArray, List.set_cons_zero, List.set_cons_succ]
                          refine wpAnyH_ready (rs := [17]) (by kernel_rfl) (by simp) ?_
                          refine AllReadyH.cons (o := _) rfl (fun K hK => ?_) AllReadyH.nil
                          have q0 := hR0.1.cell 0 _ rfl
                          have f0 := hR0.1.frozen 0
                          go_simp
                          clear q0 f0
                          refine hK.out _ _ trivial (fun _ => ?_)
                          clear hK K
                          try simp only [Act.put, List.getElem_toArray, List.getElem_cons_zero, List.getElem_cons_succ, List.setIfInBounds_toArray, List.set_cons_zero, List.set_cons_succ]
                          refine wpAnyH_ready (rs := [18]) (by kernel_rfl) (by simp) ?_
                          refine AllReadyH.cons (o := _) rfl (fun K hK => ?_) AllReadyH.nil
                          go_simp
                          refine hK.out _ _ trivial (fun _ => ?_)
                          clear hK K
                          try simp only [Act.put, List.getElem_toArray, List.getElem_cons_zero, List.getElem_cons_succ, List.setIfInBounds_toArray, List.set_cons_zero, List.set_cons_succ]
                          refine wpAnyH_ready (rs := [19]) (by kernel_rfl) (by simp) ?_
                          refine AllReadyH.cons (o := _) rfl (fun K hK => ?_) AllReadyH.nil
                          have q2 := (hR0.1.set 0 (.slice (some ⟨gE, 0, none⟩) (u + 1) cE)).cell 2 _ rfl
                          have f2 := (hR0.1.set 0 (.slice (some ⟨gE, 0, none⟩) (u + 1) cE)).frozen 2
                          go_simp
                          clear q2 f2
                          refine hK.out _ _ trivial (fun _ => ?_)
                          clear hK K
                          try simp only [Act.put, List.getElem_toArray, List.getElem_cons_zero, List.getElem_cons_succ, List.setIfInBounds_toArray, List.set_cons_zero, List.set_cons_succ]
                          refine wpAnyH_ready (rs := [20]) (by kernel_rfl) (by simp) ?_
                          refine AllReadyH.cons (o := _) rfl (fun K hK => ?_) AllReadyH.nil
                          go_simp
                          refine hK.out _ _ trivial (fun _ => ?_)
                          clear hK K
                          try simp only [Act.put, List.getElem_toArray, List.getElem_cons_zero, List.getElem_cons_succ, List.setIfInBounds_toArray, List.set_cons_zero, List.set_cons_succ]
                          refine wpAnyH_done (by kernel_rfl) ?_ _
                          go_wp2_with fail
                          go_meet
                          obtain ⟨r1, r2, r3, r4⟩ := hR0.fin (u := u + 1) (by rw [List.length_append, HEL.out]; rfl) (by rw [List.length_append, HPL.out]; rfl)
                          exact ⟨some ⟨gD, 0, none⟩, cD, rfl, r1, r2, r3, r4⟩
                  · go_simp
                    have B6 := Bx.made x14 3 #[.int .i64 0]
                    have ba : Below x14.heap.size x14 (x14.alloc (.cells #[.int .i64 0] 3)) := (by repeat (first | exact Below.refl _ _ | assumption | refine Below.alloc ?_ (by first | (simp; done) | (simp; omega) | omega) _ | refine Below.setCell ?_ (by first | (simp; done) | (simp; omega) | omega) _ | refine Below.drew ?_ | refine Below.drewN ?_ _))
                    replace hR0 := hR0.new ba
                    replace B14 := B14.new ba
                    obtain ⟨g6, hg6⟩ : ∃ g, g = x14.heap.size := ⟨_, rfl⟩
                    rw [← hg6] at B6 ⊢
                    have zg6 : wd.heap.size ≤ g6 := by omega
                    have zz := ba.size
                    clear ba hg6
                    generalize x14.alloc (.cells #[.int .i64 0] 3) = x6 at *
                    refine hK.out _ _ ⟨hR0.1.cell 0 _ rfl, hR0.1.cell 2 _ rfl, RdD.out _ _ (hR0.D rfl)⟩ (fun hHeld => ?_)
                    clear hK K
                    try simp only [Act.put, List.getElem_toArray, List.getElem_cons_zero, List.getElem_cons_succ, List.setIfInBounds_toArray, List.set_cons_zero, List.set_cons_succ]
                    refine wpU_ready (rs := [2]) (by kernel_rfl) (by simp) (by kernel_rfl) ?_
                    refine AllReadyU.cons (o := _) rfl (fun K hK => ?_) AllReadyU.nil
                    · go_simp
                      have B2 := Bx.made x6 60 #[.slice none 0 0]
                      have ba : Below x6.heap.size x6 (x6.alloc (.cells #[.slice none 0 0] 60)) := (by repeat (first | exact Below.refl _ _ | assumption | refine Below.alloc ?_ (by first | (simp; done) | (simp; omega) | omega) _ | refine Below.setCell ?_ (by first | (simp; done) | (simp; omega) | omega) _ | refine Below.drew ?_ | refine Below.drewN ?_ _))
                      replace hR0 := hR0.new ba
                      replace B6 := B6.new ba
                      replace B14 := B14.new ba
                      obtain ⟨g2, hg2⟩ : ∃ g, g = x6.heap.size := ⟨_, rfl⟩
                      rw [← hg2] at B2 ⊢
                      have zg2 : wd.heap.size ≤ g2 := by omega
                      have zz := ba.size
                      clear ba hg2
                      generalize x6.alloc (.cells #[.slice none 0 0] 60) = x2 at *
                      refine hK.out _ _ ⟨hR0.1.cell 0 _ rfl, hR0.1.cell 2 _ rfl, RdD.out _ _ (hR0.D rfl)⟩ (fun hHeld => ?_)
                      clear hK K
                      try simp only [Act.put, List.getElem_toArray, List.getElem_cons_zero, List.getElem_cons_succ, List.setIfInBounds_toArray, List.set_cons_zero, List.set_cons_succ]
                      refine wpU_ready (rs := [3]) (by kernel_rfl) (by simp) (by kernel_rfl) ?_
                      refine AllReadyU.cons (o := _) rfl (fun K hK => ?_) AllReadyU.nil
                      · rw [if_pos (by rfl)]
                        refine step_app _ _ _ rfl 60 (.slice none 0 0) 1 24 Try.underlying27 ends_info rfl (by decide) lo x2.heap.size (some ⟨A, 0, none⟩) u c _ rfl (hR0.E HEL.out) ⟨g2, 0, none⟩ 1 1 [.slice none 0 0] rfl rfl (news1 _ _ _ _ B2) (by simp [Value.oneCell']) (by decide) (by unfold maxLen; omega) (by omega) hR0.lo_ ?_
                        intro gE cE x3 ownE hgr _ _
                        replace B6 := B6.fr (Fr.of_grown hgr) (fun h => B6.ne_row (hR0.E HEL.out) (by decide) h.symm)
                        replace B14 := B14.fr (Fr.of_grown hgr) (fun h => B14.ne_row (hR0.E HEL.out) (by decide) h.symm)
                        have zz := (Fr.of_grown hgr).size
                        obtain ⟨vE, hRE⟩ := hR0.ends HEL.out hgr ownE
                        replace hR0 := hRE
                        clear hRE hgr ownE B2
                        refine hK.out _ _ ⟨hR0.1.cell 0 _ rfl, hR0.1.cell 2 _ rfl, RdD.out _ _ (hR0.D rfl)⟩ (fun hHeld => ?_)
                        clear hK K
                        try simp only [Act.put, List.getElem_toArray, List.getElem_cons_zero, List.getElem_cons_succ, List.setIfInBounds_toArray, List.set_cons_zero, List.set_cons_succ]
                        refine wpU_ready (rs := [7]) (by kernel_rfl) (by simp) (by kernel_rfl) ?_
                        refine AllReadyU.cons (o := _) rfl (fun K hK => ?_) AllReadyU.nil
                        · rw [if_pos (by rfl)]
                          refine step_app _ _ _ rfl 3 (.int .i64 0) 1 8 Try.underlying23 int_info rfl (by decide) lo x3.heap.size ap u cp _ rfl (hR0.P HPL.out) ⟨g6, 0, none⟩ 1 1 [.int .i64 0] rfl rfl (news1 _ _ _ _ B6) (by simp [Value.oneCell']) (by decide) (by unfold maxLen; omega) (by omega) hR0.lo_ ?_
                          intro gP cP x7 ownP hgr hnew _
                          replace B14 := B14.fr (Fr.of_grown hgr) (fun h => by have := HPB.out _ h.symm; omega)
                          have zz := (Fr.of_grown hgr).size
                          replace hR0 := hR0.inputs HPL.out hgr hnew ownP
                          clear hgr hnew ownP B6
                          refine hK.out _ _ ⟨hR0.1.cell 0 _ rfl, hR0.1.cell 2 _ rfl, RdD.out _ _ (hR0.D rfl)⟩ (fun hHeld => ?_)
                          clear hK K
                          try simp only [Act.put, List.getElem_toArray, List.getElem_cons_zero, List.getElem_cons_succ, List.setIfInBounds_toArray, List.set_cons_zero, List.set_cons_succ]
                          refine wpU_last (by kernel_rfl) ?_
                          refine wpAnyH_ready (rs := [15]) (by kernel_rfl) (by simp) ?_
                          refine AllReadyH.cons (o := _) rfl (fun K hK => ?_) AllReadyH.nil
                          rw [if_pos (by rfl)]
                          refine step_app _ _ _ rfl 3 (.int .i64 0) 1 8 Try.underlying23 int_info rfl (by decide) lo x7.heap.size (some ⟨gd, 0, none⟩) u cd _ rfl (hR0.D HDLU.out) ⟨g14, 0, none⟩ 1 1 [.int .i64 (nth ds v + 1)] rfl rfl (news1 _ _ _ _ B14) (by simp [Value.oneCell']) (by decide) (by unfold maxLen; omega) (by omega) hR0.lo_ ?_
                          intro gD cD x15 ownD hgr hnew _
                          replace hR0 := hR0.dep HDLU.out hgr hnew ownD
                          clear hgr hnew ownD B14
                          refine hK.out _ _ trivial (fun _ => ?_)
                          clear hK K
                          try simp only [Act.put, List.getElem_toArray, List.getElem_cons_zero, List.getElem_cons_succ, List.setIfInBounds_toArray, List.set_cons_zero, List.set_cons_succ]
                          refine wpAnyH_ready (rs := [16]) (by kernel_rfl) (by simp) ?_
                          refine AllReadyH.cons (o := _) rfl (fun K hK => ?_) AllReadyH.nil
                          go_simp
                          refine hK.out _ _ trivial (fun _ => ?_)
                          clear hK K
                          try simp only [Act.put, List.getElem_toArray, List.getElem_cons_zero, List.getElem_cons_succ, List.setIfInBounds_toArray, List.set_cons_zero, List.set_cons_succ]
                          refine wpAnyH_ready (rs := [17]) (by kernel_rfl) (by simp) ?_
                          refine AllReadyH.cons (o := _) rfl (fun K hK => ?_) AllReadyH.nil
                          have q0 := hR0.1.cell 0 _ rfl
                          have f0 := hR0.1.frozen 0
                          go_simp
                          clear q0 f0
                          refine hK.out _ _ trivial (fun _ => ?_)
                          clear hK K
                          try simp only [Act.put, List.getElem_toArray, List.getElem_cons_zero, List.getElem_cons_succ, List.setIfInBounds_toArray, List.set_cons_zero, List.set_cons_succ]
                          refine wpAnyH_ready (rs := [18]) (by kernel_rfl) (by simp) ?_
                          refine AllReadyH.cons (o := _) rfl (fun K hK => ?_) AllReadyH.nil
                          go_simp
                          refine hK.out _ _ trivial (fun _ => ?_)
                          clear hK K
                          try simp only [Act.put, List.getElem_toArray, List.getElem_cons_zero, List.getElem_cons_succ, List.setIfInBounds_toArray, List.set_cons_zero, List.set_cons_succ]
                          refine wpAnyH_ready (rs := [19]) (by kernel_rfl) (by simp) ?_
                          refine AllReadyH.cons (o := _) rfl (fun K hK => ?_) AllReadyH.nil
                          have q2 := (hR0.1.set 0 (.slice (some ⟨gE, 0, none⟩) (u + 1) cE)).cell 2 _ rfl
                          have f2 := (hR0.1.set 0 (.slice (some ⟨gE, 0, none⟩) (u + 1) cE)).frozen 2
                          go_simp
                          clear q2 f2
                          refine hK.out _ _ trivial (fun _ => ?_)
                          clear hK K
                          try simp only [Act.put, List.getElem_toArray, List.getElem_cons_zero, List.getElem_cons_succ, List.setIfInBounds_toArray, List.set_cons_zero, List.set_cons_succ]
                          refine wpAnyH_ready (rs := [20]) (by kernel_rfl) (by simp) ?_
                          refine AllReadyH.cons (o := _) rfl (fun K hK => ?_) AllReadyH.nil
                          go_simp
                          refine hK.out _ _ trivial (fun _ => ?_)
                          clear hK K
                          try simp only [Act.put, List.getElem_toArray, List.getElem_cons_zero, List.getElem_cons_succ, List.setIfInBounds_toArray, List.set_cons_zero, List.set_cons_succ]
                          refine wpAnyH_done (by kernel_rfl) ?_ _
                          go_wp2_with fail
                          go_meet
                          obtain ⟨r1, r2, r3, r4⟩ := hR0.fin (u := u + 1) (by rw [List.length_append, HEL.out]; rfl) (by rw [List.length_append, HPL.out]; rfl)
                          exact ⟨some ⟨gD, 0, none⟩, cD, rfl, r1, r2, r3, r4⟩
              case rest =>
                clear hbx hE owni ownp ownd hdis hdpd hdid BR bb zlo hcd0
                obtain ⟨ad', cd', rfl, hTI, BR, bb, zlo⟩ := hcut
                generalize wc = w9 at *
                obtain ⟨a, c9, vs, ai, ci, ap, cp, hbx, hE, owni, ownp, ownd, hdis, hdpd, hdid⟩ := hTI
                have HML := Lib.hid (show (moreN (treeN es)).ends.length = u + 1 by show ((treeN es).ends ++ [[]]).length = _; rw [List.length_append, HEL.out]; rfl)
                have HTN := Lib.hid (show joinN (moreN (treeN es)) v u = treeN (es ++ [v]) by rw [treeN_snoc, growN, HEL.out])
                have HSM := Lib.hid (moreN_small HH.out (by have := HU.out; omega))
                obtain ⟨A, hA, _, _⟩ := Ow.addr hE.1 (by rw [HML.out]; omega)
                subst hA
                have hCN := connect_any (v := v) (u := u) w9 HML.out.symm (by rw [← HML.out]; exact hbx) hE (by omega) (by omega) zlo (by omega) (fun j hj => HSM.out.row j (by rw [HML.out]; exact hj))
                rw [HML.out] at hbx
                rw [show (u : Int) = ((u + 1 : Nat) : Int) - 1 by omega] at hCN
                obtain ⟨u1, hu1⟩ : ∃ u1, u1 = u + 1 := ⟨_, rfl⟩
                rw [← hu1] at hbx hCN ⊢
                have zu1 : u1 ≤ 40 := by omega
                have zu0 : 1 ≤ u1 := by omega
                have HCN := Lib.hid hCN
                have HU1 := Lib.hid hu1
                clear hCN hu1
                have q0 := hbx.cell 0 _ rfl
                go_wp2_with fail
                clear q0
                refine HCN.out.mono ?_
                rintro e w10 ⟨rfl, vs', hE', hbx', hfr, hrb⟩
                have owni' := Ow.top (Ow.frB owni hfr (fun x hx => rb_ne hE (by rw [HML.out]; omega) owni hx))
                have ownp' := Ow.top (Ow.frB ownp hfr (fun x hx => rb_ne hE (by rw [HML.out]; omega) ownp hx))
                have ownd' := Ow.top (Ow.frB ownd hfr (fun x hx => rb_ne hE (by rw [HML.out]; omega) ownd hx))
                have hin : ∀ x, RB A (moreN (treeN es)).ends vs x → lo ≤ x := fun x hx => (rb_in hE (by rw [HML.out]; omega) hx).1
                have BR' := BR.fr hfr (fun h => by have := hin _ h; omega)
                have bb' := bb.trans (hfr.below (B := w.heap.size) (fun x h1 h2 hc => by have := hin _ hc; omega) bb.size)
                have z10 := Nat.le_trans zlo hfr.size
                have hTI9 : TI w10 lo b (treeN (es ++ [v])) ad' cd' (ds ++ [nth ds v + 1]) := by
                  rw [← HTN.out]
                  refine ⟨some ⟨A, 0, none⟩, c9, vs', ai, ci, ap, cp, ?_, hE', owni', ownp', ownd', hdis, hdpd, hdid⟩
                  have hl9 : (joinN (moreN (treeN es)) v u).ends.length = u1 := by rw [joinN_length, HML.out, HU1.out]
                  rw [hl9]
                  exact hbx'
                clear hbx hE owni ownp ownd hdis hdpd hdid BR bb hfr hrb hin owni' ownp' ownd' hE' hbx' HCN
                go_wp2_with fail
                go_roundw
                case rel =>
                  have hl : (es ++ [v]).length = u := by rw [List.length_append, HU.out]; rfl
                  have hH9 : Hang (es ++ [v]) := HH.out.snoc (by have := HU.out; omega)
                  have hq : ∃ (es2 : List Nat) (ds2 : List Int) (c2 f2 : Nat) (ad2 : Option Addr) (cd2 : Nat), Value.slice ad' u1 cd' = .slice ad2 (es2.length + 1) cd2 ∧ Value.int .i64 ((cc : Int) + 1) = .int .i64 c2 ∧ f2 + es2.length + v = 100 ∧ runI d p f2 es2 ds2 v c2 = R ∧ v < es2.length + 1 ∧ es2.length ≤ 39 ∧ Hang es2 ∧ ds2.length = es2.length + 1 ∧ DsB ds2 ∧ TI w10 lo b (treeN es2) ad2 cd2 ds2 ∧ Bx w10 w.heap.size 29 #[.slice none 0 0, .slice none 0 0, .slice none 0 0] ∧ Below w.heap.size w w10 ∧ lo ≤ w10.heap.size :=
                    ⟨es ++ [v], ds ++ [nth ds v + 1], cc + 1, f, ad', cd', by rw [hl, HU1.out], by go_num, by rw [hl]; have := HU.out; omega, by rw [hcc]; exact HST.out, by rw [hl]; omega, by rw [hl]; omega, hH9, by rw [hl, List.length_append, HDLU.out]; rfl, HDB.out.snoc (by rw [HDLU.out]; exact zuv), hTI9, BR', bb', z10⟩
              
                  first | exact hq | exact (by subst hcc; exact hq) | ((repeat apply Exists.intro); exact ⟨hq, rfl⟩) | (subst hcc; (repeat apply Exists.intro); exact ⟨hq, rfl⟩)
                case measure => have := HC2.out; simp [intOf]; omega
          · have HST := Lib.hid (show runI d p f es ds (v + 1) 0 = R by rw [← HRN.out]; exact (runI_next (by have := HU.out; omega) (by rw [HCH.out]; exact hgo)).symm)
            by_cases hc : (c : Int) < ch
            all_goals
              try have hdp : ¬ nth ds v < p := fun h => hgo ⟨by assumption, h⟩
              have HC3 := Lib.hid hgo
              clear hgo
              go_wp2_with fail
              go_roundw
              case rel => exact ⟨es, ds, v + 1, f, _, cd, by rw [HU.out], by go_num, by have := HU.out; omega, HST.out, by have := HU.out; omega, hes, HH.out, HDL.out, HDB.out, HTI.out, BR, bb, zlo⟩
              case measure => simp [intOf]; omega
      · have HG := Lib.hid (show rtE d p = some es by rw [← HR.out, ← HRN.out]; exact runI_end hlt)
        have hlt2 : ¬ ((v : Int) < ((es.length + 1 : Nat) : Int)) := by omega
        have hNB := hTI2.out.nbx
        clear hlt
        obtain ⟨Nk, hNk⟩ : ∃ Nk, Nk = treeN es := ⟨_, rfl⟩
        rw [← hNk] at hNB
        have HNk := Lib.hid hNk
        have HNL := Lib.hid (show Nk.ends.length = es.length + 1 by rw [hNk, treeN_length])
        clear hNk q0
        obtain ⟨ax, cx, aix, cix, apx, cpx, BO, own9⟩ := hNB.at_
        have q0 := BO.cell 0 _ rfl
        have q1 := BO.cell 1 _ rfl
        have q2 := BO.cell 2 _ rfl
        have e0 := BR.cell 0 _ rfl
        have e1 := BR.cell 1 _ rfl
        have e2 := BR.cell 2 _ rfl
        have f0 := BR.frozen 0
        have f1 := BR.frozen 1
        have f2 := BR.frozen 2
        have hlt3 : ¬ ((v : Int) < (Nk.ends.length : Int)) := by have := HNL.out; omega
        go_wp2_with fail
        clear q0 q1 q2 e0 e1 e2 f0 f1 f2
        generalize hW : World.setCell _ _ _ = W
        have B6 : Bx W (w.heap.size) 29 #[.slice ax Nk.ends.length cx, .slice aix Nk.ids.length cix, .slice apx Nk.inputs.length cpx] := by rw [← hW]; exact ((BR.set 0 _).set 1 _).set 2 _
        have fr6 : Fr (fun k => k = w.heap.size) wr W := by rw [← hW]; exact fr3 _ _ _ _ _
        clear hW
        have z6 := fr6.size
        have d0 := B6.cell 0 _ rfl
        have d1 := B6.cell 1 _ rfl
        have d2 := B6.cell 2 _ rfl
        refine bodyPost_ret (v := .tuple #[.agg #[.slice ax Nk.ends.length cx, .slice aix Nk.ids.length cix, .slice apx Nk.inputs.length cpx], .bool true]) (by simp [results, Try.results20, go_sem, d0, d1, d2]) rfl ?_
        rw [rtR, rtOk, HG.out]
        show PostN (treeN es) true w _ _
        rw [← HNk.out]
        exact ⟨_, rfl, (own9.frBx BR fr6).wide (by omega) (by omega), bb.trans (fr6.below (fun k h1 h2 hc => by omega) bb.size)⟩
end Go.Proofs.Ytlooinhdehkcdaa
