/- Contracts: nuSums, sumsUpTo. -/
import Derived.Test.YtckjobjmjijjdaaPlC
import Derived.Test.YtckjobjmjijjdaaGcd
namespace Go.Proofs.Ytckjobjmjijjdaa
open Go.RowKit
set_option linter.unusedVariables false
theorem bool_info : (Try.prog.info? 4).map (fun i => (i.zero, i.size, i.bytes)) = some (some (.bool false), 1, 1) := by kernel_rfl
def acc (l : List Int) (m k : Nat) : Bool := (m == 0) || (l.take k).any fun x => decide (x ≤ (m : Int)) && sm l (m - x.toNat)
theorem acc_zero (l : List Int) (m : Nat) : acc l m 0 = (m == 0) := by simp [acc]
theorem acc_succ (l : List Int) (m k : Nat) (h : k < l.length) : acc l m (k + 1) = (acc l m k || (decide (nth l k ≤ (m : Int)) && sm l (m - (nth l k).toNat))) := by
  unfold acc
  rw [take_snoc_nth l k h, List.any_append, ← Bool.or_assoc]; simp
theorem acc_all (l : List Int) (hl : Pos l) (m : Nat) : acc l m l.length = sm l m := by
  unfold acc
  by_cases h : m = 0
  · subst h; rw [sm_zero]; rfl
  · rw [List.take_length, sm_pos l hl m (by omega)]; simp [h]
/-- the table of sums in memory: n + 1 bools -/
def SumsAt (w : World) (lo : Nat) (l : List Int) (n : Nat) (a : Option Addr) : Prop := ∃ g F, a = some ⟨g, 0, none⟩ ∧ lo ≤ g ∧ w.rowIs g 4 (n + 1) F ∧ ∀ x, x ≤ n → F x = .bool (sm l x)
theorem SumsAt.new {w w' : World} {lo n : Nat} {l : List Int} {a : Option Addr} (h : SumsAt w lo l n a) (hb : Below w.heap.size w w') : SumsAt w' lo l n a := by
  obtain ⟨g, F, ha, hl, hr, hf⟩ := h
  exact ⟨g, F, ha, hl, hr.of_block (hb.block g hr.lt), hf⟩
theorem SumsAt.at {w : World} {lo n : Nat} {l : List Int} {a : Option Addr} (h : SumsAt w lo l n a) : ∃ g, a = some ⟨g, 0, none⟩ ∧ ∀ j, j ≤ n → w.cell? ⟨g, j, none⟩ = some (.bool (sm l j)) := by
  obtain ⟨g, F, ha, hl, hr, hf⟩ := h
  exact ⟨g, ha, fun j hj => by rw [hr.cell (by omega), hf j hj]⟩
set_option maxHeartbeats 800000 in
theorem nuSums_any (a : Option Addr) (cap : Nat) (l : List Int) (n : Nat) (w : World) (B : Nat) (ha : RdI w B a l) (hB : B ≤ w.heap.size) (hl : l.length ≤ 1048576) (hp : Pos l) (hn : n ≤ 4000) :
    Calls Try.prog 69 #[.slice a l.length cap, .int .i64 n] w fun e w' => ∃ b, e = .returned (.slice b (n + 1) (n + 1)) ∧ SumsAt w' w.heap.size l n b ∧ Below w.heap.size w w' := by
  obtain ⟨D, hD⟩ : ∃ D, D = w.heap.size := ⟨_, rfl⟩
  have HD := Lib.hid hD
  rw [← hD]
  clear hD
  have HP := Lib.hid hp
  clear hp
  go_enter Try.func69, Try.ntmps69
  go_wp2_with (at_make; refine wpList_mk _ rfl _ _ _ rfl 4 (.bool false) 1 Try.underlying77 bool_info rfl .i64 .i64 _ _ (n + 1) rfl rfl (by omega) (by omega) (by omega) (by omega) ?_; intro w1 hrow hsz hbel; rw [← HD.out] at hrow hbel hsz ⊢; have hc0 := hrow.cell (i := 0) (by omega); have hf0 := hrow.frozen 0)
  go_loopw [6] (fun i wr => ∃ m : Nat, m ≤ n + 1 ∧ i = .int .i64 m ∧ (∃ F, wr.rowIs D 4 (n + 1) F ∧ (∀ x, x < m → F x = .bool (sm l x)) ∧ (∀ x, m ≤ x → F x = .bool (x == 0))) ∧ Below D w wr) (fun i _ => n + 1 - (intOf i).toNat)
  case atStart =>
    refine ⟨1, by omega, rfl, ⟨_, hrow.set 0 _, fun x hx => ?_, fun x hx => ?_⟩, hbel.setCell (Nat.le_refl _) _⟩
    · rw [show x = 0 by omega]; rfl
    · show (if x = 0 then Value.bool true else Value.bool false) = _
      by_cases e : x = 0
      · subst e; rfl
      · rw [if_neg e]; simp [e]
  case round =>
    obtain ⟨m, hm, rfl, ⟨F1, hrow1, hF1, hF2⟩, hbel1⟩ := hrel
    clear hrow hbel hc0 hf0 hsz
    have HF1 := Lib.hid hF1
    have HF2 := Lib.hid hF2
    clear hF1 hF2
    by_cases hlt : m ≤ n
    · have hd : decide ((m : Int) ≤ (n : Int)) = true := decide_eq_true (by omega)
      go_wp2_with fail
      obtain ⟨wo, rfl⟩ : ∃ wo : World, wo = wr := ⟨_, rfl⟩
      go_loopw [21] (fun i wr => ∃ k : Nat, k ≤ l.length ∧ i = .int .i64 k ∧ (∃ F, wr.rowIs D 4 (n + 1) F ∧ (∀ x, x < m → F x = .bool (sm l x)) ∧ F m = .bool (acc l m k) ∧ (∀ x, m < x → F x = .bool (x == 0))) ∧ Below D w wr) (fun i _ => l.length - (intOf i).toNat)
      case atStart => exact ⟨0, Nat.zero_le _, rfl, ⟨F1, hrow1, HF1.out, by rw [HF2.out m (Nat.le_refl _), acc_zero], fun x hx => HF2.out x (by omega)⟩, hbel1⟩
      case round =>
        obtain ⟨k, hk, rfl, ⟨F2, hrow2, hG1, hG2, hG3⟩, hbel2⟩ := hrel
        clear hrow1 hbel1 HF1 HF2
        have HG1 := Lib.hid hG1
        have HG3 := Lib.hid hG3
        by_cases hlt2 : k < l.length
        · obtain ⟨g, off, rfl, hg, hc⟩ := Rd.at ha hlt2
          have hc1 := (hbel2.cell (p := ⟨g, off + k, none⟩) (show g < D by have := HD.out; omega)).trans hc
          have hpk := HP.out (nth l k) (nth_mem _ _ hlt2)
          have HA := Lib.hid (acc_succ l m k hlt2)
          have hcm := hrow2.cell (i := m) (by omega)
          have hfm := hrow2.frozen m
          rw [hG2] at hcm
          clear hc hG1 hG2 hG3
          cases hb : acc l m k with
          | true =>
            rw [hb] at hcm
            have HB := Lib.hid hb
            clear hb
            go_wp2_with fail
            go_roundw
            case rel =>
              refine ⟨k + 1, by omega, by go_num, ⟨_, hrow2.set m _, fun x hx => by rw [if_neg (by omega)]; exact HG1.out x hx, by rw [if_pos rfl, HA.out, HB.out]; rfl, fun x hx => by rw [if_neg (by omega)]; exact HG3.out x hx⟩, hbel2.setCell (Nat.le_refl _) _⟩
            case measure => simp [intOf]; omega
          | false =>
            rw [hb] at hcm
            have HB := Lib.hid hb
            clear hb
            by_cases hle : nth l k ≤ (m : Int)
            · have hcx := hrow2.cell (i := m - (nth l k).toNat) (by omega)
              rw [HG1.out _ (by omega)] at hcx
              obtain ⟨z, hz⟩ : ∃ z : Nat, nth l k = z := ⟨(nth l k).toNat, by omega⟩
              rw [hz] at hc1 hpk hle hcx HA
              rw [Int.toNat_natCast] at hcx HA
              clear hz
              have hle2 : z ≤ m := by omega
              have e1 : ((m : Int) - (z : Int)).toNat = m - z := by omega
              cases hs : sm l (m - z)
              all_goals
                rw [hs] at hcx
                have HS := Lib.hid hs
                clear hs
                go_wp2_with fail
                go_roundw
                case rel =>
                  refine ⟨k + 1, by omega, by go_num, ⟨_, hrow2.set m _, fun x hx => by rw [if_neg (by omega)]; exact HG1.out x hx, by rw [if_pos rfl, HA.out, HB.out, HS.out, decide_eq_true hle]; rfl, fun x hx => by rw [if_neg (by omega)]; exact HG3.out x hx⟩, hbel2.setCell (Nat.le_refl _) _⟩
                case measure => simp [intOf]; omega
            · go_wp2_with fail
              go_roundw
              case rel =>
                refine ⟨k + 1, by omega, by go_num, ⟨_, hrow2.set m _, fun x hx => by rw [if_neg (by omega)]; exact HG1.out x hx, by rw [if_pos rfl, HA.out, HB.out, decide_eq_false (by omega)]; rfl, fun x hx => by rw [if_neg (by omega)]; exact HG3.out x hx⟩, hbel2.setCell (Nat.le_refl _) _⟩
              case measure => simp [intOf]; omega
        · obtain rfl : k = l.length := by omega
          rw [acc_all l HP.out] at hG2
          have HG2 := Lib.hid hG2
          clear hG1 hG2 hG3
          go_wp2_with fail
          go_roundw
          case rel =>
            refine ⟨m + 1, by omega, by go_num, ⟨F2, hrow2, fun x hx => ?_, fun x hx => HG3.out x (by omega)⟩, hbel2⟩
            by_cases e : x = m
            · rw [e]; exact HG2.out
            · exact HG1.out x (by omega)
          case measure => simp [intOf]; omega
    · obtain rfl : m = n + 1 := by omega
      go_wp2_with fail
      go_ret
      exact ⟨_, rfl, ⟨D, F1, rfl, Nat.le_refl _, hrow1, fun x hx => HF1.out x (by omega)⟩, hbel1⟩
set_option maxHeartbeats 800000 in
theorem sumsUpTo_any (a : Option Addr) (cap : Nat) (l : List Int) (n : Nat) (w : World) (B : Nat) (ha : RdI w B a l) (hB : B ≤ w.heap.size) (hl : l.length ≤ 1048576) (hp : Pos l) (hn : n ≤ 4000) :
    Calls Try.prog 72 #[.slice a l.length cap, .int .i64 n] w fun e w' => ∃ b, e = .returned (.slice b (n + 1) (n + 1)) ∧ SumsAt w' w.heap.size l n b ∧ Below w.heap.size w w' := by
  obtain ⟨D, hD⟩ : ∃ D, D = w.heap.size := ⟨_, rfl⟩
  have HD := Lib.hid hD
  rw [← hD]
  clear hD
  have HP := Lib.hid hp
  clear hp
  go_enter Try.func72, Try.ntmps72
  go_wp2_with (at_make; refine wpList_mk _ rfl _ _ _ rfl 4 (.bool false) 1 Try.underlying77 bool_info rfl .i64 .i64 _ _ (n + 1) rfl rfl (by omega) (by omega) (by omega) (by omega) ?_; intro w1 hrow hsz hbel; rw [← HD.out] at hrow hbel hsz ⊢; have hc0 := hrow.cell (i := 0) (by omega); have hf0 := hrow.frozen 0)
  go_loopw [16] (fun i wr => ∃ m : Nat, m ≤ n + 1 ∧ i = .int .i64 m ∧ (∃ F, wr.rowIs D 4 (n + 1) F ∧ (∀ x, x < m → F x = .bool (sm l x)) ∧ (∀ x, m ≤ x → F x = .bool (x == 0))) ∧ Below D w wr) (fun i _ => n + 1 - (intOf i).toNat)
  case atStart =>
    refine ⟨0, by omega, rfl, ⟨_, hrow.set 0 _, fun x hx => ?_, fun x hx => ?_⟩, hbel.setCell (Nat.le_refl _) _⟩
    · omega
    · show (if x = 0 then Value.bool true else Value.bool false) = _
      by_cases e : x = 0
      · subst e; rfl
      · rw [if_neg e]; simp [e]
  case round =>
    obtain ⟨m, hm, rfl, ⟨F1, hrow1, hF1, hF2⟩, hbel1⟩ := hrel
    clear hrow hbel hc0 hf0 hsz
    have HF1 := Lib.hid hF1
    have HF2 := Lib.hid hF2
    clear hF1 hF2
    by_cases hlt : m ≤ n
    · have hd : decide ((m : Int) < (n : Int) + 1) = true := decide_eq_true (by omega)
      go_wp2_with fail
      obtain ⟨wo, rfl⟩ : ∃ wo : World, wo = wr := ⟨_, rfl⟩
      go_loopw [21] (fun i wr => ∃ k : Nat, k ≤ l.length ∧ i = .int .i64 k ∧ (∃ F, wr.rowIs D 4 (n + 1) F ∧ (∀ x, x < m → F x = .bool (sm l x)) ∧ F m = .bool (acc l m k) ∧ (∀ x, m < x → F x = .bool (x == 0))) ∧ Below D w wr) (fun i _ => l.length - (intOf i).toNat)
      case atStart => exact ⟨0, Nat.zero_le _, rfl, ⟨F1, hrow1, HF1.out, by rw [HF2.out m (Nat.le_refl _), acc_zero], fun x hx => HF2.out x (by omega)⟩, hbel1⟩
      case round =>
        obtain ⟨k, hk, rfl, ⟨F2, hrow2, hG1, hG2, hG3⟩, hbel2⟩ := hrel
        clear hrow1 hbel1 HF1 HF2
        have HG1 := Lib.hid hG1
        have HG3 := Lib.hid hG3
        by_cases hlt2 : k < l.length
        · obtain ⟨g, off, rfl, hg, hc⟩ := Rd.at ha hlt2
          have hc1 := (hbel2.cell (p := ⟨g, off + k, none⟩) (show g < D by have := HD.out; omega)).trans hc
          have hpk := HP.out (nth l k) (nth_mem _ _ hlt2)
          have HA := Lib.hid (acc_succ l m k hlt2)
          have hcm := hrow2.cell (i := m) (by omega)
          have hfm := hrow2.frozen m
          rw [hG2] at hcm
          clear hc hG1 hG2 hG3
          cases hb : acc l m k with
          | true =>
            rw [hb] at hcm
            have HB := Lib.hid hb
            clear hb
            go_wp2_with fail
            go_roundw
            case rel =>
              refine ⟨k + 1, by omega, by go_num, ⟨_, hrow2.set m _, fun x hx => by rw [if_neg (by omega)]; exact HG1.out x hx, by rw [if_pos rfl, HA.out, HB.out]; rfl, fun x hx => by rw [if_neg (by omega)]; exact HG3.out x hx⟩, hbel2.setCell (Nat.le_refl _) _⟩
            case measure => simp [intOf]; omega
          | false =>
            rw [hb] at hcm
            have HB := Lib.hid hb
            clear hb
            by_cases hle : nth l k ≤ (m : Int)
            · have hcx := hrow2.cell (i := m - (nth l k).toNat) (by omega)
              rw [HG1.out _ (by omega)] at hcx
              obtain ⟨z, hz⟩ : ∃ z : Nat, nth l k = z := ⟨(nth l k).toNat, by omega⟩
              rw [hz] at hc1 hpk hle hcx HA
              rw [Int.toNat_natCast] at hcx HA
              clear hz
              have hle2 : z ≤ m := by omega
              have e1 : ((m : Int) - (z : Int)).toNat = m - z := by omega
              cases hs : sm l (m - z)
              all_goals
                rw [hs] at hcx
                have HS := Lib.hid hs
                clear hs
                go_wp2_with fail
                go_roundw
                case rel =>
                  refine ⟨k + 1, by omega, by go_num, ⟨_, hrow2.set m _, fun x hx => by rw [if_neg (by omega)]; exact HG1.out x hx, by rw [if_pos rfl, HA.out, HB.out, HS.out, decide_eq_true hle]; rfl, fun x hx => by rw [if_neg (by omega)]; exact HG3.out x hx⟩, hbel2.setCell (Nat.le_refl _) _⟩
                case measure => simp [intOf]; omega
            · go_wp2_with fail
              go_roundw
              case rel =>
                refine ⟨k + 1, by omega, by go_num, ⟨_, hrow2.set m _, fun x hx => by rw [if_neg (by omega)]; exact HG1.out x hx, by rw [if_pos rfl, HA.out, HB.out, decide_eq_false (by omega)]; rfl, fun x hx => by rw [if_neg (by omega)]; exact HG3.out x hx⟩, hbel2.setCell (Nat.le_refl _) _⟩
              case measure => simp [intOf]; omega
        · obtain rfl : k = l.length := by omega
          rw [acc_all l HP.out] at hG2
          have HG2 := Lib.hid hG2
          clear hG1 hG2 hG3
          go_wp2_with fail
          go_roundw
          case rel =>
            refine ⟨m + 1, by omega, by go_num, ⟨F2, hrow2, fun x hx => ?_, fun x hx => HG3.out x (by omega)⟩, hbel2⟩
            by_cases e : x = m
            · rw [e]; exact HG2.out
            · exact HG1.out x (by omega)
          case measure => simp [intOf]; omega
    · obtain rfl : m = n + 1 := by omega
      go_wp2_with fail
      go_ret
      exact ⟨_, rfl, ⟨D, F1, rfl, Nat.le_refl _, hrow1, fun x hx => HF1.out x (by omega)⟩, hbel1⟩
end Go.Proofs.Ytckjobjmjijjdaa
