/- What a row's list and the world's shape give of the library's variables. -/
import Derived.Test.YtmjmgggfmccjmaaGreatDoorPelB
import Derived.Test.YtmjmgggfmccjmaaGreatDoorRows
import Derived.Stop.LaidErr
import Derived.Stop.Joined
import Derived.LaidMore
import Derived.Shelf.Vars
import Derived.Plain9
namespace Go.Proofs.YtmjmgggfmccjmaaGreatDoor
open Go.RowKit
set_option linter.unusedVariables false
theorem errRow (u : TypeId) (h : Tryz.prog.typeName? 3 u = some "*errors.errorString") : u = 114 := by
  have star : "*" ++ "errors.errorString" = "*errors.errorString" := by decide
  exact typeName_ptr_named (nm := "errors.errorString") (by rw [star]; kernel_rfl) (by kernel_rfl) (by decide) u (by rw [star]; exact h)
theorem errG : Tryz.prog.globalNamed "strconv.ErrSyntax" = some 1 := by kernel_rfl
theorem errGT : (Tryz.prog.globals[1]?).map (·.type) = some 62 := by kernel_rfl
theorem errC1 : Tryz.prog.cellsOf 116 = 1 := by kernel_rfl
theorem errC2 : Tryz.prog.cellsOf 9 = 1 := by kernel_rfl
/-- the sentinel's fact, at the head of a list -/
theorem serr_of {W : World} {text : List UInt8} {r : List (String × DataW Unit)} (h : laidMet Tryz.prog (("strconv.ErrSyntax", .iface "*errors.errorString" (.ptr (.agg [.lit (.string text)]))) :: r) W) : SErr W := by
  obtain ⟨a, s, hv, _⟩ := laid_sentinel h errG errGT Tryz.underlying62 errRow Tryz.underlying114 Tryz.underlying116 rfl rfl Tryz.underlying9 errC1 errC2
  exact ⟨_, _, hv⟩
theorem mlen_of {W : World} (h : W.ShapedOpen Tryz.prog) : MLen W :=
  Go.Proofs.cell_of_shapedOpen_int (zero := #[.int .i64 0]) (t := 3) h (of_decide_eq_true (by kernel_rfl)) (by kernel_rfl) rfl (by kernel_rfl) (by kernel_rfl) Tryz.underlying3
theorem pel_laid {W : World} (h : laidMetH Tryz.prog Rows.fnExactParseEdgeListRow.laid W) (hsh : W.ShapedOpen Tryz.prog) : PTab W ∧ SErr W ∧ MLen W := by
  rw [MakeChecks.laidMetH_plain _ _ _ (by kernel_rfl)] at h
  have h1 : laidMet Tryz.prog [("math/bits.deBruijn32tab", Rows.laid_math_bits_deBruijn32tab), ("math/bits.deBruijn64tab", Rows.laid_math_bits_deBruijn64tab), ("internal/strconv.uint64pow10", Lib.tabData .u64 Lib.pow10Tab), ("unicode/utf8.acceptRanges", Rows.laid_unicode_utf8_acceptRanges), ("strconv.ErrRange", Rows.laid_strconv_ErrRange), ("strconv.ErrSyntax", Rows.laid_strconv_ErrSyntax), ("unicode/utf8.first", Rows.laid_unicode_utf8_first)] W := h
  exact ⟨ptab_of h1, serr_of h1.tail.tail.tail.tail.tail, mlen_of hsh⟩
end Go.Proofs.YtmjmgggfmccjmaaGreatDoor
