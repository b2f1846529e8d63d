/-
  From the rows' condition on seven variables of the library to the facts that the walks ask; the witness.
-/
import Derived.Test.YtefadlbfkhndfaaDoorLaid
import Derived.Test.YtefadlbfkhndfaaDoorLibS
import Derived.Test.YtefadlbfkhndfaaDoorRows
import Derived.Stop.LaidErr
import Derived.MakeChecks
import Derived.Lay
namespace Go.Proofs.YtefadlbfkhndfaaDoor
open Go.ChangeShapes Go.WideShapes Go.ChangeAt Go.RowKit
set_option linter.unusedSimpArgs false
set_option linter.unusedVariables false

def laid7 : List (String × DataW Unit) := [("math/bits.deBruijn32tab", Rows.laid_math_bits_deBruijn32tab), ("math/bits.deBruijn64tab", Rows.laid_math_bits_deBruijn64tab), ("internal/strconv.uint64pow10", Rows.laid_internal_strconv_uint64pow10), ("unicode/utf8.acceptRanges", Rows.laid_unicode_utf8_acceptRanges), ("strconv.ErrRange", Rows.laid_strconv_ErrRange), ("strconv.ErrSyntax", Rows.laid_strconv_ErrSyntax), ("unicode/utf8.first", Rows.laid_unicode_utf8_first)]
theorem plain_of_laid7 {W : World} (h : laidMetH Tryd.prog laid7 W) : laidMet Tryd.prog laid7 W := by
  rw [MakeChecks.laidMetH_plain _ _ _ (by kernel_rfl)] at h
  exact h
theorem tab_of_laid7 {W : World} (h : laidMetH Tryd.prog laid7 W) : Tab W :=
  Lib.tabBelow_of_tabIs (Lib.tabIs_of_head gPow tPow Tryd.underlying107 Tryd.underlying93 (by kernel_rfl) (by kernel_rfl) (laidMet.tail (laidMet.tail (plain_of_laid7 h))))

theorem gRange : Tryd.prog.globalNamed "strconv.ErrRange" = some 5 := by kernel_rfl
theorem tRange : (Tryd.prog.globals[5]?).map (·.type) = some 52 := by kernel_rfl
theorem gSyn : Tryd.prog.globalNamed "strconv.ErrSyntax" = some 4 := by kernel_rfl
theorem tSyn : (Tryd.prog.globals[4]?).map (·.type) = some 52 := by kernel_rfl
theorem starErr : "*" ++ "errors.errorString" = "*errors.errorString" := by decide
theorem rowErr (u : TypeId) (h : Tryd.prog.typeName? 3 u = some "*errors.errorString") : u = 136 :=
  typeName_ptr_named (nm := "errors.errorString") (by rw [starErr]; kernel_rfl) (by kernel_rfl) (by decide) u (by rw [starErr]; exact h)
theorem cellsErr : Tryd.prog.cellsOf 138 = 1 := by kernel_rfl
theorem cellsStr : Tryd.prog.cellsOf 9 = 1 := by kernel_rfl
theorem var_cell {W : World} {n : String} {g : Nat} {v : Value} (hg : Tryd.prog.globalNamed n = some g) (h : W.var? Tryd.prog n = some #[v]) : W.cell? ⟨g, 0, none⟩ = some v := by simpa using World.var?_cell hg h 0
theorem lt_of_cell {W : World} {g : Nat} {v : Value} (h : W.cell? ⟨g, 0, none⟩ = some v) : g < W.heap.size := World.block_lt_of_cell? _ _ h
theorem errs_of_laid7 {W : World} (h : laidMetH Tryd.prog laid7 W) : Errs W := by
  have h4 := laidMet.tail (laidMet.tail (laidMet.tail (laidMet.tail (plain_of_laid7 h))))
  obtain ⟨a, s, hv, _⟩ := laid_sentinel h4 gRange tRange Tryd.underlying52 rowErr Tryd.underlying136 Tryd.underlying138 rfl rfl Tryd.underlying9 cellsErr cellsStr
  obtain ⟨a', s', hv', _⟩ := laid_sentinel h4.tail gSyn tSyn Tryd.underlying52 rowErr Tryd.underlying136 Tryd.underlying138 rfl rfl Tryd.underlying9 cellsErr cellsStr
  have c1 := var_cell gRange hv
  have c2 := var_cell gSyn hv'
  exact ⟨⟨⟨_, _, c2⟩, _, _, c1⟩, lt_of_cell c2, lt_of_cell c1⟩
theorem laidAll_met (os : Os) (args : Array Value) : laidMetH Tryd.prog laid7 ((World.laidAll Tryd.prog os laid7).forCall (fun _ _ => 0) ⟨#[], args, []⟩).memory := by
  rw [MakeChecks.laidMetH_plain _ _ _ (by kernel_rfl)]
  exact laidMet_laidAll _ (by kernel_rfl) (by kernel_rfl)
end Go.Proofs.YtefadlbfkhndfaaDoor
