/- The two tables of utf8, out of what a row lists. No conditions. -/
import Derived.Test.YtbgfiflnfndckaaDoorTb
import Derived.Test.YtbgfiflnfndckaaDoorRows
import Derived.Lib.LaidU8T
import Derived.MakeChecks
set_option linter.unusedVariables false
namespace Go.Proofs.YtbgfiflnfndckaaDoor
open Go.Lib
set_option maxRecDepth 100000 in
theorem tabs_of {w : World} (hL : laidMetH Tryd.prog [("unicode/utf8.acceptRanges", Rows.laid_unicode_utf8_acceptRanges), ("unicode/utf8.first", Rows.laid_unicode_utf8_first)] w) : Tabs w := by
  rw [MakeChecks.laidMetH_plain _ _ _ (by kernel_rfl)] at hL
  exact utf8Tabs_of_readsT (U8Types.of196 Tryd.lays196) ⟨by kernel_rfl, by kernel_rfl, by kernel_rfl, by kernel_rfl, by kernel_rfl, by kernel_rfl, by kernel_rfl⟩ (Lib.laidMet.reads hL (.tail _ (.head _))) (Lib.laidMet.reads hL (.head _))
end Go.Proofs.YtbgfiflnfndckaaDoor
