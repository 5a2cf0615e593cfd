/-
  Chapter 28: orders that have no steps, in the examples.
-/
import Derived.Test.YtajjmblgjdicoaaGreatKnC
set_option linter.unusedVariables false
set_option linter.unusedSimpArgs false
namespace Go.Proofs.YtajjmblgjdicoaaGreatD
open Go Go.RowKit

set_option maxRecDepth 100000 in
theorem of2_fn : PureFn Tryz.prog 13 (onlyG [twoC, .pl .ints [0, 1]] (.tuple #[.slice none 0 0, .int .i64 9])) := only_fn plainN mixedN caseE_ok noL (k := 100) (by kernel_rfl) rfl (by kernel_rfl)
set_option maxRecDepth 100000 in
theorem of3_fn : PureFn Tryz.prog 13 (onlyG [twoC, .pl .ints [0]] (.tuple #[.slice none 0 0, .int .i64 13])) := only_fn plainN mixedN caseE_ok noL (k := 100) (by kernel_rfl) rfl (by kernel_rfl)

end Go.Proofs.YtajjmblgjdicoaaGreatD
