/-
  Chapter 28: steps that are looked at, in the examples.
-/
import Derived.Test.YtajjmblgjdicoaaGreatKnC
set_option linter.unusedVariables false
set_option linter.unusedSimpArgs false
namespace Go.Proofs.YtajjmblgjdicoaaGreatD
open Go Go.RowKit

set_option maxRecDepth 100000 in
theorem ch1_fn : PureFn Tryz.prog 26 (onlyG [twoC, .pl .ints [1, 0], .pl .steps [st1, st2, st3]] (.int .i64 0)) := only_fn plainN mixedN caseE_ok noL (k := 100) (by kernel_rfl) rfl (by kernel_rfl)
set_option maxRecDepth 100000 in
theorem ch2_fn : PureFn Tryz.prog 26 (onlyG [twoC, .pl .ints [1, 0], .pl .steps [st1, st2]] (.int .i64 18)) := only_fn plainN mixedN caseE_ok noL (k := 100) (by kernel_rfl) rfl (by kernel_rfl)

end Go.Proofs.YtajjmblgjdicoaaGreatD
