/-
  Chapter 28: last states and steps of an object, in the examples.
-/
import Derived.Test.YtajjmblgjdicoaaGreatKnC
set_option linter.unusedVariables false
set_option linter.unusedSimpArgs false
namespace Go.Proofs.YtajjmblgjdicoaaGreatD
open Go Go.RowKit

set_option maxRecDepth 100000 in
theorem la1_fn : PureFn Tryz.prog 21 (onlyG [twoC, .pl .steps [st1, st2]] (.tuple #[.pl .states [⟨1, 3, []⟩, ⟨2, 0, []⟩], .int .i64 0])) := only_fn plainN mixedN caseE_ok noL (k := 100) (by kernel_rfl) rfl (by kernel_rfl)
set_option maxRecDepth 100000 in
theorem la2_fn : PureFn Tryz.prog 21 (onlyG [twoC, .slice none 0 0] (.tuple #[.pl .states [⟨1, 1, []⟩, ⟨2, 0, []⟩], .int .i64 0])) := only_fn plainN mixedN caseE_ok noL (k := 100) (by kernel_rfl) rfl (by kernel_rfl)
set_option maxRecDepth 100000 in
theorem ab_fn : PureFn Tryz.prog 23 (onlyG [.pl .steps [st1, st2, st3], .int .i64 1] (.pl .steps [st3])) := only_fn plainN mixedN caseE_ok noL (k := 100) (by kernel_rfl) rfl (by kernel_rfl)

end Go.Proofs.YtajjmblgjdicoaaGreatD
