/-
  Chapter 28: the chapter's case may be.
-/
import Derived.Test.YtajjmblgjdicoaaGreatKnB
set_option linter.unusedVariables false
set_option linter.unusedSimpArgs false
namespace Go.Proofs.YtajjmblgjdicoaaGreatD
open Go Go.RowKit

set_option maxRecDepth 100000 in
theorem pchk_fn : PureFn Tryz.prog 47 (onlyG [twoC] (.int .i64 0)) := only_fn plainN mixedN kitE_ok noL (k := 100) (by kernel_rfl) rfl (by kernel_rfl)
def caseE : List (Nat × ExtFn) := [(29, pureExt (onlyG [] twoC)), (30, pureExt (onlyG [] (.pl .steps [st1, st2, st3]))), (47, pureExt (onlyG [twoC] (.int .i64 0)))] ++ knE
theorem caseE_ok (N : Nat) : ExtsOk Tryz.prog N caseE :=
  exts_append (E := [(29, pureExt (onlyG [] twoC)), (30, pureExt (onlyG [] (.pl .steps [st1, st2, st3]))), (47, pureExt (onlyG [twoC] (.int .i64 0)))])
    (extsOk_cons (extOk_pure two_fn) (extsOk_cons (extOk_pure three_fn) (extsOk_cons (extOk_pure pchk_fn) extsOk_nil))) (knE_ok N)

end Go.Proofs.YtajjmblgjdicoaaGreatD
