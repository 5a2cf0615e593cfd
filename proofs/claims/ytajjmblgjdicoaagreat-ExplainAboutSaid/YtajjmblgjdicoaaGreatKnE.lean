/-
  Chapter 28: the examples are answered as the chapter says.
-/
import Derived.Test.YtajjmblgjdicoaaGreatKnD1
import Derived.Test.YtajjmblgjdicoaaGreatKnD2
import Derived.Test.YtajjmblgjdicoaaGreatKnD3
import Derived.Test.YtajjmblgjdicoaaGreatKnD4
set_option linter.unusedVariables false
set_option linter.unusedSimpArgs false
namespace Go.Proofs.YtajjmblgjdicoaaGreatD
open Go Go.RowKit

def ofL : List (List CV × CV) := [([twoC, .pl .ints [1, 0]], .tuple #[.pl .steps [st1, st2, st3], .int .i64 0]), ([twoC, .pl .ints [0, 1]], .tuple #[.slice none 0 0, .int .i64 9]), ([twoC, .pl .ints [0]], .tuple #[.slice none 0 0, .int .i64 13])]
def chL : List (List CV × CV) := [([twoC, .pl .ints [1, 0], .pl .steps [st1, st2, st3]], .int .i64 0), ([twoC, .pl .ints [1, 0], .pl .steps [st1, st2]], .int .i64 18)]
def laL : List (List CV × CV) := [([twoC, .pl .steps [st1, st2]], .tuple #[.pl .states [⟨1, 3, []⟩, ⟨2, 0, []⟩], .int .i64 0]), ([twoC, .slice none 0 0], .tuple #[.pl .states [⟨1, 1, []⟩, ⟨2, 0, []⟩], .int .i64 0])]
theorem ofL_fn : PureFn Tryz.prog 13 (manyG ofL) := many_cons of1_fn (many_cons of2_fn (many_cons of3_fn (many_nil (by kernel_rfl))))
theorem chL_fn : PureFn Tryz.prog 26 (manyG chL) := many_cons ch1_fn (many_cons ch2_fn (many_nil (by kernel_rfl)))
theorem laL_fn : PureFn Tryz.prog 21 (manyG laL) := many_cons la1_fn (many_cons la2_fn (many_nil (by kernel_rfl)))
def exE : List (Nat × ExtFn) := [(13, pureExt (manyG ofL)), (26, pureExt (manyG chL)), (21, pureExt (manyG laL)), (23, pureExt (onlyG [.pl .steps [st1, st2, st3], .int .i64 1] (.pl .steps [st3])))] ++ caseE
theorem exE_ok (N : Nat) : ExtsOk Tryz.prog N exE :=
  exts_append (E := [(13, pureExt (manyG ofL)), (26, pureExt (manyG chL)), (21, pureExt (manyG laL)), (23, pureExt (onlyG [.pl .steps [st1, st2, st3], .int .i64 1] (.pl .steps [st3])))])
    (extsOk_cons (extOk_pure ofL_fn) (extsOk_cons (extOk_pure chL_fn) (extsOk_cons (extOk_pure laL_fn) (extsOk_cons (extOk_pure ab_fn) extsOk_nil)))) (caseE_ok N)
set_option maxRecDepth 100000 in
theorem awake_fn : PureFn Tryz.prog 10 trueG :=
  true_fn plainN mixedN exE_ok noL (k := 100) (by kernel_rfl) (by kernel_rfl)
def awE : List (Nat × ExtFn) := (10, pureExt trueG) :: exE
theorem awE_ok (N : Nat) : ExtsOk Tryz.prog N awE := extsOk_cons (extOk_pure awake_fn) (exE_ok N)
set_option maxRecDepth 100000 in
theorem known_fn : PureFn Tryz.prog 5 trueG :=
  true_fn plainN mixedN awE_ok noL (k := 100) (by kernel_rfl) (by kernel_rfl)

end Go.Proofs.YtajjmblgjdicoaaGreatD
