/-
  Chapter 11: the examples; what the laws' trees are made with.
-/
import Derived.Test.YtcomfanipljolaaMchAF
set_option linter.unusedVariables false
set_option linter.unusedSimpArgs false
namespace Go.Proofs.YtcomfanipljolaaD
open Go Go.RowKit

set_option maxRecDepth 100000 in
theorem awake_fn : PureFn Try.prog 8 trueG :=
  true_fn plainN mixedN mchE_ok noL (k := 30) (by kernel_rfl) (by kernel_rfl)
set_option maxRecDepth 100000 in
theorem known_fn : PureFn Try.prog 5 trueG :=
  true_fn plainN mixedN mchE_ok noL (k := 30) (by kernel_rfl) (by kernel_rfl)
def lawE : List (Nat × ExtFn) := [(8, pureExt trueG), (5, pureExt trueG)] ++ opE
theorem lawE_ok (N : Nat) : ExtsOk Try.prog N lawE := extsOk_cons (extOk_pure awake_fn) (extsOk_cons (extOk_pure known_fn) (opE_ok N))

end Go.Proofs.YtcomfanipljolaaD
