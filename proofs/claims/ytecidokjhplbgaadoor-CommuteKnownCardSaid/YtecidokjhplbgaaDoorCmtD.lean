/-
  Chapter 18: the examples are answered as it says, for the row.
-/
import Derived.Test.YtecidokjhplbgaaDoorCmtC
import Derived.Test.YtecidokjhplbgaaDoorClose
set_option linter.unusedVariables false
set_option linter.unusedSimpArgs false
namespace Go.Proofs.YtecidokjhplbgaaDoorD
open Go Go.RowKit

theorem cknown_all (xs : List CV) (h : ArsAll [] xs) : PureAt Tryd.prog 3 xs (.bool true) := by
  cases h.nil_inv
  exact cmtKnown_fn.2 [] _ rfl

end Go.Proofs.YtecidokjhplbgaaDoorD
