/-
  slices.Insert at whole numbers, at this program's numbers.
-/
import Derived.Test.YtecidokjhplbgaaDoorInsA
import Derived.Test.YtecidokjhplbgaaDoorKitD
set_option linter.unusedVariables false
set_option linter.unusedSimpArgs false
namespace Go.Proofs.YtecidokjhplbgaaDoorD
open Go Go.RowKit Go.Shelf

end Go.Proofs.YtecidokjhplbgaaDoorD

