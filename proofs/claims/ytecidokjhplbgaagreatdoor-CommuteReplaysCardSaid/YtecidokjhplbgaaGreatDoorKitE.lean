/-
  slices.Equal at whole numbers: contract.
-/
import Derived.Test.YtecidokjhplbgaaGreatDoorKitQ
set_option linter.unusedVariables false
set_option linter.unusedSimpArgs false
namespace Go.Proofs.YtecidokjhplbgaaGreatDoorD.Equ
open Go Go.RowKit

end Go.Proofs.YtecidokjhplbgaaGreatDoorD.Equ
