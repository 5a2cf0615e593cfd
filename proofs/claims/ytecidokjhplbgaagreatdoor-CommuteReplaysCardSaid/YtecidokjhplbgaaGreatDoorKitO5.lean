/-
  OverInts, OverState: contracts
-/
import Derived.Test.YtecidokjhplbgaaGreatDoorKitD
import Derived.Test.YtecidokjhplbgaaGreatDoorStA
set_option linter.unusedVariables false
set_option linter.unusedSimpArgs false
namespace Go.Proofs.YtecidokjhplbgaaGreatDoorD
open Go Go.RowKit

end Go.Proofs.YtecidokjhplbgaaGreatDoorD

