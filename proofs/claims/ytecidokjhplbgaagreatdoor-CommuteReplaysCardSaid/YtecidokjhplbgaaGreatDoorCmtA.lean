/-
  Chapter 18: what the closed runs of texts are run over.
-/
import Derived.Test.YtecidokjhplbgaaGreatDoorKitT
import Derived.Test.YtecidokjhplbgaaGreatDoorOpnAE
import Derived.Test.YtecidokjhplbgaaGreatDoorFrzA
set_option linter.unusedVariables false
set_option linter.unusedSimpArgs false
namespace Go.Proofs.YtecidokjhplbgaaGreatDoorD
open Go Go.RowKit

def cmtE : List (Nat × ExtFn) := (26, pureExt (sigExt [] opCheckG)) :: parE
theorem cmtE_ok (N : Nat) : ExtsOk Tryz.prog N cmtE := extsOk_cons (extOk_pure opCheck_fn) (parE_ok N)

end Go.Proofs.YtecidokjhplbgaaGreatDoorD
