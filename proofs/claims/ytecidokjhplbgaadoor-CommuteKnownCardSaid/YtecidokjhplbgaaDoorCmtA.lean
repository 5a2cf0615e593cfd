/-
  Chapter 18: what the closed runs of texts are run over.
-/
import Derived.Test.YtecidokjhplbgaaDoorKitT
import Derived.Test.YtecidokjhplbgaaDoorOpnAE
import Derived.Test.YtecidokjhplbgaaDoorFrzA
set_option linter.unusedVariables false
set_option linter.unusedSimpArgs false
namespace Go.Proofs.YtecidokjhplbgaaDoorD
open Go Go.RowKit

def cmtE : List (Nat × ExtFn) := (8, pureExt (sigExt [] opCheckG)) :: parE
theorem cmtE_ok (N : Nat) : ExtsOk Tryd.prog N cmtE := extsOk_cons (extOk_pure opCheck_fn) (parE_ok N)

end Go.Proofs.YtecidokjhplbgaaDoorD
