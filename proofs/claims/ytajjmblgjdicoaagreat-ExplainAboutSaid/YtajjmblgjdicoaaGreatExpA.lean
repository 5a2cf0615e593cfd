/-
  Chapter 28: what the runs are made with.
-/
import Derived.Test.YtajjmblgjdicoaaGreatChMch
import Derived.Test.YtajjmblgjdicoaaGreatKitQ
set_option linter.unusedVariables false
set_option linter.unusedSimpArgs false
namespace Go.Proofs.YtajjmblgjdicoaaGreatD
open Go Go.RowKit

def cloneX : List CV → T CV := sigExt [.l .ints] (freshOfSt (.l .ints) cloneG)
theorem cloneX_fn : FreshFn Tryz.prog 72 cloneX := ⟨clone_fn.1, fun args d hd => ((fresh_of_st (.l .ints) clone_fn).2 _ d hd).args [.l .ints]⟩
def knE : List (Nat × ExtFn) := mchE ++ ((72, freshExt cloneX) :: kitE)
theorem knE_ok (N : Nat) : ExtsOk Tryz.prog N knE := exts_append (mchE_ok N) (extsOk_cons (extOk_fresh cloneX_fn) (kitE_ok N))

end Go.Proofs.YtajjmblgjdicoaaGreatD
