/-
  Chapter 28: the examples, as the law's row asks.
-/
import Derived.Test.YtajjmblgjdicoaaGreatKnE
import Derived.Test.YtajjmblgjdicoaaGreatClose
namespace Go.Proofs.YtajjmblgjdicoaaGreatD
open Go Go.RowKit

theorem known_all (xs : List CV) (h : ArsAll [] xs) : PureAt Tryz.prog 5 xs (.bool true) := by
  cases h.nil_inv; exact known_fn.2 [] _ rfl

end Go.Proofs.YtajjmblgjdicoaaGreatD
