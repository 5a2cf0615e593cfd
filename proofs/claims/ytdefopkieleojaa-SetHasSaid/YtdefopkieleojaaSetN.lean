/-
  Chapter 07: rounds of risen's loop.
-/
import Derived.Test.YtdefopkieleojaaSetM
set_option linter.unusedVariables false
set_option linter.unusedSimpArgs false
namespace Go.Proofs.YtdefopkieleojaaD
open Go Go.RowKit

/- List (RC.den .ints) -/
def riOut0 : NSt := ⟨[.junk, .junk, .slice none (0) (0), .pl .ints [], .junk, .junk, .junk, .junk, .junk, .junk, .junk, .junk, .junk, .junk, .junk, .junk, .junk, .junk], [], [], 3⟩
set_option maxRecDepth 100000 in
theorem ri_round (k : Nat) (l o : List Int) (i : Int) : (rounds Try.prog riE [] 30 riId 3 none riSk (k + 1) [.l .ints l, .l .ints o, .i i]).ev = T.ev (
     .ite (decide (i < (↑l.length : Int)))
      (.ite (inRange i l.length)
       (.ite (midB o)
        (rounds Try.prog riE [] 30 riId 3 none riSk k [.l .ints (l), .l .ints (withN o (l.getD i.toNat RC.ints.zero)), .i (IntKind.i64.wrap (i + (1 : Int)))])
        (.fail))
       (.fail))
      (outAt (.exit 0) riOut0 [.l .ints (o)])) := by kernel_rfl

end Go.Proofs.YtdefopkieleojaaD
