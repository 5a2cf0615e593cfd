/-
  Chapter 07: shapes of risen's loop, and of those of SetGrows.
-/
import Derived.Test.YtdefopkieleojaaSetL
set_option linter.unusedVariables false
set_option linter.unusedSimpArgs false
namespace Go.Proofs.YtdefopkieleojaaD
open Go Go.RowKit

/- base 3 round none: List (RC.den .ints), List (RC.den .ints), Int: [.l .ints (l), .l .ints ([]), .i (nat_lit 0)] -/
def riSk : NSt := ⟨[.pl .ints [], .junk, .slice none (0) (0), .pl .ints [], .int .i64 (0), .junk, .junk, .junk, .junk, .junk, .junk, .junk, .junk, .junk, .junk, .junk, .junk, .junk], [], [], 3⟩
def riId : LoopId := ⟨14, [0, 1, 0, 1, 1], [(plT 3, .ints)]⟩

end Go.Proofs.YtdefopkieleojaaD
