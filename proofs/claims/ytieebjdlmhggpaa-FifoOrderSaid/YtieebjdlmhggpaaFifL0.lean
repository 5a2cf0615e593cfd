/-
  Chapter 09: FifoOrder's loop: its shape.
-/
import Derived.Test.YtieebjdlmhggpaaFifH
set_option linter.unusedVariables false
set_option linter.unusedSimpArgs false
namespace Go.Proofs.YtieebjdlmhggpaaD
open Go Go.RowKit

/- base 21 round none: List (RC.den .ints), List (RC.den .ints), Bool, Bool, Int, Int, Int, Int, Int, List (RC.den .ints), Int, Int, List (RC.den .ints): [.l .ints (l), .l .ints (c), .b false, .b true, .i (nat_lit 0), .i (nat_lit 0), .i (nat_lit 0), .i (nat_lit 4), .i (nat_lit 0), .l .ints ([]), .i (nat_lit 4), .i (nat_lit 0), .l .ints ([])] -/
def foSk : NSt := ⟨[.pl .ints [], .pl .ints [], .junk, .junk, .bool false, .bool false, .pointer (some ⟨12, 0, none⟩), .int .i64 (0), .int .i64 (0), .int .i64 (0), .junk, .junk, .junk, .junk, .junk, .junk, .junk, .junk, .junk, .junk, .junk, .junk, .junk, .junk, .junk, .junk, .junk, .junk, .junk, .junk, .junk, .junk, .junk, .junk, .junk, .junk, .junk, .junk, .junk, .junk, .junk, .junk, .junk, .junk, .junk, .junk, .junk, .junk, .junk, .junk, .junk, .junk, .junk, .junk, .junk, .junk, .junk, .junk, .junk, .junk, .junk, .junk, .junk, .junk, .junk, .junk, .junk, .junk, .junk, .junk, .junk, .junk, .junk, .junk, .junk, .junk, .junk, .junk, .junk, .junk, .junk, .junk, .junk, .junk, .junk, .junk, .junk, .junk, .junk, .junk, .junk, .junk, .junk, .junk, .junk, .junk, .junk, .junk, .junk, .junk, .junk, .junk, .junk, .junk, .junk, .junk, .junk, .junk, .junk, .junk, .junk, .junk, .junk, .junk, .junk, .junk, .junk, .junk, .junk, .junk, .junk, .junk, .junk, .junk, .junk, .junk, .junk, .junk, .junk, .junk, .junk], [], [(12, .cells [.int .i64 (0), .int .i64 (0), .pl .ints []] 1 0), (16, .cells [.int .i64 (0), .int .i64 (0), .pl .ints []] 1 0)], 21⟩
def foId : LoopId := ⟨6, [0, 1, 0, 1, 1, 1, 1], [(plAt 12 2, .ints), (plAt 16 2, .ints)]⟩

end Go.Proofs.YtieebjdlmhggpaaD
