/-
  Chapter 07: shapes of SetGrows' loops.
-/
import Derived.Test.YtdefopkieleojaaSetP
set_option linter.unusedVariables false
set_option linter.unusedSimpArgs false
namespace Go.Proofs.YtdefopkieleojaaD
open Go Go.RowKit

/- base 22 round none: List (RC.den .ints), Bool, Bool, Int, Int, Int, Int, List (RC.den .ints), Int, Int, List (RC.den .ints), Int, Int, Int, Int: [.l .ints (l), .b false, .b true, .i (nat_lit 0), .i (nat_lit 0), .i (nat_lit 2), .i (nat_lit 0), .l .ints ([]), .i (nat_lit 2), .i (nat_lit 0), .l .ints ([]), .i (nat_lit 2), .i (nat_lit 0), .i (nat_lit 2), .i (nat_lit 0)] -/
def gaSk : NSt := ⟨[.pl .ints [], .junk, .bool false, .bool false, .pointer (some ⟨8, 0, none⟩), .pointer (some ⟨9, 0, none⟩), .int .i64 (0), .int .i64 (0), .junk, .junk, .junk, .junk, .junk, .junk, .junk, .junk, .junk, .junk, .junk, .junk, .junk, .junk, .junk, .junk, .junk, .junk, .junk, .junk, .junk, .junk, .junk, .junk, .junk, .junk, .junk, .junk, .junk, .junk, .junk, .junk, .junk, .junk, .junk, .junk, .junk, .junk, .junk, .junk, .junk, .junk, .junk, .junk, .junk, .junk, .junk, .junk, .junk, .junk, .junk, .junk, .junk, .junk, .junk, .junk, .junk, .junk, .junk, .junk, .junk, .junk, .junk, .junk, .junk, .junk, .junk, .junk, .junk, .junk, .junk, .junk, .junk, .junk, .junk, .junk, .junk, .junk, .junk, .junk, .junk, .junk, .junk, .junk, .junk, .junk, .junk, .junk, .junk, .junk, .junk, .junk, .junk, .junk, .junk, .junk, .junk, .junk, .junk, .junk, .junk, .junk, .junk, .junk, .junk, .junk, .junk, .junk, .junk, .junk, .junk, .junk, .junk, .junk, .junk, .junk, .junk, .junk, .junk, .junk, .junk, .junk, .junk, .junk, .junk, .junk, .junk, .junk, .junk], [], [(8, .cells [.int .i64 (0), .int .i64 (0), .pl .ints []] 1 0), (9, .cells [.int .i64 (0), .int .i64 (0), .pl .ints []] 1 0), (13, .cells [.int .i64 (0), .int .i64 (0), .slice none (0) (0)] 1 0), (17, .cells [.int .i64 (0), .int .i64 (0), .slice none (0) (0)] 1 0)], 22⟩

def gaId : LoopId := ⟨7, [0, 1, 0, 1, 1, 1, 1], [(plAt 8 2, .ints), (plAt 9 2, .ints)]⟩

end Go.Proofs.YtdefopkieleojaaD
