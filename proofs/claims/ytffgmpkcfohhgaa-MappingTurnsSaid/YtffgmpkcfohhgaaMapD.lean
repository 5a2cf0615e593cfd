/-
  Chapter 08: setting: shapes.
-/
import Derived.Test.YtffgmpkcfohhgaaMapC
set_option linter.unusedVariables false
set_option linter.unusedSimpArgs false
namespace Go.Proofs.YtffgmpkcfohhgaaD
open Go Go.RowKit

/- base 15 round none: Int, Int, Bool, List (RC.den .ints), List (RC.den .ints): [.i (x), .i (y), .b false, .l .ints (dropP l x), .l .ints ([])] -/
def seSk : NSt := ⟨[.func (.yield 14) #[] #[], .pointer (some ⟨9, 0, none⟩), .junk, .junk, .junk, .junk, .junk, .junk, .junk, .junk, .junk, .junk, .junk, .junk, .junk, .junk, .junk], [], [(0, .cells [.int .i64 (0)] 1 0), (1, .cells [.int .i64 (0)] 1 0), (2, .cells [.row 15 1 (0)] 1 0), (3, .cells [.bool false] 1 0), (9, .cells [.pl .ints []] 1 0), (13, .defs), (14, .loop .ready none 14 [.junk, .junk, .junk, .junk, .pointer (some ⟨0, 0, none⟩), .pointer (some ⟨1, 0, none⟩), .pointer (some ⟨2, 0, none⟩), .pointer (some ⟨3, 0, none⟩), .junk, .junk, .junk, .junk, .junk, .junk, .tuple #[], .tuple #[], .junk, .junk, .junk, .junk, .junk, .junk, .junk, .junk, .junk, .junk, .junk, .junk, .junk, .junk, .junk, .junk, .junk, .junk, .junk, .junk, .junk, .junk, .junk, .junk, .junk] [0, 1, 0, 1, 1] 13), (15, .rows .ints [])], 16⟩
/- base 7 round none: Int, Int, List (RC.den .ints), Int, List (RC.den .ints): [.i (x), .i (y), .l .ints (dropP l x), .i (nat_lit 0), .l .ints ([])] -/
def rsSk : NSt := ⟨[.junk, .int .i64 (0), .int .i64 (0), .junk, .junk, .junk, .slice none (0) (0), .pl .ints [], .row 7 1 (0), .int .i64 (0), .junk, .junk, .junk, .junk, .junk, .junk, .junk, .junk, .junk, .junk, .junk, .junk, .junk, .junk, .junk, .junk, .junk, .junk, .junk, .junk, .junk, .junk, .junk, .junk, .junk, .junk, .junk, .junk, .junk, .junk, .junk, .junk, .junk, .junk, .junk, .junk, .junk, .junk, .junk], [], [(7, .rows .ints [])], 8⟩
def seId : LoopId := ⟨37, [0], [(voidAt 2 0, .ints)]⟩
def rsId : LoopId := ⟨27, [0, 0, 1, 1, 1, 1], [(8, .ints)]⟩

end Go.Proofs.YtffgmpkcfohhgaaD
