/-
  Chapter 08: shapes of loops.
-/
import Derived.Test.YtffgmpkcfohhgaaKitO5
import Derived.Test.YtffgmpkcfohhgaaClose
set_option linter.unusedVariables false
set_option linter.unusedSimpArgs false
namespace Go.Proofs.YtffgmpkcfohhgaaD
open Go Go.RowKit

/- base 3 round none: List (RC.den .ints), Int, Int, Bool, Int: [.l .ints (l), .i (x), .i (nat_lit 0), .b false, .i (nat_lit 0)] -/
def rfSk : NSt := ⟨[.pl .ints [], .int .i64 (0), .junk, .junk, .int .i64 (0), .bool false, .int .i64 (0), .junk, .junk, .junk, .junk, .junk, .junk, .junk, .junk, .junk, .junk, .junk, .junk, .junk, .junk, .junk, .junk, .junk, .junk], [], [], 3⟩
/- base 3 round none: List (RC.den .ints), Int, Int, List (RC.den .ints): [.l .ints (l), .i (x), .i (nat_lit 0), .l .ints ([])] -/
def rdSk : NSt := ⟨[.pl .ints [], .int .i64 (0), .junk, .junk, .slice none (0) (0), .row 3 1 (0), .int .i64 (0), .junk, .junk, .junk, .junk, .junk, .junk, .junk, .junk, .junk, .junk, .junk, .junk, .junk, .junk, .junk, .junk, .junk, .junk, .junk, .junk, .junk, .junk, .junk, .junk, .junk, .junk], [], [(3, .rows .ints [])], 4⟩
/- base 11 round none: Int, Int, Bool, List (RC.den .ints): [.i (x), .i (nat_lit 0), .b false, .l .ints (l)] -/
def fiSk : NSt := ⟨[.func (.yield 10) #[] #[], .pointer (some ⟨5, 0, none⟩), .junk, .junk, .junk, .junk, .junk, .junk, .junk, .junk, .junk, .junk, .junk, .junk, .junk, .junk, .junk], [], [(0, .cells [.int .i64 (0)] 1 0), (1, .cells [.int .i64 (0)] 1 0), (2, .cells [.bool false] 1 0), (5, .cells [.pl .ints []] 1 0), (9, .defs), (10, .loop .ready none 12 [.junk, .junk, .junk, .pointer (some ⟨0, 0, none⟩), .pointer (some ⟨1, 0, none⟩), .pointer (some ⟨2, 0, none⟩), .junk, .junk, .junk, .junk, .tuple #[], .tuple #[], .junk, .junk, .junk, .junk, .junk, .junk] [0, 1, 0, 1] 9)], 11⟩
/- base 10 round none: Int, List (RC.den .ints), List (RC.den .ints): [.i (x), .l .ints (l), .l .ints ([])] -/
def drSk : NSt := ⟨[.func (.yield 9) #[] #[], .pointer (some ⟨4, 0, none⟩), .junk, .junk, .junk, .junk, .junk, .junk, .junk, .junk, .junk, .junk, .junk, .junk, .junk, .junk, .junk], [], [(0, .cells [.int .i64 (0)] 1 0), (1, .cells [.row 10 1 (0)] 1 0), (4, .cells [.pl .ints []] 1 0), (8, .defs), (9, .loop .ready none 15 [.junk, .junk, .junk, .pointer (some ⟨0, 0, none⟩), .pointer (some ⟨1, 0, none⟩), .junk, .junk, .junk, .junk, .tuple #[], .tuple #[], .junk, .junk, .junk, .junk, .junk, .junk, .junk, .junk, .junk] [0, 1, 0, 1] 8), (10, .rows .ints [])], 11⟩
def rfId : LoopId := ⟨36, [0, 1, 0, 1], []⟩
def rdId : LoopId := ⟨28, [0, 1, 0, 1, 1], [(5, .ints)]⟩
def paId : LoopId := ⟨37, [0], []⟩
def pdId : LoopId := ⟨37, [0], [(voidAt 1 0, .ints)]⟩

end Go.Proofs.YtffgmpkcfohhgaaD
