/-
  Chapter 07: shapes of loops.
-/
import Derived.Test.YtdefopkieleojaaKitI
import Derived.Test.YtdefopkieleojaaKitO5
import Derived.Test.YtdefopkieleojaaKitQ
import Derived.Test.YtdefopkieleojaaClose
set_option linter.unusedVariables false
set_option linter.unusedSimpArgs false
namespace Go.Proofs.YtdefopkieleojaaD
open Go Go.RowKit

/- base 5 round none: List (RC.den .ints), Int, Int, Bool, Int, Bool, Int: [.l .ints (l), .i (x), .i (nat_lit 0), .b false, .i (nat_lit 0), .b false, .i (nat_lit 0)] -/
def rfSk : NSt := ⟨[.pl .ints [], .int .i64 (0), .junk, .junk, .int .i64 (0), .bool false, .int .i64 (0), .bool false, .int .i64 (0), .junk, .junk, .junk, .junk, .junk, .junk, .junk, .junk, .junk, .junk, .junk, .junk, .junk, .junk, .junk, .junk, .junk, .junk, .junk, .junk, .junk, .junk, .junk, .junk, .junk], [], [], 5⟩
/- base 4 round none: List (RC.den .ints), Int, Bool, Int, List (RC.den .ints): [.l .ints (l), .i (x), .b false, .i (nat_lit 0), .l .ints ([])] -/
def rwSk : NSt := ⟨[.pl .ints [], .int .i64 (0), .junk, .junk, .slice none (0) (0), .row 4 1 (0), .bool false, .int .i64 (0), .junk, .junk, .junk, .junk, .junk, .junk, .junk, .junk, .junk, .junk, .junk, .junk, .junk, .junk, .junk, .junk, .junk, .junk, .junk, .junk, .junk, .junk, .junk, .junk, .junk, .junk, .junk, .junk, .junk, .junk, .junk, .junk, .junk, .junk, .junk, .junk, .junk, .junk, .junk, .junk], [], [(4, .rows .ints [])], 5⟩
/- base 3 round none: List (RC.den .ints), Int, Int, List (RC.den .ints): [.l .ints (l), .i (x), .i (nat_lit 0), .l .ints ([])] -/
def rmSk : NSt := ⟨[.pl .ints [], .int .i64 (0), .junk, .junk, .slice none (0) (0), .row 3 1 (0), .int .i64 (0), .junk, .junk, .junk, .junk, .junk, .junk, .junk, .junk, .junk, .junk, .junk, .junk, .junk, .junk, .junk, .junk, .junk, .junk, .junk, .junk], [], [(3, .rows .ints [])], 4⟩
/- base 20 round none: Int, Int, List (RC.den .ints), Int, Int, Int: [.i (nat_lit 0), .i ((↑l.length : Int)), .l .ints (l), .i (x), .i (nat_lit 0), .i ((↑l.length : Int))] -/
def sfSk : NSt := ⟨[.func (.yield 16) #[] #[], .junk, .pointer (some ⟨11, 0, none⟩), .junk, .int .i64 (0), .int .i64 (0), .junk, .junk, .junk, .junk, .junk, .junk, .junk, .junk, .junk, .junk, .junk, .junk, .junk, .junk, .junk, .junk, .junk, .junk, .junk, .junk], [], [(0, .cells [.pl .ints []] 1 0), (1, .cells [.int .i64 (0)] 1 0), (4, .cells [.int .i64 (0)] 1 0), (10, .cells [.int .i64 (0)] 1 0), (11, .cells [.func (.func 37) #[] #[.pointer (some ⟨0, 0, none⟩), .pointer (some ⟨1, 0, none⟩)]] 1 0), (15, .defs), (16, .loop .ready none 16 [.junk, .junk, .junk, .junk, .junk, .junk, .pointer (some ⟨4, 0, none⟩), .junk, .junk, .junk, .junk, .junk, .tuple #[], .tuple #[], .junk, .junk, .junk, .junk, .junk, .junk, .junk, .junk, .junk, .junk, .junk, .junk, .junk, .junk] [0, 1, 0, 1, 1] 15)], 20⟩
def rfId : LoopId := ⟨17, [0, 1, 0, 1, 1], []⟩
def rwId : LoopId := ⟨21, [0, 1, 0, 1, 1, 1], [(5, .ints)]⟩
def rmId : LoopId := ⟨22, [0, 1, 0, 1, 1], [(5, .ints)]⟩
def sfId : LoopId := ⟨46, [0, 1], []⟩

end Go.Proofs.YtdefopkieleojaaD
