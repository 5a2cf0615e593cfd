/-
  Lists written over: shapes.
-/
import Derived.Test.YtknijbcmhjgllaaGreatKitD
import Derived.Test.YtknijbcmhjgllaaGreatStA
set_option linter.unusedVariables false
set_option linter.unusedSimpArgs false
namespace Go.Proofs.YtknijbcmhjgllaaGreatD
open Go Go.RowKit

/- base 2 round none: Int, List (RC.den .ints): [.i (nat_lit 0), .l .ints (l)] -/
def orSk : NSt := ⟨[.row 0 1 (0), .junk, .int .i64 (0), .junk, .junk, .junk, .junk, .junk, .junk, .junk, .junk, .junk], [], [(0, .rows .ints [])], 2⟩
/- base 2 round none: Nat, Nat, Nat, Int, List (RC.den .ints): [.n (s), .n (n), .n (c), .i (nat_lit 0), .l .ints (l)] -/
def owSk : NSt := ⟨[.win 0 1 (0) (0) (0), .junk, .int .i64 (0), .junk, .junk, .junk, .junk, .junk, .junk, .junk, .junk, .junk], [], [(0, .rows .ints [])], 2⟩
/- base 1 round none: Int: [.i (nat_lit 0)] -/
def onSk : NSt := ⟨[.slice none (0) (0), .junk, .int .i64 (0), .junk, .junk, .junk, .junk, .junk, .junk, .junk, .junk, .junk], [], [], 1⟩
/- base 1 round none: Int: [.i (nat_lit 0)] -/
def oeSk : NSt := ⟨[.empty, .junk, .int .i64 (0), .junk, .junk, .junk, .junk, .junk, .junk, .junk, .junk, .junk], [], [], 1⟩
def ovId : LoopId := ⟨55, [0, 1], []⟩

end Go.Proofs.YtknijbcmhjgllaaGreatD
