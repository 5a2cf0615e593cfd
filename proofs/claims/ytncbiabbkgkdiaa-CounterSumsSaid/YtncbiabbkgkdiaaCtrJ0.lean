/-
  Chapter 06: sums: the law's loop: its shape.
-/
import Derived.Test.YtncbiabbkgkdiaaCtrH
import Derived.Test.YtncbiabbkgkdiaaKitP
set_option linter.unusedVariables false
set_option linter.unusedSimpArgs false
namespace Go.Proofs.YtncbiabbkgkdiaaD
open Go Go.RowKit

/- base 9 round none: Int, List (RC.den .ints), Int, Bool, Bool, Int, Int: [.i (n), .l .ints (l), .i (c), .b false, .b true, .i (n), .i (nat_lit 0)] -/
def csSk : NSt := ⟨[.int .i64 (0), .pl .ints [], .int .i64 (0), .junk, .junk, .junk, .bool false, .bool false, .int .i64 (0), .int .i64 (0), .junk, .junk, .junk, .junk, .junk, .junk, .junk, .junk, .junk, .junk, .junk, .junk, .junk, .junk, .junk, .junk, .junk, .junk, .junk, .junk, .junk, .junk, .junk, .junk, .junk, .junk, .junk, .junk, .junk, .junk, .junk, .junk, .junk, .junk, .junk, .junk, .junk, .junk, .junk, .junk, .junk, .junk, .junk, .junk, .junk, .junk, .junk, .junk, .junk, .junk, .junk, .junk, .junk, .junk, .junk, .junk, .junk, .junk, .junk], [], [], 9⟩
def csId : LoopId := ⟨7, [0, 1, 0, 1, 1, 1, 1], []⟩
def sumE : List (Nat × ExtFn) := (24, pureExt pickG) :: numE
theorem sumE_ok (N : Nat) : ExtsOk Try.prog N sumE := extsOk_cons (extOk_pure pick_fn) (numE_ok N)

end Go.Proofs.YtncbiabbkgkdiaaD
