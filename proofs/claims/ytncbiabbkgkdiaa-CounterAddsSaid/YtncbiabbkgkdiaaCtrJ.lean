/-
  Chapter 06: sums: the law's loop.
-/
import Derived.Test.YtncbiabbkgkdiaaCtrJ0
set_option linter.unusedVariables false
set_option linter.unusedSimpArgs false
namespace Go.Proofs.YtncbiabbkgkdiaaD
open Go Go.RowKit

/- Int, List (RC.den .ints), Int, Bool, Bool, Int -/
def csOut0 : NSt := ⟨[.int .i64 (0), .pl .ints [], .int .i64 (0), .junk, .junk, .junk, .bool false, .bool false, .int .i64 (0), .junk, .junk, .junk, .junk, .junk, .junk, .junk, .junk, .junk, .junk, .junk, .junk, .junk, .junk, .junk, .junk, .junk, .junk, .junk, .junk, .junk, .junk, .junk, .junk, .junk, .junk, .junk, .junk, .junk, .junk, .junk, .junk, .junk, .junk, .junk, .junk, .junk, .junk, .junk, .junk, .junk, .junk, .junk, .junk, .junk, .junk, .junk, .junk, .junk, .junk, .junk, .junk, .junk, .junk, .junk, .junk, .junk, .junk, .junk, .junk], [], [], 9⟩
set_option maxRecDepth 100000 in
theorem cs_round (k : Nat) (n : Int) (l : List Int) (c : Int) (b ok : Bool) (a i : Int) : ((rounds Try.prog numE [] 30 csId 9 none csSk (k + 1) [.i n, .l .ints l, .i c, .b b, .b ok, .i a, .i i]).cut
    (.ite (.ite (.ite (.no (.all)) (.all)) (.all)) (.all))).ev = T.ev (
     .ite (decide (i < (↑l.length : Int)))
      (.ite (inRange i l.length)
       (.ite (inI64 (l.getD i.toNat RC.ints.zero))
        (rounds Try.prog numE [] 30 csId 9 none csSk k [.i (n), .l .ints (l), .i (c), .b (b), .b (ok), .i (add64 a (l.getD i.toNat RC.ints.zero)), .i (IntKind.i64.wrap (i + (1 : Int)))])
        (.fail))
       (.fail))
      (outAt (.exit 0) csOut0 [.i (n), .l .ints (l), .i (c), .b (b), .b (ok), .i (a)])) := by kernel_rfl

end Go.Proofs.YtncbiabbkgkdiaaD
