/-
  Chapter 06: sums: the loops' rounds.
-/
import Derived.Test.YtncbiabbkgkdiaaCtrE0
set_option linter.unusedVariables false
set_option linter.unusedSimpArgs false
namespace Go.Proofs.YtncbiabbkgkdiaaD
open Go Go.RowKit

/- Int, Int -/
def rtOut0 : NSt := ⟨[.int .i64 (0), .junk, .junk, .junk, .int .i64 (0), .junk, .junk, .junk, .junk, .junk, .junk, .junk, .junk, .junk, .junk, .junk, .junk, .junk, .junk], [], [], 2⟩
set_option maxRecDepth 100000 in
theorem rt_round (k : Nat) (n : Int) (l : List Int) (a i : Int) : (rounds Try.prog [] [] 30 rtId 2 none rtSk (k + 1) [.i n, .l .ints l, .i a, .i i]).ev = T.ev (
     .ite (decide (i < (↑l.length : Int)))
      (.ite (inRange i l.length)
       (rounds Try.prog [] [] 30 rtId 2 none rtSk k [.i (IntKind.i64.wrap (IntKind.u64.wrap (IntKind.u64.wrap n + IntKind.u64.wrap (l.getD i.toNat RC.ints.zero)))), .l .ints (l), .i (a), .i (IntKind.i64.wrap (i + (1 : Int)))])
       (.fail))
      (outAt (.exit 0) rtOut0 [.i (n), .i (a)])) := by kernel_rfl
/- Int, Int -/
def cbOut0 : NSt := ⟨[.int .i64 (0), .junk, .junk, .junk, .int .i64 (0), .junk, .junk, .junk, .junk, .junk, .junk, .junk, .junk, .junk, .junk, .junk, .junk, .junk, .junk], [], [], 4⟩
set_option maxRecDepth 100000 in
theorem cb_round (k : Nat) (n a : Int) (l : List Int) (m i : Int) : (rounds Try.prog [] [] 30 cbId 4 none cbSk (k + 1) [.i n, .i a, .l .ints l, .i m, .i i]).ev = T.ev (
     .ite (decide (i < m))
      (.ite (inRange i l.length)
       (rounds Try.prog [] [] 30 cbId 4 none cbSk k [.i (IntKind.i64.wrap (IntKind.u64.wrap (IntKind.u64.wrap n + IntKind.u64.wrap (IntKind.i64.wrap ((0 : Int) - l.getD i.toNat RC.ints.zero))))), .i (a), .l .ints (l), .i (m), .i (IntKind.i64.wrap (i + (1 : Int)))])
       (.fail))
      (outAt (.exit 0) cbOut0 [.i (n), .i (a)])) := by kernel_rfl
/- Int, Int, List (RC.den .ints) -/
def ctOut0 : NSt := ⟨[.junk, .junk, .junk, .junk, .junk, .junk, .junk, .junk, .junk, .junk, .junk, .junk, .junk, .junk, .junk, .junk, .junk, .junk, .junk, .junk], [], [(0, .cells [.int .i64 (0)] 1 0), (5, .cells [.int .i64 (0)] 1 0), (6, .cells [.pl .ints []] 1 0), (10, .defs), (11, .loop .ready none 14 [.junk, .junk, .pointer (some ⟨0, 0, none⟩), .junk, .junk, .junk, .junk, .junk, .junk, .tuple #[], .junk, .junk] [0, 1, 0, 1] 10)], 15⟩
set_option maxRecDepth 100000 in
theorem ct_round (k : Nat) (l : List Int) (m i a b : Int) (l2 : List Int) : ((rounds Try.prog [] [] 30 ctId 15 none ctSk (k + 1) [.l .ints l, .i m, .i i, .i a, .i b, .l .ints l2]).cut
    (.ite (.ite (.yes (.no (.all))) (.all)) (.all))).ev = T.ev (
     .ite (decide (i < m))
      (.ite (inRange i l.length)
       (rounds Try.prog [] [] 30 ctId 15 none ctSk k [.l .ints (l), .i (m), .i (IntKind.i64.wrap (i + (1 : Int))), .i (IntKind.i64.wrap (IntKind.u64.wrap (IntKind.u64.wrap b + IntKind.u64.wrap (l.getD i.toNat RC.ints.zero)))), .i (IntKind.i64.wrap (IntKind.u64.wrap (IntKind.u64.wrap b + IntKind.u64.wrap (l.getD i.toNat RC.ints.zero)))), .l .ints (l2)])
       (.fail))
      (outAt (.exit 0) ctOut0 [.i (a), .i (b), .l .ints (l2)])) := by kernel_rfl

end Go.Proofs.YtncbiabbkgkdiaaD
