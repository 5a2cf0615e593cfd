/-
  Chapter 06: sums: the loops' shapes.
-/
import Derived.Test.YtncbiabbkgkdiaaCtrP
set_option linter.unusedVariables false
set_option linter.unusedSimpArgs false
namespace Go.Proofs.YtncbiabbkgkdiaaD
open Go Go.RowKit

def rtSk : NSt := ⟨[.int .i64 (0), .pl .ints [], .junk, .junk, .int .i64 (0), .int .i64 (0), .junk, .junk, .junk, .junk, .junk, .junk, .junk, .junk, .junk, .junk, .junk, .junk, .junk], [], [], 2⟩
def rtId : LoopId := ⟨15, [0, 1, 0, 1], []⟩
def cbSk : NSt := ⟨[.int .i64 (0), .junk, .junk, .junk, .int .i64 (0), .junk, .junk, .pl .ints [], .int .i64 (0), .int .i64 (0), .junk, .junk, .junk, .junk, .junk, .junk, .junk, .junk, .junk], [], [], 4⟩
def cbId : LoopId := ⟨16, [0, 1, 0, 1], []⟩
def ctSk : NSt := ⟨[.func (.yield 11) #[] #[], .junk, .pointer (some ⟨5, 0, none⟩), .junk, .junk, .junk, .pl .ints [], .int .i64 (0), .int .i64 (0), .junk, .junk, .junk, .junk, .junk, .junk, .junk, .junk, .junk, .junk, .junk], [], [(0, .cells [.int .i64 (0)] 1 0), (5, .cells [.int .i64 (0)] 1 0), (6, .cells [.pl .ints []] 1 0), (10, .defs), (11, .loop .ready none 14 [.junk, .junk, .pointer (some ⟨0, 0, none⟩), .junk, .junk, .junk, .junk, .junk, .junk, .tuple #[], .junk, .junk] [0, 1, 0, 1] 10)], 15⟩
def ctId : LoopId := ⟨35, [0, 1], []⟩

end Go.Proofs.YtncbiabbkgkdiaaD
