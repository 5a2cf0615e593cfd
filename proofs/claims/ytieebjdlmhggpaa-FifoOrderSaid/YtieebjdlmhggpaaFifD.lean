/-
  Chapter 09: rounds of what is drained.
-/
import Derived.Test.YtieebjdlmhggpaaFifC
set_option linter.unusedVariables false
set_option linter.unusedSimpArgs false
namespace Go.Proofs.YtieebjdlmhggpaaD
open Go Go.RowKit

/- Int, Int, List (RC.den .ints), Int, Int, List (RC.den .ints), Int, Int, List (RC.den .ints), Nat, Nat, Nat, List (RC.den .ints), List (RC.den .ints) -/
def odV1 : NSt := ⟨[.junk, .junk, .junk, .junk, .junk, .junk, .junk, .junk, .junk, .junk, .junk, .junk, .junk, .junk, .junk, .junk, .junk, .junk, .junk, .junk, .junk, .junk, .junk, .junk], [], [(0, .cells [.int .i64 (0), .int .i64 (0), .pl .ints []] 1 0), (6, .cells [.int .i64 (0), .int .i64 (0), .pl .ints []] 1 0), (17, .cells [.row 73 1 (0)] 1 0), (21, .cells [.int .i64 (0), .int .i64 (0), .pl .ints []] 1 0), (28, .cells [.win 30 1 (0) (0) (0)] 1 0), (30, .rows .ints []), (31, .cells [.pointer (some ⟨28, 0, none⟩)] 1 0), (35, .defs), (36, .loop .ready none 14 [.junk, .junk, .junk, .junk, .pointer (some ⟨17, 0, none⟩), .junk, .junk, .junk, .junk, .junk, .junk, .junk, .tuple #[], .junk, .junk, .junk, .junk, .junk] [0, 1, 0, 1, 1, 1] 35), (73, .rows .ints [])], 74⟩
set_option maxRecDepth 100000 in
theorem odv_round1 (k : Nat) (x : Int) (is : Bool) (t1 n1 : Int) (l1 : List Int) (t2 n2 : Int) (l2 : List Int) (t3 n3 : Int) (l3 : List Int) (s n c : Nat) (l out : List Int) : ((rounds Try.prog cloneE [] 30 odId 73 none odV0 (k + 1) [.i x, .b is, .i t1, .i n1, .l .ints l1, .i t2, .i n2, .l .ints l2, .i t3, .i n3, .l .ints l3, .n s, .n n, .n c, .l .ints l, .l .ints out]).cut
    (.ite (.yes (.ite (.no (.ite (.all) (.ite (.ite (.ite (.all) (.all)) (.all)) (.all)))) (.all))) (.all))).ev = T.ev (
     .ite (is)
      (.ite (roomB (out.length + [x].length) (8 : Nat))
       (.ite ((↑n : Int) == (0 : Int))
        (rounds Try.prog cloneE [] 30 odId 73 none odV0 k [.i (0), .b false, .i (t1), .i (n1), .l .ints (l1), .i (t2), .i (n2), .l .ints (l2), .i (t3), .i (n3), .l .ints (l3), .n (s), .n (n), .n (c), .l .ints (l), .l .ints (out ++ [x])])
        (.ite (inRange (0 : Int) n)
         (.ite ((s + Int.toNat (0 : Int)).blt l.length)
          (.ite (decide ((0 : Int) ≤ (1 : Int)) && decide ((1 : Int) ≤ (↑(hi0 n none) : Int)))
           (rounds Try.prog cloneE [] 30 odId 73 none odV0 k [.i (l.getD (s + Int.toNat (0 : Int)) RC.ints.zero), .b true, .i (t1), .i (n1), .l .ints (l1), .i (t2), .i (n2), .l .ints (l2), .i (t3), .i (n3), .l .ints (l3), .n (s + lo0 (some (Int.toNat (1 : Int)))), .n (hi0 n none - lo0 (some (Int.toNat (1 : Int)))), .n (c - lo0 (some (Int.toNat (1 : Int)))), .l .ints (l), .l .ints (out ++ [x])])
           (.fail))
          (.fail))
         (.fail)))
       (.fail))
      (outAt (.exit 0) odV1 [.i (t1), .i (n1), .l .ints (l1), .i (t2), .i (n2), .l .ints (l2), .i (t3), .i (n3), .l .ints (l3), .n (s), .n (n), .n (c), .l .ints (l), .l .ints (out)])) := by kernel_rfl

end Go.Proofs.YtieebjdlmhggpaaD
