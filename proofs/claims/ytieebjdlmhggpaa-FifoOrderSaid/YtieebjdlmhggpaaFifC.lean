/-
  Chapter 09: rounds.
-/
import Derived.Test.YtieebjdlmhggpaaFifB
set_option linter.unusedVariables false
set_option linter.unusedSimpArgs false
namespace Go.Proofs.YtieebjdlmhggpaaD
open Go Go.RowKit

/- Bool -/
def eqOut0 : NSt := ⟨[.junk, .junk, .junk, .junk, .bool false, .junk, .junk, .junk, .junk, .junk, .junk, .junk, .junk, .junk, .junk, .junk, .junk, .junk, .junk, .junk, .junk, .junk, .junk, .junk, .junk, .junk], [], [], 9⟩
set_option maxRecDepth 100000 in
theorem eq_round (k : Nat) (l m : List Int) (b : Bool) (n i : Int) : (rounds Try.prog [] [] 30 eqId 9 none eqSk (k + 1) [.l .ints l, .l .ints m, .b b, .i n, .i i]).ev = T.ev (
     .ite (decide (i < n))
      (.ite (inRange i l.length)
       (.ite (inRange i m.length)
        (.ite (l.getD i.toNat RC.ints.zero != m.getD i.toNat RC.ints.zero)
         (outAt .ret eqOut0 [.b false])
         (rounds Try.prog [] [] 30 eqId 9 none eqSk k [.l .ints (l), .l .ints (m), .b (b), .i (n), .i (IntKind.i64.wrap (i + (1 : Int)))]))
        (.fail))
       (.fail))
      (outAt (.exit 0) eqOut0 [.b (b)])) := by kernel_rfl
/- Bool -/
def rsOut0 : NSt := ⟨[.junk, .junk, .junk, .junk, .bool false, .junk, .junk, .junk, .junk, .junk, .junk, .junk, .junk, .junk, .junk, .junk, .junk, .junk, .junk, .junk, .junk, .junk, .junk, .junk, .junk, .junk], [], [], 7⟩
set_option maxRecDepth 100000 in
theorem rs_round (k : Nat) (l m : List Int) (b : Bool) (i : Int) : (rounds Try.prog [] [] 30 rsId 7 none rsSk (k + 1) [.l .ints l, .l .ints m, .b b, .i i]).ev = T.ev (
     .ite (decide (i < (↑m.length : Int)))
      (.ite (inRange i l.length)
       (.ite (inRange i m.length)
        (.ite (l.getD i.toNat RC.ints.zero != m.getD i.toNat RC.ints.zero)
         (outAt .ret rsOut0 [.b false])
         (rounds Try.prog [] [] 30 rsId 7 none rsSk k [.l .ints (l), .l .ints (m), .b (b), .i (IntKind.i64.wrap (i + (1 : Int)))]))
        (.fail))
       (.fail))
      (outAt (.exit 0) rsOut0 [.b (b)])) := by kernel_rfl
/- Int, Int, List (RC.den .ints), Int, Int, List (RC.den .ints), Int, Int, List (RC.den .ints), List (RC.den .ints) -/
def odOut0 : NSt := ⟨[.junk, .junk, .junk, .junk, .junk, .junk, .junk, .junk, .junk, .junk, .junk, .junk, .junk, .junk, .junk, .junk, .junk, .junk, .junk, .junk, .junk, .junk, .junk, .junk], [], [(0, .cells [.int .i64 (0), .int .i64 (0), .pl .ints []] 1 0), (6, .cells [.int .i64 (0), .int .i64 (0), .pl .ints []] 1 0), (17, .cells [.slice none (0) (0)] 1 0), (21, .cells [.int .i64 (0), .int .i64 (0), .pl .ints []] 1 0), (28, .cells [.row 30 1 (0)] 1 0), (30, .rows .ints []), (31, .cells [.pointer (some ⟨28, 0, none⟩)] 1 0), (35, .defs), (36, .loop .ready none 14 [.junk, .junk, .junk, .junk, .pointer (some ⟨17, 0, none⟩), .junk, .junk, .junk, .junk, .junk, .junk, .junk, .tuple #[], .junk, .junk, .junk, .junk, .junk] [0, 1, 0, 1, 1, 1] 35)], 57⟩
set_option maxRecDepth 100000 in
theorem od_round (k : Nat) (x : Int) (t1 n1 : Int) (l1 : List Int) (t2 n2 : Int) (l2 : List Int) (t3 n3 : Int) (l3 l : List Int) : ((rounds Try.prog cloneE [] 30 odId 57 none odSk (k + 1) [.i x, .b false, .i t1, .i n1, .l .ints l1, .i t2, .i n2, .l .ints l2, .i t3, .i n3, .l .ints l3, .l .ints l]).cut
    (.no (.all))).ev = T.ev (
     outAt (.exit 0) odOut0 [.i (t1), .i (n1), .l .ints (l1), .i (t2), .i (n2), .l .ints (l2), .i (t3), .i (n3), .l .ints (l3), .l .ints (l)]) := by kernel_rfl
/- Int, Bool, Int, Int, List (RC.den .ints), Int, Int, List (RC.den .ints), Int, Int, List (RC.den .ints), Nat, Nat, Nat, List (RC.den .ints), List (RC.den .ints) -/
def odV0 : NSt := ⟨[.func (.yield 36) #[] #[], .pointer (some ⟨31, 0, none⟩), .junk, .int .i64 (0), .bool false, .junk, .junk, .junk, .junk, .junk, .junk, .junk, .junk, .junk, .junk, .junk, .junk, .junk, .junk, .junk, .junk, .junk, .junk, .junk], [], [(0, .cells [.int .i64 (0), .int .i64 (0), .pl .ints []] 1 0), (6, .cells [.int .i64 (0), .int .i64 (0), .pl .ints []] 1 0), (17, .cells [.row 73 1 (0)] 1 0), (21, .cells [.int .i64 (0), .int .i64 (0), .pl .ints []] 1 0), (28, .cells [.win 30 1 (0) (0) (0)] 1 0), (30, .rows .ints []), (31, .cells [.pointer (some ⟨28, 0, none⟩)] 1 0), (35, .defs), (36, .loop .ready none 14 [.junk, .junk, .junk, .junk, .pointer (some ⟨17, 0, none⟩), .junk, .junk, .junk, .junk, .junk, .junk, .junk, .tuple #[], .junk, .junk, .junk, .junk, .junk] [0, 1, 0, 1, 1, 1] 35), (73, .rows .ints [])], 74⟩
set_option maxRecDepth 100000 in
theorem odv_round0 (k : Nat) (x : Int) (t1 n1 : Int) (l1 : List Int) (t2 n2 : Int) (l2 : List Int) (t3 n3 : Int) (l3 : List Int) (s n c : Nat) (l : List Int) : ((rounds Try.prog cloneE [] 30 odId 73 none odW (k + 1) [.i x, .b true, .i t1, .i n1, .l .ints l1, .i t2, .i n2, .l .ints l2, .i t3, .i n3, .l .ints l3, .n s, .n n, .n c, .l .ints l]).cut
    (.yes (.yes (.yes (.no (.ite (.all) (.ite (.ite (.ite (.all) (.all)) (.all)) (.all)))))))).ev = T.ev (
     .ite ((↑n : Int) == (0 : Int))
      (rounds Try.prog cloneE [] 30 odId 73 none odV0 k [.i (0), .b false, .i (t1), .i (n1), .l .ints (l1), .i (t2), .i (n2), .l .ints (l2), .i (t3), .i (n3), .l .ints (l3), .n (s), .n (n), .n (c), .l .ints (l), .l .ints ([x])])
      (.ite (inRange (0 : Int) n)
       (.ite ((s + Int.toNat (0 : Int)).blt l.length)
        (.ite (decide ((0 : Int) ≤ (1 : Int)) && decide ((1 : Int) ≤ (↑(hi0 n none) : Int)))
         (rounds Try.prog cloneE [] 30 odId 73 none odV0 k [.i (l.getD (s + Int.toNat (0 : Int)) RC.ints.zero), .b true, .i (t1), .i (n1), .l .ints (l1), .i (t2), .i (n2), .l .ints (l2), .i (t3), .i (n3), .l .ints (l3), .n (s + lo0 (some (Int.toNat (1 : Int)))), .n (hi0 n none - lo0 (some (Int.toNat (1 : Int)))), .n (c - lo0 (some (Int.toNat (1 : Int)))), .l .ints (l), .l .ints ([x])])
         (.fail))
        (.fail))
       (.fail))) := by kernel_rfl

end Go.Proofs.YtieebjdlmhggpaaD
