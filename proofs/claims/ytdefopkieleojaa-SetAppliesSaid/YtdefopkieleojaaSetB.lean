/-
  Chapter 07: rounds.
-/
import Derived.Test.YtdefopkieleojaaSetA
set_option linter.unusedVariables false
set_option linter.unusedSimpArgs false
namespace Go.Proofs.YtdefopkieleojaaD
open Go Go.RowKit

/- Int, Bool, Int, Bool -/
def rfOut0 : NSt := ⟨[.junk, .junk, .junk, .junk, .int .i64 (0), .bool false, .int .i64 (0), .bool false, .junk, .junk, .junk, .junk, .junk, .junk, .junk, .junk, .junk, .junk, .junk, .junk, .junk, .junk, .junk, .junk, .junk, .junk, .junk, .junk, .junk, .junk, .junk, .junk, .junk, .junk], [], [], 5⟩
set_option maxRecDepth 100000 in
theorem rf_round (k : Nat) (l : List Int) (x u : Int) (v : Bool) (n : Int) (is : Bool) (i : Int) : ((rounds Try.prog [] [] 30 rfId 5 none rfSk (k + 1) [.l .ints l, .i x, .i u, .b v, .i n, .b is, .i i]).cut
    (.ite (.ite (.ite (.ite (.yes (.yes (.yes (.yes (.yes (.yes (.all))))))) (.no (.no (.yes (.no (.no (.no (.all)))))))) (.ite (.yes (.yes (.yes (.yes (.yes (.yes (.all))))))) (.no (.no (.yes (.no (.no (.no (.all))))))))) (.all)) (.all))).ev = T.ev (
     .ite (decide (i < (↑l.length : Int)))
      (.ite (inRange i l.length)
       (.ite (decide (l.getD i.toNat RC.ints.zero < x))
        (.ite (is)
         (rounds Try.prog [] [] 30 rfId 5 none rfSk k [.l .ints (l), .i (x), .i (u), .b (v), .i (IntKind.i64.wrap (n + (1 : Int))), .b true, .i (IntKind.i64.wrap (i + (1 : Int)))])
         (.ite (inRange i l.length)
          (rounds Try.prog [] [] 30 rfId 5 none rfSk k [.l .ints (l), .i (x), .i (u), .b (v), .i (IntKind.i64.wrap (n + (1 : Int))), .b (l.getD i.toNat RC.ints.zero == x), .i (IntKind.i64.wrap (i + (1 : Int)))])
          .fail))
        (.ite (is)
         (rounds Try.prog [] [] 30 rfId 5 none rfSk k [.l .ints (l), .i (x), .i (u), .b (v), .i (n), .b true, .i (IntKind.i64.wrap (i + (1 : Int)))])
         (.ite (inRange i l.length)
          (rounds Try.prog [] [] 30 rfId 5 none rfSk k [.l .ints (l), .i (x), .i (u), .b (v), .i (n), .b (l.getD i.toNat RC.ints.zero == x), .i (IntKind.i64.wrap (i + (1 : Int)))])
          .fail)))
       (.fail))
      (outAt (.exit 0) rfOut0 [.i (u), .b (v), .i (n), .b (is)])) := by kernel_rfl
/- Int, Bool, List (RC.den .ints) -/
def rwOut0 : NSt := ⟨[.junk, .int .i64 (0), .junk, .junk, .slice none (0) (0), .row 4 1 (0), .bool false, .junk, .junk, .junk, .junk, .junk, .junk, .junk, .junk, .junk, .junk, .junk, .junk, .junk, .junk, .junk, .junk, .junk, .junk, .junk, .junk, .junk, .junk, .junk, .junk, .junk, .junk, .junk, .junk, .junk, .junk, .junk, .junk, .junk, .junk, .junk, .junk, .junk, .junk, .junk, .junk, .junk], [], [(4, .rows .ints [])], 5⟩
set_option maxRecDepth 100000 in
theorem rw_round (k : Nat) (l : List Int) (x : Int) (put : Bool) (i : Int) (out : List Int) : ((rounds Try.prog [] [] 30 rwId 4 none rwSk (k + 1) [.l .ints l, .i x, .b put, .i i, .l .ints out]).cut
    (.ite (.ite (.yes (.yes (.ite (.yes (.yes (.yes (.ite (.ite (.yes (.ite (.yes (.ite (.all) (.all))) (.all))) (.all)) (.yes (.ite (.yes (.ite (.all) (.all))) (.all))))))) (.all)))) (.no (.no (.no (.no (.no (.no (.no (.ite (.ite (.yes (.ite (.all) (.all))) (.all)) (.all)))))))))) (.all))).ev = T.ev (
     .ite (decide (i < (↑l.length : Int)))
      (.ite (!put)
       (.ite (inRange i l.length)
        (.ite (decide (l.getD i.toNat RC.ints.zero ≥ x))
         (.ite (roomB (out.length + [x].length) (8 : Nat))
          (.ite (inRange i l.length)
           (.ite (l.getD i.toNat RC.ints.zero != x)
            (.ite (inRange i l.length)
             (.ite (roomB (out.length + [x].length + [l.getD i.toNat RC.ints.zero].length) (8 : Nat))
              (rounds Try.prog [] [] 30 rwId 4 none rwSk k [.l .ints (l), .i (x), .b true, .i (IntKind.i64.wrap (i + (1 : Int))), .l .ints (out ++ [x] ++ [l.getD i.toNat RC.ints.zero])])
              (.fail))
             .fail)
            (rounds Try.prog [] [] 30 rwId 4 none rwSk k [.l .ints (l), .i (x), .b true, .i (IntKind.i64.wrap (i + (1 : Int))), .l .ints (out ++ [x])]))
           .fail)
          (.fail))
         (.ite (inRange i l.length)
          (.ite (l.getD i.toNat RC.ints.zero != x)
           (.ite (inRange i l.length)
            (.ite (roomB (out.length + [l.getD i.toNat RC.ints.zero].length) (8 : Nat))
             (rounds Try.prog [] [] 30 rwId 4 none rwSk k [.l .ints (l), .i (x), .b (put), .i (IntKind.i64.wrap (i + (1 : Int))), .l .ints (out ++ [l.getD i.toNat RC.ints.zero])])
             (.fail))
            .fail)
           (rounds Try.prog [] [] 30 rwId 4 none rwSk k [.l .ints (l), .i (x), .b (put), .i (IntKind.i64.wrap (i + (1 : Int))), .l .ints (out)]))
          .fail))
        (.fail))
       (.ite (inRange i l.length)
        (.ite (l.getD i.toNat RC.ints.zero != x)
         (.ite (inRange i l.length)
          (.ite (roomB (out.length + [l.getD i.toNat RC.ints.zero].length) (8 : Nat))
           (rounds Try.prog [] [] 30 rwId 4 none rwSk k [.l .ints (l), .i (x), .b (put), .i (IntKind.i64.wrap (i + (1 : Int))), .l .ints (out ++ [l.getD i.toNat RC.ints.zero])])
           (.fail))
          .fail)
         (rounds Try.prog [] [] 30 rwId 4 none rwSk k [.l .ints (l), .i (x), .b (put), .i (IntKind.i64.wrap (i + (1 : Int))), .l .ints (out)]))
        (.fail)))
      (outAt (.exit 0) rwOut0 [.i (x), .b (put), .l .ints (out)])) := by kernel_rfl
/- List (RC.den .ints) -/
def rmOut0 : NSt := ⟨[.junk, .junk, .junk, .junk, .slice none (0) (0), .row 3 1 (0), .junk, .junk, .junk, .junk, .junk, .junk, .junk, .junk, .junk, .junk, .junk, .junk, .junk, .junk, .junk, .junk, .junk, .junk, .junk, .junk, .junk], [], [(3, .rows .ints [])], 4⟩
set_option maxRecDepth 100000 in
theorem rm_round (k : Nat) (l : List Int) (x i : Int) (out : List Int) : ((rounds Try.prog [] [] 30 rmId 3 none rmSk (k + 1) [.l .ints l, .i x, .i i, .l .ints out]).cut
    (.ite (.ite (.ite (.yes (.ite (.all) (.all))) (.all)) (.all)) (.all))).ev = T.ev (
     .ite (decide (i < (↑l.length : Int)))
      (.ite (inRange i l.length)
       (.ite (l.getD i.toNat RC.ints.zero != x)
        (.ite (inRange i l.length)
         (.ite (roomB (out.length + [l.getD i.toNat RC.ints.zero].length) (8 : Nat))
          (rounds Try.prog [] [] 30 rmId 3 none rmSk k [.l .ints (l), .i (x), .i (IntKind.i64.wrap (i + (1 : Int))), .l .ints (out ++ [l.getD i.toNat RC.ints.zero])])
          (.fail))
         .fail)
        (rounds Try.prog [] [] 30 rmId 3 none rmSk k [.l .ints (l), .i (x), .i (IntKind.i64.wrap (i + (1 : Int))), .l .ints (out)]))
       (.fail))
      (outAt (.exit 0) rmOut0 [.l .ints (out)])) := by kernel_rfl
/- List (RC.den .ints), Int, Int, Int -/
def sfOut0 : NSt := ⟨[.junk, .junk, .junk, .junk, .junk, .junk, .junk, .junk, .junk, .junk, .junk, .junk, .junk, .junk, .junk, .junk, .junk, .junk, .junk, .junk, .junk, .junk, .junk, .junk, .junk, .junk], [], [(0, .cells [.pl .ints []] 1 0), (1, .cells [.int .i64 (0)] 1 0), (4, .cells [.int .i64 (0)] 1 0), (10, .cells [.int .i64 (0)] 1 0), (11, .cells [.func (.func 37) #[] #[.pointer (some ⟨0, 0, none⟩), .pointer (some ⟨1, 0, none⟩)]] 1 0), (15, .defs), (16, .loop .ready none 16 [.junk, .junk, .junk, .junk, .junk, .junk, .pointer (some ⟨4, 0, none⟩), .junk, .junk, .junk, .junk, .junk, .tuple #[], .tuple #[], .junk, .junk, .junk, .junk, .junk, .junk, .junk, .junk, .junk, .junk, .junk, .junk, .junk, .junk] [0, 1, 0, 1, 1] 15)], 20⟩
set_option maxRecDepth 100000 in
theorem sf_round (k : Nat) (a b : Int) (l : List Int) (x at_ m : Int) : ((rounds Try.prog [] [] 30 sfId 20 none sfSk (k + 1) [.i a, .i b, .l .ints l, .i x, .i at_, .i m]).cut
    (.ite (.yes (.ite (.ite (.yes (.no (.all))) (.yes (.no (.all)))) (.all))) (.all))).ev = T.ev (
     .ite (decide (a < b))
      (.ite (inRange (IntKind.i64.wrap ((IntKind.i64.wrap (a + b)).tdiv (2 : Int))) l.length)
       (.ite (decide (l.getD (IntKind.i64.wrap ((IntKind.i64.wrap (a + b)).tdiv (2 : Int))).toNat RC.ints.zero < x))
        (rounds Try.prog [] [] 30 sfId 20 none sfSk k [.i (IntKind.i64.wrap (IntKind.i64.wrap ((IntKind.i64.wrap (a + b)).tdiv (2 : Int)) + (1 : Int))), .i (b), .l .ints (l), .i (x), .i (IntKind.i64.wrap (IntKind.i64.wrap ((IntKind.i64.wrap (a + b)).tdiv (2 : Int)) + (1 : Int))), .i (m)])
        (rounds Try.prog [] [] 30 sfId 20 none sfSk k [.i (a), .i (IntKind.i64.wrap ((IntKind.i64.wrap (a + b)).tdiv (2 : Int))), .l .ints (l), .i (x), .i (a), .i (m)]))
       (.fail))
      (outAt (.exit 0) sfOut0 [.l .ints (l), .i (x), .i (at_), .i (m)])) := by kernel_rfl

end Go.Proofs.YtdefopkieleojaaD
