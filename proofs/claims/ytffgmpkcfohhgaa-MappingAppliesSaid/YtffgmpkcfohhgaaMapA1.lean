/-
  Chapter 08: rounds.
-/
import Derived.Test.YtffgmpkcfohhgaaMapA0
set_option linter.unusedVariables false
set_option linter.unusedSimpArgs false
namespace Go.Proofs.YtffgmpkcfohhgaaD
open Go Go.RowKit

/- Int, Bool -/
def rfOut0 : NSt := ⟨[.junk, .junk, .junk, .junk, .int .i64 (0), .bool false, .junk, .junk, .junk, .junk, .junk, .junk, .junk, .junk, .junk, .junk, .junk, .junk, .junk, .junk, .junk, .junk, .junk, .junk, .junk], [], [], 3⟩
set_option maxRecDepth 100000 in
theorem rf_round (k : Nat) (l : List Int) (x r : Int) (is : Bool) (i : Int) : (rounds Try.prog [] [] 30 rfId 3 none rfSk (k + 1) [.l .ints l, .i x, .i r, .b is, .i i]).ev = T.ev (
     .ite (decide (IntKind.i64.wrap (i + (1 : Int)) < (↑l.length : Int)))
      (.ite (inRange i l.length)
       (.ite (l.getD i.toNat RC.ints.zero == x)
        (.ite (inRange (IntKind.i64.wrap (i + (1 : Int))) l.length)
         (outAt .ret rfOut0 [.i (l.getD (IntKind.i64.wrap (i + (1 : Int))).toNat RC.ints.zero), .b true])
         (.fail))
        (rounds Try.prog [] [] 30 rfId 3 none rfSk k [.l .ints (l), .i (x), .i (r), .b (is), .i (IntKind.i64.wrap (i + (2 : Int)))]))
       (.fail))
      (outAt (.exit 0) rfOut0 [.i (r), .b (is)])) := by kernel_rfl
/- List (RC.den .ints) -/
def rdOut0 : NSt := ⟨[.junk, .junk, .junk, .junk, .slice none (0) (0), .row 3 1 (0), .junk, .junk, .junk, .junk, .junk, .junk, .junk, .junk, .junk, .junk, .junk, .junk, .junk, .junk, .junk, .junk, .junk, .junk, .junk, .junk, .junk, .junk, .junk, .junk, .junk, .junk, .junk], [], [(3, .rows .ints [])], 4⟩
set_option maxRecDepth 100000 in
theorem rd_round (k : Nat) (l : List Int) (x i : Int) (out : List Int) : ((rounds Try.prog [] [] 30 rdId 3 none rdSk (k + 1) [.l .ints l, .i x, .i i, .l .ints out]).cut
    (.ite (.ite (.ite (.yes (.ite (.ite (.all) (.all)) (.all))) (.all)) (.all)) (.all))).ev = T.ev (
     .ite (decide (IntKind.i64.wrap (i + (1 : Int)) < (↑l.length : Int)))
      (.ite (inRange i l.length)
       (.ite (l.getD i.toNat RC.ints.zero != x)
        (.ite (inRange i l.length)
         (.ite (inRange (IntKind.i64.wrap (i + (1 : Int))) l.length)
          (.ite (roomB (out.length + [l.getD i.toNat RC.ints.zero, l.getD (IntKind.i64.wrap (i + (1 : Int))).toNat RC.ints.zero].length) (8 : Nat))
           (rounds Try.prog [] [] 30 rdId 3 none rdSk k [.l .ints (l), .i (x), .i (IntKind.i64.wrap (i + (2 : Int))), .l .ints (out ++ [l.getD i.toNat RC.ints.zero, l.getD (IntKind.i64.wrap (i + (1 : Int))).toNat RC.ints.zero])])
           (.fail))
          (.fail))
         .fail)
        (rounds Try.prog [] [] 30 rdId 3 none rdSk k [.l .ints (l), .i (x), .i (IntKind.i64.wrap (i + (2 : Int))), .l .ints (out)]))
       (.fail))
      (outAt (.exit 0) rdOut0 [.l .ints (out)])) := by kernel_rfl
/- Int, Int, Bool, List (RC.den .ints) -/
def fiOut0 : NSt := ⟨[.junk, .junk, .junk, .junk, .junk, .junk, .junk, .junk, .junk, .junk, .junk, .junk, .junk, .junk, .junk, .junk, .junk], [], [(0, .cells [.int .i64 (0)] 1 0), (1, .cells [.int .i64 (0)] 1 0), (2, .cells [.bool false] 1 0), (5, .cells [.pl .ints []] 1 0), (9, .defs), (10, .loop .done (some (.exit 0)) 12 [.junk, .junk, .junk, .pointer (some ⟨0, 0, none⟩), .pointer (some ⟨1, 0, none⟩), .pointer (some ⟨2, 0, none⟩), .junk, .junk, .junk, .junk, .tuple #[], .tuple #[], .junk, .junk, .junk, .junk, .junk, .junk] [0, 1, 0, 1] 9)], 11⟩
/- Int, Int, Bool, List (RC.den .ints) -/
def fiOut1 : NSt := ⟨[.junk, .junk, .junk, .junk, .junk, .junk, .junk, .junk, .junk, .junk, .junk, .junk, .junk, .junk, .junk, .junk, .junk], [], [(0, .cells [.int .i64 (0)] 1 0), (1, .cells [.int .i64 (0)] 1 0), (2, .cells [.bool false] 1 0), (5, .cells [.pl .ints []] 1 0), (9, .defs), (10, .loop .ready none 12 [.junk, .junk, .junk, .pointer (some ⟨0, 0, none⟩), .pointer (some ⟨1, 0, none⟩), .pointer (some ⟨2, 0, none⟩), .junk, .junk, .junk, .junk, .tuple #[], .tuple #[], .junk, .junk, .junk, .junk, .junk, .junk] [0, 1, 0, 1] 9)], 11⟩
set_option maxRecDepth 100000 in
theorem fi_round (k : Nat) (x v : Int) (is : Bool) (l : List Int) : ((rounds Try.prog [] [] 30 paId 11 none fiSk (k + 1) [.i x, .i v, .b is, .l .ints l]).cut
    (.ite (.ite (.ite (.yes (.ite (.yes (.all)) (.no (.ite (.all) (.all))))) (.all)) (.all)) (.all))).ev = T.ev (
     .ite (decide ((↑l.length : Int) > (1 : Int)))
      (.ite (inRange (0 : Int) l.length)
       (.ite (inRange (1 : Int) l.length)
        (.ite (l.getD (Int.toNat (0 : Int)) RC.ints.zero == x)
         (outAt .ret fiOut0 [.i (x), .i (l.getD (Int.toNat (1 : Int)) RC.ints.zero), .b true, .l .ints (l)])
         (.ite (decide ((0 : Int) ≤ (2 : Int)) && decide ((2 : Int) ≤ (↑(hi0 l.length none) : Int)))
          (rounds Try.prog [] [] 30 paId 11 none fiSk k [.i (x), .i (v), .b (is), .l .ints (lpart l (some (Int.toNat (2 : Int))) none)])
          (.fail)))
        (.fail))
       (.fail))
      (outAt (.exit 0) fiOut1 [.i (x), .i (v), .b (is), .l .ints (l)])) := by kernel_rfl
/- Int, List (RC.den .ints), List (RC.den .ints) -/
def drOut0 : NSt := ⟨[.junk, .junk, .junk, .junk, .junk, .junk, .junk, .junk, .junk, .junk, .junk, .junk, .junk, .junk, .junk, .junk, .junk], [], [(0, .cells [.int .i64 (0)] 1 0), (1, .cells [.row 10 1 (0)] 1 0), (4, .cells [.pl .ints []] 1 0), (8, .defs), (9, .loop .ready none 15 [.junk, .junk, .junk, .pointer (some ⟨0, 0, none⟩), .pointer (some ⟨1, 0, none⟩), .junk, .junk, .junk, .junk, .tuple #[], .tuple #[], .junk, .junk, .junk, .junk, .junk, .junk, .junk, .junk, .junk] [0, 1, 0, 1] 8), (10, .rows .ints [])], 11⟩
set_option maxRecDepth 100000 in
theorem dr_round (k : Nat) (x : Int) (l out : List Int) : ((rounds Try.prog [] [] 30 pdId 10 none drSk (k + 1) [.i x, .l .ints l, .l .ints out]).cut
    (.ite (.ite (.ite (.yes (.ite (.ite (.no (.ite (.all) (.all))) (.all)) (.no (.ite (.all) (.all))))) (.all)) (.all)) (.all))).ev = T.ev (
     .ite (decide ((↑l.length : Int) > (1 : Int)))
      (.ite (inRange (0 : Int) l.length)
       (.ite (inRange (1 : Int) l.length)
        (.ite (l.getD (Int.toNat (0 : Int)) RC.ints.zero != x)
         (.ite (roomB (out.length + [l.getD (Int.toNat (0 : Int)) RC.ints.zero, l.getD (Int.toNat (1 : Int)) RC.ints.zero].length) (8 : Nat))
          (.ite (decide ((0 : Int) ≤ (2 : Int)) && decide ((2 : Int) ≤ (↑(hi0 l.length none) : Int)))
           (rounds Try.prog [] [] 30 pdId 10 none drSk k [.i (x), .l .ints (lpart l (some (Int.toNat (2 : Int))) none), .l .ints (out ++ [l.getD (Int.toNat (0 : Int)) RC.ints.zero, l.getD (Int.toNat (1 : Int)) RC.ints.zero])])
           (.fail))
          (.fail))
         (.ite (decide ((0 : Int) ≤ (2 : Int)) && decide ((2 : Int) ≤ (↑(hi0 l.length none) : Int)))
          (rounds Try.prog [] [] 30 pdId 10 none drSk k [.i (x), .l .ints (lpart l (some (Int.toNat (2 : Int))) none), .l .ints (out)])
          (.fail)))
        (.fail))
       (.fail))
      (outAt (.exit 0) drOut0 [.i (x), .l .ints (l), .l .ints (out)])) := by kernel_rfl

end Go.Proofs.YtffgmpkcfohhgaaD
