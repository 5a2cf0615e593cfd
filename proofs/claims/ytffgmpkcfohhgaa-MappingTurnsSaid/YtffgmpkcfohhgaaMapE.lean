/-
  Chapter 08: setting: rounds.
-/
import Derived.Test.YtffgmpkcfohhgaaMapD
set_option linter.unusedVariables false
set_option linter.unusedSimpArgs false
namespace Go.Proofs.YtffgmpkcfohhgaaD
open Go Go.RowKit

/- Int, Int, Bool, List (RC.den .ints), List (RC.den .ints) -/
def seOut0 : NSt := ⟨[.junk, .junk, .junk, .junk, .junk, .junk, .junk, .junk, .junk, .junk, .junk, .junk, .junk, .junk, .junk, .junk, .junk], [], [(0, .cells [.int .i64 (0)] 1 0), (1, .cells [.int .i64 (0)] 1 0), (2, .cells [.row 15 1 (0)] 1 0), (3, .cells [.bool false] 1 0), (9, .cells [.pl .ints []] 1 0), (13, .defs), (14, .loop .ready none 14 [.junk, .junk, .junk, .junk, .pointer (some ⟨0, 0, none⟩), .pointer (some ⟨1, 0, none⟩), .pointer (some ⟨2, 0, none⟩), .pointer (some ⟨3, 0, none⟩), .junk, .junk, .junk, .junk, .junk, .junk, .tuple #[], .tuple #[], .junk, .junk, .junk, .junk, .junk, .junk, .junk, .junk, .junk, .junk, .junk, .junk, .junk, .junk, .junk, .junk, .junk, .junk, .junk, .junk, .junk, .junk, .junk, .junk, .junk] [0, 1, 0, 1, 1] 13), (15, .rows .ints [])], 16⟩
set_option maxRecDepth 100000 in
theorem se_round (k : Nat) (x y : Int) (laid : Bool) (l out : List Int) : ((rounds Try.prog drpE [] 30 seId 15 none seSk (k + 1) [.i x, .i y, .b laid, .l .ints l, .l .ints out]).cut
    (.ite (.ite (.ite (.yes (.ite (.yes (.yes (.ite (.ite (.ite (.no (.ite (.all) (.all))) (.all)) (.all)) (.ite (.no (.ite (.all) (.all))) (.all))))) (.no (.no (.no (.no (.ite (.no (.ite (.all) (.all))) (.all)))))))) (.all)) (.all)) (.all))).ev = T.ev (
     .ite (decide ((↑l.length : Int) > (1 : Int)))
      (.ite (inRange (0 : Int) l.length)
       (.ite (inRange (1 : Int) l.length)
        (.ite (!laid)
         (.ite (decide (l.getD (Int.toNat (0 : Int)) RC.ints.zero ≥ x))
          (.ite (roomB (out.length + [x, y].length) (8 : Nat))
           (.ite (roomB (out.length + [x, y].length + [l.getD (Int.toNat (0 : Int)) RC.ints.zero, l.getD (Int.toNat (1 : Int)) RC.ints.zero].length) (8 : Nat))
            (.ite (decide ((0 : Int) ≤ (2 : Int)) && decide ((2 : Int) ≤ (↑(hi0 l.length none) : Int)))
             (rounds Try.prog drpE [] 30 seId 15 none seSk k [.i (x), .i (y), .b true, .l .ints (lpart l (some (Int.toNat (2 : Int))) none), .l .ints (out ++ [x, y] ++ [l.getD (Int.toNat (0 : Int)) RC.ints.zero, l.getD (Int.toNat (1 : Int)) RC.ints.zero])])
             (.fail))
            (.fail))
           (.fail))
          (.ite (roomB (out.length + [l.getD (Int.toNat (0 : Int)) RC.ints.zero, l.getD (Int.toNat (1 : Int)) RC.ints.zero].length) (8 : Nat))
           (.ite (decide ((0 : Int) ≤ (2 : Int)) && decide ((2 : Int) ≤ (↑(hi0 l.length none) : Int)))
            (rounds Try.prog drpE [] 30 seId 15 none seSk k [.i (x), .i (y), .b (laid), .l .ints (lpart l (some (Int.toNat (2 : Int))) none), .l .ints (out ++ [l.getD (Int.toNat (0 : Int)) RC.ints.zero, l.getD (Int.toNat (1 : Int)) RC.ints.zero])])
            (.fail))
           (.fail)))
         (.ite (roomB (out.length + [l.getD (Int.toNat (0 : Int)) RC.ints.zero, l.getD (Int.toNat (1 : Int)) RC.ints.zero].length) (8 : Nat))
          (.ite (decide ((0 : Int) ≤ (2 : Int)) && decide ((2 : Int) ≤ (↑(hi0 l.length none) : Int)))
           (rounds Try.prog drpE [] 30 seId 15 none seSk k [.i (x), .i (y), .b (laid), .l .ints (lpart l (some (Int.toNat (2 : Int))) none), .l .ints (out ++ [l.getD (Int.toNat (0 : Int)) RC.ints.zero, l.getD (Int.toNat (1 : Int)) RC.ints.zero])])
           (.fail))
          (.fail)))
        (.fail))
       (.fail))
      (outAt (.exit 0) seOut0 [.i (x), .i (y), .b (laid), .l .ints (l), .l .ints (out)])) := by kernel_rfl
set_option maxRecDepth 100000 in
theorem rs_round (k : Nat) (x y : Int) (l : List Int) (i : Int) (out : List Int) : ((rounds Try.prog drpE [] 30 rsId 7 none rsSk (k + 1) [.i x, .i y, .l .ints l, .i i, .l .ints out]).cut
    (.ite (.yes (.yes (.ite (.yes (.yes (.yes (.ite (.yes (.ite (.ite (.all) (.all)) (.all))) (.all))))) (.all)))) (.no (.no (.no (.no (.no (.no (.no (.all)))))))))).ev = T.ev (
     .ite (decide (IntKind.i64.wrap (i + (1 : Int)) < (↑l.length : Int)))
      (.ite (inRange i l.length)
       (.ite (decide (l.getD i.toNat RC.ints.zero < x))
        (.ite (inRange i l.length)
         (.ite (inRange (IntKind.i64.wrap (i + (1 : Int))) l.length)
          (.ite (roomB (out.length + [l.getD i.toNat RC.ints.zero, l.getD (IntKind.i64.wrap (i + (1 : Int))).toNat RC.ints.zero].length) (8 : Nat))
           (rounds Try.prog drpE [] 30 rsId 7 none rsSk k [.i (x), .i (y), .l .ints (l), .i (IntKind.i64.wrap (i + (2 : Int))), .l .ints (out ++ [l.getD i.toNat RC.ints.zero, l.getD (IntKind.i64.wrap (i + (1 : Int))).toNat RC.ints.zero])])
           (.fail))
          (.fail))
         .fail)
        (outAt (.exit 0) rsSk [.i (x), .i (y), .l .ints (l), .i (i), .l .ints (out)]))
       (.fail))
      (outAt (.exit 0) rsSk [.i (x), .i (y), .l .ints (l), .i (i), .l .ints (out)])) := by kernel_rfl

end Go.Proofs.YtffgmpkcfohhgaaD
