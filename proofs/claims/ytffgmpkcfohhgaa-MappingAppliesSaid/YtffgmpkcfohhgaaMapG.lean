/-
  Chapter 08: setting: trees, contracts; the chapter's answer.
-/
import Derived.Test.YtffgmpkcfohhgaaMapF
set_option linter.unusedVariables false
set_option linter.unusedSimpArgs false
namespace Go.Proofs.YtffgmpkcfohhgaaD
open Go Go.RowKit

/- List (RC.den .ints) -/
def setEnd0 : NSt := ⟨[.row 0 1 (0)], [], [(0, .rows .ints [])], 1⟩
set_option maxRecDepth 100000 in
theorem set_tree (l : List Int) (x y : Int) : ((stRunV Try.prog drpE setL [] 30 14 ⟨[.pl .ints l, .int .i64 x, .int .i64 y], [], [], 0⟩).cut
    (.ite (.ite (.yes (.ite (.ite (.all) (.all)) (.all))) (.all)) (.all))).ev = T.ev (α := NSt) (
     .ite (small l.length)
      (.ite (small ((dropP l x).length + (2 : Nat)))
       (.ite (!(seP (dropP l x) x y).fst)
        (.ite (roomB ((seP (dropP l x) x y).snd.length + [x, y].length) (8 : Nat))
         (stAt setEnd0 [.l .ints ((seP (dropP l x) x y).snd ++ [x, y])])
         (.fail))
        (stAt setEnd0 [.l .ints ((seP (dropP l x) x y).snd)]))
       (.fail))
      (.fail)) := by kernel_rfl
set_option maxRecDepth 100000 in
theorem rset_tree (l : List Int) (x y : Int) : (((tden Try.prog drpE setL 30).call 0 27 [.pl .ints l, .int .i64 x, .int .i64 y] ⟨.nil, 0⟩).pure.cut
    (.ite (.ite (.ite (.ite (.yes (.yes (.yes (.yes (.ite (.all) (.all)))))) (.all)) (.all)) (.all)) (.all))).ev = T.ev (α := CV) (
     .ite (small l.length)
      (.ite ((0 : Int) == (0 : Int) && small (dropP l x).length)
       (.ite (roomB ((List.take (rsP (dropP l x) x) (dropP l x)).length + [x, y].length) (8 : Nat))
        (.ite (decide ((0 : Int) ≤ (↑(rsP (dropP l x) x) : Int)) && decide ((↑(rsP (dropP l x) x) : Int) ≤ (↑(hi0 (dropP l x).length none) : Int)))
         (.ite (decide ((0 : Int) ≤ (↑(rsP (dropP l x) x) : Int)) && decide ((↑(rsP (dropP l x) x) : Int) ≤ (↑(hi0 (dropP l x).length none) : Int)))
          (.ite (decide (lpart (dropP l x) (some (↑(rsP (dropP l x) x) : Int).toNat) none = lpart (dropP l x) (some (↑(rsP (dropP l x) x) : Int).toNat) none))
           (.ite (decide ((0 : Int) ≤ (↑(rsP (dropP l x) x) : Int)) && decide ((↑(rsP (dropP l x) x) : Int) ≤ (↑(hi0 (dropP l x).length none) : Int)))
            (.ite (decide (lpart (dropP l x) (some (↑(rsP (dropP l x) x) : Int).toNat) none = lpart (dropP l x) (some (↑(rsP (dropP l x) x) : Int).toNat) none))
             (.ite (roomB ((List.take (rsP (dropP l x) x) (dropP l x)).length + [x, y].length + (lpart (dropP l x) (some (↑(rsP (dropP l x) x) : Int).toNat) none).length) (8 : Nat))
              (.ret (.pl .ints (List.take (rsP (dropP l x) x) (dropP l x) ++ [x, y] ++ lpart (dropP l x) (some (↑(rsP (dropP l x) x) : Int).toNat) none)))
              (.fail))
             .fail)
            .fail)
           .fail)
          .fail)
         (.fail))
        (.fail))
       (.fail))
      (.fail)) := by kernel_rfl

end Go.Proofs.YtffgmpkcfohhgaaD
