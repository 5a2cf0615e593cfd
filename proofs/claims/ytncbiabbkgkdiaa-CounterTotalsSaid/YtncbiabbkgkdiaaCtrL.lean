/-
  Chapter 06: the law CounterSums' tree.
-/
import Derived.Test.YtncbiabbkgkdiaaCtrK
set_option linter.unusedVariables false
set_option linter.unusedSimpArgs false
namespace Go.Proofs.YtncbiabbkgkdiaaD
open Go Go.RowKit

set_option maxRecDepth 100000 in
theorem sums_tree (n : Int) (l : List Int) (c : Int) : (((tden Try.prog sumE csL 30).call 0 7 [.int .i64 n, .pl .ints l, .int .i64 c] ⟨.nil, 0⟩).pure.cut
    (.ite (.all) (.ite (.ite (.yes (.yes (.yes (.ite (.yes (.yes (.yes (.yes (.yes (.yes (.yes (.yes (.ite (.yes (.yes (.yes (.ite (.yes (.ite (.yes (.yes (.yes (.ite (.yes (.yes (.yes (.ite (.yes (.yes (.all))) (.all))))) (.all))))) (.all))) (.all))))) (.no (.no (.no (.no (.no (.no (.no (.no (.no (.no (.no (.all))))))))))))))))))))) (.all))))) (.all)) (.all)))).ev = T.ev (α := CV) (
     .ite (decide ((↑l.length : Int) > (60 : Int)))
      (.ret (.bool true))
      (.ite ((0 : Int) == (0 : Int) && wfB l && small l.length)
       (.ite (decide ((-9223372036854775808 : Int) ≤ c) && decide (c ≤ (9223372036854775807 : Int)) && decide (IntKind.i64.wrap ((↑l.length : Int) + (1 : Int)) ≤ (9223372036854775807 : Int)))
        (.ite (small l.length)
         (.ite (total n l == total n l)
          (.ite (small l.length)
           (.ite (backs (total n l) l == n)
            (.ite (decide ((0 : Int) ≤ pick c (IntKind.i64.wrap ((↑l.length : Int) + (1 : Int)))) && decide (pick c (IntKind.i64.wrap ((↑l.length : Int) + (1 : Int))) ≤ (↑l.length : Int)))
             (.ite (small (lpart l none (some (pick c (IntKind.i64.wrap ((↑l.length : Int) + (1 : Int)))).toNat)).length)
              (.ite (decide ((0 : Int) ≤ pick c (IntKind.i64.wrap ((↑l.length : Int) + (1 : Int)))) && decide (pick c (IntKind.i64.wrap ((↑l.length : Int) + (1 : Int))) ≤ (↑(hi0 l.length none) : Int)))
               (.ite (decide ((0 : Int) ≤ pick c (IntKind.i64.wrap ((↑l.length : Int) + (1 : Int)))) && decide (pick c (IntKind.i64.wrap ((↑l.length : Int) + (1 : Int))) ≤ (↑(hi0 l.length none) : Int)))
                (.ite (decide (lpart l (some (pick c (IntKind.i64.wrap ((↑l.length : Int) + (1 : Int)))).toNat) none = lpart l (some (pick c (IntKind.i64.wrap ((↑l.length : Int) + (1 : Int)))).toNat) none))
                 (.ite (small (lpart l (some (pick c (IntKind.i64.wrap ((↑l.length : Int) + (1 : Int)))).toNat) none).length)
                  (.ret (.bool (total (total n (lpart l none (some (pick c (IntKind.i64.wrap ((↑l.length : Int) + (1 : Int)))).toNat))) (lpart l (some (pick c (IntKind.i64.wrap ((↑l.length : Int) + (1 : Int)))).toNat) none) == total n l)))
                  (.fail))
                 .fail)
                .fail)
               (.fail))
              (.fail))
             (.fail))
            (.ret (.bool false)))
           .fail)
          .fail)
         (.fail))
        (.fail))
       (.fail))) := by kernel_rfl

end Go.Proofs.YtncbiabbkgkdiaaD
