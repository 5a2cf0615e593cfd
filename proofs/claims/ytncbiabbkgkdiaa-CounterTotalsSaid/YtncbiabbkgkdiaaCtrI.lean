/-
  Chapter 06: sums: the laws' trees.
-/
import Derived.Test.YtncbiabbkgkdiaaCtrH
set_option linter.unusedVariables false
set_option linter.unusedSimpArgs false
namespace Go.Proofs.YtncbiabbkgkdiaaD
open Go Go.RowKit

set_option maxRecDepth 100000 in
theorem totals_tree (n : Int) (l : List Int) : (((tden Try.prog numE [] 30).call 0 4 [.int .i64 n, .pl .ints l] ⟨.nil, 0⟩).pure.cut
    (.ite (.all) (.ite (.yes (.yes (.yes (.yes (.yes (.yes (.yes (.yes (.yes (.yes (.yes (.ite (.yes (.yes (.yes (.yes (.all))))) (.no (.no (.no (.no (.no (.all)))))))))))))))))) (.all)))).ev = T.ev (α := CV) (
     .ite (decide ((↑l.length : Int) > (100 : Int)))
      (.ret (.bool true))
      (.ite (small l.length)
       (.ite (small l.length)
        (.ite (small l.length)
         (.ite (total n l == total n l)
          (.ite (small l.length)
           (.ite (small l.length)
            (.ite (backs n l == rbacks n l)
             (.ite (small l.length)
              (.ite (l == l)
               (.ret (.bool true))
               .fail)
              .fail)
             (.ret (.bool false)))
            .fail)
           .fail)
          .fail)
         .fail)
        .fail)
       (.fail))) := by kernel_rfl
set_option maxRecDepth 100000 in
theorem adds_tree (n a b : Int) : (((tden Try.prog numE [] 30).call 0 6 [.int .i64 n, .int .i64 a, .int .i64 b] ⟨.nil, 0⟩).pure.cut
    (.ite (.ite (.yes (.yes (.ite (.yes (.ite (.yes (.yes (.yes (.yes (.yes (.yes (.yes (.yes (.yes (.ite (.yes (.yes (.ite (.yes (.yes (.ite (.yes (.yes (.yes (.yes (.all))))) (.no (.no (.no (.no (.no (.all))))))))) (.no (.no (.no (.no (.no (.no (.no (.no (.no (.all))))))))))))) (.no (.no (.no (.no (.no (.no (.no (.no (.no (.no (.no (.no (.no (.all)))))))))))))))))))))))) (.all))) (.all)))) (.all)) (.all))).ev = T.ev (α := CV) (
     .ite (inI64 a)
      (.ite (inI64 b)
       (.ite (inI64 b)
        (.ite (inI64 a)
         (.ite (inI64 (add64 a b))
          (.ite (inI64 (backs (0 : Int) [a]))
           (.ite (add64 (add64 n a) b == add64 (add64 n b) a)
            (.ite (add64 (add64 n a) b == add64 n (add64 a b))
             (.ite (add64 (add64 n a) (backs (0 : Int) [a]) == n)
              (.ret (.bool (add64 (add64 n a) b == add64 (add64 n a) b && add64 (add64 n a) b == add64 (add64 n a) b)))
              (.ret (.bool false)))
             (.ret (.bool false)))
            (.ret (.bool false)))
           (.fail))
          (.fail))
         .fail)
        .fail)
       (.fail))
      (.fail)) := by kernel_rfl

end Go.Proofs.YtncbiabbkgkdiaaD
