/-
  Chapter 04: operation.Check and Type, the document's too: trees, contracts.
-/
import Derived.Test.YtecidokjhplbgaaGreatDoorFreA
import Derived.Test.YtecidokjhplbgaaGreatDoorKitD
set_option linter.unusedVariables false
set_option linter.unusedSimpArgs false
namespace Go.Proofs.YtecidokjhplbgaaGreatDoorD
open Go Go.RowKit

set_option maxRecDepth 100000 in
theorem opCheck_tree (k a b rk rn : Int) : (((tden Tryz.prog [] [] 30).call 0 26 [.agg #[.int .i64 k, .int .i64 a, .int .i64 b, .int .i64 rk, .int .i64 rn]] ⟨.nil, 0⟩).pure.cut
    (.yes (.no (.no (.no (.no (.no (.no (.no (.no (.no (.no (.no (.no (.no (.no (.yes (.ite (.no (.no (.no (.no (.no (.no (.no (.no (.no (.no (.no (.no (.no (.no (.no (.yes (.no (.yes (.yes (.yes (.yes (.yes (.yes (.yes (.no (.no (.yes (.ite (.yes (.yes (.yes (.no (.ite (.no (.all)) (.ite (.yes (.all)) (.ite (.yes (.yes (.yes (.yes (.yes (.all)))))) (.no (.no (.no (.no (.no (.yes (.all)))))))))))))) (.no (.no (.no (.no (.yes (.all)))))))))))))))))))))))))))))))))) (.yes (.no (.no (.no (.no (.no (.no (.no (.no (.no (.no (.no (.no (.no (.yes (.ite (.no (.no (.no (.no (.no (.no (.no (.no (.no (.no (.no (.no (.no (.no (.yes (.no (.no (.no (.ite (.yes (.yes (.yes (.no (.no (.yes (.ite (.yes (.yes (.yes (.no (.ite (.yes (.all)) (.ite (.yes (.all)) (.ite (.yes (.yes (.yes (.yes (.no (.all)))))) (.no (.no (.no (.no (.no (.yes (.all)))))))))))))) (.no (.no (.no (.no (.yes (.all))))))))))))) (.no (.no (.no (.no (.no (.no (.no (.no (.no (.no (.yes (.all))))))))))))))))))))))))))))))) (.yes (.no (.no (.no (.no (.no (.no (.no (.no (.no (.no (.no (.no (.yes (.ite (.no (.no (.no (.no (.no (.no (.no (.no (.no (.no (.no (.no (.no (.yes (.no (.yes (.yes (.yes (.yes (.yes (.yes (.yes (.no (.no (.yes (.ite (.yes (.yes (.yes (.no (.ite (.yes (.all)) (.ite (.yes (.all)) (.ite (.yes (.yes (.yes (.yes (.ite (.yes (.yes (.no (.all)))) (.no (.ite (.all) (.all)))))))) (.no (.no (.no (.no (.no (.yes (.all)))))))))))))) (.no (.no (.no (.no (.yes (.all)))))))))))))))))))))))))))))))) (.yes (.no (.no (.no (.no (.no (.no (.no (.no (.no (.no (.no (.yes (.ite (.no (.no (.no (.no (.no (.no (.no (.no (.no (.no (.no (.no (.yes (.no (.yes (.yes (.yes (.yes (.yes (.yes (.yes (.no (.no (.yes (.ite (.yes (.yes (.yes (.no (.ite (.yes (.all)) (.ite (.yes (.all)) (.ite (.yes (.yes (.yes (.yes (.ite (.yes (.yes (.no (.all)))) (.no (.ite (.all) (.all)))))))) (.no (.no (.no (.no (.no (.yes (.all)))))))))))))) (.no (.no (.no (.no (.yes (.all))))))))))))))))))))))))))))))) (.yes (.no (.no (.no (.no (.no (.no (.no (.no (.no (.no (.yes (.ite (.no (.no (.no (.no (.no (.no (.no (.no (.no (.no (.no (.yes (.no (.yes (.yes (.yes (.yes (.yes (.yes (.yes (.no (.no (.yes (.ite (.yes (.yes (.yes (.no (.ite (.yes (.all)) (.ite (.yes (.all)) (.ite (.yes (.yes (.yes (.yes (.ite (.yes (.yes (.no (.all)))) (.no (.ite (.all) (.all)))))))) (.no (.no (.no (.no (.no (.yes (.all)))))))))))))) (.no (.no (.no (.no (.yes (.all)))))))))))))))))))))))))))))) (.yes (.no (.no (.no (.no (.no (.no (.no (.no (.no (.yes (.ite (.no (.no (.no (.no (.no (.no (.no (.no (.no (.no (.yes (.no (.no (.no (.ite (.yes (.yes (.yes (.no (.no (.yes (.ite (.yes (.yes (.yes (.no (.ite (.yes (.all)) (.ite (.yes (.all)) (.ite (.yes (.yes (.yes (.yes (.ite (.yes (.ite (.all) (.all))) (.no (.no (.yes (.all))))))))) (.no (.no (.no (.no (.no (.yes (.all)))))))))))))) (.no (.no (.no (.no (.yes (.all))))))))))))) (.no (.no (.no (.no (.no (.no (.no (.no (.no (.no (.yes (.all))))))))))))))))))))))))))) (.yes (.no (.no (.no (.no (.no (.no (.no (.no (.yes (.ite (.no (.no (.no (.no (.no (.no (.no (.no (.no (.yes (.no (.yes (.yes (.yes (.yes (.yes (.yes (.yes (.yes (.yes (.yes (.yes (.yes (.yes (.yes (.yes (.no (.ite (.yes (.all)) (.ite (.no (.all)) (.ite (.yes (.yes (.yes (.yes (.no (.all)))))) (.no (.no (.no (.no (.no (.yes (.all))))))))))))))))))))))))))))))))))))) (.yes (.no (.no (.no (.no (.no (.no (.no (.yes (.ite (.no (.no (.no (.no (.no (.no (.no (.no (.yes (.no (.yes (.yes (.yes (.yes (.yes (.yes (.yes (.no (.no (.yes (.ite (.yes (.yes (.yes (.no (.ite (.yes (.all)) (.ite (.no (.all)) (.ite (.yes (.yes (.yes (.yes (.no (.all)))))) (.no (.no (.no (.no (.no (.yes (.all)))))))))))))) (.no (.no (.no (.no (.yes (.all))))))))))))))))))))))))))) (.yes (.no (.no (.no (.no (.no (.no (.yes (.ite (.no (.no (.no (.no (.no (.no (.no (.yes (.no (.yes (.yes (.yes (.yes (.yes (.yes (.yes (.no (.no (.yes (.ite (.yes (.yes (.yes (.no (.ite (.yes (.all)) (.ite (.no (.all)) (.ite (.yes (.yes (.yes (.yes (.no (.all)))))) (.no (.no (.no (.no (.no (.yes (.all)))))))))))))) (.no (.no (.no (.no (.yes (.all)))))))))))))))))))))))))) (.yes (.no (.no (.no (.no (.no (.yes (.ite (.no (.no (.no (.no (.no (.no (.yes (.no (.yes (.yes (.yes (.yes (.yes (.yes (.yes (.no (.no (.yes (.ite (.yes (.yes (.yes (.no (.ite (.no (.all)) (.ite (.yes (.all)) (.ite (.yes (.yes (.yes (.yes (.yes (.all)))))) (.no (.no (.no (.no (.no (.yes (.all)))))))))))))) (.no (.no (.no (.no (.yes (.all))))))))))))))))))))))))) (.yes (.no (.no (.no (.no (.yes (.ite (.no (.no (.no (.no (.no (.yes (.no (.no (.no (.ite (.yes (.yes (.yes (.no (.no (.yes (.ite (.yes (.yes (.yes (.no (.ite (.yes (.all)) (.ite (.no (.all)) (.ite (.yes (.yes (.yes (.yes (.no (.all)))))) (.no (.no (.no (.no (.no (.yes (.all)))))))))))))) (.no (.no (.no (.no (.yes (.all))))))))))))) (.no (.no (.no (.no (.no (.no (.no (.no (.no (.no (.yes (.all)))))))))))))))))))))) (.yes (.no (.no (.no (.yes (.ite (.no (.no (.no (.no (.yes (.no (.no (.no (.ite (.yes (.yes (.yes (.no (.no (.yes (.ite (.yes (.yes (.yes (.no (.ite (.yes (.all)) (.ite (.yes (.all)) (.ite (.yes (.yes (.yes (.yes (.ite (.yes (.ite (.all) (.all))) (.no (.no (.yes (.all))))))))) (.no (.no (.no (.no (.no (.yes (.all)))))))))))))) (.no (.no (.no (.no (.yes (.all))))))))))))) (.no (.no (.no (.no (.no (.no (.no (.no (.no (.no (.yes (.all))))))))))))))))))))) (.yes (.no (.no (.yes (.ite (.no (.no (.no (.yes (.no (.yes (.yes (.yes (.yes (.yes (.yes (.yes (.no (.no (.yes (.ite (.yes (.yes (.yes (.ite (.yes (.ite (.all) (.ite (.yes (.all)) (.ite (.yes (.all)) (.ite (.yes (.yes (.yes (.yes (.ite (.yes (.yes (.no (.all)))) (.no (.ite (.all) (.all)))))))) (.no (.no (.no (.no (.no (.yes (.all)))))))))))) (.no (.no (.yes (.all)))))))) (.no (.no (.no (.no (.yes (.all)))))))))))))))))))))) (.yes (.no (.yes (.ite (.no (.no (.yes (.no (.yes (.yes (.yes (.yes (.yes (.yes (.yes (.no (.no (.yes (.ite (.yes (.yes (.yes (.ite (.yes (.ite (.all) (.ite (.yes (.all)) (.ite (.yes (.all)) (.ite (.yes (.yes (.yes (.yes (.ite (.yes (.yes (.no (.all)))) (.no (.ite (.all) (.all)))))))) (.no (.no (.no (.no (.no (.yes (.all)))))))))))) (.no (.no (.yes (.all)))))))) (.no (.no (.no (.no (.yes (.all))))))))))))))))))))) (.yes (.yes (.ite (.no (.yes (.no (.no (.no (.ite (.yes (.yes (.yes (.no (.no (.yes (.ite (.yes (.yes (.yes (.no (.ite (.yes (.all)) (.ite (.yes (.all)) (.ite (.yes (.yes (.yes (.yes (.ite (.yes (.ite (.all) (.all))) (.no (.no (.yes (.all))))))))) (.no (.no (.no (.no (.no (.yes (.all)))))))))))))) (.no (.no (.no (.no (.yes (.all))))))))))))) (.no (.no (.no (.no (.no (.no (.no (.no (.no (.no (.yes (.all)))))))))))))))))) (.no (.yes (.yes (.all))))))))))))))))))))))))))))))))))))))))))))))))))))))))))))))))))))))))))))))))))))))))))))))))))))))))))))))))))))))))))))))))))))))))))))))))))))))))))).ev = T.ev (α := CV) (
     .ite ((1 : Int) == k)
      (.ite (b == (0 : Int))
       (.ite (rk == (0 : Int) && (rn == (0 : Int) && true))
        (.ret (.int .i64 (0)))
        (.ite (rk == (1 : Int) && (rn == (0 : Int) && true))
         (.ret (.int .i64 (9)))
         (.ite (rk == (2 : Int))
          (.ret (.int .i64 (9)))
          (.ret (.int .i64 (9))))))
       (.ret (.int .i64 (2))))
      (.ite ((2 : Int) == k)
       (.ite (a == (0 : Int))
        (.ite (b == (0 : Int))
         (.ite (rk == (0 : Int) && (rn == (0 : Int) && true))
          (.ret (.int .i64 (9)))
          (.ite (rk == (1 : Int) && (rn == (0 : Int) && true))
           (.ret (.int .i64 (9)))
           (.ite (rk == (2 : Int))
            (.ret (.int .i64 (0)))
            (.ret (.int .i64 (9))))))
         (.ret (.int .i64 (2))))
        (.ret (.int .i64 (2))))
       (.ite ((3 : Int) == k)
        (.ite (b == (0 : Int))
         (.ite (rk == (0 : Int) && (rn == (0 : Int) && true))
          (.ret (.int .i64 (9)))
          (.ite (rk == (1 : Int) && (rn == (0 : Int) && true))
           (.ret (.int .i64 (9)))
           (.ite (rk == (2 : Int))
            (.ite (rn == (0 : Int))
             (.ret (.int .i64 (0)))
             (.ite (!rn == (1 : Int))
              (.ret (.int .i64 (9)))
              (.ret (.int .i64 (0)))))
            (.ret (.int .i64 (9))))))
         (.ret (.int .i64 (2))))
        (.ite ((4 : Int) == k)
         (.ite (b == (0 : Int))
          (.ite (rk == (0 : Int) && (rn == (0 : Int) && true))
           (.ret (.int .i64 (9)))
           (.ite (rk == (1 : Int) && (rn == (0 : Int) && true))
            (.ret (.int .i64 (9)))
            (.ite (rk == (2 : Int))
             (.ite (rn == (0 : Int))
              (.ret (.int .i64 (0)))
              (.ite (!rn == (1 : Int))
               (.ret (.int .i64 (9)))
               (.ret (.int .i64 (0)))))
             (.ret (.int .i64 (9))))))
          (.ret (.int .i64 (2))))
         (.ite ((5 : Int) == k)
          (.ite (b == (0 : Int))
           (.ite (rk == (0 : Int) && (rn == (0 : Int) && true))
            (.ret (.int .i64 (9)))
            (.ite (rk == (1 : Int) && (rn == (0 : Int) && true))
             (.ret (.int .i64 (9)))
             (.ite (rk == (2 : Int))
              (.ite (rn == (0 : Int))
               (.ret (.int .i64 (0)))
               (.ite (!rn == (1 : Int))
                (.ret (.int .i64 (9)))
                (.ret (.int .i64 (0)))))
              (.ret (.int .i64 (9))))))
           (.ret (.int .i64 (2))))
          (.ite ((6 : Int) == k)
           (.ite (a == (0 : Int))
            (.ite (b == (0 : Int))
             (.ite (rk == (0 : Int) && (rn == (0 : Int) && true))
              (.ret (.int .i64 (9)))
              (.ite (rk == (1 : Int) && (rn == (0 : Int) && true))
               (.ret (.int .i64 (9)))
               (.ite (rk == (2 : Int))
                (.ite (decide (rn ≥ (0 : Int)))
                 (.ite (!decide (rn ≤ (4611686018427387904 : Int)))
                  (.ret (.int .i64 (9)))
                  (.ret (.int .i64 (0))))
                 (.ret (.int .i64 (9))))
                (.ret (.int .i64 (9))))))
             (.ret (.int .i64 (2))))
            (.ret (.int .i64 (2))))
           (.ite ((7 : Int) == k)
            (.ite (rk == (0 : Int) && (rn == (0 : Int) && true))
             (.ret (.int .i64 (9)))
             (.ite (rk == (1 : Int) && (rn == (0 : Int) && true))
              (.ret (.int .i64 (0)))
              (.ite (rk == (2 : Int))
               (.ret (.int .i64 (0)))
               (.ret (.int .i64 (9))))))
            (.ite ((8 : Int) == k)
             (.ite (b == (0 : Int))
              (.ite (rk == (0 : Int) && (rn == (0 : Int) && true))
               (.ret (.int .i64 (9)))
               (.ite (rk == (1 : Int) && (rn == (0 : Int) && true))
                (.ret (.int .i64 (0)))
                (.ite (rk == (2 : Int))
                 (.ret (.int .i64 (0)))
                 (.ret (.int .i64 (9))))))
              (.ret (.int .i64 (2))))
             (.ite ((9 : Int) == k)
              (.ite (b == (0 : Int))
               (.ite (rk == (0 : Int) && (rn == (0 : Int) && true))
                (.ret (.int .i64 (9)))
                (.ite (rk == (1 : Int) && (rn == (0 : Int) && true))
                 (.ret (.int .i64 (0)))
                 (.ite (rk == (2 : Int))
                  (.ret (.int .i64 (0)))
                  (.ret (.int .i64 (9))))))
               (.ret (.int .i64 (2))))
              (.ite ((10 : Int) == k)
               (.ite (b == (0 : Int))
                (.ite (rk == (0 : Int) && (rn == (0 : Int) && true))
                 (.ret (.int .i64 (0)))
                 (.ite (rk == (1 : Int) && (rn == (0 : Int) && true))
                  (.ret (.int .i64 (9)))
                  (.ite (rk == (2 : Int))
                   (.ret (.int .i64 (9)))
                   (.ret (.int .i64 (9))))))
                (.ret (.int .i64 (2))))
               (.ite ((11 : Int) == k)
                (.ite (a == (0 : Int))
                 (.ite (b == (0 : Int))
                  (.ite (rk == (0 : Int) && (rn == (0 : Int) && true))
                   (.ret (.int .i64 (9)))
                   (.ite (rk == (1 : Int) && (rn == (0 : Int) && true))
                    (.ret (.int .i64 (0)))
                    (.ite (rk == (2 : Int))
                     (.ret (.int .i64 (0)))
                     (.ret (.int .i64 (9))))))
                  (.ret (.int .i64 (2))))
                 (.ret (.int .i64 (2))))
                (.ite ((12 : Int) == k)
                 (.ite (a == (0 : Int))
                  (.ite (b == (0 : Int))
                   (.ite (rk == (0 : Int) && (rn == (0 : Int) && true))
                    (.ret (.int .i64 (9)))
                    (.ite (rk == (1 : Int) && (rn == (0 : Int) && true))
                     (.ret (.int .i64 (9)))
                     (.ite (rk == (2 : Int))
                      (.ite (decide (rn ≥ (0 : Int)))
                       (.ite (!decide (rn ≤ (4611686018427387904 : Int)))
                        (.ret (.int .i64 (9)))
                        (.ret (.int .i64 (0))))
                       (.ret (.int .i64 (9))))
                      (.ret (.int .i64 (9))))))
                   (.ret (.int .i64 (2))))
                  (.ret (.int .i64 (2))))
                 (.ite ((13 : Int) == k)
                  (.ite (b == (0 : Int))
                   (.ite (decide (a ≥ (0 : Int)))
                    (.ite (!decide (a ≤ (4611686018427387904 : Int)))
                     (.ret (.int .i64 (2)))
                     (.ite (rk == (0 : Int) && (rn == (0 : Int) && true))
                      (.ret (.int .i64 (9)))
                      (.ite (rk == (1 : Int) && (rn == (0 : Int) && true))
                       (.ret (.int .i64 (9)))
                       (.ite (rk == (2 : Int))
                        (.ite (rn == (0 : Int))
                         (.ret (.int .i64 (0)))
                         (.ite (!rn == (1 : Int))
                          (.ret (.int .i64 (9)))
                          (.ret (.int .i64 (0)))))
                        (.ret (.int .i64 (9)))))))
                    (.ret (.int .i64 (2))))
                   (.ret (.int .i64 (2))))
                  (.ite ((14 : Int) == k)
                   (.ite (b == (0 : Int))
                    (.ite (decide (a ≥ (0 : Int)))
                     (.ite (!decide (a ≤ (4611686018427387904 : Int)))
                      (.ret (.int .i64 (2)))
                      (.ite (rk == (0 : Int) && (rn == (0 : Int) && true))
                       (.ret (.int .i64 (9)))
                       (.ite (rk == (1 : Int) && (rn == (0 : Int) && true))
                        (.ret (.int .i64 (9)))
                        (.ite (rk == (2 : Int))
                         (.ite (rn == (0 : Int))
                          (.ret (.int .i64 (0)))
                          (.ite (!rn == (1 : Int))
                           (.ret (.int .i64 (9)))
                           (.ret (.int .i64 (0)))))
                         (.ret (.int .i64 (9)))))))
                     (.ret (.int .i64 (2))))
                    (.ret (.int .i64 (2))))
                   (.ite ((15 : Int) == k)
                    (.ite (a == (0 : Int))
                     (.ite (b == (0 : Int))
                      (.ite (rk == (0 : Int) && (rn == (0 : Int) && true))
                       (.ret (.int .i64 (9)))
                       (.ite (rk == (1 : Int) && (rn == (0 : Int) && true))
                        (.ret (.int .i64 (9)))
                        (.ite (rk == (2 : Int))
                         (.ite (decide (rn ≥ (0 : Int)))
                          (.ite (!decide (rn ≤ (4611686018427387904 : Int)))
                           (.ret (.int .i64 (9)))
                           (.ret (.int .i64 (0))))
                          (.ret (.int .i64 (9))))
                         (.ret (.int .i64 (9))))))
                      (.ret (.int .i64 (2))))
                     (.ret (.int .i64 (2))))
                    (.ret (.int .i64 (6)))))))))))))))))) := by kernel_rfl

set_option maxRecDepth 100000 in
theorem opType_tree (k : Int) : (((tden Tryz.prog [] [] 30).call 0 20 [.int .i64 k] ⟨.nil, 0⟩).pure.cut
    (.yes (.no (.no (.no (.no (.no (.no (.no (.no (.no (.no (.no (.no (.no (.no (.yes (.ite (.no (.no (.no (.no (.no (.no (.no (.no (.no (.no (.no (.no (.no (.no (.no (.yes (.all))))))))))))))))) (.yes (.no (.no (.no (.no (.no (.no (.no (.no (.no (.no (.no (.no (.no (.yes (.ite (.no (.no (.no (.no (.no (.no (.no (.no (.no (.no (.no (.no (.no (.no (.yes (.all)))))))))))))))) (.yes (.no (.no (.no (.no (.no (.no (.no (.no (.no (.no (.no (.no (.yes (.ite (.no (.no (.no (.no (.no (.no (.no (.no (.no (.no (.no (.no (.no (.yes (.all))))))))))))))) (.yes (.no (.no (.no (.no (.no (.no (.no (.no (.no (.no (.no (.yes (.ite (.no (.no (.no (.no (.no (.no (.no (.no (.no (.no (.no (.no (.yes (.all)))))))))))))) (.yes (.no (.no (.no (.no (.no (.no (.no (.no (.no (.no (.yes (.ite (.no (.no (.no (.no (.no (.no (.no (.no (.no (.no (.no (.yes (.all))))))))))))) (.yes (.no (.no (.no (.no (.no (.no (.no (.no (.no (.yes (.ite (.no (.no (.no (.no (.no (.no (.no (.no (.no (.no (.yes (.all)))))))))))) (.yes (.no (.no (.no (.no (.no (.no (.no (.no (.yes (.ite (.no (.no (.no (.no (.no (.no (.no (.no (.no (.yes (.all))))))))))) (.yes (.no (.no (.no (.no (.no (.no (.no (.yes (.ite (.no (.no (.no (.no (.no (.no (.no (.no (.yes (.all)))))))))) (.yes (.no (.no (.no (.no (.no (.no (.yes (.ite (.no (.no (.no (.no (.no (.no (.no (.yes (.all))))))))) (.yes (.no (.no (.no (.no (.no (.yes (.ite (.no (.no (.no (.no (.no (.no (.yes (.all)))))))) (.yes (.no (.no (.no (.no (.yes (.ite (.no (.no (.no (.no (.no (.yes (.all))))))) (.yes (.no (.no (.no (.yes (.ite (.no (.no (.no (.no (.yes (.all)))))) (.yes (.no (.no (.yes (.ite (.no (.no (.no (.yes (.all))))) (.yes (.no (.yes (.ite (.no (.no (.yes (.all)))) (.yes (.yes (.ite (.no (.yes (.all))) (.no (.yes (.all)))))))))))))))))))))))))))))))))))))))))))))))))))))))))))))))))))))))))))))))))))))))))))))))))))))))))))))))))))))))))))))))))))))))))))))))))))))))))).ev = T.ev (α := CV) (
     .ite ((1 : Int) == k)
      (.ret (.tuple #[.int .i64 (1), .int .i64 (0)]))
      (.ite ((2 : Int) == k)
       (.ret (.tuple #[.int .i64 (1), .int .i64 (0)]))
       (.ite ((3 : Int) == k)
        (.ret (.tuple #[.int .i64 (2), .int .i64 (0)]))
        (.ite ((4 : Int) == k)
         (.ret (.tuple #[.int .i64 (2), .int .i64 (0)]))
         (.ite ((5 : Int) == k)
          (.ret (.tuple #[.int .i64 (2), .int .i64 (0)]))
          (.ite ((6 : Int) == k)
           (.ret (.tuple #[.int .i64 (2), .int .i64 (0)]))
           (.ite ((7 : Int) == k)
            (.ret (.tuple #[.int .i64 (3), .int .i64 (0)]))
            (.ite ((8 : Int) == k)
             (.ret (.tuple #[.int .i64 (3), .int .i64 (0)]))
             (.ite ((9 : Int) == k)
              (.ret (.tuple #[.int .i64 (3), .int .i64 (0)]))
              (.ite ((10 : Int) == k)
               (.ret (.tuple #[.int .i64 (4), .int .i64 (0)]))
               (.ite ((11 : Int) == k)
                (.ret (.tuple #[.int .i64 (4), .int .i64 (0)]))
                (.ite ((12 : Int) == k)
                 (.ret (.tuple #[.int .i64 (4), .int .i64 (0)]))
                 (.ite ((13 : Int) == k)
                  (.ret (.tuple #[.int .i64 (5), .int .i64 (0)]))
                  (.ite ((14 : Int) == k)
                   (.ret (.tuple #[.int .i64 (5), .int .i64 (0)]))
                   (.ite ((15 : Int) == k)
                    (.ret (.tuple #[.int .i64 (5), .int .i64 (0)]))
                    (.ret (.tuple #[.int .i64 (0), .int .i64 (6)]))))))))))))))))) := by kernel_rfl

set_option maxRecDepth 100000 in
theorem ropCheck_tree (k a b rk rn : Int) : (((tden Tryz.prog [] [] 30).call 0 30 [.agg #[.int .i64 k, .int .i64 a, .int .i64 b, .int .i64 rk, .int .i64 rn]] ⟨.nil, 0⟩).pure.cut
    (.ite (.yes (.yes (.yes (.no (.no (.no (.no (.no (.no (.yes (.all))))))))))) (.no (.ite (.no (.no (.no (.no (.no (.no (.yes (.all)))))))) (.ite (.yes (.yes (.yes (.yes (.ite (.yes (.yes (.yes (.yes (.no (.yes (.yes (.yes (.ite (.yes (.yes (.yes (.yes (.yes (.yes (.yes (.yes (.all))))))))) (.no (.no (.no (.yes (.yes (.yes (.no (.ite (.yes (.yes (.all))) (.yes (.all))))))))))))))))))) (.no (.no (.yes (.no (.yes (.yes (.yes (.ite (.yes (.yes (.yes (.yes (.yes (.yes (.yes (.yes (.all))))))))) (.no (.no (.no (.yes (.yes (.yes (.no (.ite (.yes (.yes (.all))) (.ite (.all) (.no (.no (.no (.yes (.ite (.yes (.yes (.ite (.yes (.yes (.ite (.all) (.all)))) (.no (.no (.no (.yes (.all)))))))) (.no (.no (.no (.no (.no (.no (.no (.yes (.all)))))))))))))))))))))))))))))))))))) (.ite (.yes (.yes (.yes (.yes (.ite (.yes (.yes (.yes (.yes (.no (.no (.no (.no (.no (.no (.no (.no (.no (.yes (.yes (.yes (.no (.ite (.yes (.yes (.all))) (.yes (.all)))))))))))))))))))) (.no (.no (.yes (.no (.no (.no (.no (.no (.no (.no (.no (.no (.yes (.yes (.yes (.no (.ite (.yes (.yes (.all))) (.ite (.all) (.no (.yes (.ite (.yes (.yes (.yes (.ite (.yes (.yes (.yes (.yes (.no (.all)))))) (.no (.no (.yes (.ite (.all) (.all))))))))) (.no (.no (.no (.no (.no (.yes (.all))))))))))))))))))))))))))))))))) (.ite (.yes (.yes (.yes (.yes (.ite (.yes (.yes (.yes (.yes (.no (.no (.no (.no (.no (.no (.no (.no (.no (.yes (.yes (.yes (.no (.ite (.yes (.yes (.all))) (.yes (.all)))))))))))))))))))) (.no (.no (.yes (.no (.no (.no (.no (.no (.no (.no (.no (.no (.yes (.yes (.yes (.no (.ite (.yes (.yes (.all))) (.ite (.all) (.no (.yes (.ite (.yes (.yes (.yes (.ite (.yes (.yes (.yes (.yes (.no (.all)))))) (.no (.no (.yes (.ite (.all) (.all))))))))) (.no (.no (.no (.no (.no (.yes (.all))))))))))))))))))))))))))))))))) (.ite (.no (.no (.no (.no (.no (.no (.no (.yes (.yes (.yes (.ite (.yes (.yes (.yes (.yes (.yes (.yes (.yes (.yes (.all))))))))) (.no (.no (.no (.yes (.yes (.yes (.no (.ite (.yes (.yes (.all))) (.no (.no (.no (.no (.yes (.ite (.yes (.yes (.ite (.yes (.yes (.ite (.all) (.all)))) (.no (.no (.no (.yes (.all)))))))) (.no (.no (.no (.no (.no (.no (.no (.yes (.all)))))))))))))))))))))))))))))))))) (.ite (.no (.no (.no (.no (.no (.no (.no (.yes (.yes (.yes (.ite (.yes (.yes (.yes (.yes (.yes (.yes (.yes (.yes (.all))))))))) (.no (.no (.no (.yes (.yes (.yes (.no (.ite (.yes (.yes (.all))) (.no (.no (.no (.no (.no (.ite (.yes (.yes (.yes (.no (.all))))) (.no (.no (.ite (.all) (.all))))))))))))))))))))))))))))) (.ite (.no (.no (.no (.no (.no (.no (.no (.no (.no (.no (.no (.no (.no (.no (.no (.yes (.yes (.yes (.no (.ite (.yes (.yes (.all))) (.no (.yes (.ite (.all) (.all)))))))))))))))))))))))) (.ite (.no (.no (.no (.no (.no (.no (.no (.no (.no (.no (.no (.no (.no (.no (.no (.yes (.yes (.yes (.no (.ite (.yes (.yes (.all))) (.no (.no (.no (.no (.no (.ite (.yes (.yes (.yes (.no (.all))))) (.no (.no (.ite (.all) (.all)))))))))))))))))))))))))))))) (.ite (.no (.no (.no (.no (.no (.no (.no (.no (.no (.no (.no (.no (.no (.no (.no (.yes (.yes (.yes (.no (.ite (.yes (.yes (.all))) (.no (.no (.no (.no (.no (.ite (.yes (.yes (.yes (.no (.all))))) (.no (.no (.ite (.all) (.all)))))))))))))))))))))))))))))) (.ite (.no (.no (.no (.no (.no (.no (.no (.no (.no (.no (.no (.no (.no (.no (.no (.no (.no (.no (.no (.no (.no (.no (.no (.no (.no (.no (.ite (.yes (.yes (.yes (.no (.all))))) (.no (.no (.ite (.all) (.all))))))))))))))))))))))))))))))) (.ite (.no (.no (.no (.no (.no (.no (.no (.yes (.yes (.yes (.ite (.yes (.yes (.yes (.yes (.yes (.yes (.yes (.yes (.all))))))))) (.no (.no (.no (.yes (.yes (.yes (.no (.ite (.yes (.yes (.all))) (.no (.no (.no (.no (.yes (.ite (.yes (.yes (.ite (.yes (.yes (.ite (.all) (.all)))) (.no (.no (.no (.yes (.all)))))))) (.no (.no (.no (.no (.no (.no (.no (.yes (.all)))))))))))))))))))))))))))))))))) (.ite (.no (.no (.no (.no (.no (.no (.no (.no (.no (.no (.no (.no (.no (.no (.no (.yes (.yes (.yes (.no (.ite (.yes (.yes (.all))) (.no (.no (.yes (.ite (.yes (.yes (.yes (.ite (.yes (.yes (.yes (.yes (.no (.all)))))) (.no (.no (.yes (.ite (.all) (.all))))))))) (.no (.no (.no (.no (.no (.yes (.all))))))))))))))))))))))))))))))) (.ite (.no (.no (.no (.no (.no (.no (.no (.no (.no (.no (.no (.no (.no (.no (.no (.yes (.yes (.yes (.no (.ite (.yes (.yes (.all))) (.no (.no (.yes (.ite (.yes (.yes (.yes (.ite (.yes (.yes (.yes (.yes (.no (.all)))))) (.no (.no (.yes (.ite (.all) (.all))))))))) (.no (.no (.no (.no (.no (.yes (.all))))))))))))))))))))))))))))))) (.ite (.no (.no (.no (.no (.no (.no (.no (.no (.no (.no (.no (.no (.no (.no (.no (.yes (.yes (.yes (.no (.ite (.yes (.yes (.all))) (.no (.no (.yes (.ite (.yes (.yes (.yes (.ite (.yes (.yes (.yes (.yes (.no (.all)))))) (.no (.no (.yes (.ite (.all) (.all))))))))) (.no (.no (.no (.no (.no (.yes (.all))))))))))))))))))))))))))))))) (.ite (.no (.no (.no (.no (.no (.no (.no (.yes (.yes (.yes (.ite (.yes (.yes (.yes (.yes (.yes (.yes (.yes (.yes (.all))))))))) (.no (.no (.no (.yes (.yes (.yes (.no (.ite (.yes (.yes (.all))) (.no (.no (.no (.yes (.ite (.all) (.all))))))))))))))))))))))))) (.ite (.no (.no (.no (.no (.no (.no (.no (.no (.no (.no (.no (.no (.no (.no (.no (.yes (.yes (.yes (.no (.ite (.yes (.yes (.all))) (.no (.yes (.ite (.all) (.all)))))))))))))))))))))))) (.all)))))))))))))))))))).ev = T.ev (α := CV) (
     .ite (decide (k < (1 : Int)))
      (.ret (.int .i64 (6)))
      (.ite (decide (k > (15 : Int)))
       (.ret (.int .i64 (6)))
       (.ite (decide (IntKind.i64.wrap (k - (1 : Int)) = (14 : Int)))
        (.ite (decide (a < (0 : Int)))
         (.ite (a != (0 : Int))
          (.ret (.int .i64 (2)))
          (.ite (b != (0 : Int))
           (.ret (.int .i64 (2)))
           (.ret (.int .i64 (2)))))
         (.ite (a != (0 : Int))
          (.ret (.int .i64 (2)))
          (.ite (b != (0 : Int))
           (.ret (.int .i64 (2)))
           (.ite (decide (a > (4611686018427387904 : Int)))
            (.ret (.int .i64 (2)))
            (.ite (rk == (2 : Int))
             (.ite (decide (rn ≥ (0 : Int)))
              (.ite (!decide (rn ≤ (4611686018427387904 : Int)))
               (.ret (.int .i64 (9)))
               (.ret (.int .i64 (0))))
              (.ret (.int .i64 (9))))
             (.ret (.int .i64 (9))))))))
        (.ite (decide (IntKind.i64.wrap (k - (1 : Int)) = (13 : Int)))
         (.ite (decide (a < (0 : Int)))
          (.ite (b != (0 : Int))
           (.ret (.int .i64 (2)))
           (.ret (.int .i64 (2))))
          (.ite (b != (0 : Int))
           (.ret (.int .i64 (2)))
           (.ite (decide (a > (4611686018427387904 : Int)))
            (.ret (.int .i64 (2)))
            (.ite (rk == (2 : Int))
             (.ite (rn == (0 : Int))
              (.ret (.int .i64 (0)))
              (.ite (!rn == (1 : Int))
               (.ret (.int .i64 (9)))
               (.ret (.int .i64 (0)))))
             (.ret (.int .i64 (9)))))))
         (.ite (decide (IntKind.i64.wrap (k - (1 : Int)) = (12 : Int)))
          (.ite (decide (a < (0 : Int)))
           (.ite (b != (0 : Int))
            (.ret (.int .i64 (2)))
            (.ret (.int .i64 (2))))
           (.ite (b != (0 : Int))
            (.ret (.int .i64 (2)))
            (.ite (decide (a > (4611686018427387904 : Int)))
             (.ret (.int .i64 (2)))
             (.ite (rk == (2 : Int))
              (.ite (rn == (0 : Int))
               (.ret (.int .i64 (0)))
               (.ite (!rn == (1 : Int))
                (.ret (.int .i64 (9)))
                (.ret (.int .i64 (0)))))
              (.ret (.int .i64 (9)))))))
          (.ite (decide (IntKind.i64.wrap (k - (1 : Int)) = (11 : Int)))
           (.ite (a != (0 : Int))
            (.ret (.int .i64 (2)))
            (.ite (b != (0 : Int))
             (.ret (.int .i64 (2)))
             (.ite (rk == (2 : Int))
              (.ite (decide (rn ≥ (0 : Int)))
               (.ite (!decide (rn ≤ (4611686018427387904 : Int)))
                (.ret (.int .i64 (9)))
                (.ret (.int .i64 (0))))
               (.ret (.int .i64 (9))))
              (.ret (.int .i64 (9))))))
           (.ite (decide (IntKind.i64.wrap (k - (1 : Int)) = (10 : Int)))
            (.ite (a != (0 : Int))
             (.ret (.int .i64 (2)))
             (.ite (b != (0 : Int))
              (.ret (.int .i64 (2)))
              (.ite (rk == (2 : Int))
               (.ret (.int .i64 (0)))
               (.ite (!(rk == (1 : Int) && (rn == (0 : Int) && true)))
                (.ret (.int .i64 (9)))
                (.ret (.int .i64 (0)))))))
            (.ite (decide (IntKind.i64.wrap (k - (1 : Int)) = (9 : Int)))
             (.ite (b != (0 : Int))
              (.ret (.int .i64 (2)))
              (.ite (!(rk == (0 : Int) && (rn == (0 : Int) && true)))
               (.ret (.int .i64 (9)))
               (.ret (.int .i64 (0)))))
             (.ite (decide (IntKind.i64.wrap (k - (1 : Int)) = (8 : Int)))
              (.ite (b != (0 : Int))
               (.ret (.int .i64 (2)))
               (.ite (rk == (2 : Int))
                (.ret (.int .i64 (0)))
                (.ite (!(rk == (1 : Int) && (rn == (0 : Int) && true)))
                 (.ret (.int .i64 (9)))
                 (.ret (.int .i64 (0))))))
              (.ite (decide (IntKind.i64.wrap (k - (1 : Int)) = (7 : Int)))
               (.ite (b != (0 : Int))
                (.ret (.int .i64 (2)))
                (.ite (rk == (2 : Int))
                 (.ret (.int .i64 (0)))
                 (.ite (!(rk == (1 : Int) && (rn == (0 : Int) && true)))
                  (.ret (.int .i64 (9)))
                  (.ret (.int .i64 (0))))))
               (.ite (decide (IntKind.i64.wrap (k - (1 : Int)) = (6 : Int)))
                (.ite (rk == (2 : Int))
                 (.ret (.int .i64 (0)))
                 (.ite (!(rk == (1 : Int) && (rn == (0 : Int) && true)))
                  (.ret (.int .i64 (9)))
                  (.ret (.int .i64 (0)))))
                (.ite (decide (IntKind.i64.wrap (k - (1 : Int)) = (5 : Int)))
                 (.ite (a != (0 : Int))
                  (.ret (.int .i64 (2)))
                  (.ite (b != (0 : Int))
                   (.ret (.int .i64 (2)))
                   (.ite (rk == (2 : Int))
                    (.ite (decide (rn ≥ (0 : Int)))
                     (.ite (!decide (rn ≤ (4611686018427387904 : Int)))
                      (.ret (.int .i64 (9)))
                      (.ret (.int .i64 (0))))
                     (.ret (.int .i64 (9))))
                    (.ret (.int .i64 (9))))))
                 (.ite (decide (IntKind.i64.wrap (k - (1 : Int)) = (4 : Int)))
                  (.ite (b != (0 : Int))
                   (.ret (.int .i64 (2)))
                   (.ite (rk == (2 : Int))
                    (.ite (rn == (0 : Int))
                     (.ret (.int .i64 (0)))
                     (.ite (!rn == (1 : Int))
                      (.ret (.int .i64 (9)))
                      (.ret (.int .i64 (0)))))
                    (.ret (.int .i64 (9)))))
                  (.ite (decide (IntKind.i64.wrap (k - (1 : Int)) = (3 : Int)))
                   (.ite (b != (0 : Int))
                    (.ret (.int .i64 (2)))
                    (.ite (rk == (2 : Int))
                     (.ite (rn == (0 : Int))
                      (.ret (.int .i64 (0)))
                      (.ite (!rn == (1 : Int))
                       (.ret (.int .i64 (9)))
                       (.ret (.int .i64 (0)))))
                     (.ret (.int .i64 (9)))))
                   (.ite (decide (IntKind.i64.wrap (k - (1 : Int)) = (2 : Int)))
                    (.ite (b != (0 : Int))
                     (.ret (.int .i64 (2)))
                     (.ite (rk == (2 : Int))
                      (.ite (rn == (0 : Int))
                       (.ret (.int .i64 (0)))
                       (.ite (!rn == (1 : Int))
                        (.ret (.int .i64 (9)))
                        (.ret (.int .i64 (0)))))
                      (.ret (.int .i64 (9)))))
                    (.ite (decide (IntKind.i64.wrap (k - (1 : Int)) = (1 : Int)))
                     (.ite (a != (0 : Int))
                      (.ret (.int .i64 (2)))
                      (.ite (b != (0 : Int))
                       (.ret (.int .i64 (2)))
                       (.ite (!rk == (2 : Int))
                        (.ret (.int .i64 (9)))
                        (.ret (.int .i64 (0))))))
                     (.ite (decide (IntKind.i64.wrap (k - (1 : Int)) = (0 : Int)))
                      (.ite (b != (0 : Int))
                       (.ret (.int .i64 (2)))
                       (.ite (!(rk == (0 : Int) && (rn == (0 : Int) && true)))
                        (.ret (.int .i64 (9)))
                        (.ret (.int .i64 (0)))))
                      (.fail)))))))))))))))))) := by kernel_rfl

set_option maxRecDepth 100000 in
theorem ropType_tree (k : Int) : (((tden Tryz.prog [] [] 30).call 0 31 [.int .i64 k] ⟨.nil, 0⟩).pure.cut
    (.ite (.yes (.yes (.yes (.yes (.all))))) (.no (.ite (.yes (.all)) (.ite (.no (.all)) (.ite (.no (.all)) (.ite (.no (.all)) (.ite (.no (.all)) (.ite (.no (.all)) (.ite (.no (.all)) (.ite (.no (.all)) (.ite (.no (.all)) (.ite (.no (.all)) (.ite (.no (.all)) (.ite (.no (.all)) (.ite (.no (.all)) (.ite (.no (.all)) (.ite (.no (.all)) (.ite (.no (.all)) (.all)))))))))))))))))))).ev = T.ev (α := CV) (
     .ite (decide (k < (1 : Int)))
      (.ret (.tuple #[.int .i64 (0), .int .i64 (6)]))
      (.ite (decide (k > (15 : Int)))
       (.ret (.tuple #[.int .i64 (0), .int .i64 (6)]))
       (.ite (decide (IntKind.i64.wrap (k - (1 : Int)) = (14 : Int)))
        (.ret (.tuple #[.int .i64 (5), .int .i64 (0)]))
        (.ite (decide (IntKind.i64.wrap (k - (1 : Int)) = (13 : Int)))
         (.ret (.tuple #[.int .i64 (5), .int .i64 (0)]))
         (.ite (decide (IntKind.i64.wrap (k - (1 : Int)) = (12 : Int)))
          (.ret (.tuple #[.int .i64 (5), .int .i64 (0)]))
          (.ite (decide (IntKind.i64.wrap (k - (1 : Int)) = (11 : Int)))
           (.ret (.tuple #[.int .i64 (4), .int .i64 (0)]))
           (.ite (decide (IntKind.i64.wrap (k - (1 : Int)) = (10 : Int)))
            (.ret (.tuple #[.int .i64 (4), .int .i64 (0)]))
            (.ite (decide (IntKind.i64.wrap (k - (1 : Int)) = (9 : Int)))
             (.ret (.tuple #[.int .i64 (4), .int .i64 (0)]))
             (.ite (decide (IntKind.i64.wrap (k - (1 : Int)) = (8 : Int)))
              (.ret (.tuple #[.int .i64 (3), .int .i64 (0)]))
              (.ite (decide (IntKind.i64.wrap (k - (1 : Int)) = (7 : Int)))
               (.ret (.tuple #[.int .i64 (3), .int .i64 (0)]))
               (.ite (decide (IntKind.i64.wrap (k - (1 : Int)) = (6 : Int)))
                (.ret (.tuple #[.int .i64 (3), .int .i64 (0)]))
                (.ite (decide (IntKind.i64.wrap (k - (1 : Int)) = (5 : Int)))
                 (.ret (.tuple #[.int .i64 (2), .int .i64 (0)]))
                 (.ite (decide (IntKind.i64.wrap (k - (1 : Int)) = (4 : Int)))
                  (.ret (.tuple #[.int .i64 (2), .int .i64 (0)]))
                  (.ite (decide (IntKind.i64.wrap (k - (1 : Int)) = (3 : Int)))
                   (.ret (.tuple #[.int .i64 (2), .int .i64 (0)]))
                   (.ite (decide (IntKind.i64.wrap (k - (1 : Int)) = (2 : Int)))
                    (.ret (.tuple #[.int .i64 (2), .int .i64 (0)]))
                    (.ite (decide (IntKind.i64.wrap (k - (1 : Int)) = (1 : Int)))
                     (.ret (.tuple #[.int .i64 (1), .int .i64 (0)]))
                     (.ite (decide (IntKind.i64.wrap (k - (1 : Int)) = (0 : Int)))
                      (.ret (.tuple #[.int .i64 (1), .int .i64 (0)]))
                      (.fail)))))))))))))))))) := by kernel_rfl

def opRet (done none num : Prop) [Decidable done] [Decidable none] [Decidable num] (rk rn : Int) : Int :=
  if rk = 0 ∧ rn = 0 then (if done then 0 else 9) else if rk = 1 ∧ rn = 0 then (if none then 0 else 9) else if rk = 2 ∧ num then 0 else 9
def opNum (k rn : Int) : Prop :=
  if k = 1 ∨ k = 10 then False else if k = 2 ∨ k = 7 ∨ k = 8 ∨ k = 9 ∨ k = 11 then True else if k = 6 ∨ k = 12 ∨ k = 15 then 0 ≤ rn ∧ rn ≤ 4611686018427387904 else rn = 0 ∨ rn = 1
instance (k rn : Int) : Decidable (opNum k rn) := by unfold opNum; infer_instance
def opArgs (k a b : Int) : Prop :=
  (k = 2 ∨ k = 6 ∨ k = 11 ∨ k = 12 ∨ k = 15 → a = 0) ∧ (k ≠ 7 → b = 0) ∧ (k = 13 ∨ k = 14 → 0 ≤ a ∧ a ≤ 4611686018427387904)
instance (k a b : Int) : Decidable (opArgs k a b) := by unfold opArgs; infer_instance
def opChk (k a b rk rn : Int) : Int :=
  if k < 1 ∨ 15 < k then 6 else if opArgs k a b then opRet (k = 1 ∨ k = 10) (k = 7 ∨ k = 8 ∨ k = 9 ∨ k = 11) (opNum k rn) rk rn else 2
def opTy (k : Int) : Int := if k < 1 ∨ 15 < k then 0 else if k ≤ 2 then 1 else if k ≤ 6 then 2 else if k ≤ 9 then 3 else if k ≤ 12 then 4 else 5
def opTyE (k : Int) : Int := if k < 1 ∨ 15 < k then 6 else 0

def opCheckG : List CV → T CV
  | [.agg ⟨[.int .i64 k, .int .i64 a, .int .i64 b, .int .i64 rk, .int .i64 rn]⟩] => .ret (.int .i64 (opChk k a b rk rn))
  | _ => .fail
def opTypeG : List CV → T CV
  | [.int .i64 k] => .ret (.tuple #[.int .i64 (opTy k), .int .i64 (opTyE k)])
  | _ => .fail

theorem opType_fn : PureFn Tryz.prog 20 (sigExt [] opTypeG) :=
  pureFn_mk (bodied_ex (by kernel_rfl)) fun args d h => by
    unfold opTypeG at h
    split at h
    · rename_i k
      cases ev_ret h
      refine pureAt0 plainN mixedN noE noL (k := 30) ((opType_tree k).trans ?_) rfl
      by_cases hk : k < 1 ∨ 15 < k
      · have e : ∀ n : Int, 1 ≤ n → n ≤ 15 → (n == k) = false := fun n h1 h2 => by rw [beq_eq_false_iff_ne]; omega
        simp only [T.ev_ite, T.ev_ret, opTy, opTyE, hk, if_true, e 1 (by decide) (by decide), e 2 (by decide) (by decide), e 3 (by decide) (by decide), e 4 (by decide) (by decide), e 5 (by decide) (by decide), e 6 (by decide) (by decide), e 7 (by decide) (by decide), e 8 (by decide) (by decide), e 9 (by decide) (by decide), e 10 (by decide) (by decide), e 11 (by decide) (by decide), e 12 (by decide) (by decide), e 13 (by decide) (by decide), e 14 (by decide) (by decide), e 15 (by decide) (by decide), Bool.false_eq_true, if_false]
      · obtain rfl | rfl | rfl | rfl | rfl | rfl | rfl | rfl | rfl | rfl | rfl | rfl | rfl | rfl | rfl : k = 1 ∨ k = 2 ∨ k = 3 ∨ k = 4 ∨ k = 5 ∨ k = 6 ∨ k = 7 ∨ k = 8 ∨ k = 9 ∨ k = 10 ∨ k = 11 ∨ k = 12 ∨ k = 13 ∨ k = 14 ∨ k = 15 := by omega
        all_goals simp [T.ev_ite, T.ev_ret, opTy, opTyE]
    · exact (ev_fail h).elim
theorem ropType_fn : PureFn Tryz.prog 31 (sigExt [] opTypeG) :=
  pureFn_mk (bodied_ex (by kernel_rfl)) fun args d h => by
    unfold opTypeG at h
    split at h
    · rename_i k
      cases ev_ret h
      refine pureAt0 plainN mixedN noE noL (k := 30) ((ropType_tree k).trans ?_) rfl
      by_cases hk : k < 1 ∨ 15 < k
      · rcases hk with hk | hk
        · simp [T.ev_ite, T.ev_ret, opTy, opTyE, hk]
        · simp [T.ev_ite, T.ev_ret, opTy, opTyE, hk, show ¬ k < 1 by omega]
      · rw [show IntKind.i64.wrap (k - 1) = k - 1 from wrap64 (by omega) (by omega)]
        obtain rfl | rfl | rfl | rfl | rfl | rfl | rfl | rfl | rfl | rfl | rfl | rfl | rfl | rfl | rfl : k = 1 ∨ k = 2 ∨ k = 3 ∨ k = 4 ∨ k = 5 ∨ k = 6 ∨ k = 7 ∨ k = 8 ∨ k = 9 ∨ k = 10 ∨ k = 11 ∨ k = 12 ∨ k = 13 ∨ k = 14 ∨ k = 15 := by omega
        all_goals simp [T.ev_ite, T.ev_ret, opTy, opTyE]
    · exact (ev_fail h).elim

theorem opCheck_fn : PureFn Tryz.prog 26 (sigExt [] opCheckG) :=
  pureFn_mk (bodied_ex (by kernel_rfl)) fun args d h => by
    unfold opCheckG at h
    split at h
    · rename_i k a b rk rn
      cases ev_ret h
      refine pureAt0 plainN mixedN noE noL (k := 30) ((opCheck_tree k a b rk rn).trans ?_) rfl
      by_cases hk : k < 1 ∨ 15 < k
      · have e : ∀ n : Int, 1 ≤ n → n ≤ 15 → (n == k) = false := fun n h1 h2 => by rw [beq_eq_false_iff_ne]; omega
        simp only [T.ev_ite, T.ev_ret, opChk, hk, if_true, e 1 (by decide) (by decide), e 2 (by decide) (by decide), e 3 (by decide) (by decide), e 4 (by decide) (by decide), e 5 (by decide) (by decide), e 6 (by decide) (by decide), e 7 (by decide) (by decide), e 8 (by decide) (by decide), e 9 (by decide) (by decide), e 10 (by decide) (by decide), e 11 (by decide) (by decide), e 12 (by decide) (by decide), e 13 (by decide) (by decide), e 14 (by decide) (by decide), e 15 (by decide) (by decide), Bool.false_eq_true, if_false]
      · obtain rfl | rfl | rfl | rfl | rfl | rfl | rfl | rfl | rfl | rfl | rfl | rfl | rfl | rfl | rfl : k = 1 ∨ k = 2 ∨ k = 3 ∨ k = 4 ∨ k = 5 ∨ k = 6 ∨ k = 7 ∨ k = 8 ∨ k = 9 ∨ k = 10 ∨ k = 11 ∨ k = 12 ∨ k = 13 ∨ k = 14 ∨ k = 15 := by omega
        all_goals
          simp [T.ev_ite, T.ev_ret, opChk, opArgs, opNum, opRet]
          (repeat' split) <;> first | rfl | omega | (simp_all; done) | (simp_all; omega)
    · exact (ev_fail h).elim
theorem ropCheck_fn : PureFn Tryz.prog 30 (sigExt [] opCheckG) :=
  pureFn_mk (bodied_ex (by kernel_rfl)) fun args d h => by
    unfold opCheckG at h
    split at h
    · rename_i k a b rk rn
      cases ev_ret h
      refine pureAt0 plainN mixedN noE noL (k := 30) ((ropCheck_tree k a b rk rn).trans ?_) rfl
      by_cases hk : k < 1 ∨ 15 < k
      · rcases hk with hk | hk
        · simp [T.ev_ite, T.ev_ret, opChk, hk]
        · simp [T.ev_ite, T.ev_ret, opChk, hk, show ¬ k < 1 by omega]
      · rw [show IntKind.i64.wrap (k - 1) = k - 1 from wrap64 (by omega) (by omega)]
        obtain rfl | rfl | rfl | rfl | rfl | rfl | rfl | rfl | rfl | rfl | rfl | rfl | rfl | rfl | rfl : k = 1 ∨ k = 2 ∨ k = 3 ∨ k = 4 ∨ k = 5 ∨ k = 6 ∨ k = 7 ∨ k = 8 ∨ k = 9 ∨ k = 10 ∨ k = 11 ∨ k = 12 ∨ k = 13 ∨ k = 14 ∨ k = 15 := by omega
        all_goals
          simp [T.ev_ite, T.ev_ret, opChk, opArgs, opNum, opRet]
          (repeat' split) <;> first | rfl | omega | (simp_all; done) | (simp_all; omega)
    · exact (ev_fail h).elim

end Go.Proofs.YtecidokjhplbgaaGreatDoorD
