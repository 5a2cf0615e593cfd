/-
  Chapter 11: the law MachineTotal's tree.
-/
import Derived.Test.YtcomfanipljolaaMchG
set_option linter.unusedVariables false
set_option linter.unusedSimpArgs false
namespace Go.Proofs.YtcomfanipljolaaD
open Go Go.RowKit

set_option maxRecDepth 100000 in
theorem total_tree (t n : Int) (l : List Int) (w a b rk rn : Int) : (((tden Try.prog lawE [] 30).call 0 6 [.agg #[.int .i64 t, .int .i64 n, .pl .ints l], .int .i64 w, .int .i64 a, .int .i64 b, .agg #[.int .i64 rk, .int .i64 rn]] ⟨.nil, 0⟩).pure.cut
    (.ite (.yes (.yes (.yes (.yes (.all))))) (.no (.ite (.no (.ite (.all) (.ite (.ite (.ite (.yes (.yes (.yes (.yes (.yes (.yes (.yes (.yes (.yes (.yes (.yes (.yes (.yes (.yes (.yes (.yes (.all))))))))))))))))) (.no (.ite (.yes (.yes (.yes (.yes (.yes (.yes (.yes (.yes (.yes (.yes (.yes (.yes (.yes (.all)))))))))))))) (.no (.ite (.yes (.yes (.yes (.yes (.yes (.yes (.yes (.yes (.yes (.yes (.all))))))))))) (.no (.no (.no (.no (.ite (.yes (.yes (.yes (.yes (.all))))) (.no (.ite (.no (.ite (.all) (.yes (.yes (.yes (.ite (.yes (.ite (.yes (.yes (.yes (.ite (.yes (.yes (.yes (.yes (.yes (.yes (.all))))))) (.no (.no (.no (.no (.no (.no (.no (.no (.all))))))))))))) (.no (.no (.no (.no (.no (.no (.no (.no (.no (.no (.no (.no (.all))))))))))))))) (.no (.no (.no (.no (.no (.no (.no (.no (.no (.no (.no (.no (.no (.no (.no (.all)))))))))))))))))))))) (.all))))))))))))) (.all)) (.all)))) (.all))))).ev = T.ev (α := CV) (
     .ite (decide ((↑l.length : Int) > (60 : Int)))
      (.ret (.bool true))
      (.ite (small l.length)
       (.ite (checkN t n l != (0 : Int))
        (.ret (.bool true))
        (.ite (Ctr.inI64 w && Ctr.inI64 a)
         (.ite (machB l (mayX t w a b) (mayY t w b))
          (.ite ((typeA (mayK t w)).fst != t)
           (.ret (.bool false))
           (.ite ((typeA (mayK t w)).snd != (0 : Int))
            (.ret (.bool false))
            (.ite ((machA t n l (mayK t w) (mayX t w a b) (mayY t w b)).e != (0 : Int))
             (.ret (.bool false))
             (.ite ((machA t n l (mayK t w) (mayX t w a b) (mayY t w b)).s.type != t)
              (.ret (.bool false))
              (.ite (small (machA t n l (mayK t w) (mayX t w a b) (mayY t w b)).s.l.length)
               (.ite (checkN (machA t n l (mayK t w) (mayX t w a b) (mayY t w b)).s.type (machA t n l (mayK t w) (mayX t w a b) (mayY t w b)).s.n (machA t n l (mayK t w) (mayX t w a b) (mayY t w b)).s.l != (0 : Int))
                (.ret (.bool false))
                (.ite (machB l (mayX t w a b) (mayY t w b))
                 (.ite (machB l (mayX t w a b) (mayY t w b))
                  (.ite (legB (machA t n l (mayK t w) (mayX t w a b) (mayY t w b)) (machA t n l (mayK t w) (mayX t w a b) (mayY t w b)).r.kind (machA t n l (mayK t w) (mayX t w a b) (mayY t w b)).r.n)
                   (.ite ((machA t n l (mayK t w) (mayX t w a b) (mayY t w b)).e == (0 : Int))
                    (.ite (small (machA t n l (mayK t w) (mayX t w a b) (mayY t w b)).s.l.length)
                     (.ite ((machA t n l (mayK t w) (mayX t w a b) (mayY t w b)).s.type == (machA t n l (mayK t w) (mayX t w a b) (mayY t w b)).s.type && (machA t n l (mayK t w) (mayX t w a b) (mayY t w b)).s.n == (machA t n l (mayK t w) (mayX t w a b) (mayY t w b)).s.n && (machA t n l (mayK t w) (mayX t w a b) (mayY t w b)).s.l == (machA t n l (mayK t w) (mayX t w a b) (mayY t w b)).s.l)
                      (.ite ((machA t n l (mayK t w) (mayX t w a b) (mayY t w b)).e == (0 : Int))
                       (.ret (.bool (legB (machA t n l (mayK t w) (mayX t w a b) (mayY t w b)) rk rn == (rk == (machA t n l (mayK t w) (mayX t w a b) (mayY t w b)).r.kind && (rn == (machA t n l (mayK t w) (mayX t w a b) (mayY t w b)).r.n && true)))))
                       .fail)
                      (.ret (.bool false)))
                     .fail)
                    (.ret (.bool false)))
                   (.ret (.bool false)))
                  .fail)
                 .fail))
               (.fail))))))
          (.fail))
         (.fail)))
       (.fail))) := by kernel_rfl

end Go.Proofs.YtcomfanipljolaaD
