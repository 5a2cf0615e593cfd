/-
  Chapter 06: trees.
-/
import Derived.Test.YtncbiabbkgkdiaaCtrA
set_option linter.unusedVariables false
set_option linter.unusedSimpArgs false
namespace Go.Proofs.YtncbiabbkgkdiaaD
open Go Go.RowKit

set_option maxRecDepth 100000 in
theorem ctrApply_tree (t n : Int) (l : List Int) (k a b : Int) : (((tden Try.prog kitE [] 30).call 0 10 [.agg #[.int .i64 t, .int .i64 n, .pl .ints l], .int .i64 k, .int .i64 a, .int .i64 b] ⟨.nil, 0⟩).pure.cut
    (.ite (.yes (.yes (.yes (.yes (.all))))) (.no (.ite (.no (.ite (.all) (.ite (.ite (.all) (.yes (.yes (.all)))) (.ite (.ite (.all) (.yes (.yes (.all)))) (.all))))) (.all))))).ev = T.ev (α := CV) (
     .ite (t != (1 : Int))
      (.ret (.tuple #[.agg #[.int .i64 (0), .int .i64 (0), .slice none (0) (0)], .agg #[.int .i64 (0), .int .i64 (0)], .int .i64 (12)]))
      (.ite (small l.length)
       (.ite (checkN t n l != (0 : Int))
        (.ret (.tuple #[.agg #[.int .i64 (0), .int .i64 (0), .slice none (0) (0)], .agg #[.int .i64 (0), .int .i64 (0)], .int .i64 (12)]))
        (.ite (k == (1 : Int))
         (.ite (b != (0 : Int))
          (.ret (.tuple #[.agg #[.int .i64 (0), .int .i64 (0), .slice none (0) (0)], .agg #[.int .i64 (0), .int .i64 (0)], .int .i64 (2)]))
          (.ret (.tuple #[.agg #[.int .i64 (1), .int .i64 (IntKind.i64.wrap (IntKind.u64.wrap (IntKind.u64.wrap n + IntKind.u64.wrap a))), .slice none (0) (0)], .agg #[.int .i64 (0), .int .i64 (0)], .int .i64 (0)])))
         (.ite (k == (2 : Int))
          (.ite (IntKind.i64.wrap (↑(BitVec.ofInt IntKind.i64.bits b ||| BitVec.ofInt IntKind.i64.bits a).toNat : Int) != (0 : Int))
           (.ret (.tuple #[.agg #[.int .i64 (0), .int .i64 (0), .slice none (0) (0)], .agg #[.int .i64 (0), .int .i64 (0)], .int .i64 (2)]))
           (.ite (decide (n = n))
            (.ret (.tuple #[.agg #[.int .i64 (1), .int .i64 (n), .slice none (0) (0)], .agg #[.int .i64 (2), .int .i64 (n)], .int .i64 (0)]))
            .fail))
          (.ret (.tuple #[.agg #[.int .i64 (0), .int .i64 (0), .slice none (0) (0)], .agg #[.int .i64 (0), .int .i64 (0)], .int .i64 (6)])))))
       (.fail))) := by kernel_rfl
set_option maxRecDepth 100000 in
theorem rctrApply_tree (t n : Int) (l : List Int) (k a b : Int) : (((tden Try.prog kitE [] 30).call 0 11 [.agg #[.int .i64 t, .int .i64 n, .pl .ints l], .int .i64 k, .int .i64 a, .int .i64 b] ⟨.nil, 0⟩).pure.cut
    (.ite (.yes (.yes (.yes (.yes (.all))))) (.no (.ite (.no (.ite (.all) (.ite (.yes (.ite (.all) (.ite (.yes (.yes (.yes (.yes (.yes (.all)))))) (.no (.no (.ite (.yes (.no (.ite (.all) (.yes (.yes (.all)))))) (.no (.no (.no (.no (.no (.all)))))))))))) (.no (.no (.no (.ite (.yes (.yes (.yes (.yes (.yes (.all)))))) (.no (.no (.ite (.yes (.no (.ite (.all) (.yes (.yes (.all)))))) (.no (.no (.no (.no (.no (.all)))))))))))))))) (.all))))).ev = T.ev (α := CV) (
     .ite (t != (1 : Int))
      (.ret (.tuple #[.agg #[.int .i64 (0), .int .i64 (0), .slice none (0) (0)], .agg #[.int .i64 (0), .int .i64 (0)], .int .i64 (12)]))
      (.ite (small l.length)
       (.ite (checkN t n l != (0 : Int))
        (.ret (.tuple #[.agg #[.int .i64 (0), .int .i64 (0), .slice none (0) (0)], .agg #[.int .i64 (0), .int .i64 (0)], .int .i64 (12)]))
        (.ite (k != (1 : Int))
         (.ite (k != (2 : Int))
          (.ret (.tuple #[.agg #[.int .i64 (0), .int .i64 (0), .slice none (0) (0)], .agg #[.int .i64 (0), .int .i64 (0)], .int .i64 (6)]))
          (.ite (b != (0 : Int))
           (.ret (.tuple #[.agg #[.int .i64 (0), .int .i64 (0), .slice none (0) (0)], .agg #[.int .i64 (0), .int .i64 (0)], .int .i64 (2)]))
           (.ite (k == (2 : Int))
            (.ite (a != (0 : Int))
             (.ret (.tuple #[.agg #[.int .i64 (0), .int .i64 (0), .slice none (0) (0)], .agg #[.int .i64 (0), .int .i64 (0)], .int .i64 (2)]))
             (.ite (k == (2 : Int))
              (.ite (decide (n = n))
               (.ret (.tuple #[.agg #[.int .i64 (1), .int .i64 (n), .slice none (0) (0)], .agg #[.int .i64 (2), .int .i64 (n)], .int .i64 (0)]))
               .fail)
              .fail))
            (.ite (k == (2 : Int)) .fail
             (.ret (.tuple #[.agg #[.int .i64 (1), .int .i64 (IntKind.i64.wrap (IntKind.u64.wrap (IntKind.u64.wrap n + IntKind.u64.wrap a))), .slice none (0) (0)], .agg #[.int .i64 (0), .int .i64 (0)], .int .i64 (0)]))))))
         (.ite (b != (0 : Int))
          (.ret (.tuple #[.agg #[.int .i64 (0), .int .i64 (0), .slice none (0) (0)], .agg #[.int .i64 (0), .int .i64 (0)], .int .i64 (2)]))
          (.ite (k == (2 : Int))
           (.ite (a != (0 : Int))
            (.ret (.tuple #[.agg #[.int .i64 (0), .int .i64 (0), .slice none (0) (0)], .agg #[.int .i64 (0), .int .i64 (0)], .int .i64 (2)]))
            (.ite (k == (2 : Int))
             (.ite (decide (n = n))
              (.ret (.tuple #[.agg #[.int .i64 (1), .int .i64 (n), .slice none (0) (0)], .agg #[.int .i64 (2), .int .i64 (n)], .int .i64 (0)]))
              .fail)
             .fail))
           (.ite (k == (2 : Int)) .fail
            (.ret (.tuple #[.agg #[.int .i64 (1), .int .i64 (IntKind.i64.wrap (IntKind.u64.wrap (IntKind.u64.wrap n + IntKind.u64.wrap a))), .slice none (0) (0)], .agg #[.int .i64 (0), .int .i64 (0)], .int .i64 (0)])))))))
       (.fail))) := by kernel_rfl

end Go.Proofs.YtncbiabbkgkdiaaD
