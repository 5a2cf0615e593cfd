/-
  Chapter 18: which operations commute: the law's tree.
-/
import Derived.Test.YtecidokjhplbgaaGreatDoorCmvAK
set_option linter.unusedVariables false
set_option linter.unusedSimpArgs false
namespace Go.Proofs.YtecidokjhplbgaaGreatDoorD
open Go Go.RowKit

set_option maxRecDepth 100000 in
theorem ctell_tree (k a b rk rn k' a' b' rk' rn' : Int) : (((tden Tryz.prog c18E [] 30).call 0 3 [.agg #[.int .i64 k, .int .i64 a, .int .i64 b, .int .i64 rk, .int .i64 rn], .agg #[.int .i64 k', .int .i64 a', .int .i64 b', .int .i64 rk', .int .i64 rn']] ⟨.nil, 0⟩).pure.cut
    (.yes (.yes (.yes (.yes (.yes (.yes (.ite (.yes (.yes (.yes (.all)))) (.no (.no (.no (.no (.no (.all)))))))))))))).ev = T.ev (α := CV) (
     .ite (cmIs (DOp.mk k a b (DRet.mk rk rn)) (DOp.mk k' a' b' (DRet.mk rk' rn')) == cmIs (DOp.mk k a b (DRet.mk rk rn)) (DOp.mk k' a' b' (DRet.mk rk' rn')))
      (.ite (cmEr (DOp.mk k a b (DRet.mk rk rn)) (DOp.mk k' a' b' (DRet.mk rk' rn')) == cmEr (DOp.mk k a b (DRet.mk rk rn)) (DOp.mk k' a' b' (DRet.mk rk' rn')))
       (.ite ((if opChk k a b rk rn = (0 : Int) then stillB k a b rk rn else false) == if opChk k a b rk rn = (0 : Int) then stillB k a b rk rn else false)
        (.ite (opChk k a b rk rn == opChk k a b rk rn)
         (.ret (.bool true))
         .fail)
        (.ret (.bool false)))
       .fail)
      .fail) := by kernel_rfl

end Go.Proofs.YtecidokjhplbgaaGreatDoorD
