/-
  Chapter 07: the law SetGrows' tree.
-/
import Derived.Test.YtdefopkieleojaaSetZ
set_option linter.unusedVariables false
set_option linter.unusedSimpArgs false
namespace Go.Proofs.YtdefopkieleojaaD
open Go Go.RowKit

set_option maxRecDepth 100000 in
theorem grows_tree (l : List Int) : (((tden Try.prog lawE gbL 30).call 0 7 [.pl .ints l] ⟨.nil, 0⟩).pure.cut
    (.ite (.all) (.ite (.ite (.yes (.yes (.yes (.yes (.yes (.yes (.yes (.yes (.ite (.ite (.yes (.yes (.yes (.ite (.yes (.yes (.yes (.all)))) (.all))))) (.no (.no (.no (.no (.no (.all))))))) (.all)))))))))) (.all)) (.all)))).ev = T.ev (α := CV) (
     .ite (decide ((↑l.length : Int) > (60 : Int)))
      (.ret (.bool true))
      (.ite ((0 : Int) == (0 : Int) && (0 : Int) == (0 : Int) && (2 : Int) == (2 : Int) && (0 : Int) == (0 : Int) && (2 : Int) == (2 : Int) && (0 : Int) == (0 : Int) && l.length.ble (1000000 : Nat))
       (.ite ((0 : Int) == (0 : Int) && riseB (grow [] l) && allHas (grow [] l) l && l.length.ble (1000000 : Nat) && (grow [] l).length.ble (1000000 : Nat))
        (.ite ((↑(grow [] l).length : Int) == (↑(grow [] l).length : Int))
         (.ite (small (grow [] l).length)
          (.ite ((2 : Int) == (2 : Int) && (0 : Int) == (0 : Int) && grow [] l == grow [] l)
           (.ite (l.length.ble (1000000 : Nat))
            (.ite (decide (grow [] l = grow [] l))
             (.ite (small (grow [] l).length)
              (.ret (.bool (grow [] l == grow [] l)))
              .fail)
             .fail)
            (.fail))
           (.ret (.bool false)))
          (.fail))
         .fail)
        (.fail))
       (.fail))) := by kernel_rfl

end Go.Proofs.YtdefopkieleojaaD
