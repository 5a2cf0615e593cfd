/-
  Chapter 07: the law SetLists' tree.
-/
import Derived.Test.YtdefopkieleojaaSetP
set_option linter.unusedVariables false
set_option linter.unusedSimpArgs false
namespace Go.Proofs.YtdefopkieleojaaD
open Go Go.RowKit

set_option maxRecDepth 100000 in
theorem lists_tree (l : List Int) (x : Int) : (((tden Try.prog lawE [] 30).call 0 4 [.pl .ints l, .int .i64 x] ⟨.nil, 0⟩).pure.cut
    (.ite (.all) (.ite (.ite (.ite (.ite (.yes (.yes (.ite (.yes (.yes (.yes (.yes (.yes (.yes (.yes (.yes (.yes (.ite (.yes (.yes (.yes (.yes (.yes (.yes (.ite (.yes (.ite (.ite (.yes (.yes (.yes (.yes (.all))))) (.no (.no (.no (.no (.no (.all))))))) (.all))) (.all)))))))) (.all))))))))))) (.yes (.yes (.yes (.yes (.yes (.yes (.yes (.yes (.yes (.ite (.yes (.yes (.yes (.yes (.yes (.yes (.yes (.yes (.yes (.ite (.yes (.yes (.yes (.yes (.all))))) (.no (.no (.no (.no (.no (.all)))))))))))))))) (.all)))))))))))))) (.all)) (.all)) (.all)) (.all)))).ev = T.ev (α := CV) (
     .ite (decide ((↑l.length : Int) > (60 : Int)))
      (.ret (.bool true))
      (.ite (l.length.ble (1000000 : Nat))
       (.ite (small (grow [] l).length)
        (.ite (midB (grow [] l) && riseB (grow [] l))
         (.ite (midB (grow [] l))
          (.ite (midB (grow [] l) && riseB (grow [] l))
           (.ite (midB (grow [] l) && riseB (grow [] l))
            (.ite (hasN (grow [] l) x)
             (.ite ((↑(cntN (grow [] l) x) : Int) == (↑(cntN (grow [] l) x) : Int))
              (.ite (hasN (grow [] l) x == hasN (grow [] l) x)
               (.ite (midB (grow [] l))
                (.ite (small (withN (grow [] l) x).length)
                 (.ite (withN (grow [] l) x == withN (grow [] l) x)
                  (.ite (midB (grow [] l))
                   (.ite (small (List.take ((grow [] l).length - (1 : Nat)) (List.drop (0 : Nat) (lessRow (grow [] l) (cntN (grow [] l) x)))).length)
                    (.ite (small (withN (grow [] l) x).length)
                     (.ite (small ((grow [] l).length - (1 : Nat)) && ((0 : Nat) + ((grow [] l).length - (1 : Nat))).ble (lessRow (grow [] l) (cntN (grow [] l) x)).length)
                      (.ite (List.take ((grow [] l).length - (1 : Nat)) (List.drop (0 : Nat) (lessRow (grow [] l) (cntN (grow [] l) x))) == lessN (grow [] l) x)
                       (.ite (small (grow [] l).length)
                        (.ite (grow [] l == grow [] l)
                         (.ret (.bool true))
                         .fail)
                        .fail)
                       (.ret (.bool false)))
                      (.fail))
                     .fail)
                    (.fail))
                   .fail)
                  .fail)
                 (.fail))
                .fail)
               .fail)
              .fail)
             (.ite ((↑(cntN (grow [] l) x) : Int) == (↑(cntN (grow [] l) x) : Int))
              (.ite (hasN (grow [] l) x == hasN (grow [] l) x)
               (.ite (midB (grow [] l))
                (.ite (small (withN (grow [] l) x).length)
                 (.ite (withN (grow [] l) x == withN (grow [] l) x)
                  (.ite (midB (grow [] l))
                   (.ite (small (grow [] l).length)
                    (.ite (small (withN (grow [] l) x).length)
                     (.ite (small (grow [] l).length)
                      (.ite (grow [] l == lessN (grow [] l) x)
                       (.ite (small (grow [] l).length)
                        (.ite (grow [] l == grow [] l)
                         (.ret (.bool true))
                         .fail)
                        .fail)
                       (.ret (.bool false)))
                      .fail)
                     .fail)
                    .fail)
                   .fail)
                  .fail)
                 (.fail))
                .fail)
               .fail)
              .fail))
            .fail)
           .fail)
          (.fail))
         (.fail))
        (.fail))
       (.fail))) := by kernel_rfl

end Go.Proofs.YtdefopkieleojaaD
