/-
  Chapter 09: the law FifoOrder's tree.
-/
import Derived.Test.YtieebjdlmhggpaaFifM
set_option linter.unusedVariables false
set_option linter.unusedSimpArgs false
namespace Go.Proofs.YtieebjdlmhggpaaD
open Go Go.RowKit

set_option maxRecDepth 100000 in
theorem order_tree (l c : List Int) : (((tden Try.prog lawE foL 30).call 0 6 [.pl .ints l, .pl .ints c] ⟨.nil, 0⟩).pure.cut
    (.ite (.yes (.yes (.yes (.yes (.all))))) (.no (.no (.ite (.all) (.ite (.ite (.yes (.ite (.yes (.yes (.yes (.yes (.yes (.yes (.yes (.ite (.ite (.yes (.yes (.all))) (.all)) (.all))))))))) (.yes (.yes (.yes (.yes (.yes (.yes (.yes (.ite (.ite (.yes (.yes (.all))) (.all)) (.all))))))))))) (.all)) (.all))))))).ev = T.ev (α := CV) (
     .ite (decide ((↑l.length : Int) > (60 : Int)))
      (.ret (.bool true))
      (.ite (decide ((↑c.length : Int) > (120 : Int)))
       (.ret (.bool true))
       (.ite ((0 : Int) == (0 : Int) && (0 : Int) == (0 : Int) && (0 : Int) == (0 : Int) && (4 : Int) == (4 : Int) && (0 : Int) == (0 : Int) && l.length.ble (1000000 : Nat) && c.length.ble (1000000 : Nat))
        (.ite (small (sl l (foF l.length c ((0 : Nat), (0 : Nat))).snd (foF l.length c ((0 : Nat), (0 : Nat))).fst).length)
         (.ite ((sl l (foF l.length c ((0 : Nat), (0 : Nat))).snd (foF l.length c ((0 : Nat), (0 : Nat))).fst).isEmpty)
          (.ite (decide ((0 : Int) ≤ (↑(foF l.length c ((0 : Nat), (0 : Nat))).fst : Int)) && decide ((↑(foF l.length c ((0 : Nat), (0 : Nat))).fst : Int) ≤ (↑l.length : Int)))
           (.ite (decide ((0 : Int) ≤ (↑(foF l.length c ((0 : Nat), (0 : Nat))).snd : Int)) && decide ((↑(foF l.length c ((0 : Nat), (0 : Nat))).snd : Int) ≤ (↑(hi0 l.length (some (↑(foF l.length c ((0 : Nat), (0 : Nat))).fst : Int).toNat)) : Int)))
            (.ret (.bool ([] == lpart l (some (↑(foF l.length c ((0 : Nat), (0 : Nat))).snd : Int).toNat) (some (↑(foF l.length c ((0 : Nat), (0 : Nat))).fst : Int).toNat))))
            (.fail))
           (.fail))
          (.ite (decide ((0 : Int) ≤ (↑(foF l.length c ((0 : Nat), (0 : Nat))).fst : Int)) && decide ((↑(foF l.length c ((0 : Nat), (0 : Nat))).fst : Int) ≤ (↑l.length : Int)))
           (.ite (decide ((0 : Int) ≤ (↑(foF l.length c ((0 : Nat), (0 : Nat))).snd : Int)) && decide ((↑(foF l.length c ((0 : Nat), (0 : Nat))).snd : Int) ≤ (↑(hi0 l.length (some (↑(foF l.length c ((0 : Nat), (0 : Nat))).fst : Int).toNat)) : Int)))
            (.ite (small (sl l (foF l.length c ((0 : Nat), (0 : Nat))).snd (foF l.length c ((0 : Nat), (0 : Nat))).fst).length)
             (.ret (.bool (sl l (foF l.length c ((0 : Nat), (0 : Nat))).snd (foF l.length c ((0 : Nat), (0 : Nat))).fst == lpart l (some (↑(foF l.length c ((0 : Nat), (0 : Nat))).snd : Int).toNat) (some (↑(foF l.length c ((0 : Nat), (0 : Nat))).fst : Int).toNat))))
             .fail)
            (.fail))
           (.fail)))
         (.fail))
        (.fail)))) := by kernel_rfl

end Go.Proofs.YtieebjdlmhggpaaD
