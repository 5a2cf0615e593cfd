/-
  Chapter 07: trees of finding, of the document's lists.
-/
import Derived.Test.YtdefopkieleojaaSetD
set_option linter.unusedVariables false
set_option linter.unusedSimpArgs false
namespace Go.Proofs.YtdefopkieleojaaD
open Go Go.RowKit

set_option maxRecDepth 100000 in
theorem rfind_tree (l : List Int) (x : Int) : (((tden Try.prog [] setL 30).call 0 17 [.pl .ints l, .int .i64 x] ⟨.nil, 0⟩).pure.cut
    (.ite (.all) (.all))).ev = T.ev (α := CV) (
     .ite ((0 : Int) == (0 : Int) && (0 : Int) == (0 : Int) && small l.length)
      (.ret (.tuple #[.int .i64 ((↑(cntN l x) : Int)), .bool (false || hasN l x)]))
      (.fail)) := by kernel_rfl
set_option maxRecDepth 100000 in
theorem rwith_tree (l : List Int) (x : Int) : (((tden Try.prog [] setL 30).call 0 21 [.pl .ints l, .int .i64 x] ⟨.nil, 0⟩).pure.cut
    (.ite (.ite (.ite (.all) (.all)) (.all)) (.all))).ev = T.ev (α := CV) (
     .ite ((0 : Int) == (0 : Int) && l.length.ble (400000000 : Nat))
      (.ite (!(withR false l x).fst)
       (.ite (roomB ((withR false l x).snd.length + [x].length) (8 : Nat))
        (.ret (.pl .ints ((withR false l x).snd ++ [x])))
        (.fail))
       (.ret (.pl .ints ((withR false l x).snd))))
      (.fail)) := by kernel_rfl
set_option maxRecDepth 100000 in
theorem rless_tree (l : List Int) (x : Int) : (((tden Try.prog [] setL 30).call 0 22 [.pl .ints l, .int .i64 x] ⟨.nil, 0⟩).pure.cut
    (.ite (.all) (.all))).ev = T.ev (α := CV) (
     .ite ((0 : Int) == (0 : Int) && small l.length)
      (.ret (.pl .ints (lessN l x)))
      (.fail)) := by kernel_rfl
set_option maxRecDepth 100000 in
theorem find_tree (l : List Int) (x : Int) : (((tden Try.prog [] setL 30).call 0 16 [.pl .ints l, .int .i64 x] ⟨.nil, 0⟩).pure.cut
    (.ite (.yes (.ite (.yes (.yes (.ite (.yes (.yes (.yes (.all)))) (.all)))) (.no (.no (.no (.no (.no (.no (.all))))))))) (.all))).ev = T.ev (α := CV) (
     .ite ((0 : Int) == (0 : Int) && (↑l.length : Int) == (↑l.length : Int) && (0 : Int) == (0 : Int) && small l.length && riseB l)
      (.ite (decide ((↑(cntN l x) : Int) < (↑l.length : Int)))
       (.ite (inRange (↑(cntN l x) : Int) l.length)
        (.ret (.tuple #[.int .i64 ((↑(cntN l x) : Int)), .bool (l.getD (↑(cntN l x) : Int).toNat RC.ints.zero == x)]))
        (.fail))
       (.ret (.tuple #[.int .i64 ((↑(cntN l x) : Int)), .bool false])))
      (.fail)) := by kernel_rfl

end Go.Proofs.YtdefopkieleojaaD
