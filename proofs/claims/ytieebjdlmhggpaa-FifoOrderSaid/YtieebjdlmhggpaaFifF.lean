/-
  Chapter 09: trees of what is drained, of beginnings.
-/
import Derived.Test.YtieebjdlmhggpaaFifE
set_option linter.unusedVariables false
set_option linter.unusedSimpArgs false
namespace Go.Proofs.YtieebjdlmhggpaaD
open Go Go.RowKit

set_option maxRecDepth 100000 in
theorem equal_tree (l m : List Int) : (((tden Try.prog [] fifL1 30).call 0 32 [.pl .ints l, .pl .ints m] ⟨.nil, 0⟩).pure.cut
    (.ite (.all) (.ite (.ite (.all) (.all)) (.all)))).ev = T.ev (α := CV) (
     .ite ((↑l.length : Int) != (↑m.length : Int))
      (.ret (.bool false))
      (.ite ((0 : Int) == (0 : Int) && (↑l.length : Int) == (↑l.length : Int) && l.length == m.length && small l.length)
       (.ite (decide (l = m))
        (.ret (.bool true))
        (.ret (.bool false)))
       (.fail))) := by kernel_rfl
set_option maxRecDepth 100000 in
theorem rstarts_tree (l m : List Int) : (((tden Try.prog [] fifL1 30).call 0 18 [.pl .ints l, .pl .ints m] ⟨.nil, 0⟩).pure.cut
    (.ite (.all) (.ite (.ite (.all) (.all)) (.all)))).ev = T.ev (α := CV) (
     .ite (decide ((↑m.length : Int) > (↑l.length : Int)))
      (.ret (.bool false))
      (.ite ((0 : Int) == (0 : Int) && m.length.ble l.length && small l.length)
       (.ite (decide (List.take m.length l = m))
        (.ret (.bool true))
        (.ret (.bool false)))
       (.fail))) := by kernel_rfl
/- Int -/
def drEnd0 : NSt := ⟨[.tuple #[.slice none (0) (0), .int .i64 (0)]], [], [], 0⟩
/- Int, List (RC.den .ints) -/
def drEnd1 : NSt := ⟨[.tuple #[.row 0 1 (0), .int .i64 (0)]], [], [(0, .rows .ints [])], 1⟩
set_option maxRecDepth 100000 in
theorem drain_tree (t n : Int) (l : List Int) : ((stRunV Try.prog cloneE fifL2 [] 30 14 ⟨[.agg #[.int .i64 t, .int .i64 n, .pl .ints l]], [], [], 0⟩).cut
    (.ite (.yes (.ite (.yes (.ite (.all) (.yes (.ite (.yes (.all)) (.ite (.ite (.ite (.ite (.yes (.all)) (.all)) (.all)) (.all)) (.all)))))) (.all))) (.no (.no (.no (.yes (.all))))))).ev = T.ev (α := NSt) (
     .ite (t == (4 : Int))
      (.ite (small l.length)
       (.ite (!checkN t n l == (0 : Int))
        (stAt drEnd0 [.i (12)])
        (.ite (small l.length)
         (.ite ((↑l.length : Int) == (0 : Int))
          (stAt drEnd0 [.i (0)])
          (.ite (inRange (0 : Int) l.length)
           (.ite ((Int.toNat (0 : Int)).blt l.length)
            (.ite (decide ((0 : Int) ≤ (1 : Int)) && decide ((1 : Int) ≤ (↑(hi0 l.length none) : Int)))
             (.ite ((lo0 (some (Int.toNat (1 : Int)))).beq (1 : Nat) && (hi0 l.length none - lo0 (some (Int.toNat (1 : Int)))).beq (l.length - lo0 (some (Int.toNat (1 : Int)))) && (hi0 l.length none - lo0 (some (Int.toNat (1 : Int))) + (1 : Nat)).beq l.length && small l.length && decide (l.getD (Int.toNat (0 : Int)) RC.ints.zero = l.getD (0 : Nat) (0 : RC.ints.den)))
              (stAt drEnd1 [.i (0), .l .ints (l)])
              (.fail))
             (.fail))
            (.fail))
           (.fail)))
         .fail))
       (.fail))
      (stAt drEnd0 [.i (12)])) := by kernel_rfl
set_option maxRecDepth 100000 in
theorem rdrain_tree (t n : Int) (l : List Int) : (((tden Try.prog kitE [] 30).call 0 15 [.agg #[.int .i64 t, .int .i64 n, .pl .ints l]] ⟨.nil, 0⟩).pure.cut
    (.ite (.yes (.yes (.yes (.yes (.all))))) (.no (.ite (.no (.ite (.all) (.ite (.all) (.all)))) (.all))))).ev = T.ev (α := CV) (
     .ite (t != (4 : Int))
      (.ret (.tuple #[.slice none (0) (0), .int .i64 (12)]))
      (.ite (small l.length)
       (.ite (checkN t n l != (0 : Int))
        (.ret (.tuple #[.slice none (0) (0), .int .i64 (12)]))
        (.ite (roomB l.length (8 : Nat))
         (.ret (.tuple #[.pl .ints (l), .int .i64 (0)]))
         (.fail)))
       (.fail))) := by kernel_rfl

end Go.Proofs.YtieebjdlmhggpaaD
