/-
  Chapter 09: trees.
-/
import Derived.Test.YtieebjdlmhggpaaFifA
set_option linter.unusedVariables false
set_option linter.unusedSimpArgs false
namespace Go.Proofs.YtieebjdlmhggpaaD
open Go Go.RowKit

set_option maxRecDepth 100000 in
theorem fifoApply_tree (t n : Int) (l : List Int) (k a b : Int) : (((tden Try.prog cloneE [] 30).call 0 10 [.agg #[.int .i64 t, .int .i64 n, .pl .ints l], .int .i64 k, .int .i64 a, .int .i64 b] ⟨.nil, 0⟩).pure.cut
    (.ite (.yes (.ite (.yes (.ite (.all) (.ite (.yes (.yes (.yes (.all)))) (.no (.ite (.all) (.ite (.yes (.yes (.yes (.yes (.yes (.all)))))) (.no (.no (.ite (.yes (.no (.ite (.all) (.yes (.ite (.ite (.yes (.yes (.all))) (.all)) (.ite (.ite (.no (.yes (.yes (.all)))) (.ite (.ite (.ite (.yes (.yes (.yes (.all)))) (.all)) (.all)) (.all))) (.yes (.yes (.all))))))))) (.no (.no (.no (.no (.yes (.ite (.ite (.yes (.yes (.all))) (.all)) (.ite (.ite (.no (.yes (.yes (.all)))) (.ite (.ite (.ite (.yes (.yes (.yes (.all)))) (.all)) (.all)) (.all))) (.yes (.yes (.all))))))))))))))))))) (.all))) (.no (.no (.no (.yes (.all))))))).ev = T.ev (α := CV) (
     .ite (t == (4 : Int))
      (.ite (small l.length)
       (.ite (!checkN t n l == (0 : Int))
        (.ret (.tuple #[.agg #[.int .i64 (0), .int .i64 (0), .slice none (0) (0)], .agg #[.int .i64 (0), .int .i64 (0)], .int .i64 (12)]))
        (.ite (decide (k < (10 : Int)))
         (.ret (.tuple #[.agg #[.int .i64 (0), .int .i64 (0), .slice none (0) (0)], .agg #[.int .i64 (0), .int .i64 (0)], .int .i64 (6)]))
         (.ite (decide (k > (12 : Int)))
          (.ret (.tuple #[.agg #[.int .i64 (0), .int .i64 (0), .slice none (0) (0)], .agg #[.int .i64 (0), .int .i64 (0)], .int .i64 (6)]))
          (.ite (b != (0 : Int))
           (.ret (.tuple #[.agg #[.int .i64 (0), .int .i64 (0), .slice none (0) (0)], .agg #[.int .i64 (0), .int .i64 (0)], .int .i64 (2)]))
           (.ite (k != (10 : Int))
            (.ite (a != (0 : Int))
             (.ret (.tuple #[.agg #[.int .i64 (0), .int .i64 (0), .slice none (0) (0)], .agg #[.int .i64 (0), .int .i64 (0)], .int .i64 (2)]))
             (.ite (small l.length)
              (.ite (k == (10 : Int))
               (.ite (roomB (l.length + [a].length) (8 : Nat))
                (.ret (.tuple #[.agg #[.int .i64 (4), .int .i64 (0), .pl .ints (l ++ [a])], .agg #[.int .i64 (0), .int .i64 (0)], .int .i64 (0)]))
                (.fail))
               (.ite (k == (11 : Int))
                (.ite ((↑l.length : Int) == (0 : Int))
                 (.ret (.tuple #[.agg #[.int .i64 (4), .int .i64 (0), .pl .ints (l)], .agg #[.int .i64 (1), .int .i64 (0)], .int .i64 (0)]))
                 (.ite (inRange (0 : Int) l.length)
                  (.ite ((Int.toNat (0 : Int)).blt l.length)
                   (.ite (decide ((0 : Int) ≤ (1 : Int)) && decide ((1 : Int) ≤ (↑(hi0 l.length none) : Int)))
                    (.ite (decide (l.getD (Int.toNat (0 : Int)) RC.ints.zero = l.getD (Int.toNat (0 : Int)) RC.ints.zero))
                     (.ret (.tuple #[.agg #[.int .i64 (4), .int .i64 (0), .pl .ints (List.take (hi0 l.length none - lo0 (some (Int.toNat (1 : Int)))) (List.drop (lo0 (some (Int.toNat (1 : Int)))) l))], .agg #[.int .i64 (2), .int .i64 (l.getD (Int.toNat (0 : Int)) RC.ints.zero)], .int .i64 (0)]))
                     .fail)
                    (.fail))
                   (.fail))
                  (.fail)))
                (.ite (decide ((↑l.length : Int) = (↑l.length : Int)))
                 (.ret (.tuple #[.agg #[.int .i64 (4), .int .i64 (0), .pl .ints (l)], .agg #[.int .i64 (2), .int .i64 ((↑l.length : Int))], .int .i64 (0)]))
                 .fail)))
              .fail))
            (.ite (small l.length)
             (.ite (k == (10 : Int))
              (.ite (roomB (l.length + [a].length) (8 : Nat))
               (.ret (.tuple #[.agg #[.int .i64 (4), .int .i64 (0), .pl .ints (l ++ [a])], .agg #[.int .i64 (0), .int .i64 (0)], .int .i64 (0)]))
               (.fail))
              (.ite (k == (11 : Int))
               (.ite ((↑l.length : Int) == (0 : Int))
                (.ret (.tuple #[.agg #[.int .i64 (4), .int .i64 (0), .pl .ints (l)], .agg #[.int .i64 (1), .int .i64 (0)], .int .i64 (0)]))
                (.ite (inRange (0 : Int) l.length)
                 (.ite ((Int.toNat (0 : Int)).blt l.length)
                  (.ite (decide ((0 : Int) ≤ (1 : Int)) && decide ((1 : Int) ≤ (↑(hi0 l.length none) : Int)))
                   (.ite (decide (l.getD (Int.toNat (0 : Int)) RC.ints.zero = l.getD (Int.toNat (0 : Int)) RC.ints.zero))
                    (.ret (.tuple #[.agg #[.int .i64 (4), .int .i64 (0), .pl .ints (List.take (hi0 l.length none - lo0 (some (Int.toNat (1 : Int)))) (List.drop (lo0 (some (Int.toNat (1 : Int)))) l))], .agg #[.int .i64 (2), .int .i64 (l.getD (Int.toNat (0 : Int)) RC.ints.zero)], .int .i64 (0)]))
                    .fail)
                   (.fail))
                  (.fail))
                 (.fail)))
               (.ite (decide ((↑l.length : Int) = (↑l.length : Int)))
                (.ret (.tuple #[.agg #[.int .i64 (4), .int .i64 (0), .pl .ints (l)], .agg #[.int .i64 (2), .int .i64 ((↑l.length : Int))], .int .i64 (0)]))
                .fail)))
             .fail))))))
       (.fail))
      (.ret (.tuple #[.agg #[.int .i64 (0), .int .i64 (0), .slice none (0) (0)], .agg #[.int .i64 (0), .int .i64 (0)], .int .i64 (12)]))) := by kernel_rfl
set_option maxRecDepth 100000 in
theorem rfifoApply_tree (t n : Int) (l : List Int) (k a b : Int) : (((tden Try.prog kitE [] 30).call 0 11 [.agg #[.int .i64 t, .int .i64 n, .pl .ints l], .int .i64 k, .int .i64 a, .int .i64 b] ⟨.nil, 0⟩).pure.cut
    (.ite (.yes (.yes (.yes (.yes (.all))))) (.no (.ite (.no (.ite (.all) (.ite (.yes (.yes (.yes (.all)))) (.no (.ite (.all) (.ite (.yes (.yes (.yes (.yes (.yes (.all)))))) (.no (.no (.ite (.yes (.no (.ite (.all) (.ite (.ite (.ite (.all) (.all)) (.ite (.yes (.yes (.all))) (.ite (.all) (.ite (.ite (.yes (.yes (.all))) (.all)) (.all))))) (.all))))) (.no (.no (.no (.no (.ite (.ite (.ite (.all) (.all)) (.ite (.yes (.yes (.all))) (.ite (.all) (.ite (.ite (.yes (.yes (.all))) (.all)) (.all))))) (.all))))))))))))))) (.all))))).ev = T.ev (α := CV) (
     .ite (t != (4 : Int))
      (.ret (.tuple #[.agg #[.int .i64 (0), .int .i64 (0), .slice none (0) (0)], .agg #[.int .i64 (0), .int .i64 (0)], .int .i64 (12)]))
      (.ite (small l.length)
       (.ite (checkN t n l != (0 : Int))
        (.ret (.tuple #[.agg #[.int .i64 (0), .int .i64 (0), .slice none (0) (0)], .agg #[.int .i64 (0), .int .i64 (0)], .int .i64 (12)]))
        (.ite (decide (k < (10 : Int)))
         (.ret (.tuple #[.agg #[.int .i64 (0), .int .i64 (0), .slice none (0) (0)], .agg #[.int .i64 (0), .int .i64 (0)], .int .i64 (6)]))
         (.ite (decide (k > (12 : Int)))
          (.ret (.tuple #[.agg #[.int .i64 (0), .int .i64 (0), .slice none (0) (0)], .agg #[.int .i64 (0), .int .i64 (0)], .int .i64 (6)]))
          (.ite (b != (0 : Int))
           (.ret (.tuple #[.agg #[.int .i64 (0), .int .i64 (0), .slice none (0) (0)], .agg #[.int .i64 (0), .int .i64 (0)], .int .i64 (2)]))
           (.ite (k != (10 : Int))
            (.ite (a != (0 : Int))
             (.ret (.tuple #[.agg #[.int .i64 (0), .int .i64 (0), .slice none (0) (0)], .agg #[.int .i64 (0), .int .i64 (0)], .int .i64 (2)]))
             (.ite (roomB l.length (8 : Nat))
              (.ite (k == (10 : Int))
               (.ite (roomB (l.length + [a].length) (8 : Nat))
                (.ret (.tuple #[.agg #[.int .i64 (4), .int .i64 (0), .pl .ints (l ++ [a])], .agg #[.int .i64 (0), .int .i64 (0)], .int .i64 (0)]))
                (.fail))
               (.ite (k == (12 : Int))
                (.ite (decide ((↑l.length : Int) = (↑l.length : Int)))
                 (.ite (decide (l = l))
                  (.ret (.tuple #[.agg #[.int .i64 (4), .int .i64 (0), .pl .ints (l)], .agg #[.int .i64 (2), .int .i64 ((↑l.length : Int))], .int .i64 (0)]))
                  .fail)
                 .fail)
                (.ite ((↑l.length : Int) == (0 : Int))
                 (.ret (.tuple #[.agg #[.int .i64 (4), .int .i64 (0), .pl .ints (l)], .agg #[.int .i64 (1), .int .i64 (0)], .int .i64 (0)]))
                 (.ite (decide ((0 : Int) ≤ (1 : Int)) && decide ((1 : Int) ≤ (↑(hi0 l.length none) : Int)))
                  (.ite (inRange (0 : Int) l.length)
                   (.ite (decide (l.getD (Int.toNat (0 : Int)) RC.ints.zero = l.getD (Int.toNat (0 : Int)) RC.ints.zero))
                    (.ite (decide (l = l))
                     (.ret (.tuple #[.agg #[.int .i64 (4), .int .i64 (0), .pl .ints (List.take (hi0 l.length none - lo0 (some (Int.toNat (1 : Int)))) (List.drop (lo0 (some (Int.toNat (1 : Int)))) l))], .agg #[.int .i64 (2), .int .i64 (l.getD (Int.toNat (0 : Int)) RC.ints.zero)], .int .i64 (0)]))
                     .fail)
                    .fail)
                   (.fail))
                  (.fail)))))
              (.fail)))
            (.ite (roomB l.length (8 : Nat))
             (.ite (k == (10 : Int))
              (.ite (roomB (l.length + [a].length) (8 : Nat))
               (.ret (.tuple #[.agg #[.int .i64 (4), .int .i64 (0), .pl .ints (l ++ [a])], .agg #[.int .i64 (0), .int .i64 (0)], .int .i64 (0)]))
               (.fail))
              (.ite (k == (12 : Int))
               (.ite (decide ((↑l.length : Int) = (↑l.length : Int)))
                (.ite (decide (l = l))
                 (.ret (.tuple #[.agg #[.int .i64 (4), .int .i64 (0), .pl .ints (l)], .agg #[.int .i64 (2), .int .i64 ((↑l.length : Int))], .int .i64 (0)]))
                 .fail)
                .fail)
               (.ite ((↑l.length : Int) == (0 : Int))
                (.ret (.tuple #[.agg #[.int .i64 (4), .int .i64 (0), .pl .ints (l)], .agg #[.int .i64 (1), .int .i64 (0)], .int .i64 (0)]))
                (.ite (decide ((0 : Int) ≤ (1 : Int)) && decide ((1 : Int) ≤ (↑(hi0 l.length none) : Int)))
                 (.ite (inRange (0 : Int) l.length)
                  (.ite (decide (l.getD (Int.toNat (0 : Int)) RC.ints.zero = l.getD (Int.toNat (0 : Int)) RC.ints.zero))
                   (.ite (decide (l = l))
                    (.ret (.tuple #[.agg #[.int .i64 (4), .int .i64 (0), .pl .ints (List.take (hi0 l.length none - lo0 (some (Int.toNat (1 : Int)))) (List.drop (lo0 (some (Int.toNat (1 : Int)))) l))], .agg #[.int .i64 (2), .int .i64 (l.getD (Int.toNat (0 : Int)) RC.ints.zero)], .int .i64 (0)]))
                    .fail)
                   .fail)
                  (.fail))
                 (.fail)))))
             (.fail)))))))
       (.fail))) := by kernel_rfl
/- base 9 round none: List (RC.den .ints), List (RC.den .ints), Bool, Int, Int: [.l .ints (l), .l .ints (m), .b false, .i ((↑l.length : Int)), .i (nat_lit 0)] -/
def eqSk : NSt := ⟨[.pl .ints [], .pl .ints [], .junk, .junk, .bool false, .junk, .junk, .junk, .junk, .junk, .junk, .junk, .int .i64 (0), .int .i64 (0), .junk, .junk, .junk, .junk, .junk, .junk, .junk, .junk, .junk, .junk, .junk, .junk], [], [], 9⟩
/- base 7 round none: List (RC.den .ints), List (RC.den .ints), Bool, Int: [.l .ints (l), .l .ints (m), .b false, .i (nat_lit 0)] -/
def rsSk : NSt := ⟨[.pl .ints [], .pl .ints [], .junk, .junk, .bool false, .int .i64 (0), .junk, .junk, .junk, .junk, .junk, .junk, .junk, .junk, .junk, .junk, .junk, .junk, .junk, .junk, .junk, .junk, .junk, .junk, .junk, .junk], [], [], 7⟩
/- base 57 round none: Int, Bool, Int, Int, List (RC.den .ints), Int, Int, List (RC.den .ints), Int, Int, List (RC.den .ints), List (RC.den .ints): [.i (nat_lit 0), .b false, .i (t), .i (n), .l .ints (l), .i (t), .i (n), .l .ints (l), .i (t), .i (n), .l .ints (l), .l .ints (l)] -/
def odSk : NSt := ⟨[.func (.yield 36) #[] #[], .pointer (some ⟨31, 0, none⟩), .junk, .int .i64 (0), .bool false, .junk, .junk, .junk, .junk, .junk, .junk, .junk, .junk, .junk, .junk, .junk, .junk, .junk, .junk, .junk, .junk, .junk, .junk, .junk], [], [(0, .cells [.int .i64 (0), .int .i64 (0), .pl .ints []] 1 0), (6, .cells [.int .i64 (0), .int .i64 (0), .pl .ints []] 1 0), (17, .cells [.slice none (0) (0)] 1 0), (21, .cells [.int .i64 (0), .int .i64 (0), .pl .ints []] 1 0), (28, .cells [.row 30 1 (0)] 1 0), (30, .rows .ints []), (31, .cells [.pointer (some ⟨28, 0, none⟩)] 1 0), (35, .defs), (36, .loop .ready none 14 [.junk, .junk, .junk, .junk, .pointer (some ⟨17, 0, none⟩), .junk, .junk, .junk, .junk, .junk, .junk, .junk, .tuple #[], .junk, .junk, .junk, .junk, .junk] [0, 1, 0, 1, 1, 1] 35)], 57⟩
/- base 73 round none: Int, Bool, Int, Int, List (RC.den .ints), Int, Int, List (RC.den .ints), Int, Int, List (RC.den .ints), Nat, Nat, Nat, List (RC.den .ints): [.i (l.getD (Int.toNat (0 : Int)) RC.ints.zero), .b true, .i (t), .i (n), .l .ints (l), .i (t), .i (n), .l .ints (l), .i (t), .i (n), .l .ints (l), .n (1), .n (hi0 l.length none - lo0 (some (Int.toNat (1 : Int)))), .n (l.length - lo0 (some (Int.toNat (1 : Int)))), .l .ints (l)] -/
def odW : NSt := ⟨[.func (.yield 36) #[] #[], .pointer (some ⟨31, 0, none⟩), .junk, .int .i64 (0), .bool false, .junk, .junk, .junk, .junk, .junk, .junk, .junk, .junk, .junk, .junk, .junk, .junk, .junk, .junk, .junk, .junk, .junk, .junk, .junk], [], [(0, .cells [.int .i64 (0), .int .i64 (0), .pl .ints []] 1 0), (6, .cells [.int .i64 (0), .int .i64 (0), .pl .ints []] 1 0), (17, .cells [.slice none (0) (0)] 1 0), (21, .cells [.int .i64 (0), .int .i64 (0), .pl .ints []] 1 0), (28, .cells [.win 30 1 (0) (0) (0)] 1 0), (30, .rows .ints []), (31, .cells [.pointer (some ⟨28, 0, none⟩)] 1 0), (35, .defs), (36, .loop .ready none 14 [.junk, .junk, .junk, .junk, .pointer (some ⟨17, 0, none⟩), .junk, .junk, .junk, .junk, .junk, .junk, .junk, .tuple #[], .junk, .junk, .junk, .junk, .junk] [0, 1, 0, 1, 1, 1] 35)], 73⟩
def eqId : LoopId := ⟨32, [0, 1, 0, 1, 1], []⟩
def rsId : LoopId := ⟨18, [0, 1, 0, 1, 1], []⟩
def odId : LoopId := ⟨36, [0, 1], []⟩

end Go.Proofs.YtieebjdlmhggpaaD
