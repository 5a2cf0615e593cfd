/-
  Escrow: ranges and room, of the program and of the document, on open arguments.
-/
import Derived.Test.YtjbbhccoamhbgaaEscA
set_option linter.unusedVariables false
set_option linter.unusedSimpArgs false
namespace Go.Proofs.YtjbbhccoamhbgaaD
open Go Go.RowKit

def rmayG : List Value → T Value
  | [.int .i64 a, .int .i64 b] => .ret (.bool (mayF a b))
  | _ => .fail

set_option maxRecDepth 100000 in
theorem rmay_tree (a b : Int) : (((tden Try.prog [] 30).call 0 29 [.int .i64 a, .int .i64 b] ⟨.nil, 0⟩).val.cut
    (.ite (.yes (.yes (.yes (.yes (.ite (.yes (.ite (.yes (.yes (.yes (.yes (.all))))) (.no (.no (.no (.no (.no (.no (.all))))))))) (.no (.no (.no (.no (.no (.no (.no (.no (.no (.all))))))))))))))) (.no (.ite (.yes (.ite (.yes (.ite (.yes (.yes (.yes (.yes (.all))))) (.no (.no (.no (.no (.no (.no (.all))))))))) (.no (.no (.no (.no (.no (.no (.no (.no (.no (.all)))))))))))) (.no (.no (.no (.no (.no (.ite (.yes (.no (.all))) (.no (.no (.no (.all)))))))))))))).ev = T.ev (α := Value) (
     .ite (a == 13)
      (.ite (decide (b ≥ 0))
       (.ite (decide (b ≤ 4611686018427387904))
        (.ret (.bool true))
        (.ite (a == 15) .fail
         (.ret (.bool false))))
       (.ite (a == 15) .fail
        (.ret (.bool false))))
      (.ite (a == 14)
       (.ite (decide (b ≥ 0))
        (.ite (decide (b ≤ 4611686018427387904))
         (.ret (.bool true))
         (.ite (a == 15) .fail
          (.ret (.bool false))))
        (.ite (a == 15) .fail
         (.ret (.bool false))))
       (.ite (a == 15)
        (.ret (.bool (b == 0)))
        (.ret (.bool false))))) := by kernel_rfl

set_option maxRecDepth 100000 in
theorem range_tree (k a r : Int) : (((tden Try.prog [(25, plainExt mayG)] 30).call 0 14 [.int .i64 k, .int .i64 a, .int .i64 r] ⟨.nil, 0⟩).val.cut
    (.ite (.ite (.yes (.yes (.yes (.yes (.yes (.yes (.yes (.yes (.yes (.yes (.all))))))))))) (.no (.ite (.yes (.yes (.yes (.yes (.yes (.yes (.yes (.all)))))))) (.no (.no (.ite (.yes (.yes (.yes (.all)))) (.no (.ite (.all) (.all))))))))) (.ite (.yes (.ite (.all) (.ite (.yes (.yes (.ite (.yes (.yes (.yes (.yes (.yes (.yes (.yes (.yes (.yes (.yes (.all))))))))))) (.no (.no (.no (.no (.ite (.yes (.yes (.yes (.all)))) (.no (.ite (.all) (.all))))))))))) (.no (.no (.no (.no (.yes (.ite (.yes (.yes (.yes (.yes (.yes (.yes (.yes (.yes (.yes (.yes (.all))))))))))) (.no (.ite (.yes (.yes (.yes (.yes (.yes (.yes (.yes (.all)))))))) (.no (.no (.ite (.yes (.yes (.yes (.all)))) (.no (.no (.all))))))))))))))))) (.no (.no (.no (.ite (.yes (.no (.yes (.ite (.yes (.yes (.yes (.yes (.yes (.yes (.yes (.yes (.yes (.yes (.all))))))))))) (.no (.ite (.yes (.yes (.yes (.yes (.yes (.yes (.yes (.all)))))))) (.no (.no (.ite (.yes (.yes (.yes (.all)))) (.no (.no (.all)))))))))))) (.no (.no (.no (.no (.no (.ite (.yes (.yes (.yes (.yes (.yes (.yes (.yes (.yes (.yes (.yes (.all))))))))))) (.no (.no (.no (.no (.ite (.yes (.yes (.yes (.all)))) (.no (.ite (.all) (.all))))))))))))))))))))).ev = T.ev (α := Value) (
     .ite (k == 15)
      (.ite (!mayF k a)
       (.ret (.tuple #[.int .i64 (0), .int .i64 (0), .bool false]))
       (.ite (decide (r < 0))
        (.ret (.tuple #[.int .i64 (0), .int .i64 (0), .bool false]))
        (.ite (decide (r > r))
         (.ret (.tuple #[.int .i64 (0), .int .i64 (0), .bool false]))
         (.ite (decide (r > 4611686018427387904))
          (.ret (.tuple #[.int .i64 (0), .int .i64 (0), .bool false]))
          (.ret (.tuple #[.int .i64 (r), .int .i64 (r), .bool true]))))))
      (.ite (r != 0)
       (.ite (r != 1)
        (.ret (.tuple #[.int .i64 (0), .int .i64 (0), .bool false]))
        (.ite (k == 13)
         (.ite (r == 1)
          (.ite (!mayF k a)
           (.ret (.tuple #[.int .i64 (0), .int .i64 (0), .bool false]))
           (.ite (decide (0 > IntKind.i64.wrap (4611686018427387904 - a)))
            (.ret (.tuple #[.int .i64 (0), .int .i64 (0), .bool false]))
            (.ite (decide (IntKind.i64.wrap (4611686018427387904 - a) > 4611686018427387904))
             (.ret (.tuple #[.int .i64 (0), .int .i64 (0), .bool false]))
             (.ret (.tuple #[.int .i64 (0), .int .i64 (IntKind.i64.wrap (4611686018427387904 - a)), .bool true])))))
          .fail)
         (.ite (k == 13) .fail
          (.ite (r == 1)
           (.ite (!mayF k a)
            (.ret (.tuple #[.int .i64 (0), .int .i64 (0), .bool false]))
            (.ite (decide (a < 0))
             (.ret (.tuple #[.int .i64 (0), .int .i64 (0), .bool false]))
             (.ite (decide (a > 4611686018427387904))
              (.ret (.tuple #[.int .i64 (0), .int .i64 (0), .bool false]))
              (.ret (.tuple #[.int .i64 (a), .int .i64 (4611686018427387904), .bool true])))))
           .fail))))
       (.ite (k == 13)
        (.ite (r == 1) .fail
         (.ite (k == 13)
          (.ite (!mayF k a)
           (.ret (.tuple #[.int .i64 (0), .int .i64 (0), .bool false]))
           (.ite (decide (IntKind.i64.wrap (IntKind.i64.wrap (4611686018427387904 - a) + 1) < 0))
            (.ret (.tuple #[.int .i64 (0), .int .i64 (0), .bool false]))
            (.ite (decide (IntKind.i64.wrap (IntKind.i64.wrap (4611686018427387904 - a) + 1) > 4611686018427387904))
             (.ret (.tuple #[.int .i64 (0), .int .i64 (0), .bool false]))
             (.ret (.tuple #[.int .i64 (IntKind.i64.wrap (IntKind.i64.wrap (4611686018427387904 - a) + 1)), .int .i64 (4611686018427387904), .bool true])))))
          .fail))
        (.ite (k == 13) .fail
         (.ite (r == 1) .fail
          (.ite (!mayF k a)
           (.ret (.tuple #[.int .i64 (0), .int .i64 (0), .bool false]))
           (.ite (decide (0 > IntKind.i64.wrap (a - 1)))
            (.ret (.tuple #[.int .i64 (0), .int .i64 (0), .bool false]))
            (.ite (decide (IntKind.i64.wrap (a - 1) > 4611686018427387904))
             (.ret (.tuple #[.int .i64 (0), .int .i64 (0), .bool false]))
             (.ret (.tuple #[.int .i64 (0), .int .i64 (IntKind.i64.wrap (a - 1)), .bool true])))))))))) := by kernel_rfl

set_option maxRecDepth 100000 in
theorem rrange_tree (k a r : Int) : (((tden Try.prog [(29, plainExt rmayG)] 30).call 0 15 [.int .i64 k, .int .i64 a, .int .i64 r] ⟨.nil, 0⟩).val.cut
    (.ite (.all) (.ite (.yes (.ite (.yes (.yes (.ite (.all) (.yes (.all))))) (.no (.no (.yes (.yes (.all))))))) (.no (.no (.no (.no (.no (.ite (.yes (.ite (.all) (.ite (.yes (.yes (.all))) (.no (.no (.no (.ite (.yes (.yes (.all))) (.no (.no (.no (.ite (.all) (.no (.all))))))))))))) (.no (.no (.no (.ite (.yes (.no (.no (.no (.no (.no (.ite (.all) (.yes (.all))))))))) (.no (.no (.no (.ite (.yes (.no (.ite (.all) (.no (.all))))) (.no (.no (.no (.ite (.all) (.no (.all))))))))))))))))))))))).ev = T.ev (α := Value) (
     .ite (!mayF k a)
      (.ret (.tuple #[.int .i64 (0), .int .i64 (0), .bool false]))
      (.ite (k == 15)
       (.ite (decide (r ≥ 0))
        (.ite (!decide (r ≤ 4611686018427387904))
         (.ret (.tuple #[.int .i64 (0), .int .i64 (0), .bool false]))
         (.ite (k == 15)
          (.ret (.tuple #[.int .i64 (r), .int .i64 (r), .bool true]))
          .fail))
        (.ret (.tuple #[.int .i64 (0), .int .i64 (0), .bool false])))
       (.ite (k == 15) .fail
        (.ite (r != 0)
         (.ite (r != 1)
          (.ret (.tuple #[.int .i64 (0), .int .i64 (0), .bool false]))
          (.ite (k == 13)
           (.ite (r == 1)
            (.ret (.tuple #[.int .i64 (0), .int .i64 (IntKind.i64.wrap (4611686018427387904 - a)), .bool true]))
            .fail)
           (.ite (k == 14)
            (.ite (r == 1)
             (.ret (.tuple #[.int .i64 (a), .int .i64 (4611686018427387904), .bool true]))
             .fail)
            (.ite (a == 0)
             (.ret (.tuple #[.int .i64 (0), .int .i64 (0), .bool false]))
             (.ite (k == 13) .fail
              (.ret (.tuple #[.int .i64 (0), .int .i64 (IntKind.i64.wrap (a - 1)), .bool true])))))))
         (.ite (k == 13)
          (.ite (r == 1) .fail
           (.ite (k == 14) .fail
            (.ite (a == 0)
             (.ret (.tuple #[.int .i64 (0), .int .i64 (0), .bool false]))
             (.ite (k == 13)
              (.ret (.tuple #[.int .i64 (IntKind.i64.wrap (IntKind.i64.wrap (4611686018427387904 - a) + 1)), .int .i64 (4611686018427387904), .bool true]))
              .fail))))
          (.ite (k == 14)
           (.ite (r == 1) .fail
            (.ite (a == 0)
             (.ret (.tuple #[.int .i64 (0), .int .i64 (0), .bool false]))
             (.ite (k == 13) .fail
              (.ret (.tuple #[.int .i64 (0), .int .i64 (IntKind.i64.wrap (a - 1)), .bool true])))))
           (.ite (a == 0)
            (.ret (.tuple #[.int .i64 (0), .int .i64 (0), .bool false]))
            (.ite (k == 13) .fail
             (.ret (.tuple #[.int .i64 (0), .int .i64 (IntKind.i64.wrap (a - 1)), .bool true])))))))))) := by kernel_rfl

set_option maxRecDepth 100000 in
theorem room_tree (n : Int) : (((tden Try.prog [] 30).call 0 16 [.int .i64 n] ⟨.nil, 0⟩).val.cut
    (.ite (.yes (.yes (.yes (.all)))) (.no (.ite (.all) (.all))))).ev = T.ev (α := Value) (
     .ite (decide (n < 0))
      (.ret (.int .i64 (0)))
      (.ite (decide (n > 4611686018427387904))
       (.ret (.int .i64 (0)))
       (.ret (.int .i64 (IntKind.i64.wrap (4611686018427387904 - n)))))) := by kernel_rfl

set_option maxRecDepth 100000 in
theorem rroom_tree (n : Int) : (((tden Try.prog [] 30).call 0 17 [.int .i64 n] ⟨.nil, 0⟩).val.cut
    (.ite (.yes (.ite (.all) (.all))) (.no (.no (.yes (.all)))))).ev = T.ev (α := Value) (
     .ite (decide (n ≥ 0))
      (.ite (!decide (n ≤ 4611686018427387904))
       (.ret (.int .i64 (0)))
       (.ret (.int .i64 (IntKind.i64.wrap (4611686018427387904 - n)))))
      (.ret (.int .i64 (0)))) := by kernel_rfl

end Go.Proofs.YtjbbhccoamhbgaaD
