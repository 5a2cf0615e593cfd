/-
  Chapter 06: sums: trees.
-/
import Derived.Test.YtncbiabbkgkdiaaCtrF
set_option linter.unusedVariables false
set_option linter.unusedSimpArgs false
namespace Go.Proofs.YtncbiabbkgkdiaaD
open Go Go.RowKit

set_option maxRecDepth 100000 in
theorem rtotal_tree (n : Int) (l : List Int) : (((tden Try.prog [] ctrL 30).call 0 15 [.int .i64 n, .pl .ints l] ⟨.nil, 0⟩).pure.cut
    (.ite (.all) (.all))).ev = T.ev (α := CV) (
     .ite ((0 : Int) == (0 : Int) && small l.length)
      (.ret (.int .i64 (total n l)))
      (.fail)) := by kernel_rfl
set_option maxRecDepth 100000 in
theorem total_tree (n : Int) (l : List Int) : (((tden Try.prog [] ctrL 30).call 0 14 [.int .i64 n, .pl .ints l] ⟨.nil, 0⟩).pure.cut
    (.ite (.yes (.all)) (.all))).ev = T.ev (α := CV) (
     .ite ((0 : Int) == (0 : Int) && (↑l.length : Int) == (↑l.length : Int) && n == n && small l.length)
      (.ret (.int .i64 (total n l)))
      (.fail)) := by kernel_rfl
set_option maxRecDepth 100000 in
theorem back_tree (n : Int) (l : List Int) : (((tden Try.prog [] ctrL 30).call 0 16 [.int .i64 n, .pl .ints l] ⟨.nil, 0⟩).pure.cut
    (.ite (.all) (.all))).ev = T.ev (α := CV) (
     .ite ((0 : Int) == (0 : Int) && (↑l.length : Int) == (↑l.length : Int) && small l.length)
      (.ret (.int .i64 (backs n l)))
      (.fail)) := by kernel_rfl
set_option maxRecDepth 100000 in
theorem wrap_tree (n a : Int) : (((tden Try.prog [] [] 30).call 0 21 [.int .i64 n, .int .i64 a] ⟨.nil, 0⟩).pure.cut
    (.all)).ev = T.ev (α := CV) (
     .ret (.int .i64 (IntKind.i64.wrap (IntKind.u64.wrap (IntKind.u64.wrap n + IntKind.u64.wrap a))))) := by kernel_rfl
set_option maxRecDepth 100000 in
theorem applied_tree (n a : Int) : (((tden Try.prog ctrE [] 30).call 0 20 [.int .i64 n, .int .i64 a] ⟨.nil, 0⟩).pure.cut
    (.ite (.yes (.yes (.yes (.yes (.yes (.yes (.yes (.yes (.yes (.yes (.yes (.yes (.yes (.all)))))))))))))) (.all))).ev = T.ev (α := CV) (
     .ite (small 0 && (inI64 a && inI64 (0 : Int)))
      (.ite (decide ((ctrA (1 : Int) n [] (1 : Int) a (0 : Int)).s.n = (ctrA (1 : Int) n [] (1 : Int) a (0 : Int)).s.n))
       (.ret (.tuple #[.int .i64 ((ctrA (1 : Int) n [] (1 : Int) a (0 : Int)).s.n), .bool true]))
       .fail)
      (.fail)) := by kernel_rfl
set_option maxRecDepth 100000 in
theorem read_tree (n t r : Int) : (((tden Try.prog ctrE [] 30).call 0 22 [.int .i64 n, .int .i64 2, .int .i64 0, .int .i64 t, .agg #[.int .i64 2, .int .i64 r]] ⟨.nil, 0⟩).pure.cut
    (.yes (.yes (.yes (.yes (.yes (.yes (.ite (.yes (.yes (.all))) (.no (.no (.no (.all)))))))))))).ev = T.ev (α := CV) (
     .ite ((ctrA (1 : Int) n [] (2 : Int) (0 : Int) (0 : Int)).s.type == (1 : Int) && (ctrA (1 : Int) n [] (2 : Int) (0 : Int) (0 : Int)).s.n == t && (ctrA (1 : Int) n [] (2 : Int) (0 : Int) (0 : Int)).s.l == [])
      (.ret (.bool ((ctrA (1 : Int) n [] (2 : Int) (0 : Int) (0 : Int)).r.kind == (2 : Int) && ((ctrA (1 : Int) n [] (2 : Int) (0 : Int) (0 : Int)).r.n == r && true))))
      (.ret (.bool false))) := by kernel_rfl

end Go.Proofs.YtncbiabbkgkdiaaD
