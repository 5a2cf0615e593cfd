/-
  Chapter 06: sums: trees.
-/
import Derived.Test.YtncbiabbkgkdiaaCtrG1
set_option linter.unusedVariables false
set_option linter.unusedSimpArgs false
namespace Go.Proofs.YtncbiabbkgkdiaaD
open Go Go.RowKit

set_option maxRecDepth 100000 in
theorem rback_tree (n : Int) (l : List Int) : (((tden Try.prog rtE [] 30).call 0 17 [.int .i64 n, .pl .ints l] ⟨.nil, 0⟩).pure.cut
    (.ite (.all) (.all))).ev = T.ev (α := CV) (
     .ite (small l.length)
      (.ret (.int .i64 (IntKind.i64.wrap (IntKind.u64.wrap (IntKind.u64.wrap n - IntKind.u64.wrap (total (0 : Int) l))))))
      (.fail)) := by kernel_rfl

end Go.Proofs.YtncbiabbkgkdiaaD
