/-
  What an operation answers: a state, what is returned, and 0 or why not.
-/
import Derived.Test.YtecidokjhplbgaaGreatDoorKitD
set_option linter.unusedVariables false
set_option linter.unusedSimpArgs false
namespace Go.Proofs.YtecidokjhplbgaaGreatDoorD
open Go Go.RowKit

structure Ans where
  s : DState
  r : DRet
  e : Int
def Ans.cv (x : Ans) : CV := .tuple #[.agg #[.int .i64 x.s.type, .int .i64 x.s.n, .pl .ints x.s.l], .agg #[.int .i64 x.r.kind, .int .i64 x.r.n], .int .i64 x.e]
def bad (e : Int) : Ans := ⟨⟨0, 0, []⟩, ⟨0, 0⟩, e⟩
def sgA : Sg := .tup [.agg [.any, .any, .l .ints], .any, .any]

end Go.Proofs.YtecidokjhplbgaaGreatDoorD
