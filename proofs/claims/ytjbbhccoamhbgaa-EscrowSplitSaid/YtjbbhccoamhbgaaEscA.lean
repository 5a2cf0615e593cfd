/-
  Chapter 10: what an account answers.
-/
import Derived.Test.YtjbbhccoamhbgaaKitD
set_option linter.unusedVariables false
set_option linter.unusedSimpArgs false
namespace Go.Proofs.YtjbbhccoamhbgaaD
open Go Go.RowKit

/-- What an operation answers: a state, what is returned, and 0 or why not. -/
structure Ans where
  s : DState
  r : DRet
  e : Int
def Ans.cv (x : Ans) : CV := .tuple #[.agg #[.int .i64 x.s.type, .int .i64 x.s.n, .pl .ints x.s.l], .agg #[.int .i64 x.r.kind, .int .i64 x.r.n], .int .i64 x.e]
def bad (e : Int) : Ans := ⟨⟨0, 0, []⟩, ⟨0, 0⟩, e⟩
def sgA : Sg := .tup [.agg [.any, .any, .l .ints], .any, .any]

def escA (t n : Int) (l : List Int) (k a b : Int) : Ans :=
  if t ≠ 5 ∨ checkN t n l ≠ 0 then bad 12
  else if k < 13 ∨ 15 < k then bad 6
  else if b ≠ 0 then bad 2
  else if k = 15 then (if a = 0 then ⟨⟨5, n, []⟩, ⟨2, n⟩, 0⟩ else bad 2)
  else if a < 0 ∨ cap62 < a then bad 2
  else if k = 13 then (if a ≤ cap62 - n then ⟨⟨5, n + a, []⟩, ⟨2, 1⟩, 0⟩ else ⟨⟨5, n, []⟩, ⟨2, 0⟩, 0⟩)
  else (if a ≤ n then ⟨⟨5, n - a, []⟩, ⟨2, 1⟩, 0⟩ else ⟨⟨5, n, []⟩, ⟨2, 0⟩, 0⟩)

def escApplyG : List CV → T CV
  | [.agg ⟨[.int .i64 t, .int .i64 n, .pl .ints l]⟩, .int .i64 k, .int .i64 a, .int .i64 b] => T.when (small l.length) (.ret (escA t n l k a b).cv)
  | _ => .fail

def escE : List (Nat × ExtFn) := [(11, pureExt (sigExt [sgS] escApplyG)), (12, pureExt (sigExt [sgS] escApplyG))] ++ kitE

end Go.Proofs.YtjbbhccoamhbgaaD
