/-
  Chapter 06: what a counter answers.
-/
import Derived.Test.YtncbiabbkgkdiaaKitD
set_option linter.unusedVariables false
set_option linter.unusedSimpArgs false
namespace Go.Proofs.YtncbiabbkgkdiaaD
open Go Go.RowKit

/-- What an operation answers: a state, what is returned, and 0 or why not. -/
structure Ans where
  s : DState
  r : DRet
  e : Int
def Ans.cv (x : Ans) : CV := .tuple #[.agg #[.int .i64 x.s.type, .int .i64 x.s.n, .pl .ints x.s.l], .agg #[.int .i64 x.r.kind, .int .i64 x.r.n], .int .i64 x.e]
def bad (e : Int) : Ans := ⟨⟨0, 0, []⟩, ⟨0, 0⟩, e⟩
def sgA : Sg := .tup [.agg [.any, .any, .l .ints], .any, .any]
/-- Two numbers together, gone round. -/
def add64 (a b : Int) : Int := IntKind.i64.wrap (IntKind.u64.wrap (IntKind.u64.wrap a + IntKind.u64.wrap b))

def ctrA (t n : Int) (l : List Int) (k a b : Int) : Ans :=
  if t ≠ 1 ∨ checkN t n l ≠ 0 then bad 12
  else if k = 1 then (if b = 0 then ⟨⟨1, add64 n a, []⟩, ⟨0, 0⟩, 0⟩ else bad 2)
  else if k = 2 then (if b = 0 ∧ a = 0 then ⟨⟨1, n, []⟩, ⟨2, n⟩, 0⟩ else bad 2)
  else bad 6
def inI64 (n : Int) : Bool := decide (-9223372036854775808 ≤ n) && decide (n ≤ 9223372036854775807)
def ctrApplyG : List CV → T CV
  | [.agg ⟨[.int .i64 t, .int .i64 n, .pl .ints l]⟩, .int .i64 k, .int .i64 a, .int .i64 b] => T.when (small l.length && (inI64 a && inI64 b)) (.ret (ctrA t n l k a b).cv)
  | _ => .fail

end Go.Proofs.YtncbiabbkgkdiaaD
