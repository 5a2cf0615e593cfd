/-
  Chapter 09: what a queue answers.
-/
import Derived.Test.YtieebjdlmhggpaaKitO5
import Derived.Test.YtieebjdlmhggpaaKitQ
import Derived.Test.YtieebjdlmhggpaaClose
set_option linter.unusedVariables false
set_option linter.unusedSimpArgs false
namespace Go.Proofs.YtieebjdlmhggpaaD
open Go Go.RowKit

/-- What an operation answers: a state, what is returned, and 0 or why not. -/
structure Ans where
  s : DState
  r : DRet
  e : Int
def Ans.cv (x : Ans) : CV := .tuple #[.agg #[.int .i64 x.s.type, .int .i64 x.s.n, .pl .ints x.s.l], .agg #[.int .i64 x.r.kind, .int .i64 x.r.n], .int .i64 x.e]
def bad (e : Int) : Ans := ⟨⟨0, 0, []⟩, ⟨0, 0⟩, e⟩
def sgA : Sg := .tup [.agg [.any, .any, .l .ints], .any, .any]

def fifoA (t n : Int) (l : List Int) (k a b : Int) : Ans :=
  if t ≠ 4 ∨ checkN t n l ≠ 0 then bad 12
  else if k < 10 ∨ 12 < k then bad 6
  else if b ≠ 0 ∨ (k ≠ 10 ∧ a ≠ 0) then bad 2
  else if k = 10 then ⟨⟨4, 0, l ++ [a]⟩, ⟨0, 0⟩, 0⟩
  else if k = 12 then ⟨⟨4, 0, l⟩, ⟨2, l.length⟩, 0⟩
  else match l with
    | [] => ⟨⟨4, 0, []⟩, ⟨1, 0⟩, 0⟩
    | x :: r => ⟨⟨4, 0, r⟩, ⟨2, x⟩, 0⟩
def fifoG : List CV → T CV
  | [.agg ⟨[.int .i64 t, .int .i64 n, .pl .ints l]⟩, .int .i64 k, .int .i64 a, .int .i64 b] => T.when (small l.length && small (l.length + 1)) (.ret (fifoA t n l k a b).cv)
  | _ => .fail
def cloneE : List (Nat × ExtFn) := (34, stExt cloneG) :: kitE
theorem cloneE_ok (N : Nat) : ExtsOk Try.prog N cloneE := extsOk_cons (extOk_st clone_fn) (kitE_ok N)

end Go.Proofs.YtieebjdlmhggpaaD
