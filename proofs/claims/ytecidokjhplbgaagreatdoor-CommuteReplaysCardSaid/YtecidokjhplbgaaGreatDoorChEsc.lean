/-
  Chapter 10: what accounts answer.
-/
import Derived.Test.YtecidokjhplbgaaGreatDoorKitD
import Derived.Test.YtecidokjhplbgaaGreatDoorAns
set_option linter.unusedVariables false
set_option linter.unusedSimpArgs false
namespace Go.Proofs.YtecidokjhplbgaaGreatDoorD.Esc
open Go Go.RowKit

def escA (t n : Int) (l : List Int) (k a b : Int) : Ans :=
  if t ≠ 5 ∨ checkN t n l ≠ 0 then bad 12
  else if k < 13 ∨ 15 < k then bad 6
  else if b ≠ 0 then bad 2
  else if k = 15 then (if a = 0 then ⟨⟨5, n, []⟩, ⟨2, n⟩, 0⟩ else bad 2)
  else if a < 0 ∨ cap62 < a then bad 2
  else if k = 13 then (if a ≤ cap62 - n then ⟨⟨5, n + a, []⟩, ⟨2, 1⟩, 0⟩ else ⟨⟨5, n, []⟩, ⟨2, 0⟩, 0⟩)
  else (if a ≤ n then ⟨⟨5, n - a, []⟩, ⟨2, 1⟩, 0⟩ else ⟨⟨5, n, []⟩, ⟨2, 0⟩, 0⟩)

def escApplyG : List CV → T CV
  | [.agg ⟨[.int .i64 t, .int .i64 n, .pl .ints l]⟩, .int .i64 k, .int .i64 a, .int .i64 b] => T.when (small l.length) (.ret (escA t n l k a b).cv)
  | _ => .fail

theorem check5 {n : Int} {l : List Int} : checkN 5 n l = 0 ↔ l = [] ∧ 0 ≤ n ∧ n ≤ 4611686018427387904 := by
  simp only [checkN, cap62]
  by_cases h : l = [] ∧ 0 ≤ n ∧ n ≤ 4611686018427387904
  · simp [h]
  · simp [h]

end Go.Proofs.YtecidokjhplbgaaGreatDoorD.Esc

