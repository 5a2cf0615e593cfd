/-
  Chapter 10: ranges, and numbers picked: what they answer.
-/
import Derived.Test.YtjbbhccoamhbgaaEscD
set_option linter.unusedVariables false
set_option linter.unusedSimpArgs false
namespace Go.Proofs.YtjbbhccoamhbgaaD
open Go Go.RowKit

structure Rng where
  from_ : Int
  to : Int
  is : Bool
def Rng.cv (x : Rng) : CV := .tuple #[.int .i64 x.from_, .int .i64 x.to, .bool x.is]
def rangeA (k a r : Int) : Rng :=
  if k < 13 ∨ 15 < k then ⟨0, 0, false⟩
  else if k = 15 then (if a = 0 ∧ 0 ≤ r ∧ r ≤ cap62 then ⟨r, r, true⟩ else ⟨0, 0, false⟩)
  else if a < 0 ∨ cap62 < a ∨ (r ≠ 0 ∧ r ≠ 1) then ⟨0, 0, false⟩
  else if k = 13 then (if r = 1 then ⟨0, cap62 - a, true⟩ else if a = 0 then ⟨0, 0, false⟩ else ⟨cap62 - a + 1, cap62, true⟩)
  else (if r = 1 then ⟨a, cap62, true⟩ else if a = 0 then ⟨0, 0, false⟩ else ⟨0, a - 1, true⟩)
def inI64 (n : Int) : Bool := decide (-9223372036854775808 ≤ n) && decide (n ≤ 9223372036854775807)
theorem inI64_iff {n : Int} : inI64 n = true ↔ w64 n := by simp [inI64, w64]
def rangeG : List CV → T CV
  | [.int .i64 k, .int .i64 a, .int .i64 r] => T.when (inI64 k && inI64 a && inI64 r) (.ret (rangeA k a r).cv)
  | _ => .fail
def roomA (n : Int) : Int := if n < 0 ∨ cap62 < n then 0 else cap62 - n
def roomG : List CV → T CV
  | [.int .i64 n] => .ret (.int .i64 (roomA n))
  | _ => .fail
/-- Whether an operation of an account comes to just that. -/
def doesA (n k a th r : Int) : Bool :=
  (escA 5 n [] k a 0).e == 0 && ((escA 5 n [] k a 0).s.type == 5 && (escA 5 n [] k a 0).s.n == th) && ((escA 5 n [] k a 0).r.kind == 2 && (escA 5 n [] k a 0).r.n == r)
def doesG : List CV → T CV
  | [.int .i64 n, .int .i64 k, .int .i64 a, .int .i64 th, .int .i64 r] => .ret (.bool (doesA n k a th r))
  | _ => .fail
def doesE : List (Nat × ExtFn) := (18, pureExt doesG) :: escE
def pkE : List (Nat × ExtFn) := [(23, pureExt pickG), (14, pureExt rangeG), (16, pureExt roomG), (5, pureExt trueG)] ++ doesE

end Go.Proofs.YtjbbhccoamhbgaaD
