/-
  Shared small functions: what they answer.
-/
import Derived.Test.YtknijbcmhjgllaaGreatKitB
set_option linter.unusedVariables false
set_option linter.unusedSimpArgs false
namespace Go.Proofs.YtknijbcmhjgllaaGreatD
open Go Go.RowKit

def cap62 : Int := 4611686018427387904
def cvState (s : DState) : CV := .agg #[.int .i64 s.type, .int .i64 s.n, .pl .ints s.l]
/-- Whether a state is in its form: 0, or why not. -/
def checkN (t n : Int) (l : List Int) : Int :=
  if t < 1 ∨ 5 < t then 8
  else if t = 1 then (if l = [] then 0 else 5)
  else if t = 2 then (if n = 0 ∧ rises l 1 = true then 0 else 5)
  else if t = 3 then (if n = 0 ∧ l.length % 2 = 0 ∧ rises l 2 = true then 0 else 5)
  else if t = 4 then (if n = 0 then 0 else 5)
  else (if l = [] ∧ 0 ≤ n ∧ n ≤ cap62 then 0 else 5)
def pick (x n : Int) : Int := if n ≤ 0 then 0 else x % n

def sameIntsG : List CV → T CV
  | [.pl .ints l, .pl .ints m] => T.when (small l.length) (.ret (.bool (l == m)))
  | _ => .fail
def rrisesG : List CV → T CV
  | [.pl .ints l, .int .i64 st] => T.when (decide (1 ≤ st) && decide (st ≤ 1000) && small l.length) (.ret (.bool (rises l st.toNat)))
  | _ => .fail
def frisesG : List CV → T CV
  | [.agg ⟨[.int .i64 t, .int .i64 n, .pl .ints l]⟩, .int .i64 st] => T.when (decide (1 ≤ st) && decide (st ≤ 1000) && small l.length) (.ret (.bool (rises l st.toNat)))
  | _ => .fail
def copyIntsG : List CV → T CV
  | [.pl .ints l] => T.when (small l.length) (.ret (.pl .ints l))
  | _ => .fail
def sameStateG : List CV → T CV
  | [.agg ⟨[.int .i64 t, .int .i64 n, .pl .ints l]⟩, .agg ⟨[.int .i64 t', .int .i64 n', .pl .ints l']⟩] => T.when (small l.length) (.ret (.bool (t == t' && n == n' && l == l')))
  | _ => .fail
def copyStateG : List CV → T CV
  | [.agg ⟨[.int .i64 t, .int .i64 n, .pl .ints l]⟩] => T.when (small l.length) (.ret (.agg #[.int .i64 t, .int .i64 n, .pl .ints l]))
  | _ => .fail
def checkG : List CV → T CV
  | [.agg ⟨[.int .i64 t, .int .i64 n, .pl .ints l]⟩] => T.when (small l.length) (.ret (.int .i64 (checkN t n l)))
  | _ => .fail
def pickG : List CV → T CV
  | [.int .i64 x, .int .i64 n] => T.when (decide (-9223372036854775808 ≤ x) && decide (x ≤ 9223372036854775807) && decide (n ≤ 9223372036854775807)) (.ret (.int .i64 (pick x n)))
  | _ => .fail

def sgS : Sg := .agg [.any, .any, .l .ints]
def kitE1 : List (Nat × ExtFn) := [(39, pureExt (sigExt [.l .ints, .l .ints] sameIntsG)), (43, pureExt (sigExt [.l .ints] copyIntsG)),
  (219, pureExt (sigExt [.l .ints] rrisesG)), (124, pureExt (sigExt [sgS] frisesG))]
def kitE : List (Nat × ExtFn) := [(18, pureExt (sigExt [sgS, sgS] sameStateG)), (21, pureExt (sigExt [sgS] copyStateG)),
  (178, pureExt (sigExt [sgS] checkG)), (17, pureExt (sigExt [sgS] checkG))] ++ kitE1

end Go.Proofs.YtknijbcmhjgllaaGreatD
