/-
  Escrow: the program's functions and the document's, on open arguments.
-/
import Derived.Test.YtjbbhccoamhbgaaFlat
import Derived.Test.YtjbbhccoamhbgaaProg
import Derived.KernelRfl
set_option linter.unusedVariables false
set_option linter.unusedSimpArgs false
namespace Go.Proofs.YtjbbhccoamhbgaaD
open Go Go.RowKit

theorem plain : plainNames Try.prog = true := by kernel_rfl
theorem mixed : Try.prog.follows .mixedOrders = true := by kernel_rfl

def cap : Int := 4611686018427387904

/-- Is there such an operation; with such an argument? -/
def mayK (k : Int) : Bool := k == 13 || k == 14 || k == 15
def mayF (k a : Int) : Bool := (k == 13 || k == 14) && (decide (0 ≤ a) && decide (a ≤ 4611686018427387904)) || k == 15 && a == 0

def mayG : List Value → T Value
  | [.int .i64 a, .int .i64 b] => .ret (.tuple #[.bool (mayK a), .bool (mayF a b)])
  | _ => .fail

set_option maxRecDepth 100000 in
theorem may_tree (a b : Int) : ((tden Try.prog [] 30).call 0 25 [.int .i64 a, .int .i64 b] ⟨.nil, 0⟩).val.ev = T.ev (α := Value) (.ite (a == 13)
     (.ite (decide (b ≥ 0))
      (.ret (.tuple #[.bool true, .bool (decide (b ≤ 4611686018427387904))]))
      (.ret (.tuple #[.bool true, .bool false])))
     (.ite (a == 14)
      (.ite (decide (b ≥ 0))
       (.ret (.tuple #[.bool true, .bool (decide (b ≤ 4611686018427387904))]))
       (.ret (.tuple #[.bool true, .bool false])))
      (.ite (a == 15)
       (.ret (.tuple #[.bool true, .bool (b == 0)]))
       (.ret (.tuple #[.bool false, .bool false]))))) := by kernel_rfl

theorem may_plain : PlainAll Try.prog 25 mayG := by
  refine ⟨⟨_, _, Try.func25, rfl⟩, fun args v h => ?_⟩
  unfold mayG at h
  split at h
  · rename_i a b
    simp only [T.ev, Option.some.injEq] at h
    subst h
    refine plain_of plain mixed (fun _ => extsOk_nil) (k := 30) rfl rfl ?_
    rw [may_tree]
    simp only [T.ev, mayK, mayF]
    by_cases h1 : a = 13
    · subst h1; by_cases h2 : 0 ≤ b <;> simp [h2]
    · by_cases h3 : a = 14
      · subst h3; by_cases h2 : 0 ≤ b <;> simp [h2]
      · have e1 : (a == 13) = false := by simpa using h1
        have e3 : (a == 14) = false := by simpa using h3
        by_cases h4 : a = 15
        · subst h4; simp
        · have e4 : (a == 15) = false := by simpa using h4
          simp [e1, e3, e4]
  · simp [T.ev] at h

end Go.Proofs.YtjbbhccoamhbgaaD
