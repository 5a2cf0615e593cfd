/-
  Chapter 09: what queues answer.
-/
import Derived.Test.YtecidokjhplbgaaGreatDoorKitO5
import Derived.Test.YtecidokjhplbgaaGreatDoorKitQ
import Derived.Test.YtecidokjhplbgaaGreatDoorClose
import Derived.Test.YtecidokjhplbgaaGreatDoorAns
set_option linter.unusedVariables false
set_option linter.unusedSimpArgs false
namespace Go.Proofs.YtecidokjhplbgaaGreatDoorD.Fif
open Go Go.RowKit

def fifoA (t n : Int) (l : List Int) (k a b : Int) : Ans :=
  if t ≠ 4 ∨ checkN t n l ≠ 0 then bad 12
  else if k < 10 ∨ 12 < k then bad 6
  else if b ≠ 0 ∨ (k ≠ 10 ∧ a ≠ 0) then bad 2
  else if k = 10 then ⟨⟨4, 0, l ++ [a]⟩, ⟨0, 0⟩, 0⟩
  else if k = 12 then ⟨⟨4, 0, l⟩, ⟨2, l.length⟩, 0⟩
  else match l with
    | [] => ⟨⟨4, 0, []⟩, ⟨1, 0⟩, 0⟩
    | x :: r => ⟨⟨4, 0, r⟩, ⟨2, x⟩, 0⟩
def fifoG : List CV → T CV
  | [.agg ⟨[.int .i64 t, .int .i64 n, .pl .ints l]⟩, .int .i64 k, .int .i64 a, .int .i64 b] => T.when (small l.length && small (l.length + 1)) (.ret (fifoA t n l k a b).cv)
  | _ => .fail
def cloneE : List (Nat × ExtFn) := (69, stExt cloneG) :: kitE
theorem cloneE_ok (N : Nat) : ExtsOk Tryz.prog N cloneE := extsOk_cons (extOk_st clone_fn) (kitE_ok N)

theorem small_succ {n : Nat} (h : small (n + 1) = true) : roomB (n + 1) 8 = true := roomB_small h (by decide)

end Go.Proofs.YtecidokjhplbgaaGreatDoorD.Fif

