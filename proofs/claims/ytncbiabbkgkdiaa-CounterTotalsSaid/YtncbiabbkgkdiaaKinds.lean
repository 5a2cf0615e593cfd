/-
  The kinds of rows that this program's types are; which variables are looked at in its loops and behind them.
-/
import Derived.Test.YtncbiabbkgkdiaaCv
namespace Go.Proofs.YtncbiabbkgkdiaaD
open Go

def kindTab : List (Nat × RC) := [(2, .ints), (3, .ints), (4, .bools), (5, .bytes), (6, .bytes), (9, .strs), (10, .strs), (11, .strs), (22, .intss), (23, .states), (24, .states), (27, .rets), (28, .rets), (29, .ints), (49, .ints), (61, .states), (71, .bytes), (72, .bytes)]
def kindOf (t : TypeId) : Option RC := go kindTab
where go : List (Nat × RC) → Option RC
  | [] => none
  | (u, r) :: q => bif Nat.beq u t then some r else go q
def maskTab : List (Nat × List Nat × Nat × Nat) := [(7, [0, 1, 0, 1, 1, 1, 1], 967, 455), (14, [0, 1, 0, 1], 516, 0), (15, [0, 1, 0, 1], 51, 17), (16, [0, 1, 0, 1], 913, 17), (18, [0, 1, 0, 1, 1], 51, 16), (34, [0, 1, 0, 1], 51, 16), (35, [0, 1], 453, 0), (41, [0, 1, 0, 1], 54, 16)]

end Go.Proofs.YtncbiabbkgkdiaaD
