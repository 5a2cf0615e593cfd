/-
  The kinds of rows that this program's types are; which variables are looked at in its loops and behind them.
-/
import Derived.Test.YtdefopkieleojaaCv
namespace Go.Proofs.YtdefopkieleojaaD
open Go

def kindTab : List (Nat × RC) := [(2, .ints), (3, .ints), (4, .bools), (5, .bytes), (6, .bytes), (9, .strs), (10, .strs), (11, .strs), (22, .intss), (23, .states), (24, .states), (27, .rets), (28, .rets), (29, .ints), (52, .intss), (67, .states), (80, .bytes), (81, .bytes)]
def kindOf (t : TypeId) : Option RC := go kindTab
where go : List (Nat × RC) → Option RC
  | [] => none
  | (u, r) :: q => bif Nat.beq u t then some r else go q
def maskTab : List (Nat × List Nat × Nat × Nat) := [(7, [0, 1, 0, 1, 1, 1, 1], 253, 125), (7, [0, 1, 0, 1, 1, 1, 1, 1], 16509, 125), (14, [0, 1, 0, 1, 1], 29, 12), (16, [0, 1, 0, 1, 1], 12352, 0), (17, [0, 1, 0, 1, 1], 499, 240), (20, [0, 1, 0, 1, 1], 51, 16), (21, [0, 1, 0, 1, 1, 1], 243, 114), (22, [0, 1, 0, 1, 1], 115, 48), (23, [0, 1], 5, 0), (45, [0, 1, 0, 1], 51, 16), (46, [0, 1], 53, 0), (55, [0, 1, 0, 1], 54, 16), (56, [0, 1], 13, 0)]

end Go.Proofs.YtdefopkieleojaaD
