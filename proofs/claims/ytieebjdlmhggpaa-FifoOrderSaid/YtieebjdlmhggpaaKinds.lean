/-
  The kinds of rows that this program's types are; which variables are looked at in its loops and behind them.
-/
import Derived.Test.YtieebjdlmhggpaaCv
namespace Go.Proofs.YtieebjdlmhggpaaD
open Go

def kindTab : List (Nat × RC) := [(2, .ints), (3, .ints), (4, .bools), (5, .bytes), (6, .bytes), (9, .strs), (10, .strs), (11, .strs), (22, .intss), (23, .states), (24, .states), (27, .rets), (28, .rets), (29, .ints), (51, .intss), (52, .intss), (53, .intss), (54, .intss), (69, .states), (78, .bytes), (79, .bytes)]
def kindOf (t : TypeId) : Option RC := go kindTab
where go : List (Nat × RC) → Option RC
  | [] => none
  | (u, r) :: q => bif Nat.beq u t then some r else go q
def maskTab : List (Nat × List Nat × Nat × Nat) := [(6, [0, 1, 0, 1, 1, 1, 1], 1011, 497), (14, [0, 1, 0, 1, 1, 1], 4112, 0), (16, [0, 1, 0, 1, 1], 51, 16), (18, [0, 1, 0, 1, 1], 51, 16), (19, [0, 1], 5, 0), (32, [0, 1, 0, 1, 1], 12307, 16), (35, [0, 1, 0, 1], 51, 16), (36, [0, 1], 27, 0), (44, [0, 1, 0, 1], 54, 16)]

end Go.Proofs.YtieebjdlmhggpaaD
