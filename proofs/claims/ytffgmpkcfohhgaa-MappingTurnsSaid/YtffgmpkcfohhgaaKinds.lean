/-
  The kinds of rows that this program's types are; which variables are looked at in its loops and behind them.
-/
import Derived.Test.YtffgmpkcfohhgaaCv
namespace Go.Proofs.YtffgmpkcfohhgaaD
open Go

def kindTab : List (Nat × RC) := [(2, .ints), (3, .ints), (4, .bools), (5, .bytes), (6, .bytes), (9, .strs), (10, .strs), (11, .strs), (22, .intss), (23, .states), (24, .states), (27, .rets), (28, .rets), (29, .ints), (61, .states), (72, .bytes), (73, .bytes)]
def kindOf (t : TypeId) : Option RC := go kindTab
where go : List (Nat × RC) → Option RC
  | [] => none
  | (u, r) :: q => bif Nat.beq u t then some r else go q
def maskTab : List (Nat × List Nat × Nat × Nat) := [(12, [0, 1, 0, 1], 3128, 0), (13, [0, 1, 0, 1, 1], 51, 16), (14, [0, 1, 0, 1, 1], 49392, 0), (15, [0, 1, 0, 1], 1560, 0), (27, [0, 0, 1, 1, 1, 1], 966, 966), (28, [0, 1, 0, 1, 1], 115, 48), (30, [0, 1], 5, 0), (35, [0, 1, 0, 1], 51, 16), (36, [0, 1, 0, 1], 115, 48), (37, [0], 3, 0), (43, [0, 1, 0, 1], 54, 16)]

end Go.Proofs.YtffgmpkcfohhgaaD
