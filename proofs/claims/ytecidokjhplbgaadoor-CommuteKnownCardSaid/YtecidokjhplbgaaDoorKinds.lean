/-
  The kinds of rows that this program's types are; which variables are looked at in its loops and behind them.
-/
import Derived.Test.YtecidokjhplbgaaDoorCv
namespace Go.Proofs.YtecidokjhplbgaaDoorD
open Go

def kindTab : List (Nat × RC) := [(2, .ints), (3, .ints), (4, .bools), (5, .bytes), (6, .bytes), (9, .strs), (10, .strs), (11, .strs), (23, .ints), (26, .rets), (27, .rets), (28, .ops), (29, .ops), (79, .rets), (80, .rets), (106, .ints), (123, .strs), (124, .strs), (145, .bytes), (146, .bytes)]
def kindOf (t : TypeId) : Option RC := go kindTab
where go : List (Nat × RC) → Option RC
  | [] => none
  | (u, r) :: q => bif Nat.beq u t then some r else go q
def maskTab : List (Nat × List Nat × Nat × Nat) := [(5, [0, 1, 0, 1], 98364, 60), (11, [0, 1, 0, 1, 1, 1, 1, 1, 1, 1, 1, 0, 1], 15762598695797277, 541), (26, [0, 0, 1, 1, 1, 1, 1, 1, 1, 1], 1807, 1793), (38, [0, 1, 0, 1, 1, 1, 1], 211, 83), (39, [0, 1, 1, 1, 1], 51, 16), (42, [0, 1, 0, 1], 403, 16), (45, [0, 1, 0, 1, 1, 1, 1], 61, 29), (46, [0, 1, 0, 1], 20, 4), (49, [0, 0, 1, 1, 1, 1, 1, 1, 1, 1], 2035, 16), (65, [0, 1, 0, 1, 1, 1, 1], 1011, 499), (65, [0, 1, 0, 1, 1, 1, 1, 1, 1], 1523, 16), (69, [0, 1, 0, 1, 1], 61, 29), (69, [0, 1, 0, 1, 1, 1, 1], 476, 92), (70, [0, 1, 0, 1, 1, 1, 1, 1, 1, 1, 1, 1, 1, 1], 4436777100798802905238461235138, 12992), (76, [0, 0, 1, 1, 1, 1, 1, 1], 61, 12), (84, [0, 0, 1], 19, 19), (85, [0, 0, 1, 1, 1, 0, 1, 0, 1, 1, 1, 1, 1], 130075, 15387), (85, [0, 0, 1, 1, 1, 0, 1, 1, 1, 1, 1], 146459, 15387)]

end Go.Proofs.YtecidokjhplbgaaDoorD
