/-
  The kinds of rows that this program's types are; which variables are looked at in its loops and behind them.
-/
import Derived.Test.YtcomfanipljolaaCv
namespace Go.Proofs.YtcomfanipljolaaD
open Go

def kindTab : List (Nat × RC) := [(2, .ints), (3, .ints), (4, .bools), (5, .bytes), (6, .bytes), (9, .strs), (10, .strs), (11, .strs), (22, .intss), (23, .states), (24, .states), (25, .rets), (26, .rets), (27, .ops), (28, .ops), (31, .ints), (41, .opss), (77, .states), (88, .ints), (92, .intss), (100, .intss), (101, .intss), (102, .intss), (103, .intss), (107, .ints), (132, .bytes), (133, .bytes)]
def kindOf (t : TypeId) : Option RC := go kindTab
where go : List (Nat × RC) → Option RC
  | [] => none
  | (u, r) :: q => bif Nat.beq u t then some r else go q
def maskTab : List (Nat × List Nat × Nat × Nat) := [(4, [0, 1, 0, 1, 1, 1, 1, 1, 1, 1, 1], 217204, 65652), (7, [0, 1, 0, 1, 1, 1, 1], 974, 460), (7, [0, 1, 0, 1, 1, 1, 1, 1, 1, 1], 5580, 460), (18, [0, 1, 0, 1, 1, 1, 0, 1], 393336, 0), (19, [0, 1, 0, 1, 1], 246, 118), (20, [0, 1, 0, 1], 6192, 0), (21, [0, 1, 0, 1, 1], 246, 112), (36, [0, 1, 0, 1], 403, 16), (38, [0, 1, 0, 1, 1], 51, 16), (39, [0, 1], 5, 0), (51, [0, 1, 0, 1, 1], 499, 240), (52, [0, 1, 0, 1, 1, 1], 243, 114), (54, [0, 1, 0, 1, 1], 115, 48), (55, [0, 0, 1, 1, 1, 1], 966, 966), (56, [0, 1, 0, 1, 1], 115, 48), (60, [0, 1], 3589, 0), (73, [0, 1, 0, 1, 1], 49392, 0), (75, [0, 1, 0, 1], 1560, 0), (76, [0, 1, 0, 1], 3128, 0), (83, [0, 1, 0, 1], 51, 16), (84, [0, 1, 0, 1], 115, 48), (86, [0, 1, 0, 1], 54, 16), (88, [0, 1, 0, 1, 1], 12352, 0), (101, [0], 3, 0), (102, [0, 1], 53, 0), (106, [0, 1], 13, 0)]

end Go.Proofs.YtcomfanipljolaaD
