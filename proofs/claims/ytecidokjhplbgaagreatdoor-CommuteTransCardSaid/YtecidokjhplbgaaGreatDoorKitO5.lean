/-
  OverInts, OverState: contracts
-/
import Derived.Test.YtecidokjhplbgaaGreatDoorKitD
import Derived.Test.YtecidokjhplbgaaGreatDoorStA
set_option linter.unusedVariables false
set_option linter.unusedSimpArgs false
namespace Go.Proofs.YtecidokjhplbgaaGreatDoorD
open Go Go.RowKit

/- KitO0 -/
/- base 2 round none: Int, List (RC.den .ints): [.i (nat_lit 0), .l .ints (l)] -/
def orSk : NSt := ⟨[.row 0 1 (0), .junk, .int .i64 (0), .junk, .junk, .junk, .junk, .junk, .junk, .junk, .junk, .junk], [], [(0, .rows .ints [])], 2⟩
/- base 2 round none: Nat, Nat, Nat, Int, List (RC.den .ints): [.n (s), .n (n), .n (c), .i (nat_lit 0), .l .ints (l)] -/
def owSk : NSt := ⟨[.win 0 1 (0) (0) (0), .junk, .int .i64 (0), .junk, .junk, .junk, .junk, .junk, .junk, .junk, .junk, .junk], [], [(0, .rows .ints [])], 2⟩
/- base 1 round none: Int: [.i (nat_lit 0)] -/
def onSk : NSt := ⟨[.slice none (0) (0), .junk, .int .i64 (0), .junk, .junk, .junk, .junk, .junk, .junk, .junk, .junk, .junk], [], [], 1⟩
/- base 1 round none: Int: [.i (nat_lit 0)] -/
def oeSk : NSt := ⟨[.empty, .junk, .int .i64 (0), .junk, .junk, .junk, .junk, .junk, .junk, .junk, .junk, .junk], [], [], 1⟩
/- KitO1 -/
/- List (RC.den .ints) -/
def orOut0 : NSt := ⟨[.junk, .junk, .junk, .junk, .junk, .junk, .junk, .junk, .junk, .junk, .junk, .junk], [], [(0, .rows .ints [])], 2⟩
/- List (RC.den .ints) -/
def owOut0 : NSt := ⟨[.junk, .junk, .junk, .junk, .junk, .junk, .junk, .junk, .junk, .junk, .junk, .junk], [], [(0, .rows .ints [])], 2⟩
/-  -/
def onOut0 : NSt := ⟨[.junk, .junk, .junk, .junk, .junk, .junk, .junk, .junk, .junk, .junk, .junk, .junk], [], [], 1⟩
/-  -/
def oeOut0 : NSt := ⟨[.junk, .junk, .junk, .junk, .junk, .junk, .junk, .junk, .junk, .junk, .junk, .junk], [], [], 1⟩
/- KitO2 -/
/-- A list, so many numbers of it from a place on written over. -/
def overAt (l : List Int) (i : Nat) : Nat → List Int
  | 0 => l
  | d + 1 => overAt (l.set i (-77)) (i + 1) d
theorem overAt_length : ∀ (d : Nat) (l : List Int) (i : Nat), (overAt l i d).length = l.length
  | 0, l, i => rfl
  | d + 1, l, i => by rw [overAt, overAt_length d, List.length_set]

def orG : List Leaf → T (CEx × NSt)
  | [.i i, .l .ints l] => T.when (i == 0 && small l.length) (outAt (.exit 0) orOut0 [.l .ints (overAt l 0 l.length)])
  | _ => .fail
def owG : List Leaf → T (CEx × NSt)
  | [.n s, .n n, .n c, .i i, .l .ints l] => T.when (i == 0 && small n && Nat.ble (s + n) l.length) (outAt (.exit 0) owOut0 [.l .ints (overAt l s n)])
  | _ => .fail
def onG : List Leaf → T (CEx × NSt)
  | [.i i] => T.when (i == 0) (outAt (.exit 0) onOut0 [])
  | _ => .fail
def oeG : List Leaf → T (CEx × NSt)
  | [.i i] => T.when (i == 0) (outAt (.exit 0) oeOut0 [])
  | _ => .fail
def ovL : List (Nat × List Nat × LoopFn) := []
theorem ovL_ok (N : Nat) : LoopsOk Tryz.prog N ovL :=
  loopsOk_nil

/- KitO3 -/
/- List (RC.den .ints) -/
def orEnd0 : NSt := ⟨[.tuple #[]], [], [(0, .rows .ints [])], 1⟩
/- List (RC.den .ints) -/
def owEnd0 : NSt := ⟨[.tuple #[]], [], [(0, .rows .ints [])], 1⟩
/-  -/
def onEnd0 : NSt := ⟨[.tuple #[]], [], [], 0⟩
/-  -/
def oeEnd0 : NSt := ⟨[.tuple #[]], [], [], 0⟩
/- KitO4 -/
def overG : NSt → T NSt
  | ⟨[.row 0 1 0], [], [(0, .rows .ints l)], 1⟩ => T.when (small l.length) (.ret ⟨[.tuple #[]], [], [(0, .rows .ints (overAt l 0 l.length))], 1⟩)
  | ⟨[.win 0 1 s n c], [], [(0, .rows .ints l)], 1⟩ => T.when (small n && Nat.ble (s + n) l.length) (.ret ⟨[.tuple #[]], [], [(0, .rows .ints (overAt l s n))], 1⟩)
  | ⟨[.slice none 0 0], [], [], 0⟩ => .ret ⟨[.tuple #[]], [], [], 0⟩
  | ⟨[.empty], [], [], 0⟩ => .ret ⟨[.tuple #[]], [], [], 0⟩
  | _ => .fail
def overE : List (Nat × ExtFn) := []
theorem overE_ok (N : Nat) : ExtsOk Tryz.prog N overE := extsOk_nil

/- KitO50 -/
/- List (RC.den .ints) -/
def osrEnd0 : NSt := ⟨[.tuple #[]], [], [(0, .rows .ints [])], 1⟩
/- List (RC.den .ints) -/
def oswEnd0 : NSt := ⟨[.tuple #[]], [], [(0, .rows .ints [])], 1⟩
/-  -/
def osnEnd0 : NSt := ⟨[.tuple #[]], [], [], 0⟩
/-  -/
def oseEnd0 : NSt := ⟨[.tuple #[]], [], [], 0⟩
def overSG : NSt → T NSt
  | ⟨[.agg ⟨[.int .i64 t, .int .i64 n, .row 0 1 0]⟩], [], [(0, .rows .ints l)], 1⟩ => T.when (small l.length) (.ret ⟨[.tuple #[]], [], [(0, .rows .ints (overAt l 0 l.length))], 1⟩)
  | ⟨[.agg ⟨[.int .i64 t, .int .i64 n, .win 0 1 s m c]⟩], [], [(0, .rows .ints l)], 1⟩ => T.when (small m && Nat.ble (s + m) l.length) (.ret ⟨[.tuple #[]], [], [(0, .rows .ints (overAt l s m))], 1⟩)
  | ⟨[.agg ⟨[.int .i64 t, .int .i64 n, .slice none 0 0]⟩], [], [], 0⟩ => .ret ⟨[.tuple #[]], [], [], 0⟩
  | ⟨[.agg ⟨[.int .i64 t, .int .i64 n, .empty]⟩], [], [], 0⟩ => .ret ⟨[.tuple #[]], [], [], 0⟩
  | _ => .fail
def kitO : List (Nat × ExtFn) := overE
theorem kitO_ok (N : Nat) : ExtsOk Tryz.prog N kitO := overE_ok N

end Go.Proofs.YtecidokjhplbgaaGreatDoorD

