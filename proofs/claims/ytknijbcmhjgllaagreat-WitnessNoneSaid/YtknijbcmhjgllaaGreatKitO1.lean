/-
  Lists written over: rounds.
-/
import Derived.Test.YtknijbcmhjgllaaGreatKitO0
set_option linter.unusedVariables false
set_option linter.unusedSimpArgs false
namespace Go.Proofs.YtknijbcmhjgllaaGreatD
open Go Go.RowKit

/- List (RC.den .ints) -/
def orOut0 : NSt := ⟨[.junk, .junk, .junk, .junk, .junk, .junk, .junk, .junk, .junk, .junk, .junk, .junk], [], [(0, .rows .ints [])], 2⟩
set_option maxRecDepth 100000 in
theorem or_round (k : Nat) (i : Int) (l : List Int) : (rounds Tryz.prog [] [] 30 ovId 2 none orSk (k + 1) [.i i, .l .ints l]).ev = T.ev (
     .ite (decide (i < (↑l.length : Int)))
      (.ite (inRange i l.length)
       (.ite (i.toNat.blt l.length)
        (rounds Tryz.prog [] [] 30 ovId 2 none orSk k [.i (IntKind.i64.wrap (i + (1 : Int))), .l .ints (l.set i.toNat (-77 : Int))])
        (.fail))
       (.fail))
      (outAt (.exit 0) orOut0 [.l .ints (l)])) := by kernel_rfl
/- List (RC.den .ints) -/
def owOut0 : NSt := ⟨[.junk, .junk, .junk, .junk, .junk, .junk, .junk, .junk, .junk, .junk, .junk, .junk], [], [(0, .rows .ints [])], 2⟩
set_option maxRecDepth 100000 in
theorem ow_round (k : Nat) (s n c : Nat) (i : Int) (l : List Int) : (rounds Tryz.prog [] [] 30 ovId 2 none owSk (k + 1) [.n s, .n n, .n c, .i i, .l .ints l]).ev = T.ev (
     .ite (decide (i < (↑n : Int)))
      (.ite (inRange i n)
       (.ite ((s + i.toNat).blt l.length)
        (rounds Tryz.prog [] [] 30 ovId 2 none owSk k [.n (s), .n (n), .n (c), .i (IntKind.i64.wrap (i + (1 : Int))), .l .ints (l.set (s + i.toNat) (-77 : Int))])
        (.fail))
       (.fail))
      (outAt (.exit 0) owOut0 [.l .ints (l)])) := by kernel_rfl
/-  -/
def onOut0 : NSt := ⟨[.junk, .junk, .junk, .junk, .junk, .junk, .junk, .junk, .junk, .junk, .junk, .junk], [], [], 1⟩
set_option maxRecDepth 100000 in
theorem on_round (k : Nat) (i : Int) : (rounds Tryz.prog [] [] 30 ovId 1 none onSk (k + 1) [.i i]).ev = T.ev (
     .ite (decide (i < (↑(0 : Nat) : Int)))
      (.fail)
      (outAt (.exit 0) onOut0 [])) := by kernel_rfl
/-  -/
def oeOut0 : NSt := ⟨[.junk, .junk, .junk, .junk, .junk, .junk, .junk, .junk, .junk, .junk, .junk, .junk], [], [], 1⟩
set_option maxRecDepth 100000 in
theorem oe_round (k : Nat) (i : Int) : (rounds Tryz.prog [] [] 30 ovId 1 none oeSk (k + 1) [.i i]).ev = T.ev (
     .ite (decide (i < (0 : Int)))
      (.fail)
      (outAt (.exit 0) oeOut0 [])) := by kernel_rfl

end Go.Proofs.YtknijbcmhjgllaaGreatD
