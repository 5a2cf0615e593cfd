/-
  Lists written over: trees.
-/
import Derived.Test.YtknijbcmhjgllaaGreatKitO2
set_option linter.unusedVariables false
set_option linter.unusedSimpArgs false
namespace Go.Proofs.YtknijbcmhjgllaaGreatD
open Go Go.RowKit

/- List (RC.den .ints) -/
def orEnd0 : NSt := ⟨[.tuple #[]], [], [(0, .rows .ints [])], 1⟩
set_option maxRecDepth 100000 in
theorem or_tree (l : List Int) : ((stRun Tryz.prog [] ovL 30 55 ⟨[.row 0 1 0], [], [(0, .rows .ints l)], 1⟩).cut
    (.ite (.all) (.all))).ev = T.ev (α := NSt) (
     .ite ((0 : Int) == (0 : Int) && small l.length)
      (stAt orEnd0 [.l .ints (overAt l (0 : Nat) l.length)])
      (.fail)) := by kernel_rfl
/- List (RC.den .ints) -/
def owEnd0 : NSt := ⟨[.tuple #[]], [], [(0, .rows .ints [])], 1⟩
set_option maxRecDepth 100000 in
theorem ow_tree (s n c : Nat) (l : List Int) : ((stRun Tryz.prog [] ovL 30 55 ⟨[.win 0 1 s n c], [], [(0, .rows .ints l)], 1⟩).cut
    (.ite (.all) (.all))).ev = T.ev (α := NSt) (
     .ite ((0 : Int) == (0 : Int) && small n && (s + n).ble l.length)
      (stAt owEnd0 [.l .ints (overAt l s n)])
      (.fail)) := by kernel_rfl
/-  -/
def onEnd0 : NSt := ⟨[.tuple #[]], [], [], 0⟩
set_option maxRecDepth 100000 in
theorem on_tree : ((stRun Tryz.prog [] ovL 30 55 ⟨[.slice none 0 0], [], [], 0⟩).cut
    (.yes (.all))).ev = T.ev (α := NSt) (
     stAt onEnd0 []) := by kernel_rfl
/-  -/
def oeEnd0 : NSt := ⟨[.tuple #[]], [], [], 0⟩
set_option maxRecDepth 100000 in
theorem oe_tree : ((stRun Tryz.prog [] ovL 30 55 ⟨[.empty], [], [], 0⟩).cut
    (.yes (.all))).ev = T.ev (α := NSt) (
     stAt oeEnd0 []) := by kernel_rfl

end Go.Proofs.YtknijbcmhjgllaaGreatD
