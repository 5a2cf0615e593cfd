/-
  slices.Clone of whole numbers.
-/
import Derived.Test.YtecidokjhplbgaaDoorKitD
import Derived.Test.YtecidokjhplbgaaDoorStA
set_option linter.unusedVariables false
set_option linter.unusedSimpArgs false
namespace Go.Proofs.YtecidokjhplbgaaDoorD
open Go Go.RowKit

/- List (RC.den .ints) -/
def cloneEnd0 : NSt := ⟨[.row 0 1 (0)], [], [(0, .rows .ints [])], 1⟩
/- List (RC.den .ints) -/
def cloneEndB0 : NSt := ⟨[.row 0 1 (0)], [], [(0, .rows .ints [])], 1⟩
/- List (RC.den .ints) -/
def cloneEndC0 : NSt := ⟨[.row 0 1 (0)], [], [(0, .rows .ints [])], 1⟩
def cloneG : NSt → T NSt
  | ⟨[.pl .ints l], [], [], 0⟩ => T.when (small l.length) (.ret ⟨[.row 0 1 0], [], [(0, .rows .ints l)], 1⟩)
  | _ => .fail
end Go.Proofs.YtecidokjhplbgaaDoorD

