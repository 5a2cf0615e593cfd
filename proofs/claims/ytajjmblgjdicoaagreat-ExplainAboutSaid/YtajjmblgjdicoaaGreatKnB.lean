/-
  Chapter 28: the chapter's case and its steps.
-/
import Derived.Test.YtajjmblgjdicoaaGreatExpA
import Derived.Test.YtajjmblgjdicoaaGreatFrzA
set_option linter.unusedVariables false
set_option linter.unusedSimpArgs false
namespace Go.Proofs.YtajjmblgjdicoaaGreatD
open Go Go.RowKit

def twoC : CV := .agg #[.pl .strs [⟨#[97]⟩, ⟨#[98]⟩], .pl .states [⟨1, 1, []⟩, ⟨2, 0, []⟩], .pl .trans [⟨⟨#[116]⟩, 0, 9, [⟨0, ⟨1, 2, 0, ⟨0, 0⟩⟩⟩, ⟨1, ⟨3, 5, 0, ⟨2, 1⟩⟩⟩], [3, 4]⟩, ⟨⟨#[117]⟩, 1, 8, [⟨0, ⟨2, 0, 0, ⟨2, 1⟩⟩⟩], [2]⟩]]
def st1 : DStep := ⟨1, 0, 0, ⟨2, 0, 0, ⟨2, 1⟩⟩, ⟨1, 1, []⟩, ⟨1, 1, []⟩⟩
def st2 : DStep := ⟨0, 0, 0, ⟨1, 2, 0, ⟨0, 0⟩⟩, ⟨1, 1, []⟩, ⟨1, 3, []⟩⟩
def st3 : DStep := ⟨0, 1, 1, ⟨3, 5, 0, ⟨2, 1⟩⟩, ⟨2, 0, []⟩, ⟨2, 0, [5]⟩⟩
set_option maxRecDepth 100000 in
theorem two_fn : PureFn Tryz.prog 29 (onlyG [] twoC) := only_fn plainN mixedN noE noL (k := 60) (by kernel_rfl) rfl (by kernel_rfl)
def twoE : List (Nat × ExtFn) := [(29, pureExt (onlyG [] twoC))]
theorem twoE_ok (N : Nat) : ExtsOk Tryz.prog N twoE := extsOk_cons (extOk_pure two_fn) extsOk_nil
set_option maxRecDepth 100000 in
theorem three_fn : PureFn Tryz.prog 30 (onlyG [] (.pl .steps [st1, st2, st3])) := only_fn plainN mixedN twoE_ok noL (k := 60) (by kernel_rfl) rfl (by kernel_rfl)

end Go.Proofs.YtajjmblgjdicoaaGreatD
