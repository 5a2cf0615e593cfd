/-
  Chapter 07: the examples.
-/
import Derived.Test.YtdefopkieleojaaSetAK
set_option linter.unusedVariables false
set_option linter.unusedSimpArgs false
namespace Go.Proofs.YtdefopkieleojaaD
open Go Go.RowKit

def insE : List (Nat × ExtFn) := [(39, insertX)]
theorem insE_ok (N : Nat) : ExtsOk Try.prog N insE := extsOk_cons (insert_ok N) extsOk_nil
theorem awake_fn : PureFn Try.prog 8 trueG :=
  true_fn plainN mixedN insE_ok noL (k := 30) (by kernel_rfl) (by kernel_rfl)
theorem known_fn : PureFn Try.prog 5 trueG :=
  true_fn plainN mixedN insE_ok noL (k := 30) (by kernel_rfl) (by kernel_rfl)
def riE : List (Nat × ExtFn) := [(21, pureExt (sigExt [.l .ints] rwithG))]
theorem riE_ok (N : Nat) : ExtsOk Try.prog N riE := extsOk_cons (extOk_pure rwith_fn) extsOk_nil
/-- All numbers of a list, each once, rising. -/
def grow : List Int → List Int → List Int
  | o, [] => o
  | o, x :: r => grow (withN o x) r
def risenG : List CV → T CV
  | [.pl .ints l] => T.when (Nat.ble l.length 1000000) (.ret (.pl .ints (grow [] l)))
  | _ => .fail

end Go.Proofs.YtdefopkieleojaaD
