/-
  Chapter 06: sums: the document's total.
-/
import Derived.Test.YtncbiabbkgkdiaaCtrG
import Derived.Test.YtncbiabbkgkdiaaStA
set_option linter.unusedVariables false
set_option linter.unusedSimpArgs false
namespace Go.Proofs.YtncbiabbkgkdiaaD
open Go Go.RowKit

theorem rtotal_fn : PureFn Try.prog 15 (sigExt [.any, .l .ints] totalG) :=
  pureFn_mk (bodied_ex (by kernel_rfl)) fun args d h => by
    unfold totalG at h
    split at h
    · rename_i n l
      obtain ⟨hc, h1⟩ := ev_when h
      cases ev_ret h1
      refine pureAt0 plainN mixedN noE ctrL_ok (k := 30) ((rtotal_tree n l).trans ?_) rfl
      simp [T.ev_ite, T.ev_ret, hc]
    · exact (ev_fail h).elim
def rtE : List (Nat × ExtFn) := [(15, pureExt (sigExt [.any, .l .ints] totalG))]
theorem rtE_ok (N : Nat) : ExtsOk Try.prog N rtE := extsOk_cons (extOk_pure rtotal_fn) extsOk_nil

end Go.Proofs.YtncbiabbkgkdiaaD
