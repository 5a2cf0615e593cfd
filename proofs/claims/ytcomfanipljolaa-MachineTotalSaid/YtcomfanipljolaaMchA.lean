/-
  Chapter 11: what the machine answers; contracts of all chapters.
-/
import Derived.Test.YtcomfanipljolaaChCtr
import Derived.Test.YtcomfanipljolaaChSet
import Derived.Test.YtcomfanipljolaaChMap
import Derived.Test.YtcomfanipljolaaChFif
import Derived.Test.YtcomfanipljolaaChEsc
set_option linter.unusedVariables false
set_option linter.unusedSimpArgs false
namespace Go.Proofs.YtcomfanipljolaaD
open Go Go.RowKit

def machA (t n : Int) (l : List Int) (k a b : Int) : Ans :=
  if t = 1 then Ctr.ctrA t n l k a b
  else if t = 2 then Set.setA t n l k a b
  else if t = 3 then Map.mapA t n l k a b
  else if t = 4 then Fif.fifoA t n l k a b
  else if t = 5 then Esc.escA t n l k a b
  else bad 8
def machB (l : List Int) (a b : Int) : Bool := Set.midB l && (Ctr.inI64 a && Ctr.inI64 b)
def machG : List CV → T CV
  | [.agg ⟨[.int .i64 t, .int .i64 n, .pl .ints l]⟩, .int .i64 k, .int .i64 a, .int .i64 b] => T.when (machB l a b) (.ret (machA t n l k a b).cv)
  | _ => .fail
def typeA (k : Int) : Int × Int := if k < 1 ∨ 15 < k then (0, 6) else if k ≤ 2 then (1, 0) else if k ≤ 6 then (2, 0) else if k ≤ 9 then (3, 0) else if k ≤ 12 then (4, 0) else (5, 0)
def appE : List (Nat × ExtFn) := [(44, pureExt (sigExt [sgS] Ctr.ctrApplyG)), (45, pureExt (sigExt [sgS] Set.setG)), (46, pureExt (sigExt [sgS] Map.mapG)), (47, pureExt (sigExt [sgS] Fif.fifoG)), (48, pureExt (sigExt [sgS] Esc.escApplyG)),
  (31, pureExt (sigExt [sgS] Ctr.ctrApplyG)), (32, pureExt (sigExt [sgS] Set.setG)), (33, pureExt (sigExt [sgS] Map.mapG)), (34, pureExt (sigExt [sgS] Fif.fifoG)), (35, pureExt (sigExt [sgS] Esc.escApplyG))]
theorem appE_ok (N : Nat) : ExtsOk Try.prog N appE :=
  extsOk_cons (extOk_pure Ctr.ctrApply_fn) (extsOk_cons (extOk_pure Set.set_fn) (extsOk_cons (extOk_pure Map.map_fn) (extsOk_cons (extOk_pure Fif.fifo_fn) (extsOk_cons (extOk_pure Esc.escApply_fn)
    (extsOk_cons (extOk_pure Ctr.rctrApply_fn) (extsOk_cons (extOk_pure Set.rset_fn) (extsOk_cons (extOk_pure Map.rmap_fn) (extsOk_cons (extOk_pure Fif.rfifo_fn) (extsOk_cons (extOk_pure Esc.rescApply_fn) extsOk_nil)))))))))

end Go.Proofs.YtcomfanipljolaaD
