/-
  The law MachineTwo answers true for all arguments, and leaves every block of memory that was there as it was, in every memory and on every tape. No further condition.
  By trees of a reference run on open data, compared by Lean's kernel, and the theorem (text Sound4) that the model's run comes to the same.
-/
import Derived.Test.YtcomfanipljolaaRows
import Derived.Test.YtcomfanipljolaaMchTL
import Derived.Test.YtcomfanipljolaaClose
import Derived.Test.YtcomfanipljolaaChecked
import Derived.WalkKit
namespace Go.Proofs.Ytcomfanipljolaa.machineTwo
open Go.ChangeShapes Go.WideShapes Go.ChangeAt Go.RowKit
open Go.Proofs.YtcomfanipljolaaD
set_option linter.unusedVariables false

theorem own : ownKnob Try.prog.godebug = none := by kernel_rfl
theorem laid : laidOutB Try.prog = true := by kernel_rfl

set_option maxRecDepth 100000 in
theorem lifted (os : Os) (started : os.Started) (H : Type) (enc : TypeId × Value → H) :
    ReturnsInHanded {} Try.checked os 7 .any (Rows.machineTwoSpec.pre6 enc Try.prog Try.f7 Rows.machineTwoRow.domain false) (Rows.machineTwoSpec.post enc Try.prog Try.f7 false true false false) := by
  refine returnsInHanded_of_change (C := Try.checked) own started (by kernel_rfl) Try.func7
    (ChangeSpec.witness6 (enc := enc) (C := Try.checked) false ⟨#[], #[.agg #[.int .i64 0, .int .i64 0, .slice none 0 0], .slice none 0 0, .int .i64 0], []⟩ 8 (by kernel_rfl) (by kernel_rfl) (by kernel_rfl) (by kernel_rfl)) ?_
  intro W base args ds gs before hval hW hcnd _
  exact law_row (ars := [.agg [i6, i6, .row .ints], .one (.row .ints), .one i6]) laid (by kernel_rfl) rfl (fun ds hd => by match ds, hd with | [d0, d1, d2], _ => exact ⟨rfl, rfl, rfl⟩) (fun W' b sp hd => trodAll_mk1 (shut_bool Try.underlying4 true)) two_all hval hW

theorem over : Rows.machineTwoRow.holds Try.pinned (OpenSpec.ofChange Rows.machineTwoSpec) :=
  OpenClaim.holds_of_wide 7 Try.f7 rfl rfl rfl rfl rfl rfl rfl ⟨rfl, rfl, rfl, rfl, rfl⟩ rfl rfl rfl rfl rfl (by kernel_rfl) Try.func7 (by kernel_rfl)
    (of_decide_eq_true (by kernel_rfl)) (by unfold Func.isWrapper; first | (rw [if_pos (by decide +kernel)]; kernel_rfl) | (rw [if_neg (by decide +kernel)]; exact ⟨rfl, rfl⟩))
    (fun os started H enc _ => lifted os started H enc)

theorem proved : Rows.MachineTwoSaid := over

end Go.Proofs.Ytcomfanipljolaa.machineTwo
#print axioms Go.Proofs.Ytcomfanipljolaa.machineTwo.proved
