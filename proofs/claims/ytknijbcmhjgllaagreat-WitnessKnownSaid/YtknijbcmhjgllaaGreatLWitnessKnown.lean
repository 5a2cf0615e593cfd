/-
  The law WitnessKnown answers true for all arguments, and leaves every block of memory that was there as it was, in every memory and on every tape. No further condition.
  By trees of a reference run on open data, compared by Lean's kernel, and the theorem (text Sound4) that the model's run comes to the same.
-/
import Derived.Test.YtknijbcmhjgllaaGreatRows
import Derived.Test.YtknijbcmhjgllaaGreatWtkAD
import Derived.Test.YtknijbcmhjgllaaGreatClose
import Derived.Test.YtknijbcmhjgllaaGreatChecked
import Derived.WalkKit
namespace Go.Proofs.YtknijbcmhjgllaaGreat.witnessKnown
open Go.ChangeShapes Go.WideShapes Go.ChangeAt Go.RowKit
open Go.Proofs.YtknijbcmhjgllaaGreatD
set_option linter.unusedVariables false

theorem own : ownKnob Tryz.prog.godebug = none := by kernel_rfl
theorem laid : laidOutB Tryz.prog = true := by kernel_rfl

set_option maxRecDepth 100000 in
theorem lifted (os : Os) (started : os.Started) (H : Type) (enc : TypeId × Value → H) :
    ReturnsInHanded {} Tryz.checked os 3 .any (Rows.witnessKnownSpec.pre6 enc Tryz.prog Tryz.f3 Rows.witnessKnownRow.domain false) (Rows.witnessKnownSpec.post enc Tryz.prog Tryz.f3 false true false false) := by
  refine returnsInHanded_of_change (C := Tryz.checked) own started (by kernel_rfl) Tryz.func3
    (ChangeSpec.witness6 (enc := enc) (C := Tryz.checked) false ⟨#[], #[], []⟩ 8 (by kernel_rfl) (by kernel_rfl) (by kernel_rfl) (by kernel_rfl)) ?_
  intro W base args ds gs before hval hW hcnd _
  exact law_row (ars := []) laid (by kernel_rfl) rfl (fun ds hd => by cases ds with | nil => exact ⟨rfl, rfl, rfl⟩ | cons d ds => cases hd) (fun W' b sp hd => trodAll_mk1 (shut_bool Tryz.underlying4 true)) wknown_all hval hW

theorem over : Rows.witnessKnownRow.holds Tryz.pinned (OpenSpec.ofChange Rows.witnessKnownSpec) :=
  OpenClaim.holds_of_wide 3 Tryz.f3 rfl rfl rfl rfl rfl rfl rfl ⟨rfl, rfl, rfl, rfl, rfl⟩ rfl rfl rfl rfl rfl (by kernel_rfl) Tryz.func3 (by kernel_rfl)
    (of_decide_eq_true (by kernel_rfl)) (by unfold Func.isWrapper; first | (rw [if_pos (by decide +kernel)]; kernel_rfl) | (rw [if_neg (by decide +kernel)]; exact ⟨rfl, rfl⟩))
    (fun os started H enc _ => lifted os started H enc)

theorem proved : Rows.WitnessKnownSaid := over

end Go.Proofs.YtknijbcmhjgllaaGreat.witnessKnown
#print axioms Go.Proofs.YtknijbcmhjgllaaGreat.witnessKnown.proved
