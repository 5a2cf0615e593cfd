/-
  The law ExplainKnown answers true for all arguments, and leaves every block of memory that was there as it was, in every memory and on every tape. No further condition.
  By trees of a reference run on open data, compared by Lean's kernel, and the theorem (text Sound4) that the model's run comes to the same.
-/
import Derived.Test.YtajjmblgjdicoaaGreatRows
import Derived.Test.YtajjmblgjdicoaaGreatKnF
import Derived.Test.YtajjmblgjdicoaaGreatClose
import Derived.Test.YtajjmblgjdicoaaGreatChecked
import Derived.WalkKit
namespace Go.Proofs.YtajjmblgjdicoaaGreat.explainKnown
open Go.ChangeShapes Go.WideShapes Go.ChangeAt Go.RowKit
open Go.Proofs.YtajjmblgjdicoaaGreatD
set_option linter.unusedVariables false

theorem own : ownKnob Tryz.prog.godebug = none := by kernel_rfl
theorem laid : laidOutB Tryz.prog = true := by kernel_rfl

set_option maxRecDepth 100000 in
theorem lifted (os : Os) (started : os.Started) (H : Type) (enc : TypeId × Value → H) :
    ReturnsInHanded {} Tryz.checked os 5 .any (Rows.explainKnownSpec.pre6 enc Tryz.prog Tryz.f5 Rows.explainKnownRow.domain false) (Rows.explainKnownSpec.post enc Tryz.prog Tryz.f5 false true false false) := by
  refine returnsInHanded_of_change (C := Tryz.checked) own started (by kernel_rfl) Tryz.func5
    (ChangeSpec.witness6 (enc := enc) (C := Tryz.checked) false ⟨#[], #[], []⟩ 8 (by kernel_rfl) (by kernel_rfl) (by kernel_rfl) (by kernel_rfl)) ?_
  intro W base args ds gs before hval hW hcnd _
  exact law_row (ars := []) laid (by kernel_rfl) rfl (fun ds hd => by cases ds with | nil => exact ⟨rfl, rfl, rfl⟩ | cons d ds => cases hd) (fun W' b sp hd => trodAll_mk1 (shut_bool Tryz.underlying4 true)) known_all hval hW

theorem over : Rows.explainKnownRow.holds Tryz.pinned (OpenSpec.ofChange Rows.explainKnownSpec) :=
  OpenClaim.holds_of_wide 5 Tryz.f5 rfl rfl rfl rfl rfl rfl rfl ⟨rfl, rfl, rfl, rfl, rfl⟩ rfl rfl rfl rfl rfl (by kernel_rfl) Tryz.func5 (by kernel_rfl)
    (of_decide_eq_true (by kernel_rfl)) (by unfold Func.isWrapper; first | (rw [if_pos (by decide +kernel)]; kernel_rfl) | (rw [if_neg (by decide +kernel)]; exact ⟨rfl, rfl⟩))
    (fun os started H enc _ => lifted os started H enc)

theorem proved : Rows.ExplainKnownSaid := over

end Go.Proofs.YtajjmblgjdicoaaGreat.explainKnown
#print axioms Go.Proofs.YtajjmblgjdicoaaGreat.explainKnown.proved
