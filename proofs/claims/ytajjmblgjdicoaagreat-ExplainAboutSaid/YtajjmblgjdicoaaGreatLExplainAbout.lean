/-
  The law ExplainAbout answers true for all arguments, and leaves every block of memory that was there as it was, in every memory and on every tape. No further condition.
  By trees of a reference run on open data, compared by Lean's kernel, and the theorem (text Sound4) that the model's run comes to the same.
-/
import Derived.Test.YtajjmblgjdicoaaGreatRows
import Derived.Test.YtajjmblgjdicoaaGreatAbtAO
import Derived.Test.YtajjmblgjdicoaaGreatClose
import Derived.Test.YtajjmblgjdicoaaGreatChecked
import Derived.WalkKit
namespace Go.Proofs.YtajjmblgjdicoaaGreat.explainAbout
open Go.ChangeShapes Go.WideShapes Go.ChangeAt Go.RowKit
open Go.Proofs.YtajjmblgjdicoaaGreatD
set_option linter.unusedVariables false

theorem own : ownKnob Tryz.prog.godebug = none := by kernel_rfl
theorem laid : laidOutB Tryz.prog = true := by kernel_rfl

set_option maxRecDepth 100000 in
theorem lifted (os : Os) (started : os.Started) (H : Type) (enc : TypeId × Value → H) :
    ReturnsInHanded {} Tryz.checked os 8 .any (Rows.explainAboutSpec.pre6 enc Tryz.prog Tryz.f8 Rows.explainAboutRow.domain false) (Rows.explainAboutSpec.post enc Tryz.prog Tryz.f8 false true false false) := by
  refine returnsInHanded_of_change (C := Tryz.checked) own started (by kernel_rfl) Tryz.func8
    (ChangeSpec.witness6 (enc := enc) (C := Tryz.checked) false ⟨#[], #[.slice none 0 0], []⟩ 8 (by kernel_rfl) (by kernel_rfl) (by kernel_rfl) (by kernel_rfl)) ?_
  intro W base args ds gs before hval hW hcnd _
  exact law_row (ars := [.one (.row .steps)]) laid (by kernel_rfl) rfl (fun ds hd => by match ds, hd with | [d0], _ => exact ⟨rfl, rfl, rfl⟩) (fun W' b sp hd => trodAll_mk1 (shut_bool Tryz.underlying4 true)) about_all hval hW

theorem over : Rows.explainAboutRow.holds Tryz.pinned (OpenSpec.ofChange Rows.explainAboutSpec) :=
  OpenClaim.holds_of_wide 8 Tryz.f8 rfl rfl rfl rfl rfl rfl rfl ⟨rfl, rfl, rfl, rfl, rfl⟩ rfl rfl rfl rfl rfl (by kernel_rfl) Tryz.func8 (by kernel_rfl)
    (of_decide_eq_true (by kernel_rfl)) (by unfold Func.isWrapper; first | (rw [if_pos (by decide +kernel)]; kernel_rfl) | (rw [if_neg (by decide +kernel)]; exact ⟨rfl, rfl⟩))
    (fun os started H enc _ => lifted os started H enc)

theorem proved : Rows.ExplainAboutSaid := over

end Go.Proofs.YtajjmblgjdicoaaGreat.explainAbout
#print axioms Go.Proofs.YtajjmblgjdicoaaGreat.explainAbout.proved
