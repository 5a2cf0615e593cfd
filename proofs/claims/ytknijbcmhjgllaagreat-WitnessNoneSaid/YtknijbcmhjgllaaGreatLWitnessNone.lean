/-
  The law WitnessNone answers true for all arguments, and leaves every block of memory that was there as it was, in every memory and on every tape. No further condition.
  By trees of a reference run on open data, compared by Lean's kernel, and the theorem (text Sound4) that the model's run comes to the same.
-/
import Derived.Test.YtknijbcmhjgllaaGreatRows
import Derived.Test.YtknijbcmhjgllaaGreatWitAD
import Derived.Test.YtknijbcmhjgllaaGreatClose
import Derived.Test.YtknijbcmhjgllaaGreatChecked
import Derived.WalkKit
namespace Go.Proofs.YtknijbcmhjgllaaGreat.witnessNone
open Go.ChangeShapes Go.WideShapes Go.ChangeAt Go.RowKit
open Go.Proofs.YtknijbcmhjgllaaGreatD
set_option linter.unusedVariables false

theorem own : ownKnob Tryz.prog.godebug = none := by kernel_rfl
theorem laid : laidOutB Tryz.prog = true := by kernel_rfl

set_option maxRecDepth 100000 in
theorem lifted (os : Os) (started : os.Started) (H : Type) (enc : TypeId × Value → H) :
    ReturnsInHanded {} Tryz.checked os 5 .any (Rows.witnessNoneSpec.pre6 enc Tryz.prog Tryz.f5 Rows.witnessNoneRow.domain false) (Rows.witnessNoneSpec.post enc Tryz.prog Tryz.f5 false true false false) := by
  refine returnsInHanded_of_change (C := Tryz.checked) own started (by kernel_rfl) Tryz.func5
    (ChangeSpec.witness6 (enc := enc) (C := Tryz.checked) false ⟨#[], #[.agg #[.int .i64 0, .int .i64 0, .int .i64 0, .int .i64 0, .int .i64 0], .agg #[.int .i64 0, .int .i64 0, .int .i64 0, .int .i64 0, .int .i64 0], .agg #[.int .i64 0, .int .i64 0, .slice none 0 0]], []⟩ 8 (by kernel_rfl) (by kernel_rfl) (by kernel_rfl) (by kernel_rfl)) ?_
  intro W base args ds gs before hval hW hcnd _
  exact law_row (ars := [.agg [i6, i6, i6, i6, i6], .agg [i6, i6, i6, i6, i6], .agg [i6, i6, .row .ints]]) laid (by kernel_rfl) rfl (fun ds hd => by match ds, hd with | [d0, d1, d2], _ => exact ⟨rfl, rfl, rfl⟩) (fun W' b sp hd => trodAll_mk1 (shut_bool Tryz.underlying4 true)) wnone_all hval hW

theorem over : Rows.witnessNoneRow.holds Tryz.pinned (OpenSpec.ofChange Rows.witnessNoneSpec) :=
  OpenClaim.holds_of_wide 5 Tryz.f5 rfl rfl rfl rfl rfl rfl rfl ⟨rfl, rfl, rfl, rfl, rfl⟩ rfl rfl rfl rfl rfl (by kernel_rfl) Tryz.func5 (by kernel_rfl)
    (of_decide_eq_true (by kernel_rfl)) (by unfold Func.isWrapper; first | (rw [if_pos (by decide +kernel)]; kernel_rfl) | (rw [if_neg (by decide +kernel)]; exact ⟨rfl, rfl⟩))
    (fun os started H enc _ => lifted os started H enc)

theorem proved : Rows.WitnessNoneSaid := over

end Go.Proofs.YtknijbcmhjgllaaGreat.witnessNone
#print axioms Go.Proofs.YtknijbcmhjgllaaGreat.witnessNone.proved
