/-
  The law MappingKnown answers true, and leaves every block of memory that was there as it was: of the call without arguments, in every memory and on every tape. No further condition.
  By a reference run (text Den) that Lean's kernel carries out, and the theorem (text Sound4) that the model's run comes to the same.
-/
import Derived.Test.YtlgakppdjgjaoaaRows
import Derived.Test.YtlgakppdjgjaoaaClose
import Derived.Test.YtlgakppdjgjaoaaChecked
import Derived.WalkKit
namespace Go.Proofs.Ytlgakppdjgjaoaa.mappingKnown
open Go.ChangeShapes Go.WideShapes Go.ChangeAt Go.RowKit
open Go.Proofs.YtlgakppdjgjaoaaD
set_option linter.unusedVariables false

theorem own : ownKnob Try.prog.godebug = none := by kernel_rfl
theorem plain : plainNames Try.prog = true := by kernel_rfl
theorem mixed : Try.prog.follows .mixedOrders = true := by kernel_rfl

set_option maxRecDepth 100000 in
theorem run : trueOf ((den Try.prog [] 200).call 0 4 [] ⟨.nil, 0⟩) = true := by kernel_rfl

theorem walk (w : World) : Calls Try.prog 4 #[] w fun e w' => e = .returned (.bool true) ∧ Below w.heap.size w w' := calls_true plain mixed (fun _ => extsOk_nil) run w

set_option maxRecDepth 100000 in
theorem lifted (os : Os) (started : os.Started) (H : Type) (enc : TypeId × Value → H) :
    ReturnsInHanded {} Try.checked os 4 .any (Rows.mappingKnownSpec.pre6 enc Try.prog Try.f4 Rows.mappingKnownRow.domain false) (Rows.mappingKnownSpec.post enc Try.prog Try.f4 false true false false) := by
  refine returnsInHanded_of_change (C := Try.checked) own started (by kernel_rfl) Try.func4
    (ChangeSpec.witness6 (enc := enc) (C := Try.checked) false ⟨#[], #[], []⟩ 8 (by kernel_rfl) (by kernel_rfl) (by kernel_rfl) (by kernel_rfl)) ?_
  intro W base args ds gs before hval0 hW hcnd _
  have hW' := hW
  obtain ⟨p, q, hA0, hV, rfl, hfz, hnd⟩ := hW
  have hA : DataW.TrodAll enc Try.prog W 0 (fun _ => true) true Try.f4.params.toList args.toList ds p := hA0
  rw [Try.params4] at hA
  obtain ⟨rfl, rfl, rfl⟩ := trodAll_none hA
  obtain ⟨rfl, rfl⟩ := trodVars_none hV
  simp only [List.append_nil] at hW'
  refine (walk W).mono fun e W' ⟨he, hb⟩ => ?_
  subst he
  exact ⟨_, rfl, post_of_below (pa := []) (pv := []) hW' (fun _ _ _ => trodAll_mk1 (shut_bool Try.underlying4 _)) (fun sp _ => rfl) (fun _ _ => rfl) hb⟩

theorem over : Rows.mappingKnownRow.holds Try.pinned (OpenSpec.ofChange Rows.mappingKnownSpec) :=
  OpenClaim.holds_of_wide 4 Try.f4 rfl rfl rfl rfl rfl rfl rfl ⟨rfl, rfl, rfl, rfl, rfl⟩ rfl rfl rfl rfl rfl (by kernel_rfl) Try.func4 (by kernel_rfl)
    (of_decide_eq_true (by kernel_rfl)) (by unfold Func.isWrapper; first | (rw [if_pos (by decide +kernel)]; kernel_rfl) | (rw [if_neg (by decide +kernel)]; exact ⟨rfl, rfl⟩))
    (fun os started H enc _ => lifted os started H enc)

theorem proved : Rows.MappingKnownSaid := over

end Go.Proofs.Ytlgakppdjgjaoaa.mappingKnown
#print axioms Go.Proofs.Ytlgakppdjgjaoaa.mappingKnown.proved
