/-
  The law MachineKnown answers true, and leaves every block of memory that was there as it was: of the call without arguments, in every memory and on every tape. No further condition.
  By a reference run (text Den) that Lean's kernel carries out, and the theorem (text Sound4) that the model's run comes to the same.
-/
import Derived.Test.YtfoebhgjpgjjbaaRows
import Derived.Test.YtfoebhgjpgjjbaaClose
import Derived.Test.YtfoebhgjpgjjbaaLib
import Derived.Test.YtfoebhgjpgjjbaaChecked
import Derived.WalkKit
namespace Go.Proofs.Ytfoebhgjpgjjbaa.machineKnown
open Go.ChangeShapes Go.WideShapes Go.ChangeAt Go.RowKit
open Go.Proofs.YtfoebhgjpgjjbaaD
set_option linter.unusedVariables false

theorem own : ownKnob Try.prog.godebug = none := by kernel_rfl
theorem plain : plainNames Try.prog = true := by kernel_rfl
theorem mixed : Try.prog.follows .mixedOrders = true := by kernel_rfl

set_option maxRecDepth 100000 in
theorem run : trueOf ((den Try.prog exts 200).call 0 5 [] ⟨.nil, 0⟩) = true := by kernel_rfl

theorem walk (w : World) : Calls Try.prog 5 #[] w fun e w' => e = .returned (.bool true) ∧ Below w.heap.size w w' := calls_true plain mixed extsOk run w

set_option maxRecDepth 100000 in
theorem lifted (os : Os) (started : os.Started) (H : Type) (enc : TypeId × Value → H) :
    ReturnsInHanded {} Try.checked os 5 .any (Rows.machineKnownSpec.pre6 enc Try.prog Try.f5 Rows.machineKnownRow.domain false) (Rows.machineKnownSpec.post enc Try.prog Try.f5 false true false false) := by
  refine returnsInHanded_of_change (C := Try.checked) own started (by kernel_rfl) Try.func5
    (ChangeSpec.witness6 (enc := enc) (C := Try.checked) false ⟨#[], #[], []⟩ 8 (by kernel_rfl) (by kernel_rfl) (by kernel_rfl) (by kernel_rfl)) ?_
  intro W base args ds gs before hval0 hW hcnd _
  have hW' := hW
  obtain ⟨p, q, hA0, hV, rfl, hfz, hnd⟩ := hW
  have hA : DataW.TrodAll enc Try.prog W 0 (fun _ => true) true Try.f5.params.toList args.toList ds p := hA0
  rw [Try.params5] at hA
  obtain ⟨rfl, rfl, rfl⟩ := trodAll_none hA
  obtain ⟨rfl, rfl⟩ := trodVars_none hV
  simp only [List.append_nil] at hW'
  refine (walk W).mono fun e W' ⟨he, hb⟩ => ?_
  subst he
  exact ⟨_, rfl, post_of_below (pa := []) (pv := []) hW' (fun _ _ _ => trodAll_mk1 (shut_bool Try.underlying4 _)) (fun sp _ => rfl) (fun _ _ => rfl) hb⟩

theorem over : Rows.machineKnownRow.holds Try.pinned (OpenSpec.ofChange Rows.machineKnownSpec) :=
  OpenClaim.holds_of_wide 5 Try.f5 rfl rfl rfl rfl rfl rfl rfl ⟨rfl, rfl, rfl, rfl, rfl⟩ rfl rfl rfl rfl rfl (by kernel_rfl) Try.func5 (by kernel_rfl)
    (of_decide_eq_true (by kernel_rfl)) (by unfold Func.isWrapper; first | (rw [if_pos (by decide +kernel)]; kernel_rfl) | (rw [if_neg (by decide +kernel)]; exact ⟨rfl, rfl⟩))
    (fun os started H enc _ => lifted os started H enc)

theorem proved : Rows.MachineKnownSaid := over

end Go.Proofs.Ytfoebhgjpgjjbaa.machineKnown
#print axioms Go.Proofs.Ytfoebhgjpgjjbaa.machineKnown.proved
