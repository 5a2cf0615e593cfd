/-
  The law CommuteKnown answers true for all arguments, and leaves every block of memory that was there as it was, in every memory and on every tape. The package-level variables that the row lists hold what the program's own text lays (the given tie); of them nothing is used. No further condition.
  By trees of a reference run on open data, compared by Lean's kernel, and the theorem (text Sound4) that the model's run comes to the same.
-/
import Derived.Test.YtecidokjhplbgaaDoorRows
import Derived.Test.YtecidokjhplbgaaDoorCards
import Derived.Test.YtecidokjhplbgaaDoorTie
import Derived.Test.YtecidokjhplbgaaDoorCmtD
import Derived.Test.YtecidokjhplbgaaDoorClose
import Derived.Test.YtecidokjhplbgaaDoorChecked
import Derived.WalkKit
import Derived.SevenTiedAt
import Derived.LaidMore
import Derived.Lay
namespace Go.Proofs.YtecidokjhplbgaaDoor.commuteKnown
open Go.ChangeShapes Go.WideShapes Go.ChangeAt Go.RowKit
open Go.Proofs.YtecidokjhplbgaaDoorD
set_option linter.unusedVariables false

theorem own : ownKnob Tryd.prog.godebug = none := by kernel_rfl
theorem laid : laidOutB Tryd.prog = true := by kernel_rfl

set_option maxRecDepth 100000 in
theorem lifted (os : Os) (started : os.Started) (H : Type) (enc : TypeId × Value → H) :
    ReturnsInHanded {} Tryd.checked os 3 .any (fun w args => (Rows.commuteKnownSpec.pre enc Tryd.prog Tryd.f3 Rows.commuteKnownRow.domain false w args ∧ laidMetH Tryd.prog Rows.commuteKnownRow.laid w) ∧ sizedMet enc Tryd.prog Tryd.f3 (OpenSpec.ofChange Rows.commuteKnownSpec) false w args)
      (Rows.commuteKnownSpec.post enc Tryd.prog Tryd.f3 false true false false) := by
  refine returnsInHanded_of_change_and (C := Tryd.checked) (X := fun w _ => laidMetH Tryd.prog Rows.commuteKnownRow.laid w) (fun _ _ _ hh h => h.of_heap hh) own started (by kernel_rfl) Tryd.func3
    (ChangeSpec.witness_shaped (enc := enc) (C := Tryd.checked) (os := os) (X := fun w _ => laidMetH Tryd.prog Rows.commuteKnownRow.laid w) false (World.laidAll Tryd.prog os Rows.commuteKnownRow.laid) #[] 8 (World.laidAll_os _ _ _)
      (World.shaped_of_ZipB (by kernel_rfl) (by kernel_rfl)) (by kernel_rfl) (by kernel_rfl) (by kernel_rfl)
      (by rw [MakeChecks.laidMetH_plain _ _ _ (by kernel_rfl)]; exact laidMet_laidAll _ (by kernel_rfl) (by kernel_rfl))) ?_
  intro W base args ds gs before hval hW hcnd _ _ _
  exact law_row (ars := []) laid (by kernel_rfl) rfl (fun ds hd => by cases ds with | nil => exact ⟨rfl, rfl, rfl⟩ | cons d ds => cases hd) (fun W' b sp hd => trodAll_mk1 (shut_bool Tryd.underlying4 true)) cknown_all hval hW

theorem over : Rows.commuteKnownRow.holds Tryd.pinned (OpenSpec.ofChange Rows.commuteKnownSpec) :=
  OpenClaim.holds_of_wide 3 Tryd.f3 rfl rfl rfl rfl rfl rfl rfl ⟨rfl, rfl, rfl, rfl, rfl⟩ rfl rfl rfl rfl rfl (by kernel_rfl) Tryd.func3 (by kernel_rfl)
    (of_decide_eq_true (by kernel_rfl)) (by unfold Func.isWrapper; first | (rw [if_pos (by decide +kernel)]; kernel_rfl) | (rw [if_neg (by decide +kernel)]; exact ⟨rfl, rfl⟩))
    (fun os started H enc _ => lifted os started H enc)

set_option maxRecDepth 100000 in
theorem proved : Rows.CommuteKnownCardSaid :=
  Claim7.holds_tied_plain_at .later [] [.data, .data, .data, .data, .sentinel, .sentinel, .pinned] true (true, "5f3aef33f39941046c6e11a083256dc3b372172a18790acfc3407022261abdab") true
    over (fun _ h => by cases h) (by kernel_rfl) (fun _ h => by cases h) commuteKnown_row_tie rfl ⟨rfl, rfl⟩ (by kernel_rfl) rfl
    (fun f fn hf hfn => by
      obtain rfl : f = 3 := Option.some.inj ((show Tryd.prog.funcNamed "armistice/armisticelaw18.CommuteKnown" = some 3 by kernel_rfl).symm.trans hf) |>.symm
      obtain rfl : fn = Tryd.f3 := (Option.some.inj (Tryd.func3.symm.trans hfn)).symm
      exact ⟨by kernel_rfl, fun j t ht => by
        have hm : t ∈ Tryd.f3.params.toList := Array.mem_toList_iff.2 (Array.mem_of_getElem? ht)
        have hall : (Tryd.f3.params.toList.all fun u => !Tryd.prog.wantsStandIn u) = true := by kernel_rfl
        exact (show Tryd.prog.wantsStandIn t = false by simpa using List.all_eq_true.1 hall t hm)⟩)
    (by kernel_rfl)

end Go.Proofs.YtecidokjhplbgaaDoor.commuteKnown
#print axioms Go.Proofs.YtecidokjhplbgaaDoor.commuteKnown.proved
