/-
  The law CommuteReplays answers true for all arguments, and leaves every block of memory that was there as it was, in every memory and on every tape. The package-level variables that the row lists hold what the program's own text lays (the given tie); of them nothing is used. No further condition.
  By trees of a reference run on open data, compared by Lean's kernel, and the theorem (text Sound4) that the model's run comes to the same.
-/
import Derived.Test.YtecidokjhplbgaaGreatDoorRows
import Derived.Test.YtecidokjhplbgaaGreatDoorCards
import Derived.Test.YtecidokjhplbgaaGreatDoorTie
import Derived.Test.YtecidokjhplbgaaGreatDoorCrpAI
import Derived.Test.YtecidokjhplbgaaGreatDoorClose
import Derived.Test.YtecidokjhplbgaaGreatDoorChecked
import Derived.WalkKit
import Derived.SevenTiedAt
import Derived.LaidMore
import Derived.Lay
namespace Go.Proofs.YtecidokjhplbgaaGreatDoor.commuteReplays
open Go.ChangeShapes Go.WideShapes Go.ChangeAt Go.RowKit
open Go.Proofs.YtecidokjhplbgaaGreatDoorD
set_option linter.unusedVariables false

theorem own : ownKnob Tryz.prog.godebug = none := by kernel_rfl
theorem laid : laidOutB Tryz.prog = true := by kernel_rfl

set_option maxRecDepth 100000 in
theorem lifted (os : Os) (started : os.Started) (H : Type) (enc : TypeId × Value → H) :
    ReturnsInHanded {} Tryz.checked os 7 .any (fun w args => (Rows.commuteReplaysSpec.pre enc Tryz.prog Tryz.f7 Rows.commuteReplaysRow.domain false w args ∧ laidMetH Tryz.prog Rows.commuteReplaysRow.laid w) ∧ sizedMet enc Tryz.prog Tryz.f7 (OpenSpec.ofChange Rows.commuteReplaysSpec) false w args)
      (Rows.commuteReplaysSpec.post enc Tryz.prog Tryz.f7 false true false false) := by
  refine returnsInHanded_of_change_and (C := Tryz.checked) (X := fun w _ => laidMetH Tryz.prog Rows.commuteReplaysRow.laid w) (fun _ _ _ hh h => h.of_heap hh) own started (by kernel_rfl) Tryz.func7
    (ChangeSpec.witness_shaped (enc := enc) (C := Tryz.checked) (os := os) (X := fun w _ => laidMetH Tryz.prog Rows.commuteReplaysRow.laid w) false (World.laidAll Tryz.prog os Rows.commuteReplaysRow.laid) #[.slice none 0 0, .agg #[.string ⟨#[]⟩, .int .i64 0, .int .i64 0, .slice none 0 0, .slice none 0 0], .agg #[.string ⟨#[]⟩, .int .i64 0, .int .i64 0, .slice none 0 0, .slice none 0 0]] 8 (World.laidAll_os _ _ _)
      (World.shaped_of_ZipB (by kernel_rfl) (by kernel_rfl)) (by kernel_rfl) (by kernel_rfl) (by kernel_rfl)
      (by rw [MakeChecks.laidMetH_plain _ _ _ (by kernel_rfl)]; exact laidMet_laidAll _ (by kernel_rfl) (by kernel_rfl))) ?_
  intro W base args ds gs before hval hW hcnd _ _ _
  exact law_row (ars := [.one (.row .states), .agg [.str, i6, i6, .row .acts, .row .ints], .agg [.str, i6, i6, .row .acts, .row .ints]]) laid (by kernel_rfl) rfl (fun ds hd => by match ds, hd with | [d0, d1, d2], _ => exact ⟨rfl, rfl, rfl⟩) (fun W' b sp hd => trodAll_mk1 (shut_bool Tryz.underlying4 true)) creps_all hval hW

theorem over : Rows.commuteReplaysRow.holds Tryz.pinned (OpenSpec.ofChange Rows.commuteReplaysSpec) :=
  OpenClaim.holds_of_wide 7 Tryz.f7 rfl rfl rfl rfl rfl rfl rfl ⟨rfl, rfl, rfl, rfl, rfl⟩ rfl rfl rfl rfl rfl (by kernel_rfl) Tryz.func7 (by kernel_rfl)
    (of_decide_eq_true (by kernel_rfl)) (by unfold Func.isWrapper; first | (rw [if_pos (by decide +kernel)]; kernel_rfl) | (rw [if_neg (by decide +kernel)]; exact ⟨rfl, rfl⟩))
    (fun os started H enc _ => lifted os started H enc)

set_option maxRecDepth 100000 in
theorem proved : Rows.CommuteReplaysCardSaid :=
  Claim7.holds_tied_plain_at .later [] [.data, .data, .data, .data, .sentinel, .sentinel, .pinned] true (true, "cd2665e79938b2743a230fa2a07035c081687039984f05f42770095e2b0ac921") true
    over (fun _ h => by cases h) (by kernel_rfl) (fun _ h => by cases h) commuteReplays_row_tie rfl ⟨rfl, rfl⟩ (by kernel_rfl) rfl
    (fun f fn hf hfn => by
      obtain rfl : f = 7 := Option.some.inj ((show Tryz.prog.funcNamed "armistice/armisticelaw18.CommuteReplays" = some 7 by kernel_rfl).symm.trans hf) |>.symm
      obtain rfl : fn = Tryz.f7 := (Option.some.inj (Tryz.func7.symm.trans hfn)).symm
      exact ⟨by kernel_rfl, fun j t ht => by
        have hm : t ∈ Tryz.f7.params.toList := Array.mem_toList_iff.2 (Array.mem_of_getElem? ht)
        have hall : (Tryz.f7.params.toList.all fun u => !Tryz.prog.wantsStandIn u) = true := by kernel_rfl
        exact (show Tryz.prog.wantsStandIn t = false by simpa using List.all_eq_true.1 hall t hm)⟩)
    (by kernel_rfl)

end Go.Proofs.YtecidokjhplbgaaGreatDoor.commuteReplays
#print axioms Go.Proofs.YtecidokjhplbgaaGreatDoor.commuteReplays.proved
