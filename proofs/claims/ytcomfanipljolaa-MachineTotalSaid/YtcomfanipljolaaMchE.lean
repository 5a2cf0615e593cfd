/-
  Chapter 11: what is answered where nothing can be done.
-/
import Derived.Test.YtcomfanipljolaaMchD
set_option linter.unusedVariables false
set_option linter.unusedSimpArgs false
namespace Go.Proofs.YtcomfanipljolaaD
open Go Go.RowKit

def NoneIf (x : Ans) : Prop := x.e ≠ 0 → x.s = ⟨0, 0, []⟩ ∧ x.r = ⟨0, 0⟩
theorem noneIf_bad (e : Int) : NoneIf (bad e) := fun _ => ⟨rfl, rfl⟩
theorem noneIf_ok (s : DState) (r : DRet) : NoneIf ⟨s, r, 0⟩ := fun h => absurd rfl h
theorem noneIf_ite {p : Prop} [Decidable p] {x y : Ans} (h1 : NoneIf x) (h2 : NoneIf y) : NoneIf (if p then x else y) := by split <;> assumption
theorem ctr_none (t n : Int) (l : List Int) (k a b : Int) : NoneIf (Ctr.ctrA t n l k a b) := by
  unfold Ctr.ctrA
  repeat' (first | exact noneIf_bad _ | exact noneIf_ok _ _ | apply noneIf_ite)
theorem set_none (t n : Int) (l : List Int) (k a b : Int) : NoneIf (Set.setA t n l k a b) := by
  unfold Set.setA
  repeat' (first | exact noneIf_bad _ | exact noneIf_ok _ _ | apply noneIf_ite)
theorem map_none (t n : Int) (l : List Int) (k a b : Int) : NoneIf (Map.mapA t n l k a b) := by
  unfold Map.mapA
  repeat' (first | exact noneIf_bad _ | exact noneIf_ok _ _ | apply noneIf_ite)
theorem fif_none (t n : Int) (l : List Int) (k a b : Int) : NoneIf (Fif.fifoA t n l k a b) := by
  unfold Fif.fifoA
  repeat' (first | exact noneIf_bad _ | exact noneIf_ok _ _ | apply noneIf_ite)
  cases l <;> exact noneIf_ok _ _
theorem esc_none (t n : Int) (l : List Int) (k a b : Int) : NoneIf (Esc.escA t n l k a b) := by
  unfold Esc.escA
  repeat' (first | exact noneIf_bad _ | exact noneIf_ok _ _ | apply noneIf_ite)
theorem mach_bad (t n : Int) (l : List Int) (k a b : Int) : NoneIf (machA t n l k a b) := by
  unfold machA
  exact noneIf_ite (ctr_none _ _ _ _ _ _) (noneIf_ite (set_none _ _ _ _ _ _) (noneIf_ite (map_none _ _ _ _ _ _) (noneIf_ite (fif_none _ _ _ _ _ _) (noneIf_ite (esc_none _ _ _ _ _ _) (noneIf_bad _)))))

end Go.Proofs.YtcomfanipljolaaD
