/-
  Chapter 10: contracts.
-/
import Derived.Test.YtjbbhccoamhbgaaEscB
set_option linter.unusedVariables false
set_option linter.unusedSimpArgs false
namespace Go.Proofs.YtjbbhccoamhbgaaD
open Go Go.RowKit

theorem check5 {n : Int} {l : List Int} : checkN 5 n l = 0 ↔ l = [] ∧ 0 ≤ n ∧ n ≤ 4611686018427387904 := by
  simp only [checkN, cap62]
  by_cases h : l = [] ∧ 0 ≤ n ∧ n ≤ 4611686018427387904
  · simp [h]
  · simp [h]

set_option maxHeartbeats 4000000 in
theorem escApply_at (t n : Int) (l : List Int) (k a b : Int) (hs : small l.length = true) :
    PureAt Try.prog 11 [.agg #[.int .i64 t, .int .i64 n, .pl .ints l], .int .i64 k, .int .i64 a, .int .i64 b] (escA t n l k a b).cv := by
  refine pureAtS plainN mixedN kitE_ok noL (k := 30) sgA (escApply_tree t n l k a b) ?_
  have hn : t = 5 → checkN t n l = 0 → 0 ≤ n ∧ n ≤ 4611686018427387904 := fun h1 h2 => (check5.1 (by rw [← h1]; exact h2)).2
  simp only [sat_ite, sat_ret, sat_fail, hs, decide_eq_true_eq, decide_eq_false_iff_not, beq_iff_eq, bne_iff_ne, beq_eq_false_iff_ne, bne_eq_false_iff_eq, Bool.not_eq_true', Bool.not_eq_false', true_implies, Bool.true_eq_false, false_implies, and_true, true_and, implies_true, reduceCtorEq, eq_self, not_true_eq_false]
  have hcap : cap62 = 4611686018427387904 := rfl
  simp only [escA]
  generalize checkN t n l = c at *
  repeat' (first | apply And.intro | intro _)
  all_goals first
    | omega
    | (simp (disch := omega) only [wrap64, wrapU64] at *; omega)
    | ((repeat' split) <;> first | exact ⟨rfl, rfl⟩ | omega | (simp (disch := omega) only [wrap64, wrapU64] at *; first | exact ⟨rfl, rfl⟩ | omega))

set_option maxHeartbeats 4000000 in
theorem rescApply_at (t n : Int) (l : List Int) (k a b : Int) (hs : small l.length = true) :
    PureAt Try.prog 12 [.agg #[.int .i64 t, .int .i64 n, .pl .ints l], .int .i64 k, .int .i64 a, .int .i64 b] (escA t n l k a b).cv := by
  refine pureAtS plainN mixedN kitE_ok noL (k := 30) sgA (rescApply_tree t n l k a b) ?_
  have hn : t = 5 → checkN t n l = 0 → 0 ≤ n ∧ n ≤ 4611686018427387904 := fun h1 h2 => (check5.1 (by rw [← h1]; exact h2)).2
  simp only [sat_ite, sat_ret, sat_fail, hs, decide_eq_true_eq, decide_eq_false_iff_not, beq_iff_eq, bne_iff_ne, beq_eq_false_iff_ne, bne_eq_false_iff_eq, Bool.not_eq_true', Bool.not_eq_false', true_implies, Bool.true_eq_false, false_implies, and_true, true_and, implies_true, reduceCtorEq, eq_self, not_true_eq_false]
  have hcap : cap62 = 4611686018427387904 := rfl
  simp only [escA]
  generalize checkN t n l = c at *
  repeat' (first | apply And.intro | intro _)
  all_goals first
    | omega
    | (simp (disch := omega) only [wrap64, wrapU64] at *; omega)
    | ((repeat' split) <;> first | exact ⟨rfl, rfl⟩ | omega | (simp (disch := omega) only [wrap64, wrapU64] at *; first | exact ⟨rfl, rfl⟩ | omega))

theorem escApply_fn : PureFn Try.prog 11 (sigExt [sgS] escApplyG) :=
  pureFn_mk (bodied_ex (by kernel_rfl)) fun args d h => by
    unfold escApplyG at h
    split at h
    · obtain ⟨hc, h1⟩ := ev_when h
      cases ev_ret h1
      exact escApply_at _ _ _ _ _ _ hc
    · exact (ev_fail h).elim
theorem rescApply_fn : PureFn Try.prog 12 (sigExt [sgS] escApplyG) :=
  pureFn_mk (bodied_ex (by kernel_rfl)) fun args d h => by
    unfold escApplyG at h
    split at h
    · obtain ⟨hc, h1⟩ := ev_when h
      cases ev_ret h1
      exact rescApply_at _ _ _ _ _ _ hc
    · exact (ev_fail h).elim
theorem escE_ok (N : Nat) : ExtsOk Try.prog N escE := extsOk_cons (extOk_pure escApply_fn) (extsOk_cons (extOk_pure rescApply_fn) (kitE_ok N))

theorem awake_fn : PureFn Try.prog 9 trueG :=
  true_fn plainN mixedN noE noL (k := 30) (by kernel_rfl) (by kernel_rfl)
def lawE : List (Nat × ExtFn) := (9, pureExt trueG) :: escE
theorem lawE_ok (N : Nat) : ExtsOk Try.prog N lawE := extsOk_cons (extOk_pure awake_fn) (escE_ok N)

end Go.Proofs.YtjbbhccoamhbgaaD
