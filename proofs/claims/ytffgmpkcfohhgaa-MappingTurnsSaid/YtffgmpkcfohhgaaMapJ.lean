/-
  Chapter 08: the answer's contracts.
-/
import Derived.Test.YtffgmpkcfohhgaaMapI
set_option linter.unusedVariables false
set_option linter.unusedSimpArgs false
namespace Go.Proofs.YtffgmpkcfohhgaaD
open Go Go.RowKit

theorem wr7 : IntKind.i64.wrap (7 - 7) = 0 := by decide
theorem wr8 : IntKind.i64.wrap (8 - 7) = 1 := by decide
theorem wr9 : IntKind.i64.wrap (9 - 7) = 2 := by decide

set_option maxHeartbeats 8000000 in
theorem map_at (t n : Int) (l : List Int) (k a b : Int) (hs4 : small (l.length + 4) = true) :
    PureAt Try.prog 8 [.agg #[.int .i64 t, .int .i64 n, .pl .ints l], .int .i64 k, .int .i64 a, .int .i64 b] (mapA t n l k a b).cv := by
  refine pureAtS plainN mixedN mpE_ok noL (k := 30) sgA (mapApply_tree t n l k a b) ?_
  have hs : small l.length = true := small_le hs4 (by omega)
  have hr0 := roomB_small hs (b := 8) (by decide)
  simp only [mapA, hadP, ne_eq]
  generalize checkN t n l = c at *
  generalize hf : (findP l a).2.1 = f at *
  by_cases hk : 7 ≤ k ∧ k ≤ 9
  · obtain rfl | rfl | rfl : k = 7 ∨ k = 8 ∨ k = 9 := by omega
    all_goals
      simp only [sat_ite, sat_ret, sat_fail, hs, hs4, hr0, wr7, wr8, wr9, decide_eq_true_eq, decide_eq_false_iff_not, beq_iff_eq, bne_iff_ne, ne_eq, beq_eq_false_iff_ne, bne_eq_false_iff_eq, Bool.not_eq_true', Bool.not_eq_false', true_implies, Bool.true_eq_false, Bool.false_eq_true, false_implies, and_true, true_and, implies_true, reduceCtorEq, eq_self, not_true_eq_false]
      repeat' (first | apply And.intro | intro _)
      all_goals first
        | omega
        | ((repeat' split) <;> first | exact ⟨rfl, rfl⟩ | omega | (simp_all; done) | (simp_all; omega))
  · simp only [sat_ite, sat_ret, sat_fail, hs, hs4, hr0, decide_eq_true_eq, decide_eq_false_iff_not, beq_iff_eq, bne_iff_ne, ne_eq, beq_eq_false_iff_ne, bne_eq_false_iff_eq, Bool.not_eq_true', Bool.not_eq_false', true_implies, Bool.true_eq_false, Bool.false_eq_true, false_implies, and_true, true_and, implies_true, reduceCtorEq, eq_self, not_true_eq_false]
    repeat' (first | apply And.intro | intro _)
    all_goals first
      | omega
      | ((repeat' split) <;> first | exact ⟨rfl, rfl⟩ | omega | (simp_all; done) | (simp_all; omega))

set_option maxHeartbeats 8000000 in
theorem rmap_at (t n : Int) (l : List Int) (k a b : Int) (hs4 : small (l.length + 4) = true) :
    PureAt Try.prog 9 [.agg #[.int .i64 t, .int .i64 n, .pl .ints l], .int .i64 k, .int .i64 a, .int .i64 b] (mapA t n l k a b).cv := by
  refine pureAtS plainN mixedN mpE_ok noL (k := 30) sgA (rmapApply_tree t n l k a b) ?_
  have hs : small l.length = true := small_le hs4 (by omega)
  have hr0 := roomB_small hs (b := 8) (by decide)
  simp only [mapA, hadP, ne_eq]
  generalize checkN t n l = c at *
  generalize hf : (findP l a).2.1 = f at *
  by_cases hk : 7 ≤ k ∧ k ≤ 9
  · obtain rfl | rfl | rfl : k = 7 ∨ k = 8 ∨ k = 9 := by omega
    all_goals
      simp only [sat_ite, sat_ret, sat_fail, hs, hs4, hr0, Nat.beq_refl, decide_eq_true_eq, decide_eq_false_iff_not, beq_iff_eq, bne_iff_ne, ne_eq, beq_eq_false_iff_ne, bne_eq_false_iff_eq, Bool.not_eq_true', Bool.not_eq_false', true_implies, Bool.true_eq_false, Bool.false_eq_true, false_implies, and_true, true_and, implies_true, reduceCtorEq, eq_self, not_true_eq_false]
      repeat' (first | apply And.intro | intro _)
      all_goals first
        | omega
        | ((repeat' split) <;> first | exact ⟨rfl, rfl⟩ | omega | (simp_all; done) | (simp_all; omega))
  · simp only [sat_ite, sat_ret, sat_fail, hs, hs4, hr0, Nat.beq_refl, decide_eq_true_eq, decide_eq_false_iff_not, beq_iff_eq, bne_iff_ne, ne_eq, beq_eq_false_iff_ne, bne_eq_false_iff_eq, Bool.not_eq_true', Bool.not_eq_false', true_implies, Bool.true_eq_false, Bool.false_eq_true, false_implies, and_true, true_and, implies_true, reduceCtorEq, eq_self, not_true_eq_false]
    repeat' (first | apply And.intro | intro _)
    all_goals first
      | omega
      | ((repeat' split) <;> first | exact ⟨rfl, rfl⟩ | omega | (simp_all; done) | (simp_all; omega))

theorem map_fn : PureFn Try.prog 8 (sigExt [sgS] mapG) :=
  pureFn_mk (bodied_ex (by kernel_rfl)) fun args d h => by
    unfold mapG at h
    split at h
    · obtain ⟨hc, h1⟩ := ev_when h
      cases ev_ret h1
      exact map_at _ _ _ _ _ _ hc
    · exact (ev_fail h).elim
theorem rmap_fn : PureFn Try.prog 9 (sigExt [sgS] mapG) :=
  pureFn_mk (bodied_ex (by kernel_rfl)) fun args d h => by
    unfold mapG at h
    split at h
    · obtain ⟨hc, h1⟩ := ev_when h
      cases ev_ret h1
      exact rmap_at _ _ _ _ _ _ hc
    · exact (ev_fail h).elim
theorem awake_fn : PureFn Try.prog 6 trueG :=
  true_fn plainN mixedN noE noL (k := 30) (by kernel_rfl) (by kernel_rfl)
theorem known_fn : PureFn Try.prog 4 trueG :=
  true_fn plainN mixedN noE noL (k := 30) (by kernel_rfl) (by kernel_rfl)
/-- mapping.Apply itself is run. -/
def lawE0 : List (Nat × ExtFn) := [(6, pureExt trueG), (9, pureExt (sigExt [sgS] mapG))] ++ (kitO ++ mpE)
theorem lawE0_ok (N : Nat) : ExtsOk Try.prog N lawE0 :=
  extsOk_cons (extOk_pure awake_fn) (extsOk_cons (extOk_pure rmap_fn) (exts_append (E := kitO) (E' := mpE) (kitO_ok N) (mpE_ok N)))
def lawE : List (Nat × ExtFn) := [(4, pureExt trueG), (8, pureExt (sigExt [sgS] mapG))] ++ kitE
theorem lawE_ok (N : Nat) : ExtsOk Try.prog N lawE :=
  extsOk_cons (extOk_pure known_fn) (extsOk_cons (extOk_pure map_fn) (kitE_ok N))

end Go.Proofs.YtffgmpkcfohhgaaD
