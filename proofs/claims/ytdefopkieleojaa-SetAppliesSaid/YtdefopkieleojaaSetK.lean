/-
  Chapter 07: the answer's contracts.
-/
import Derived.Test.YtdefopkieleojaaSetJ
set_option linter.unusedVariables false
set_option linter.unusedSimpArgs false
namespace Go.Proofs.YtdefopkieleojaaD
open Go Go.RowKit

theorem rises_at (l : List Int) : ∀ (d i : Nat), l.length < i + 1 + d → risesAt l 1 d (i + 1) = riseB (l.drop i)
  | 0, i, h => by rw [List.drop_eq_nil_of_le (by omega)]; rfl
  | d + 1, i, h => by
    have ih := rises_at l d (i + 1) (by omega)
    by_cases hi : i + 1 < l.length
    · rw [getD_cons (l := l) (i := i) (by omega) 0]
      rw [getD_cons (l := l) (i := i + 1) hi 0] at ih ⊢
      simp only [risesAt, hi, if_true, show i + 1 - 1 = i by omega, riseB]
      by_cases hle : l.getD (i + 1) 0 ≤ l.getD i 0
      · rw [if_pos hle, show decide (l.getD i 0 < l.getD (i + 1) 0) = false by rw [decide_eq_false_iff_not]; omega]; rfl
      · simp only [hle, if_false, ih, show l.getD i 0 < l.getD (i + 1) 0 by omega, decide_true, Bool.true_and]
    · simp only [risesAt, hi, if_false]
      by_cases hi2 : i < l.length
      · rw [getD_cons (l := l) (i := i) hi2 0, List.drop_eq_nil_of_le (by omega)]; rfl
      · rw [List.drop_eq_nil_of_le (by omega)]; rfl
theorem rises_rise (l : List Int) : rises l 1 = riseB l := rises_at l (l.length + 1) 0 (by omega)
theorem check2 {n : Int} {l : List Int} : checkN 2 n l = 0 ↔ n = 0 ∧ riseB l = true := by
  rw [checkN, rises_rise]
  by_cases h : n = 0 ∧ riseB l = true
  · simp [h]
  · simp [h]
theorem less_row {l : List Int} {x : Int} (hr : riseB l = true) (hh : hasN l x = true) : List.take (l.length - 1) (List.drop 0 (lessRow l (cntN l x))) = lessN l x := by
  have hlt := has_lt hr hh
  have hL : (List.take (cntN l x) l ++ List.drop (cntN l x + 1) l).length = l.length - 1 := by rw [List.length_append, List.length_take, List.length_drop]; omega
  rw [List.drop_zero, lessRow, List.take_left' hL, less_rise hr, hh]; rfl
theorem ws3 : IntKind.i64.wrap (3 - 3) = 0 := by decide
theorem ws4 : IntKind.i64.wrap (4 - 3) = 1 := by decide
theorem ws5 : IntKind.i64.wrap (5 - 3) = 2 := by decide
theorem ws6 : IntKind.i64.wrap (6 - 3) = 3 := by decide

set_option maxHeartbeats 8000000 in
theorem set_at (t n : Int) (l : List Int) (k a b : Int) (hm : midB l = true) :
    PureAt Try.prog 10 [.agg #[.int .i64 t, .int .i64 n, .pl .ints l], .int .i64 k, .int .i64 a, .int .i64 b] (setA t n l k a b).cv := by
  refine pureAtS plainN mixedN stE_ok noL (k := 30) sgA (setApply_tree t n l k a b) ?_
  have hs : small l.length = true := mid_small hm
  by_cases hc : t = 2 ∧ checkN t n l = 0
  · obtain ⟨rfl, hc⟩ := hc
    have hr := (check2.1 hc).2
    have hle : hasN l a = false → lessN l a = l := fun hh => by rw [less_rise hr, hh]; rfl
    have hlt : hasN l a = true → List.take (l.length - 1) (List.drop 0 (lessRow l (cntN l a))) = lessN l a := fun hh => less_row hr hh
    simp only [setA, hc]
    by_cases hk : 3 ≤ k ∧ k ≤ 6
    · obtain rfl | rfl | rfl | rfl : k = 3 ∨ k = 4 ∨ k = 5 ∨ k = 6 := by omega
      all_goals
        cases hh : hasN l a with
        | true =>
          simp only [sat_ite, sat_ret, sat_fail, hs, hm, hr, hh, hlt hh, ws3, ws4, ws5, ws6, Bool.and_self, decide_eq_true_eq, decide_eq_false_iff_not, beq_iff_eq, bne_iff_ne, ne_eq, beq_eq_false_iff_ne, bne_eq_false_iff_eq, Bool.not_eq_true', Bool.not_eq_false', true_implies, Bool.true_eq_false, Bool.false_eq_true, false_implies, and_true, true_and, implies_true, reduceCtorEq, eq_self, not_true_eq_false]
          repeat' (first | apply And.intro | intro _)
          all_goals first
            | omega
            | ((repeat' split) <;> first | exact ⟨rfl, rfl⟩ | omega | (simp_all; done) | (simp_all; omega))
        | false =>
          simp only [sat_ite, sat_ret, sat_fail, hs, hm, hr, hh, hle hh, ws3, ws4, ws5, ws6, Bool.and_self, decide_eq_true_eq, decide_eq_false_iff_not, beq_iff_eq, bne_iff_ne, ne_eq, beq_eq_false_iff_ne, bne_eq_false_iff_eq, Bool.not_eq_true', Bool.not_eq_false', true_implies, Bool.true_eq_false, Bool.false_eq_true, false_implies, and_true, true_and, implies_true, reduceCtorEq, eq_self, not_true_eq_false]
          repeat' (first | apply And.intro | intro _)
          all_goals first
            | omega
            | ((repeat' split) <;> first | exact ⟨rfl, rfl⟩ | omega | (simp_all; done) | (simp_all; omega))
    · simp only [sat_ite, sat_ret, sat_fail, hs, hm, hr, Bool.and_self, decide_eq_true_eq, decide_eq_false_iff_not, beq_iff_eq, bne_iff_ne, ne_eq, beq_eq_false_iff_ne, bne_eq_false_iff_eq, Bool.not_eq_true', Bool.not_eq_false', true_implies, Bool.true_eq_false, Bool.false_eq_true, false_implies, and_true, true_and, implies_true, reduceCtorEq, eq_self, not_true_eq_false]
      repeat' (first | apply And.intro | intro _)
      all_goals first
        | omega
        | ((repeat' split) <;> first | exact ⟨rfl, rfl⟩ | omega | (simp_all; done) | (simp_all; omega))
  · have hc2 : t ≠ 2 ∨ checkN t n l ≠ 0 := by
      by_cases h2 : t = 2
      · exact .inr fun h => hc ⟨h2, h⟩
      · exact .inl h2
    simp only [setA, hc2, if_true]
    generalize checkN t n l = c at *
    simp only [sat_ite, sat_ret, sat_fail, hs, decide_eq_true_eq, decide_eq_false_iff_not, beq_iff_eq, bne_iff_ne, ne_eq, beq_eq_false_iff_ne, bne_eq_false_iff_eq, Bool.not_eq_true', Bool.not_eq_false', true_implies, Bool.true_eq_false, Bool.false_eq_true, false_implies, and_true, true_and, implies_true, reduceCtorEq, eq_self, not_true_eq_false]
    repeat' (first | apply And.intro | intro _)
    all_goals first
      | omega
      | exact ⟨rfl, rfl⟩
      | (exfalso; omega)

set_option maxHeartbeats 8000000 in
theorem rset_at (t n : Int) (l : List Int) (k a b : Int) (hm : midB l = true) :
    PureAt Try.prog 11 [.agg #[.int .i64 t, .int .i64 n, .pl .ints l], .int .i64 k, .int .i64 a, .int .i64 b] (setA t n l k a b).cv := by
  refine pureAtS plainN mixedN stE_ok noL (k := 30) sgA (rsetApply_tree t n l k a b) ?_
  have hs : small l.length = true := mid_small hm
  have hr0 := roomB_small hs (b := 8) (by decide)
  by_cases hk : 3 ≤ k ∧ k ≤ 6
  · simp only [setA]
    generalize checkN t n l = c at *
    obtain rfl | rfl | rfl | rfl : k = 3 ∨ k = 4 ∨ k = 5 ∨ k = 6 := by omega
    all_goals
      cases hh : hasN l a <;>
      · simp only [sat_ite, sat_ret, sat_fail, hs, hm, hr0, hh, Nat.beq_refl, Bool.and_self, decide_eq_true_eq, decide_eq_false_iff_not, beq_iff_eq, bne_iff_ne, ne_eq, beq_eq_false_iff_ne, bne_eq_false_iff_eq, Bool.not_eq_true', Bool.not_eq_false', true_implies, Bool.true_eq_false, Bool.false_eq_true, false_implies, and_true, true_and, implies_true, reduceCtorEq, eq_self, not_true_eq_false]
        repeat' (first | apply And.intro | intro _)
        all_goals first
          | omega
          | ((repeat' split) <;> first | exact ⟨rfl, rfl⟩ | omega | (simp_all; done) | (simp_all; omega))
  · simp only [setA]
    generalize checkN t n l = c at *
    simp only [sat_ite, sat_ret, sat_fail, hs, hm, hr0, Nat.beq_refl, Bool.and_self, decide_eq_true_eq, decide_eq_false_iff_not, beq_iff_eq, bne_iff_ne, ne_eq, beq_eq_false_iff_ne, bne_eq_false_iff_eq, Bool.not_eq_true', Bool.not_eq_false', true_implies, Bool.true_eq_false, Bool.false_eq_true, false_implies, and_true, true_and, implies_true, reduceCtorEq, eq_self, not_true_eq_false]
    repeat' (first | apply And.intro | intro _)
    all_goals first
      | omega
      | ((repeat' split) <;> first | exact ⟨rfl, rfl⟩ | omega | (simp_all; done) | (simp_all; omega))

theorem set_fn : PureFn Try.prog 10 (sigExt [sgS] setG) :=
  pureFn_mk (bodied_ex (by kernel_rfl)) fun args d h => by
    unfold setG at h
    split at h
    · obtain ⟨hc, h1⟩ := ev_when h
      cases ev_ret h1
      exact set_at _ _ _ _ _ _ hc
    · exact (ev_fail h).elim
theorem rset_fn : PureFn Try.prog 11 (sigExt [sgS] setG) :=
  pureFn_mk (bodied_ex (by kernel_rfl)) fun args d h => by
    unfold setG at h
    split at h
    · obtain ⟨hc, h1⟩ := ev_when h
      cases ev_ret h1
      exact rset_at _ _ _ _ _ _ hc
    · exact (ev_fail h).elim

end Go.Proofs.YtdefopkieleojaaD
