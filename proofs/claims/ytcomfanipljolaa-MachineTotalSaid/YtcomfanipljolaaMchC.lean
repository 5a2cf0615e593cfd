/-
  Chapter 11: contracts of Apply and Type.
-/
import Derived.Test.YtcomfanipljolaaMchB
import Derived.Test.YtcomfanipljolaaKitP
set_option linter.unusedVariables false
set_option linter.unusedSimpArgs false
namespace Go.Proofs.YtcomfanipljolaaD
open Go Go.RowKit

theorem machB_iff {l : List Int} {a b : Int} (h : machB l a b = true) : Set.midB l = true ∧ small l.length = true ∧ small (l.length + 1) = true ∧ small (l.length + 4) = true ∧ Ctr.inI64 a = true ∧ Ctr.inI64 b = true := by
  simp only [machB, Bool.and_eq_true] at h
  have h1 := h.1
  rw [Set.midB, Nat.ble_eq] at h1
  exact ⟨h.1, by rw [small_iff]; omega, by rw [small_iff]; omega, by rw [small_iff]; omega, h.2.1, h.2.2⟩
theorem wt1 : IntKind.i64.wrap (1 - 1) = 0 := by decide
theorem wt2 : IntKind.i64.wrap (2 - 1) = 1 := by decide
theorem wt3 : IntKind.i64.wrap (3 - 1) = 2 := by decide
theorem wt4 : IntKind.i64.wrap (4 - 1) = 3 := by decide
theorem wt5 : IntKind.i64.wrap (5 - 1) = 4 := by decide

theorem mach_at (t n : Int) (l : List Int) (k a b : Int) (hm : machB l a b = true) :
    PureAt Try.prog 10 [.agg #[.int .i64 t, .int .i64 n, .pl .ints l], .int .i64 k, .int .i64 a, .int .i64 b] (machA t n l k a b).cv := by
  refine pureAtS plainN mixedN appE_ok noL (k := 30) sgA (mApply_tree t n l k a b) ?_
  obtain ⟨h1, h2, h3, h4, h5, h6⟩ := machB_iff hm
  by_cases ht : 1 ≤ t ∧ t ≤ 5
  · obtain rfl | rfl | rfl | rfl | rfl : t = 1 ∨ t = 2 ∨ t = 3 ∨ t = 4 ∨ t = 5 := by omega
    all_goals
      simp only [sat_ite, sat_ret, sat_fail, h1, h2, h3, h4, h5, h6, wt1, wt2, wt3, wt4, wt5, machA, Bool.and_self, decide_eq_true_eq, decide_eq_false_iff_not, true_implies, Bool.true_eq_false, Bool.false_eq_true, false_implies, and_true, true_and, implies_true, reduceCtorEq, eq_self, not_true_eq_false]
      repeat' (first | apply And.intro | intro _)
      all_goals first
        | omega
        | exact ⟨rfl, rfl⟩
  · have e : machA t n l k a b = bad 8 := by
      unfold machA
      rw [if_neg (by omega), if_neg (by omega), if_neg (by omega), if_neg (by omega), if_neg (by omega)]
    rw [e]
    simp only [sat_ite, sat_ret, sat_fail, h1, h2, h3, h4, h5, h6, Bool.and_self, decide_eq_true_eq, decide_eq_false_iff_not, true_implies, Bool.true_eq_false, Bool.false_eq_true, false_implies, and_true, true_and, implies_true, reduceCtorEq, eq_self, not_true_eq_false]
    repeat' (first | apply And.intro | intro _)
    all_goals first
      | omega
      | exact ⟨rfl, rfl⟩
theorem rmach_at (t n : Int) (l : List Int) (k a b : Int) (hm : machB l a b = true) :
    PureAt Try.prog 11 [.agg #[.int .i64 t, .int .i64 n, .pl .ints l], .int .i64 k, .int .i64 a, .int .i64 b] (machA t n l k a b).cv := by
  refine pureAtS plainN mixedN appE_ok noL (k := 30) sgA (rmApply_tree t n l k a b) ?_
  obtain ⟨h1, h2, h3, h4, h5, h6⟩ := machB_iff hm
  by_cases ht : 1 ≤ t ∧ t ≤ 5
  · obtain rfl | rfl | rfl | rfl | rfl : t = 1 ∨ t = 2 ∨ t = 3 ∨ t = 4 ∨ t = 5 := by omega
    all_goals
      simp only [sat_ite, sat_ret, sat_fail, h1, h2, h3, h4, h5, h6, machA, Bool.and_self, decide_eq_true_eq, decide_eq_false_iff_not, beq_iff_eq, beq_eq_false_iff_ne, ne_eq, true_implies, Bool.true_eq_false, Bool.false_eq_true, false_implies, and_true, true_and, implies_true, reduceCtorEq, eq_self, not_true_eq_false]
      repeat' (first | apply And.intro | intro _)
      all_goals first
        | omega
        | exact ⟨rfl, rfl⟩
  · have e : machA t n l k a b = bad 8 := by
      unfold machA
      rw [if_neg (by omega), if_neg (by omega), if_neg (by omega), if_neg (by omega), if_neg (by omega)]
    rw [e]
    simp only [sat_ite, sat_ret, sat_fail, h1, h2, h3, h4, h5, h6, Bool.and_self, decide_eq_true_eq, decide_eq_false_iff_not, beq_iff_eq, beq_eq_false_iff_ne, ne_eq, true_implies, Bool.true_eq_false, Bool.false_eq_true, false_implies, and_true, true_and, implies_true, reduceCtorEq, eq_self, not_true_eq_false]
    repeat' (first | apply And.intro | intro _)
    all_goals first
      | omega
      | exact ⟨rfl, rfl⟩
theorem mach_fn : PureFn Try.prog 10 (sigExt [sgS] machG) :=
  pureFn_mk (bodied_ex (by kernel_rfl)) fun args d h => by
    unfold machG at h
    split at h
    · obtain ⟨hc, h1⟩ := ev_when h
      cases ev_ret h1
      exact mach_at _ _ _ _ _ _ hc
    · exact (ev_fail h).elim
theorem rmach_fn : PureFn Try.prog 11 (sigExt [sgS] machG) :=
  pureFn_mk (bodied_ex (by kernel_rfl)) fun args d h => by
    unfold machG at h
    split at h
    · obtain ⟨hc, h1⟩ := ev_when h
      cases ev_ret h1
      exact rmach_at _ _ _ _ _ _ hc
    · exact (ev_fail h).elim
def mtypeG : List CV → T CV
  | [.int .i64 k] => .ret (.tuple #[.int .i64 (typeA k).1, .int .i64 (typeA k).2])
  | _ => .fail
theorem mtype_fn : PureFn Try.prog 14 mtypeG :=
  ⟨bodied_ex (by kernel_rfl), fun args d h => by
    unfold mtypeG at h
    split at h
    · rename_i k
      cases ev_ret h
      refine pureAt0 plainN mixedN noE noL (k := 30) ((mType_tree k).trans ?_) rfl
      by_cases h1 : k < 1
      · simp [T.ev_ite, T.ev_ret, typeA, h1, show ¬ 1 ≤ k by omega, show ¬ 3 ≤ k by omega, show ¬ 7 ≤ k by omega, show ¬ 10 ≤ k by omega, show ¬ 13 ≤ k by omega]
      · by_cases h2 : 15 < k
        · simp [T.ev_ite, T.ev_ret, typeA, h2, show 1 ≤ k by omega, show 3 ≤ k by omega, show 7 ≤ k by omega, show 10 ≤ k by omega, show 13 ≤ k by omega, show ¬ k ≤ 2 by omega, show ¬ k ≤ 6 by omega, show ¬ k ≤ 9 by omega, show ¬ k ≤ 12 by omega, show ¬ k ≤ 15 by omega]
        · obtain rfl | rfl | rfl | rfl | rfl | rfl | rfl | rfl | rfl | rfl | rfl | rfl | rfl | rfl | rfl : k = 1 ∨ k = 2 ∨ k = 3 ∨ k = 4 ∨ k = 5 ∨ k = 6 ∨ k = 7 ∨ k = 8 ∨ k = 9 ∨ k = 10 ∨ k = 11 ∨ k = 12 ∨ k = 13 ∨ k = 14 ∨ k = 15 := by omega
          all_goals rfl
    · exact (ev_fail h).elim⟩
theorem rmtype_fn : PureFn Try.prog 15 mtypeG :=
  ⟨bodied_ex (by kernel_rfl), fun args d h => by
    unfold mtypeG at h
    split at h
    · rename_i k
      cases ev_ret h
      refine pureAt0 plainN mixedN noE noL (k := 30) ((rmType_tree k).trans ?_) rfl
      by_cases h1 : k < 1
      · simp [T.ev_ite, T.ev_ret, typeA, h1, show ¬ 1 ≤ k by omega, show ¬ 3 ≤ k by omega, show ¬ 7 ≤ k by omega, show ¬ 10 ≤ k by omega, show ¬ 13 ≤ k by omega]
      · by_cases h2 : 15 < k
        · simp [T.ev_ite, T.ev_ret, typeA, h2, show 1 ≤ k by omega, show 3 ≤ k by omega, show 7 ≤ k by omega, show 10 ≤ k by omega, show 13 ≤ k by omega, show ¬ k ≤ 2 by omega, show ¬ k ≤ 6 by omega, show ¬ k ≤ 9 by omega, show ¬ k ≤ 12 by omega, show ¬ k ≤ 15 by omega]
        · obtain rfl | rfl | rfl | rfl | rfl | rfl | rfl | rfl | rfl | rfl | rfl | rfl | rfl | rfl | rfl : k = 1 ∨ k = 2 ∨ k = 3 ∨ k = 4 ∨ k = 5 ∨ k = 6 ∨ k = 7 ∨ k = 8 ∨ k = 9 ∨ k = 10 ∨ k = 11 ∨ k = 12 ∨ k = 13 ∨ k = 14 ∨ k = 15 := by omega
          all_goals rfl
    · exact (ev_fail h).elim⟩
def mchE : List (Nat × ExtFn) := [(10, pureExt (sigExt [sgS] machG)), (11, pureExt (sigExt [sgS] machG)), (14, pureExt mtypeG), (15, pureExt mtypeG)]
theorem mchE_ok (N : Nat) : ExtsOk Try.prog N mchE := extsOk_cons (extOk_pure mach_fn) (extsOk_cons (extOk_pure rmach_fn) (extsOk_cons (extOk_pure mtype_fn) (extsOk_cons (extOk_pure rmtype_fn) extsOk_nil)))
def pickE : List (Nat × ExtFn) := [(27, pureExt pickG)]
theorem pickE_ok (N : Nat) : ExtsOk Try.prog N pickE := extsOk_cons (extOk_pure pick_fn) extsOk_nil

end Go.Proofs.YtcomfanipljolaaD
