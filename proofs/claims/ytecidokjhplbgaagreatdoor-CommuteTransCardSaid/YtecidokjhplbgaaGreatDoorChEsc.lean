/-
  Chapter 10: what accounts answer.
-/
import Derived.Test.YtecidokjhplbgaaGreatDoorKitD
import Derived.Test.YtecidokjhplbgaaGreatDoorAns
set_option linter.unusedVariables false
set_option linter.unusedSimpArgs false
namespace Go.Proofs.YtecidokjhplbgaaGreatDoorD.Esc
open Go Go.RowKit

/- EscA -/
def escA (t n : Int) (l : List Int) (k a b : Int) : Ans :=
  if t ≠ 5 ∨ checkN t n l ≠ 0 then bad 12
  else if k < 13 ∨ 15 < k then bad 6
  else if b ≠ 0 then bad 2
  else if k = 15 then (if a = 0 then ⟨⟨5, n, []⟩, ⟨2, n⟩, 0⟩ else bad 2)
  else if a < 0 ∨ cap62 < a then bad 2
  else if k = 13 then (if a ≤ cap62 - n then ⟨⟨5, n + a, []⟩, ⟨2, 1⟩, 0⟩ else ⟨⟨5, n, []⟩, ⟨2, 0⟩, 0⟩)
  else (if a ≤ n then ⟨⟨5, n - a, []⟩, ⟨2, 1⟩, 0⟩ else ⟨⟨5, n, []⟩, ⟨2, 0⟩, 0⟩)

def escApplyG : List CV → T CV
  | [.agg ⟨[.int .i64 t, .int .i64 n, .pl .ints l]⟩, .int .i64 k, .int .i64 a, .int .i64 b] => T.when (small l.length) (.ret (escA t n l k a b).cv)
  | _ => .fail

def escE : List (Nat × ExtFn) := [(89, pureExt (sigExt [sgS] escApplyG))] ++ kitE

/- EscB -/
set_option maxRecDepth 100000 in
theorem escApply_tree (t n : Int) (l : List Int) (k a b : Int) : (((tden Tryz.prog kitE [] 30).call 0 89 [.agg #[.int .i64 t, .int .i64 n, .pl .ints l], .int .i64 k, .int .i64 a, .int .i64 b] ⟨.nil, 0⟩).pure.cut
    (.ite (.yes (.ite (.yes (.ite (.yes (.yes (.yes (.yes (.all))))) (.no (.ite (.no (.ite (.all) (.no (.ite (.yes (.yes (.yes (.all)))) (.no (.ite (.all) (.ite (.yes (.all)) (.ite (.yes (.ite (.all) (.all))) (.ite (.yes (.ite (.all) (.all))) (.all)))))))))) (.all))))) (.no (.no (.ite (.yes (.yes (.yes (.yes (.all))))) (.no (.ite (.no (.ite (.all) (.no (.yes (.yes (.yes (.yes (.all)))))))) (.all)))))))) (.ite (.ite (.yes (.ite (.yes (.yes (.yes (.yes (.all))))) (.no (.ite (.no (.ite (.all) (.no (.ite (.yes (.yes (.yes (.all)))) (.no (.ite (.all) (.ite (.yes (.all)) (.ite (.yes (.ite (.all) (.all))) (.ite (.yes (.ite (.all) (.all))) (.all)))))))))) (.all))))) (.no (.no (.ite (.yes (.yes (.yes (.yes (.all))))) (.no (.ite (.no (.ite (.all) (.no (.yes (.yes (.yes (.yes (.all)))))))) (.all))))))) (.ite (.ite (.yes (.yes (.yes (.yes (.all))))) (.no (.ite (.no (.ite (.all) (.no (.ite (.yes (.yes (.yes (.all)))) (.no (.ite (.all) (.ite (.yes (.all)) (.ite (.yes (.ite (.all) (.all))) (.ite (.yes (.ite (.all) (.all))) (.all)))))))))) (.all)))) (.ite (.yes (.yes (.yes (.yes (.all))))) (.no (.ite (.no (.ite (.all) (.yes (.all)))) (.all)))))))).ev = T.ev (α := CV) (
     .ite (k == (13 : Int))
      (.ite (decide (a ≥ (0 : Int)))
       (.ite (t != (5 : Int))
        (.ret (.tuple #[.agg #[.int .i64 (0), .int .i64 (0), .slice none (0) (0)], .agg #[.int .i64 (0), .int .i64 (0)], .int .i64 (12)]))
        (.ite (small l.length)
         (.ite (checkN t n l != (0 : Int))
          (.ret (.tuple #[.agg #[.int .i64 (0), .int .i64 (0), .slice none (0) (0)], .agg #[.int .i64 (0), .int .i64 (0)], .int .i64 (12)]))
          (.ite (!decide (a ≤ (4611686018427387904 : Int)))
           (.ret (.tuple #[.agg #[.int .i64 (0), .int .i64 (0), .slice none (0) (0)], .agg #[.int .i64 (0), .int .i64 (0)], .int .i64 (2)]))
           (.ite (b != (0 : Int))
            (.ret (.tuple #[.agg #[.int .i64 (0), .int .i64 (0), .slice none (0) (0)], .agg #[.int .i64 (0), .int .i64 (0)], .int .i64 (2)]))
            (.ite (decide (IntKind.i64.wrap (k - (13 : Int)) = (2 : Int)))
             (.ite (decide (n = n))
              (.ret (.tuple #[.agg #[.int .i64 (5), .int .i64 (n), .slice none (0) (0)], .agg #[.int .i64 (2), .int .i64 (n)], .int .i64 (0)]))
              .fail)
             (.ite (decide (IntKind.i64.wrap (k - (13 : Int)) = (1 : Int)))
              (.ite (decide (n = n))
               (.ite (decide (IntKind.u64.wrap a > IntKind.u64.wrap n))
                (.ret (.tuple #[.agg #[.int .i64 (5), .int .i64 (n), .slice none (0) (0)], .agg #[.int .i64 (2), .int .i64 (0)], .int .i64 (0)]))
                (.ret (.tuple #[.agg #[.int .i64 (5), .int .i64 (IntKind.i64.wrap (n - a)), .slice none (0) (0)], .agg #[.int .i64 (2), .int .i64 (1)], .int .i64 (0)])))
               .fail)
              (.ite (decide (IntKind.i64.wrap (k - (13 : Int)) = (0 : Int)))
               (.ite (decide (n = n))
                (.ite (decide (IntKind.u64.wrap a > IntKind.u64.wrap ((4611686018427387904 : Int) - IntKind.u64.wrap n)))
                 (.ret (.tuple #[.agg #[.int .i64 (5), .int .i64 (n), .slice none (0) (0)], .agg #[.int .i64 (2), .int .i64 (0)], .int .i64 (0)]))
                 (.ret (.tuple #[.agg #[.int .i64 (5), .int .i64 (IntKind.i64.wrap (n + a)), .slice none (0) (0)], .agg #[.int .i64 (2), .int .i64 (1)], .int .i64 (0)])))
                .fail)
               (.fail)))))))
         (.fail)))
       (.ite (t != (5 : Int))
        (.ret (.tuple #[.agg #[.int .i64 (0), .int .i64 (0), .slice none (0) (0)], .agg #[.int .i64 (0), .int .i64 (0)], .int .i64 (12)]))
        (.ite (small l.length)
         (.ite (checkN t n l != (0 : Int))
          (.ret (.tuple #[.agg #[.int .i64 (0), .int .i64 (0), .slice none (0) (0)], .agg #[.int .i64 (0), .int .i64 (0)], .int .i64 (12)]))
          (.ret (.tuple #[.agg #[.int .i64 (0), .int .i64 (0), .slice none (0) (0)], .agg #[.int .i64 (0), .int .i64 (0)], .int .i64 (2)])))
         (.fail))))
      (.ite (k == (14 : Int))
       (.ite (decide (a ≥ (0 : Int)))
        (.ite (t != (5 : Int))
         (.ret (.tuple #[.agg #[.int .i64 (0), .int .i64 (0), .slice none (0) (0)], .agg #[.int .i64 (0), .int .i64 (0)], .int .i64 (12)]))
         (.ite (small l.length)
          (.ite (checkN t n l != (0 : Int))
           (.ret (.tuple #[.agg #[.int .i64 (0), .int .i64 (0), .slice none (0) (0)], .agg #[.int .i64 (0), .int .i64 (0)], .int .i64 (12)]))
           (.ite (!decide (a ≤ (4611686018427387904 : Int)))
            (.ret (.tuple #[.agg #[.int .i64 (0), .int .i64 (0), .slice none (0) (0)], .agg #[.int .i64 (0), .int .i64 (0)], .int .i64 (2)]))
            (.ite (b != (0 : Int))
             (.ret (.tuple #[.agg #[.int .i64 (0), .int .i64 (0), .slice none (0) (0)], .agg #[.int .i64 (0), .int .i64 (0)], .int .i64 (2)]))
             (.ite (decide (IntKind.i64.wrap (k - (13 : Int)) = (2 : Int)))
              (.ite (decide (n = n))
               (.ret (.tuple #[.agg #[.int .i64 (5), .int .i64 (n), .slice none (0) (0)], .agg #[.int .i64 (2), .int .i64 (n)], .int .i64 (0)]))
               .fail)
              (.ite (decide (IntKind.i64.wrap (k - (13 : Int)) = (1 : Int)))
               (.ite (decide (n = n))
                (.ite (decide (IntKind.u64.wrap a > IntKind.u64.wrap n))
                 (.ret (.tuple #[.agg #[.int .i64 (5), .int .i64 (n), .slice none (0) (0)], .agg #[.int .i64 (2), .int .i64 (0)], .int .i64 (0)]))
                 (.ret (.tuple #[.agg #[.int .i64 (5), .int .i64 (IntKind.i64.wrap (n - a)), .slice none (0) (0)], .agg #[.int .i64 (2), .int .i64 (1)], .int .i64 (0)])))
                .fail)
               (.ite (decide (IntKind.i64.wrap (k - (13 : Int)) = (0 : Int)))
                (.ite (decide (n = n))
                 (.ite (decide (IntKind.u64.wrap a > IntKind.u64.wrap ((4611686018427387904 : Int) - IntKind.u64.wrap n)))
                  (.ret (.tuple #[.agg #[.int .i64 (5), .int .i64 (n), .slice none (0) (0)], .agg #[.int .i64 (2), .int .i64 (0)], .int .i64 (0)]))
                  (.ret (.tuple #[.agg #[.int .i64 (5), .int .i64 (IntKind.i64.wrap (n + a)), .slice none (0) (0)], .agg #[.int .i64 (2), .int .i64 (1)], .int .i64 (0)])))
                 .fail)
                (.fail)))))))
          (.fail)))
        (.ite (t != (5 : Int))
         (.ret (.tuple #[.agg #[.int .i64 (0), .int .i64 (0), .slice none (0) (0)], .agg #[.int .i64 (0), .int .i64 (0)], .int .i64 (12)]))
         (.ite (small l.length)
          (.ite (checkN t n l != (0 : Int))
           (.ret (.tuple #[.agg #[.int .i64 (0), .int .i64 (0), .slice none (0) (0)], .agg #[.int .i64 (0), .int .i64 (0)], .int .i64 (12)]))
           (.ret (.tuple #[.agg #[.int .i64 (0), .int .i64 (0), .slice none (0) (0)], .agg #[.int .i64 (0), .int .i64 (0)], .int .i64 (2)])))
          (.fail))))
       (.ite (k == (15 : Int))
        (.ite (t != (5 : Int))
         (.ret (.tuple #[.agg #[.int .i64 (0), .int .i64 (0), .slice none (0) (0)], .agg #[.int .i64 (0), .int .i64 (0)], .int .i64 (12)]))
         (.ite (small l.length)
          (.ite (checkN t n l != (0 : Int))
           (.ret (.tuple #[.agg #[.int .i64 (0), .int .i64 (0), .slice none (0) (0)], .agg #[.int .i64 (0), .int .i64 (0)], .int .i64 (12)]))
           (.ite (!a == (0 : Int))
            (.ret (.tuple #[.agg #[.int .i64 (0), .int .i64 (0), .slice none (0) (0)], .agg #[.int .i64 (0), .int .i64 (0)], .int .i64 (2)]))
            (.ite (b != (0 : Int))
             (.ret (.tuple #[.agg #[.int .i64 (0), .int .i64 (0), .slice none (0) (0)], .agg #[.int .i64 (0), .int .i64 (0)], .int .i64 (2)]))
             (.ite (decide (IntKind.i64.wrap (k - (13 : Int)) = (2 : Int)))
              (.ite (decide (n = n))
               (.ret (.tuple #[.agg #[.int .i64 (5), .int .i64 (n), .slice none (0) (0)], .agg #[.int .i64 (2), .int .i64 (n)], .int .i64 (0)]))
               .fail)
              (.ite (decide (IntKind.i64.wrap (k - (13 : Int)) = (1 : Int)))
               (.ite (decide (n = n))
                (.ite (decide (IntKind.u64.wrap a > IntKind.u64.wrap n))
                 (.ret (.tuple #[.agg #[.int .i64 (5), .int .i64 (n), .slice none (0) (0)], .agg #[.int .i64 (2), .int .i64 (0)], .int .i64 (0)]))
                 (.ret (.tuple #[.agg #[.int .i64 (5), .int .i64 (IntKind.i64.wrap (n - a)), .slice none (0) (0)], .agg #[.int .i64 (2), .int .i64 (1)], .int .i64 (0)])))
                .fail)
               (.ite (decide (IntKind.i64.wrap (k - (13 : Int)) = (0 : Int)))
                (.ite (decide (n = n))
                 (.ite (decide (IntKind.u64.wrap a > IntKind.u64.wrap ((4611686018427387904 : Int) - IntKind.u64.wrap n)))
                  (.ret (.tuple #[.agg #[.int .i64 (5), .int .i64 (n), .slice none (0) (0)], .agg #[.int .i64 (2), .int .i64 (0)], .int .i64 (0)]))
                  (.ret (.tuple #[.agg #[.int .i64 (5), .int .i64 (IntKind.i64.wrap (n + a)), .slice none (0) (0)], .agg #[.int .i64 (2), .int .i64 (1)], .int .i64 (0)])))
                 .fail)
                (.fail)))))))
          (.fail)))
        (.ite (t != (5 : Int))
         (.ret (.tuple #[.agg #[.int .i64 (0), .int .i64 (0), .slice none (0) (0)], .agg #[.int .i64 (0), .int .i64 (0)], .int .i64 (12)]))
         (.ite (small l.length)
          (.ite (checkN t n l != (0 : Int))
           (.ret (.tuple #[.agg #[.int .i64 (0), .int .i64 (0), .slice none (0) (0)], .agg #[.int .i64 (0), .int .i64 (0)], .int .i64 (12)]))
           (.ret (.tuple #[.agg #[.int .i64 (0), .int .i64 (0), .slice none (0) (0)], .agg #[.int .i64 (0), .int .i64 (0)], .int .i64 (6)])))
          (.fail)))))) := by kernel_rfl
/- EscC -/
theorem check5 {n : Int} {l : List Int} : checkN 5 n l = 0 ↔ l = [] ∧ 0 ≤ n ∧ n ≤ 4611686018427387904 := by
  simp only [checkN, cap62]
  by_cases h : l = [] ∧ 0 ≤ n ∧ n ≤ 4611686018427387904
  · simp [h]
  · simp [h]

set_option maxHeartbeats 4000000 in
theorem escApply_at (t n : Int) (l : List Int) (k a b : Int) (hs : small l.length = true) :
    PureAt Tryz.prog 89 [.agg #[.int .i64 t, .int .i64 n, .pl .ints l], .int .i64 k, .int .i64 a, .int .i64 b] (escA t n l k a b).cv := by
  refine pureAtS plainN mixedN kitE_ok noL (k := 30) sgA (escApply_tree t n l k a b) ?_
  have hn : t = 5 → checkN t n l = 0 → 0 ≤ n ∧ n ≤ 4611686018427387904 := fun h1 h2 => (check5.1 (by rw [← h1]; exact h2)).2
  simp only [sat_ite, sat_ret, sat_fail, hs, decide_eq_true_eq, decide_eq_false_iff_not, beq_iff_eq, bne_iff_ne, beq_eq_false_iff_ne, bne_eq_false_iff_eq, Bool.not_eq_true', Bool.not_eq_false', true_implies, Bool.true_eq_false, false_implies, and_true, true_and, implies_true, reduceCtorEq, eq_self, not_true_eq_false]
  have hcap : cap62 = 4611686018427387904 := rfl
  simp only [escA]
  generalize checkN t n l = c at *
  repeat' (first | apply And.intro | intro _)
  all_goals first
    | omega
    | (simp (disch := omega) only [wrap64, wrapU64] at *; omega)
    | ((repeat' split) <;> first | exact ⟨rfl, rfl⟩ | omega | (simp (disch := omega) only [wrap64, wrapU64] at *; first | exact ⟨rfl, rfl⟩ | omega))

theorem escApply_fn : PureFn Tryz.prog 89 (sigExt [sgS] escApplyG) :=
  pureFn_mk (bodied_ex (by kernel_rfl)) fun args d h => by
    unfold escApplyG at h
    split at h
    · obtain ⟨hc, h1⟩ := ev_when h
      cases ev_ret h1
      exact escApply_at _ _ _ _ _ _ hc
    · exact (ev_fail h).elim
theorem escE_ok (N : Nat) : ExtsOk Tryz.prog N escE := extsOk_cons (extOk_pure escApply_fn) (kitE_ok N)

end Go.Proofs.YtecidokjhplbgaaGreatDoorD.Esc

