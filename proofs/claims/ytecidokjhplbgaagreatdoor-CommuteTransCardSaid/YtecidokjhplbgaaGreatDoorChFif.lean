/-
  Chapter 09: what queues answer.
-/
import Derived.Test.YtecidokjhplbgaaGreatDoorKitO5
import Derived.Test.YtecidokjhplbgaaGreatDoorKitQ
import Derived.Test.YtecidokjhplbgaaGreatDoorClose
import Derived.Test.YtecidokjhplbgaaGreatDoorAns
set_option linter.unusedVariables false
set_option linter.unusedSimpArgs false
namespace Go.Proofs.YtecidokjhplbgaaGreatDoorD.Fif
open Go Go.RowKit

/- FifA -/
def fifoA (t n : Int) (l : List Int) (k a b : Int) : Ans :=
  if t ≠ 4 ∨ checkN t n l ≠ 0 then bad 12
  else if k < 10 ∨ 12 < k then bad 6
  else if b ≠ 0 ∨ (k ≠ 10 ∧ a ≠ 0) then bad 2
  else if k = 10 then ⟨⟨4, 0, l ++ [a]⟩, ⟨0, 0⟩, 0⟩
  else if k = 12 then ⟨⟨4, 0, l⟩, ⟨2, l.length⟩, 0⟩
  else match l with
    | [] => ⟨⟨4, 0, []⟩, ⟨1, 0⟩, 0⟩
    | x :: r => ⟨⟨4, 0, r⟩, ⟨2, x⟩, 0⟩
def fifoG : List CV → T CV
  | [.agg ⟨[.int .i64 t, .int .i64 n, .pl .ints l]⟩, .int .i64 k, .int .i64 a, .int .i64 b] => T.when (small l.length && small (l.length + 1)) (.ret (fifoA t n l k a b).cv)
  | _ => .fail
def cloneE : List (Nat × ExtFn) := (69, stExt cloneG) :: kitE
theorem cloneE_ok (N : Nat) : ExtsOk Tryz.prog N cloneE := extsOk_cons (extOk_st clone_fn) (kitE_ok N)

/- FifB -/
set_option maxRecDepth 100000 in
theorem fifoApply_tree (t n : Int) (l : List Int) (k a b : Int) : (((tden Tryz.prog cloneE [] 30).call 0 88 [.agg #[.int .i64 t, .int .i64 n, .pl .ints l], .int .i64 k, .int .i64 a, .int .i64 b] ⟨.nil, 0⟩).pure.cut
    (.ite (.yes (.ite (.yes (.ite (.all) (.ite (.yes (.yes (.yes (.all)))) (.no (.ite (.all) (.ite (.yes (.yes (.yes (.yes (.yes (.all)))))) (.no (.no (.ite (.yes (.no (.ite (.all) (.yes (.ite (.ite (.yes (.yes (.all))) (.all)) (.ite (.ite (.no (.yes (.yes (.all)))) (.ite (.ite (.ite (.yes (.yes (.yes (.all)))) (.all)) (.all)) (.all))) (.yes (.yes (.all))))))))) (.no (.no (.no (.no (.yes (.ite (.ite (.yes (.yes (.all))) (.all)) (.ite (.ite (.no (.yes (.yes (.all)))) (.ite (.ite (.ite (.yes (.yes (.yes (.all)))) (.all)) (.all)) (.all))) (.yes (.yes (.all))))))))))))))))))) (.all))) (.no (.no (.no (.yes (.all))))))).ev = T.ev (α := CV) (
     .ite (t == (4 : Int))
      (.ite (small l.length)
       (.ite (!checkN t n l == (0 : Int))
        (.ret (.tuple #[.agg #[.int .i64 (0), .int .i64 (0), .slice none (0) (0)], .agg #[.int .i64 (0), .int .i64 (0)], .int .i64 (12)]))
        (.ite (decide (k < (10 : Int)))
         (.ret (.tuple #[.agg #[.int .i64 (0), .int .i64 (0), .slice none (0) (0)], .agg #[.int .i64 (0), .int .i64 (0)], .int .i64 (6)]))
         (.ite (decide (k > (12 : Int)))
          (.ret (.tuple #[.agg #[.int .i64 (0), .int .i64 (0), .slice none (0) (0)], .agg #[.int .i64 (0), .int .i64 (0)], .int .i64 (6)]))
          (.ite (b != (0 : Int))
           (.ret (.tuple #[.agg #[.int .i64 (0), .int .i64 (0), .slice none (0) (0)], .agg #[.int .i64 (0), .int .i64 (0)], .int .i64 (2)]))
           (.ite (k != (10 : Int))
            (.ite (a != (0 : Int))
             (.ret (.tuple #[.agg #[.int .i64 (0), .int .i64 (0), .slice none (0) (0)], .agg #[.int .i64 (0), .int .i64 (0)], .int .i64 (2)]))
             (.ite (small l.length)
              (.ite (k == (10 : Int))
               (.ite (roomB (l.length + [a].length) (8 : Nat))
                (.ret (.tuple #[.agg #[.int .i64 (4), .int .i64 (0), .pl .ints (l ++ [a])], .agg #[.int .i64 (0), .int .i64 (0)], .int .i64 (0)]))
                (.fail))
               (.ite (k == (11 : Int))
                (.ite ((↑l.length : Int) == (0 : Int))
                 (.ret (.tuple #[.agg #[.int .i64 (4), .int .i64 (0), .pl .ints (l)], .agg #[.int .i64 (1), .int .i64 (0)], .int .i64 (0)]))
                 (.ite (inRange (0 : Int) l.length)
                  (.ite ((Int.toNat (0 : Int)).blt l.length)
                   (.ite (decide ((0 : Int) ≤ (1 : Int)) && decide ((1 : Int) ≤ (↑(hi0 l.length none) : Int)))
                    (.ite (decide (l.getD (Int.toNat (0 : Int)) RC.ints.zero = l.getD (Int.toNat (0 : Int)) RC.ints.zero))
                     (.ret (.tuple #[.agg #[.int .i64 (4), .int .i64 (0), .pl .ints (List.take (hi0 l.length none - lo0 (some (Int.toNat (1 : Int)))) (List.drop (lo0 (some (Int.toNat (1 : Int)))) l))], .agg #[.int .i64 (2), .int .i64 (l.getD (Int.toNat (0 : Int)) RC.ints.zero)], .int .i64 (0)]))
                     .fail)
                    (.fail))
                   (.fail))
                  (.fail)))
                (.ite (decide ((↑l.length : Int) = (↑l.length : Int)))
                 (.ret (.tuple #[.agg #[.int .i64 (4), .int .i64 (0), .pl .ints (l)], .agg #[.int .i64 (2), .int .i64 ((↑l.length : Int))], .int .i64 (0)]))
                 .fail)))
              .fail))
            (.ite (small l.length)
             (.ite (k == (10 : Int))
              (.ite (roomB (l.length + [a].length) (8 : Nat))
               (.ret (.tuple #[.agg #[.int .i64 (4), .int .i64 (0), .pl .ints (l ++ [a])], .agg #[.int .i64 (0), .int .i64 (0)], .int .i64 (0)]))
               (.fail))
              (.ite (k == (11 : Int))
               (.ite ((↑l.length : Int) == (0 : Int))
                (.ret (.tuple #[.agg #[.int .i64 (4), .int .i64 (0), .pl .ints (l)], .agg #[.int .i64 (1), .int .i64 (0)], .int .i64 (0)]))
                (.ite (inRange (0 : Int) l.length)
                 (.ite ((Int.toNat (0 : Int)).blt l.length)
                  (.ite (decide ((0 : Int) ≤ (1 : Int)) && decide ((1 : Int) ≤ (↑(hi0 l.length none) : Int)))
                   (.ite (decide (l.getD (Int.toNat (0 : Int)) RC.ints.zero = l.getD (Int.toNat (0 : Int)) RC.ints.zero))
                    (.ret (.tuple #[.agg #[.int .i64 (4), .int .i64 (0), .pl .ints (List.take (hi0 l.length none - lo0 (some (Int.toNat (1 : Int)))) (List.drop (lo0 (some (Int.toNat (1 : Int)))) l))], .agg #[.int .i64 (2), .int .i64 (l.getD (Int.toNat (0 : Int)) RC.ints.zero)], .int .i64 (0)]))
                    .fail)
                   (.fail))
                  (.fail))
                 (.fail)))
               (.ite (decide ((↑l.length : Int) = (↑l.length : Int)))
                (.ret (.tuple #[.agg #[.int .i64 (4), .int .i64 (0), .pl .ints (l)], .agg #[.int .i64 (2), .int .i64 ((↑l.length : Int))], .int .i64 (0)]))
                .fail)))
             .fail))))))
       (.fail))
      (.ret (.tuple #[.agg #[.int .i64 (0), .int .i64 (0), .slice none (0) (0)], .agg #[.int .i64 (0), .int .i64 (0)], .int .i64 (12)]))) := by kernel_rfl
/- FifG -/
theorem small_succ {n : Nat} (h : small (n + 1) = true) : roomB (n + 1) 8 = true := roomB_small h (by decide)

set_option maxHeartbeats 4000000 in
theorem fifo_at (t n : Int) (l : List Int) (k a b : Int) (hs : small l.length = true) (hs2 : small (l.length + 1) = true) :
    PureAt Tryz.prog 88 [.agg #[.int .i64 t, .int .i64 n, .pl .ints l], .int .i64 k, .int .i64 a, .int .i64 b] (fifoA t n l k a b).cv := by
  refine pureAtS plainN mixedN cloneE_ok noL (k := 30) sgA (fifoApply_tree t n l k a b) ?_
  have hr := small_succ hs2
  have hr0 := roomB_small hs (b := 8) (by decide)
  have hle : ∀ (x : Int) (q : List Int), inRange 0 (x :: q).length = true := fun x q => by rw [inRange_iff]; exact ⟨Int.le_refl _, by simp⟩
  simp only [fifoA, ne_eq]
  generalize checkN t n l = c at *
  cases l with
  | nil =>
    simp only [sat_ite, sat_ret, sat_fail, hs, hr, hr0, List.length_nil, List.length_singleton, Nat.zero_add, decide_eq_true_eq, decide_eq_false_iff_not, beq_iff_eq, bne_iff_ne, ne_eq, beq_eq_false_iff_ne, bne_eq_false_iff_eq, Bool.not_eq_true', Bool.not_eq_false', true_implies, Bool.true_eq_false, false_implies, and_true, true_and, implies_true, reduceCtorEq, eq_self, not_true_eq_false, Int.natCast_zero]
    repeat' (first | apply And.intro | intro _)
    all_goals first
      | omega
      | ((repeat' split) <;> first | exact ⟨rfl, rfl⟩ | omega | (simp_all; done) | (simp_all; omega))
  | cons x q =>
    have e1 : List.take (hi0 (x :: q).length none - lo0 (some (Int.toNat 1))) (List.drop (lo0 (some (Int.toNat 1))) (x :: q)) = q := by simp [hi0, lo0]
    have e2 : (decide ((0 : Int) ≤ 1) && decide ((1 : Int) ≤ ((hi0 (x :: q).length none : Nat) : Int))) = true := by
      rw [Bool.and_eq_true]; exact ⟨by decide, by rw [decide_eq_true_eq]; show (1 : Int) ≤ ((q.length + 1 : Nat) : Int); omega⟩
    have e3 : (Int.toNat 0).blt (x :: q).length = true := by rw [Nat.blt_eq]; simp
    have e4 : (x :: q).getD (Int.toNat 0) RC.ints.zero = x := rfl
    have e5 : ¬ (((x :: q).length : Nat) : Int) = 0 := by simp; omega
    simp only [sat_ite, sat_ret, sat_fail, hs, hr, hr0, hle, e1, e2, e3, e4, e5, List.length_singleton, decide_eq_true_eq, decide_eq_false_iff_not, beq_iff_eq, bne_iff_ne, ne_eq, beq_eq_false_iff_ne, bne_eq_false_iff_eq, Bool.not_eq_true', Bool.not_eq_false', true_implies, Bool.true_eq_false, false_implies, and_true, true_and, implies_true, reduceCtorEq, eq_self, not_true_eq_false, not_false_eq_true]
    repeat' (first | apply And.intro | intro _)
    all_goals first
      | omega
      | ((repeat' split) <;> first | exact ⟨rfl, rfl⟩ | omega | (simp_all; done) | (simp_all; omega))

theorem fifo_fn : PureFn Tryz.prog 88 (sigExt [sgS] fifoG) :=
  pureFn_mk (bodied_ex (by kernel_rfl)) fun args d h => by
    unfold fifoG at h
    split at h
    · obtain ⟨hc, h1⟩ := ev_when h
      cases ev_ret h1
      simp only [Bool.and_eq_true] at hc
      exact fifo_at _ _ _ _ _ _ hc.1 hc.2
    · exact (ev_fail h).elim
end Go.Proofs.YtecidokjhplbgaaGreatDoorD.Fif

