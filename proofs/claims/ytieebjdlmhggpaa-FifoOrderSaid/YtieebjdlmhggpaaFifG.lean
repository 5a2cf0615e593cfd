/-
  Chapter 09: contracts.
-/
import Derived.Test.YtieebjdlmhggpaaFifF
import Derived.Test.YtieebjdlmhggpaaKitP
set_option linter.unusedVariables false
set_option linter.unusedSimpArgs false
namespace Go.Proofs.YtieebjdlmhggpaaD
open Go Go.RowKit

theorem small_succ {n : Nat} (h : small (n + 1) = true) : roomB (n + 1) 8 = true := roomB_small h (by decide)

set_option maxHeartbeats 4000000 in
theorem fifo_at (t n : Int) (l : List Int) (k a b : Int) (hs : small l.length = true) (hs2 : small (l.length + 1) = true) :
    PureAt Try.prog 10 [.agg #[.int .i64 t, .int .i64 n, .pl .ints l], .int .i64 k, .int .i64 a, .int .i64 b] (fifoA t n l k a b).cv := by
  refine pureAtS plainN mixedN cloneE_ok noL (k := 30) sgA (fifoApply_tree t n l k a b) ?_
  have hr := small_succ hs2
  have hr0 := roomB_small hs (b := 8) (by decide)
  have hle : ∀ (x : Int) (q : List Int), inRange 0 (x :: q).length = true := fun x q => by rw [inRange_iff]; exact ⟨Int.le_refl _, by simp⟩
  simp only [fifoA, ne_eq]
  generalize checkN t n l = c at *
  cases l with
  | nil =>
    simp only [sat_ite, sat_ret, sat_fail, hs, hr, hr0, List.length_nil, List.length_singleton, Nat.zero_add, decide_eq_true_eq, decide_eq_false_iff_not, beq_iff_eq, bne_iff_ne, ne_eq, beq_eq_false_iff_ne, bne_eq_false_iff_eq, Bool.not_eq_true', Bool.not_eq_false', true_implies, Bool.true_eq_false, false_implies, and_true, true_and, implies_true, reduceCtorEq, eq_self, not_true_eq_false, Int.natCast_zero]
    repeat' (first | apply And.intro | intro _)
    all_goals first
      | omega
      | ((repeat' split) <;> first | exact ⟨rfl, rfl⟩ | omega | (simp_all; done) | (simp_all; omega))
  | cons x q =>
    have e1 : List.take (hi0 (x :: q).length none - lo0 (some (Int.toNat 1))) (List.drop (lo0 (some (Int.toNat 1))) (x :: q)) = q := by simp [hi0, lo0]
    have e2 : (decide ((0 : Int) ≤ 1) && decide ((1 : Int) ≤ ((hi0 (x :: q).length none : Nat) : Int))) = true := by
      rw [Bool.and_eq_true]; exact ⟨by decide, by rw [decide_eq_true_eq]; show (1 : Int) ≤ ((q.length + 1 : Nat) : Int); omega⟩
    have e3 : (Int.toNat 0).blt (x :: q).length = true := by rw [Nat.blt_eq]; simp
    have e4 : (x :: q).getD (Int.toNat 0) RC.ints.zero = x := rfl
    have e5 : ¬ (((x :: q).length : Nat) : Int) = 0 := by simp; omega
    simp only [sat_ite, sat_ret, sat_fail, hs, hr, hr0, hle, e1, e2, e3, e4, e5, List.length_singleton, decide_eq_true_eq, decide_eq_false_iff_not, beq_iff_eq, bne_iff_ne, ne_eq, beq_eq_false_iff_ne, bne_eq_false_iff_eq, Bool.not_eq_true', Bool.not_eq_false', true_implies, Bool.true_eq_false, false_implies, and_true, true_and, implies_true, reduceCtorEq, eq_self, not_true_eq_false, not_false_eq_true]
    repeat' (first | apply And.intro | intro _)
    all_goals first
      | omega
      | ((repeat' split) <;> first | exact ⟨rfl, rfl⟩ | omega | (simp_all; done) | (simp_all; omega))

set_option maxHeartbeats 4000000 in
theorem rfifo_at (t n : Int) (l : List Int) (k a b : Int) (hs : small l.length = true) (hs2 : small (l.length + 1) = true) :
    PureAt Try.prog 11 [.agg #[.int .i64 t, .int .i64 n, .pl .ints l], .int .i64 k, .int .i64 a, .int .i64 b] (fifoA t n l k a b).cv := by
  refine pureAtS plainN mixedN kitE_ok noL (k := 30) sgA (rfifoApply_tree t n l k a b) ?_
  have hr := small_succ hs2
  have hr0 := roomB_small hs (b := 8) (by decide)
  have hle : ∀ (x : Int) (q : List Int), inRange 0 (x :: q).length = true := fun x q => by rw [inRange_iff]; exact ⟨Int.le_refl _, by simp⟩
  simp only [fifoA, ne_eq]
  generalize checkN t n l = c at *
  cases l with
  | nil =>
    simp only [sat_ite, sat_ret, sat_fail, hs, hr, hr0, List.length_nil, List.length_singleton, Nat.zero_add, decide_eq_true_eq, decide_eq_false_iff_not, beq_iff_eq, bne_iff_ne, ne_eq, beq_eq_false_iff_ne, bne_eq_false_iff_eq, Bool.not_eq_true', Bool.not_eq_false', true_implies, Bool.true_eq_false, false_implies, and_true, true_and, implies_true, reduceCtorEq, eq_self, not_true_eq_false, Int.natCast_zero]
    repeat' (first | apply And.intro | intro _)
    all_goals first
      | omega
      | ((repeat' split) <;> first | exact ⟨rfl, rfl⟩ | omega | (simp_all; done) | (simp_all; omega))
  | cons x q =>
    have e1 : List.take (hi0 (x :: q).length none - lo0 (some (Int.toNat 1))) (List.drop (lo0 (some (Int.toNat 1))) (x :: q)) = q := by simp [hi0, lo0]
    have e2 : (decide ((0 : Int) ≤ 1) && decide ((1 : Int) ≤ ((hi0 (x :: q).length none : Nat) : Int))) = true := by
      rw [Bool.and_eq_true]; exact ⟨by decide, by rw [decide_eq_true_eq]; show (1 : Int) ≤ ((q.length + 1 : Nat) : Int); omega⟩
    have e4 : (x :: q).getD (Int.toNat 0) RC.ints.zero = x := rfl
    have e5 : ¬ (((x :: q).length : Nat) : Int) = 0 := by simp; omega
    simp only [sat_ite, sat_ret, sat_fail, hs, hr, hr0, hle, e1, e2, e4, e5, List.length_singleton, decide_eq_true_eq, decide_eq_false_iff_not, beq_iff_eq, bne_iff_ne, ne_eq, beq_eq_false_iff_ne, bne_eq_false_iff_eq, Bool.not_eq_true', Bool.not_eq_false', true_implies, Bool.true_eq_false, false_implies, and_true, true_and, implies_true, reduceCtorEq, eq_self, not_true_eq_false, not_false_eq_true]
    repeat' (first | apply And.intro | intro _)
    all_goals first
      | omega
      | ((repeat' split) <;> first | exact ⟨rfl, rfl⟩ | omega | (simp_all; done) | (simp_all; omega))

theorem fifo_fn : PureFn Try.prog 10 (sigExt [sgS] fifoG) :=
  pureFn_mk (bodied_ex (by kernel_rfl)) fun args d h => by
    unfold fifoG at h
    split at h
    · obtain ⟨hc, h1⟩ := ev_when h
      cases ev_ret h1
      simp only [Bool.and_eq_true] at hc
      exact fifo_at _ _ _ _ _ _ hc.1 hc.2
    · exact (ev_fail h).elim
theorem rfifo_fn : PureFn Try.prog 11 (sigExt [sgS] fifoG) :=
  pureFn_mk (bodied_ex (by kernel_rfl)) fun args d h => by
    unfold fifoG at h
    split at h
    · obtain ⟨hc, h1⟩ := ev_when h
      cases ev_ret h1
      simp only [Bool.and_eq_true] at hc
      exact rfifo_at _ _ _ _ _ _ hc.1 hc.2
    · exact (ev_fail h).elim

def equalG : List CV → T CV
  | [.pl .ints l, .pl .ints m] => T.when (small l.length) (.ret (.bool (decide (l = m))))
  | _ => .fail
def startsG : List CV → T CV
  | [.pl .ints l, .pl .ints m] => T.when (small l.length) (.ret (.bool (decide (l.take m.length = m))))
  | _ => .fail
theorem take_ne {l m : List Int} (h : l.length < m.length) : ¬ l.take m.length = m := fun e => by
  have := congrArg List.length e
  rw [List.length_take] at this; omega
theorem equal_fn : PureFn Try.prog 32 (sigExt [.l .ints, .l .ints] equalG) :=
  pureFn_mk (bodied_ex (by kernel_rfl)) fun args d h => by
    unfold equalG at h
    split at h
    · rename_i l m
      obtain ⟨hc, h1⟩ := ev_when h
      cases ev_ret h1
      refine pureAt0 plainN mixedN noE fifL1_ok (k := 30) ((equal_tree l m).trans ?_) rfl
      by_cases hl : l.length = m.length
      · by_cases e : l = m <;> simp [T.ev_ite, T.ev_ret, hc, hl, e, hl ▸ hc]
      · have e : l ≠ m := fun e => hl (by rw [e])
        simp [T.ev_ite, T.ev_ret, e, show ¬ ((l.length : Int) = m.length) by omega]
    · exact (ev_fail h).elim
theorem rstarts_fn : PureFn Try.prog 18 (sigExt [.l .ints, .l .ints] startsG) :=
  pureFn_mk (bodied_ex (by kernel_rfl)) fun args d h => by
    unfold startsG at h
    split at h
    · rename_i l m
      obtain ⟨hc, h1⟩ := ev_when h
      cases ev_ret h1
      refine pureAt0 plainN mixedN noE fifL1_ok (k := 30) ((rstarts_tree l m).trans ?_) rfl
      by_cases hl : m.length ≤ l.length
      · by_cases e : l.take m.length = m <;> simp [T.ev_ite, T.ev_ret, hc, e, hl, show ¬ ((l.length : Int) < m.length) by omega]
      · simp [T.ev_ite, T.ev_ret, take_ne (l := l) (m := m) (by omega), show ((l.length : Int) < m.length) by omega]
    · exact (ev_fail h).elim
def eqE : List (Nat × ExtFn) := [(32, pureExt (sigExt [.l .ints, .l .ints] equalG))]
theorem eqE_ok (N : Nat) : ExtsOk Try.prog N eqE := extsOk_cons (extOk_pure equal_fn) extsOk_nil

def rdrainG : List CV → T CV
  | [.agg ⟨[.int .i64 t, .int .i64 n, .pl .ints l]⟩] => T.when (small l.length) (.ite (decide (t = 4 ∧ checkN t n l = 0)) (.ret (.tuple #[.pl .ints l, .int .i64 0])) (.ret (.tuple #[.slice none 0 0, .int .i64 12])))
  | _ => .fail
def drainG : NSt → T NSt
  | ⟨[.agg ⟨[.int .i64 t, .int .i64 n, .pl .ints l]⟩], [], [], 0⟩ => T.when (small l.length) (.ite (decide (t = 4 ∧ checkN t n l = 0))
      (.ite (l.isEmpty) (.ret ⟨[.tuple #[.slice none 0 0, .int .i64 0]], [], [], 0⟩) (.ret ⟨[.tuple #[.row 0 1 0, .int .i64 0]], [], [(0, .rows .ints l)], 1⟩))
      (.ret ⟨[.tuple #[.slice none 0 0, .int .i64 12]], [], [], 0⟩))
  | _ => .fail
theorem rdrain_fn : PureFn Try.prog 15 (sigExt [sgS] rdrainG) :=
  pureFn_mk (bodied_ex (by kernel_rfl)) fun args d h => by
    unfold rdrainG at h
    split at h
    · rename_i t n l
      obtain ⟨hc, h1⟩ := ev_when h
      have hr0 := roomB_small hc (b := 8) (by decide)
      by_cases e : t = 4 ∧ checkN t n l = 0
      · rw [T.ev_ite, if_pos (by simpa using e)] at h1
        cases ev_ret h1
        refine pureAt0 plainN mixedN kitE_ok noL (k := 30) ((rdrain_tree t n l).trans ?_) rfl
        obtain ⟨rfl, e⟩ := e
        simp [T.ev_ite, T.ev_ret, hc, e, hr0]
      · rw [T.ev_ite, if_neg (by simpa using e)] at h1
        cases ev_ret h1
        refine pureAt0 plainN mixedN kitE_ok noL (k := 30) ((rdrain_tree t n l).trans ?_) rfl
        by_cases h4 : t = 4
        · subst h4
          simp [T.ev_ite, T.ev_ret, hc, show ¬ checkN 4 n l = 0 by simpa using e]
        · simp [T.ev_ite, T.ev_ret, h4]
    · exact (ev_fail h).elim
theorem drain_fn : StFn Try.prog 14 drainG :=
  ⟨bodied_ex (by kernel_rfl), fun n0 n h => by
    unfold drainG at h
    split at h
    · rename_i t m l
      obtain ⟨hc, h1⟩ := ev_when h
      refine st_cut plainN mixedN cloneE_ok fifL2_ok ((drain_tree t m l).trans ?_)
      rw [← h1]
      by_cases h4 : t = 4
      · subst h4
        by_cases h5 : checkN 4 m l = 0
        · cases l with
          | nil => simp [T.ev_ite, T.ev_ret, h5, hc, stAt]; rfl
          | cons x q =>
            have e2 : (decide ((0 : Int) ≤ 1) && decide ((1 : Int) ≤ ((hi0 (x :: q).length none : Nat) : Int))) = true := by
              rw [Bool.and_eq_true]; exact ⟨by decide, by rw [decide_eq_true_eq]; show (1 : Int) ≤ ((q.length + 1 : Nat) : Int); omega⟩
            have e3 : (Int.toNat 0).blt (x :: q).length = true := by rw [Nat.blt_eq]; simp
            have e5 : ((((x :: q).length : Nat) : Int) == 0) = false := by rw [beq_eq_false_iff_ne]; simp; omega
            have e6 : inRange 0 (x :: q).length = true := by rw [inRange_iff]; exact ⟨Int.le_refl _, by simp⟩
            simp only [T.ev_ite, h5, hc, e2, e3, e5, e6, beq_self_eq_true, if_true, Bool.not_true, Bool.false_eq_true, if_false, and_self, decide_true, List.isEmpty_cons]
            simp [hi0, lo0, Nat.beq_eq]
            rfl
        · simp [T.ev_ite, T.ev_ret, h5, hc]; rfl
      · simp [T.ev_ite, T.ev_ret, h4]; rfl
    · exact (ev_fail h).elim⟩

end Go.Proofs.YtieebjdlmhggpaaD
