/-
  Chapter 09: beginnings; the laws' trees.
-/
import Derived.Test.YtieebjdlmhggpaaFifG
set_option linter.unusedVariables false
set_option linter.unusedSimpArgs false
namespace Go.Proofs.YtieebjdlmhggpaaD
open Go Go.RowKit

set_option maxRecDepth 100000 in
theorem starts_tree (l m : List Int) : (((tden Try.prog eqE [] 30).call 0 17 [.pl .ints l, .pl .ints m] ⟨.nil, 0⟩).pure.cut
    (.ite (.yes (.yes (.yes (.ite (.yes (.yes (.ite (.all) (.all)))) (.all))))) (.no (.no (.no (.no (.no (.no (.all))))))))).ev = T.ev (α := CV) (
     .ite (decide ((↑m.length : Int) ≤ (↑l.length : Int)))
      (.ite (decide ((0 : Int) ≤ (↑m.length : Int)) && decide ((↑m.length : Int) ≤ (↑l.length : Int)))
       (.ite (small (lpart l none (some (↑m.length : Int).toNat)).length)
        (.ret (.bool (decide (lpart l none (some (↑m.length : Int).toNat) = m))))
        (.fail))
       (.fail))
      (.ret (.bool false))) := by kernel_rfl
theorem starts_fn : PureFn Try.prog 17 (sigExt [.l .ints, .l .ints] startsG) :=
  pureFn_mk (bodied_ex (by kernel_rfl)) fun args d h => by
    unfold startsG at h
    split at h
    · rename_i l m
      obtain ⟨hc, h1⟩ := ev_when h
      cases ev_ret h1
      refine pureAt0 plainN mixedN eqE_ok noL (k := 30) ((starts_tree l m).trans ?_) rfl
      by_cases hl : m.length ≤ l.length
      · have hs : small (l.take m.length).length = true := by rw [small_iff] at hc ⊢; rw [List.length_take]; omega
        simp only [T.ev_ite, T.ev_ret, lpart, Int.toNat_natCast, hs, if_true, show decide ((m.length : Int) ≤ l.length) = true by (rw [decide_eq_true_eq]; omega), show decide ((0 : Int) ≤ m.length) = true by (rw [decide_eq_true_eq]; omega), Bool.and_self]
        congr
      · simp [T.ev_ite, T.ev_ret, take_ne (l := l) (m := m) (by omega), show ¬ ((m.length : Int) ≤ l.length) by omega]
    · exact (ev_fail h).elim
def fifE : List (Nat × ExtFn) := [(10, pureExt (sigExt [sgS] fifoG)), (11, pureExt (sigExt [sgS] fifoG)), (17, pureExt (sigExt [.l .ints, .l .ints] startsG)), (18, pureExt (sigExt [.l .ints, .l .ints] startsG)),
  (15, pureExt (sigExt [sgS] rdrainG)), (14, stExt drainG), (24, pureExt pickG)] ++ (kitO ++ kitE)
theorem fifE_ok (N : Nat) : ExtsOk Try.prog N fifE :=
  extsOk_cons (extOk_pure fifo_fn) (extsOk_cons (extOk_pure rfifo_fn) (extsOk_cons (extOk_pure starts_fn) (extsOk_cons (extOk_pure rstarts_fn) (extsOk_cons (extOk_pure rdrain_fn) (extsOk_cons (extOk_st drain_fn) (extsOk_cons (extOk_pure pick_fn) (exts_append (E := kitO) (E' := kitE) (kitO_ok N) (kitE_ok N))))))))
theorem awake_fn : PureFn Try.prog 8 trueG :=
  true_fn plainN mixedN noE noL (k := 30) (by kernel_rfl) (by kernel_rfl)
theorem known_fn : PureFn Try.prog 5 trueG :=
  true_fn plainN mixedN noE noL (k := 30) (by kernel_rfl) (by kernel_rfl)
def lawE : List (Nat × ExtFn) := [(8, pureExt trueG), (5, pureExt trueG)] ++ fifE
theorem lawE_ok (N : Nat) : ExtsOk Try.prog N lawE := extsOk_cons (extOk_pure awake_fn) (extsOk_cons (extOk_pure known_fn) (fifE_ok N))
/-- fifo.Apply itself is run. -/
def lawE0 : List (Nat × ExtFn) := [(8, pureExt trueG), (11, pureExt (sigExt [sgS] fifoG)), (34, stExt cloneG)] ++ (kitO ++ kitE)
theorem lawE0_ok (N : Nat) : ExtsOk Try.prog N lawE0 :=
  extsOk_cons (extOk_pure awake_fn) (extsOk_cons (extOk_pure rfifo_fn) (extsOk_cons (extOk_st clone_fn) (exts_append (E := kitO) (E' := kitE) (kitO_ok N) (kitE_ok N))))

end Go.Proofs.YtieebjdlmhggpaaD
