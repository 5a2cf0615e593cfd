/-
  Chapter 06: contracts.
-/
import Derived.Test.YtncbiabbkgkdiaaCtrB
import Derived.Test.YtncbiabbkgkdiaaOpen
set_option linter.unusedVariables false
set_option linter.unusedSimpArgs false
namespace Go.Proofs.YtncbiabbkgkdiaaD
open Go Go.RowKit

theorem ofInt_zero {a : Int} (ha : w64 a) : BitVec.ofInt 64 a = 0#64 ↔ a = 0 := by
  constructor
  · intro h
    have h2 := congrArg BitVec.toInt h
    rw [BitVec.toInt_ofInt] at h2
    simp only [w64] at ha
    have h3 : a.bmod (2 ^ 64) = a := by
      have e : ((2 ^ 64 : Nat) : Int) = 18446744073709551616 := by decide
      simp only [Int.bmod, e]
      split <;> omega
    rw [h3] at h2
    simpa using h2
  · rintro rfl; rfl
theorem or_zero {a b : Int} (ha : w64 a) (hb : w64 b) : IntKind.i64.wrap ((BitVec.ofInt IntKind.i64.bits b ||| BitVec.ofInt IntKind.i64.bits a).toNat : Int) = 0 ↔ b = 0 ∧ a = 0 := by
  have hbits : IntKind.i64.bits = 64 := rfl
  rw [hbits]
  generalize hx : BitVec.ofInt 64 b ||| BitVec.ofInt 64 a = x
  have h1 : IntKind.i64.wrap (x.toNat : Int) = 0 ↔ x = 0#64 := by
    have hlt := x.isLt
    unfold IntKind.wrap
    have hb : (2 ^ IntKind.i64.bits : Int) = 18446744073709551616 := by decide
    have hb2 : (2 ^ (IntKind.i64.bits - 1) : Int) = 9223372036854775808 := by decide
    have hs : IntKind.i64.signed = true := rfl
    simp only [hb, hb2, hs, Bool.true_and, decide_eq_true_eq]
    constructor
    · intro h
      apply BitVec.eq_of_toNat_eq
      simp
      split at h <;> omega
    · rintro rfl; simp
  rw [h1, ← hx, BitVec.or_eq_zero_iff, ofInt_zero hb, ofInt_zero ha]

theorem inI64_iff {n : Int} : inI64 n = true ↔ w64 n := by simp [inI64, w64]
set_option maxHeartbeats 4000000 in
theorem ctrApply_at (t n : Int) (l : List Int) (k a b : Int) (hs : small l.length = true) (ha : w64 a) (hb : w64 b) :
    PureAt Try.prog 10 [.agg #[.int .i64 t, .int .i64 n, .pl .ints l], .int .i64 k, .int .i64 a, .int .i64 b] (ctrA t n l k a b).cv := by
  refine pureAtS plainN mixedN kitE_ok noL (k := 30) sgA (ctrApply_tree t n l k a b) ?_
  simp only [sat_ite, sat_ret, sat_fail, hs, or_zero ha hb, decide_eq_true_eq, decide_eq_false_iff_not, beq_iff_eq, bne_iff_ne, ne_eq, beq_eq_false_iff_ne, bne_eq_false_iff_eq, Bool.not_eq_true', Bool.not_eq_false', true_implies, Bool.true_eq_false, false_implies, and_true, true_and, implies_true, reduceCtorEq, eq_self, not_true_eq_false]
  simp only [ctrA, ne_eq]
  generalize checkN t n l = c at *
  repeat' (first | apply And.intro | intro _)
  all_goals first
    | omega
    | ((repeat' split) <;> first | exact ⟨rfl, rfl⟩ | omega)

set_option maxHeartbeats 4000000 in
theorem rctrApply_at (t n : Int) (l : List Int) (k a b : Int) (hs : small l.length = true) (ha : w64 a) (hb : w64 b) :
    PureAt Try.prog 11 [.agg #[.int .i64 t, .int .i64 n, .pl .ints l], .int .i64 k, .int .i64 a, .int .i64 b] (ctrA t n l k a b).cv := by
  refine pureAtS plainN mixedN kitE_ok noL (k := 30) sgA (rctrApply_tree t n l k a b) ?_
  simp only [sat_ite, sat_ret, sat_fail, hs, or_zero ha hb, decide_eq_true_eq, decide_eq_false_iff_not, beq_iff_eq, bne_iff_ne, ne_eq, beq_eq_false_iff_ne, bne_eq_false_iff_eq, Bool.not_eq_true', Bool.not_eq_false', true_implies, Bool.true_eq_false, false_implies, and_true, true_and, implies_true, reduceCtorEq, eq_self, not_true_eq_false]
  simp only [ctrA, ne_eq]
  generalize checkN t n l = c at *
  repeat' (first | apply And.intro | intro _)
  all_goals first
    | omega
    | ((repeat' split) <;> first | exact ⟨rfl, rfl⟩ | omega)

theorem ctrApply_fn : PureFn Try.prog 10 (sigExt [sgS] ctrApplyG) :=
  pureFn_mk (bodied_ex (by kernel_rfl)) fun args d h => by
    unfold ctrApplyG at h
    split at h
    · obtain ⟨hc, h1⟩ := ev_when h
      cases ev_ret h1
      simp only [Bool.and_eq_true, inI64_iff] at hc
      exact ctrApply_at _ _ _ _ _ _ hc.1 hc.2.1 hc.2.2
    · exact (ev_fail h).elim

theorem rctrApply_fn : PureFn Try.prog 11 (sigExt [sgS] ctrApplyG) :=
  pureFn_mk (bodied_ex (by kernel_rfl)) fun args d h => by
    unfold ctrApplyG at h
    split at h
    · obtain ⟨hc, h1⟩ := ev_when h
      cases ev_ret h1
      simp only [Bool.and_eq_true, inI64_iff] at hc
      exact rctrApply_at _ _ _ _ _ _ hc.1 hc.2.1 hc.2.2
    · exact (ev_fail h).elim
def ctrE : List (Nat × ExtFn) := [(10, pureExt (sigExt [sgS] ctrApplyG)), (11, pureExt (sigExt [sgS] ctrApplyG))] ++ kitE
theorem ctrE_ok (N : Nat) : ExtsOk Try.prog N ctrE := extsOk_cons (extOk_pure ctrApply_fn) (extsOk_cons (extOk_pure rctrApply_fn) (kitE_ok N))

theorem awake_fn : PureFn Try.prog 8 trueG :=
  true_fn plainN mixedN noE noL (k := 30) (by kernel_rfl) (by kernel_rfl)
def lawE : List (Nat × ExtFn) := (8, pureExt trueG) :: ctrE
theorem lawE_ok (N : Nat) : ExtsOk Try.prog N lawE := extsOk_cons (extOk_pure awake_fn) (ctrE_ok N)

end Go.Proofs.YtncbiabbkgkdiaaD
