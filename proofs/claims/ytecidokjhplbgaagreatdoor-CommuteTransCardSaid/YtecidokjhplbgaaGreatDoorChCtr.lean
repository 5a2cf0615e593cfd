/-
  Chapter 06: what counters answer.
-/
import Derived.Test.YtecidokjhplbgaaGreatDoorKitD
import Derived.Test.YtecidokjhplbgaaGreatDoorAns
import Derived.Test.YtecidokjhplbgaaGreatDoorOpen
set_option linter.unusedVariables false
set_option linter.unusedSimpArgs false
namespace Go.Proofs.YtecidokjhplbgaaGreatDoorD.Ctr
open Go Go.RowKit

/- CtrA -/
/-- Two numbers together, gone round. -/
def add64 (a b : Int) : Int := IntKind.i64.wrap (IntKind.u64.wrap (IntKind.u64.wrap a + IntKind.u64.wrap b))

def ctrA (t n : Int) (l : List Int) (k a b : Int) : Ans :=
  if t ≠ 1 ∨ checkN t n l ≠ 0 then bad 12
  else if k = 1 then (if b = 0 then ⟨⟨1, add64 n a, []⟩, ⟨0, 0⟩, 0⟩ else bad 2)
  else if k = 2 then (if b = 0 ∧ a = 0 then ⟨⟨1, n, []⟩, ⟨2, n⟩, 0⟩ else bad 2)
  else bad 6
def inI64 (n : Int) : Bool := decide (-9223372036854775808 ≤ n) && decide (n ≤ 9223372036854775807)
def ctrApplyG : List CV → T CV
  | [.agg ⟨[.int .i64 t, .int .i64 n, .pl .ints l]⟩, .int .i64 k, .int .i64 a, .int .i64 b] => T.when (small l.length && (inI64 a && inI64 b)) (.ret (ctrA t n l k a b).cv)
  | _ => .fail

/- CtrB -/
set_option maxRecDepth 100000 in
theorem ctrApply_tree (t n : Int) (l : List Int) (k a b : Int) : (((tden Tryz.prog kitE [] 30).call 0 85 [.agg #[.int .i64 t, .int .i64 n, .pl .ints l], .int .i64 k, .int .i64 a, .int .i64 b] ⟨.nil, 0⟩).pure.cut
    (.ite (.yes (.yes (.yes (.yes (.all))))) (.no (.ite (.no (.ite (.all) (.ite (.ite (.all) (.yes (.yes (.all)))) (.ite (.ite (.all) (.yes (.yes (.all)))) (.all))))) (.all))))).ev = T.ev (α := CV) (
     .ite (t != (1 : Int))
      (.ret (.tuple #[.agg #[.int .i64 (0), .int .i64 (0), .slice none (0) (0)], .agg #[.int .i64 (0), .int .i64 (0)], .int .i64 (12)]))
      (.ite (small l.length)
       (.ite (checkN t n l != (0 : Int))
        (.ret (.tuple #[.agg #[.int .i64 (0), .int .i64 (0), .slice none (0) (0)], .agg #[.int .i64 (0), .int .i64 (0)], .int .i64 (12)]))
        (.ite (k == (1 : Int))
         (.ite (b != (0 : Int))
          (.ret (.tuple #[.agg #[.int .i64 (0), .int .i64 (0), .slice none (0) (0)], .agg #[.int .i64 (0), .int .i64 (0)], .int .i64 (2)]))
          (.ret (.tuple #[.agg #[.int .i64 (1), .int .i64 (IntKind.i64.wrap (IntKind.u64.wrap (IntKind.u64.wrap n + IntKind.u64.wrap a))), .slice none (0) (0)], .agg #[.int .i64 (0), .int .i64 (0)], .int .i64 (0)])))
         (.ite (k == (2 : Int))
          (.ite (IntKind.i64.wrap (↑(BitVec.ofInt IntKind.i64.bits b ||| BitVec.ofInt IntKind.i64.bits a).toNat : Int) != (0 : Int))
           (.ret (.tuple #[.agg #[.int .i64 (0), .int .i64 (0), .slice none (0) (0)], .agg #[.int .i64 (0), .int .i64 (0)], .int .i64 (2)]))
           (.ite (decide (n = n))
            (.ret (.tuple #[.agg #[.int .i64 (1), .int .i64 (n), .slice none (0) (0)], .agg #[.int .i64 (2), .int .i64 (n)], .int .i64 (0)]))
            .fail))
          (.ret (.tuple #[.agg #[.int .i64 (0), .int .i64 (0), .slice none (0) (0)], .agg #[.int .i64 (0), .int .i64 (0)], .int .i64 (6)])))))
       (.fail))) := by kernel_rfl
/- CtrC -/
theorem ofInt_zero {a : Int} (ha : w64 a) : BitVec.ofInt 64 a = 0#64 ↔ a = 0 := by
  constructor
  · intro h
    have h2 := congrArg BitVec.toInt h
    rw [BitVec.toInt_ofInt] at h2
    simp only [w64] at ha
    have h3 : a.bmod (2 ^ 64) = a := by
      have e : ((2 ^ 64 : Nat) : Int) = 18446744073709551616 := by decide
      simp only [Int.bmod, e]
      split <;> omega
    rw [h3] at h2
    simpa using h2
  · rintro rfl; rfl
theorem or_zero {a b : Int} (ha : w64 a) (hb : w64 b) : IntKind.i64.wrap ((BitVec.ofInt IntKind.i64.bits b ||| BitVec.ofInt IntKind.i64.bits a).toNat : Int) = 0 ↔ b = 0 ∧ a = 0 := by
  have hbits : IntKind.i64.bits = 64 := rfl
  rw [hbits]
  generalize hx : BitVec.ofInt 64 b ||| BitVec.ofInt 64 a = x
  have h1 : IntKind.i64.wrap (x.toNat : Int) = 0 ↔ x = 0#64 := by
    have hlt := x.isLt
    unfold IntKind.wrap
    have hb : (2 ^ IntKind.i64.bits : Int) = 18446744073709551616 := by decide
    have hb2 : (2 ^ (IntKind.i64.bits - 1) : Int) = 9223372036854775808 := by decide
    have hs : IntKind.i64.signed = true := rfl
    simp only [hb, hb2, hs, Bool.true_and, decide_eq_true_eq]
    constructor
    · intro h
      apply BitVec.eq_of_toNat_eq
      simp
      split at h <;> omega
    · rintro rfl; simp
  rw [h1, ← hx, BitVec.or_eq_zero_iff, ofInt_zero hb, ofInt_zero ha]

theorem inI64_iff {n : Int} : inI64 n = true ↔ w64 n := by simp [inI64, w64]
set_option maxHeartbeats 4000000 in
theorem ctrApply_at (t n : Int) (l : List Int) (k a b : Int) (hs : small l.length = true) (ha : w64 a) (hb : w64 b) :
    PureAt Tryz.prog 85 [.agg #[.int .i64 t, .int .i64 n, .pl .ints l], .int .i64 k, .int .i64 a, .int .i64 b] (ctrA t n l k a b).cv := by
  refine pureAtS plainN mixedN kitE_ok noL (k := 30) sgA (ctrApply_tree t n l k a b) ?_
  simp only [sat_ite, sat_ret, sat_fail, hs, or_zero ha hb, decide_eq_true_eq, decide_eq_false_iff_not, beq_iff_eq, bne_iff_ne, ne_eq, beq_eq_false_iff_ne, bne_eq_false_iff_eq, Bool.not_eq_true', Bool.not_eq_false', true_implies, Bool.true_eq_false, false_implies, and_true, true_and, implies_true, reduceCtorEq, eq_self, not_true_eq_false]
  simp only [ctrA, ne_eq]
  generalize checkN t n l = c at *
  repeat' (first | apply And.intro | intro _)
  all_goals first
    | omega
    | ((repeat' split) <;> first | exact ⟨rfl, rfl⟩ | omega)

theorem ctrApply_fn : PureFn Tryz.prog 85 (sigExt [sgS] ctrApplyG) :=
  pureFn_mk (bodied_ex (by kernel_rfl)) fun args d h => by
    unfold ctrApplyG at h
    split at h
    · obtain ⟨hc, h1⟩ := ev_when h
      cases ev_ret h1
      simp only [Bool.and_eq_true, inI64_iff] at hc
      exact ctrApply_at _ _ _ _ _ _ hc.1 hc.2.1 hc.2.2
    · exact (ev_fail h).elim

def ctrE : List (Nat × ExtFn) := [(85, pureExt (sigExt [sgS] ctrApplyG))] ++ kitE
theorem ctrE_ok (N : Nat) : ExtsOk Tryz.prog N ctrE := extsOk_cons (extOk_pure ctrApply_fn) (kitE_ok N)

end Go.Proofs.YtecidokjhplbgaaGreatDoorD.Ctr

