/-
  Chapter 06: what counters answer.
-/
import Derived.Test.YtecidokjhplbgaaGreatDoorKitD
import Derived.Test.YtecidokjhplbgaaGreatDoorAns
import Derived.Test.YtecidokjhplbgaaGreatDoorOpen
set_option linter.unusedVariables false
set_option linter.unusedSimpArgs false
namespace Go.Proofs.YtecidokjhplbgaaGreatDoorD.Ctr
open Go Go.RowKit

def add64 (a b : Int) : Int := IntKind.i64.wrap (IntKind.u64.wrap (IntKind.u64.wrap a + IntKind.u64.wrap b))

def ctrA (t n : Int) (l : List Int) (k a b : Int) : Ans :=
  if t ≠ 1 ∨ checkN t n l ≠ 0 then bad 12
  else if k = 1 then (if b = 0 then ⟨⟨1, add64 n a, []⟩, ⟨0, 0⟩, 0⟩ else bad 2)
  else if k = 2 then (if b = 0 ∧ a = 0 then ⟨⟨1, n, []⟩, ⟨2, n⟩, 0⟩ else bad 2)
  else bad 6
def inI64 (n : Int) : Bool := decide (-9223372036854775808 ≤ n) && decide (n ≤ 9223372036854775807)
def ctrApplyG : List CV → T CV
  | [.agg ⟨[.int .i64 t, .int .i64 n, .pl .ints l]⟩, .int .i64 k, .int .i64 a, .int .i64 b] => T.when (small l.length && (inI64 a && inI64 b)) (.ret (ctrA t n l k a b).cv)
  | _ => .fail

theorem ofInt_zero {a : Int} (ha : w64 a) : BitVec.ofInt 64 a = 0#64 ↔ a = 0 := by
  constructor
  · intro h
    have h2 := congrArg BitVec.toInt h
    rw [BitVec.toInt_ofInt] at h2
    simp only [w64] at ha
    have h3 : a.bmod (2 ^ 64) = a := by
      have e : ((2 ^ 64 : Nat) : Int) = 18446744073709551616 := by decide
      simp only [Int.bmod, e]
      split <;> omega
    rw [h3] at h2
    simpa using h2
  · rintro rfl; rfl
theorem or_zero {a b : Int} (ha : w64 a) (hb : w64 b) : IntKind.i64.wrap ((BitVec.ofInt IntKind.i64.bits b ||| BitVec.ofInt IntKind.i64.bits a).toNat : Int) = 0 ↔ b = 0 ∧ a = 0 := by
  have hbits : IntKind.i64.bits = 64 := rfl
  rw [hbits]
  generalize hx : BitVec.ofInt 64 b ||| BitVec.ofInt 64 a = x
  have h1 : IntKind.i64.wrap (x.toNat : Int) = 0 ↔ x = 0#64 := by
    have hlt := x.isLt
    unfold IntKind.wrap
    have hb : (2 ^ IntKind.i64.bits : Int) = 18446744073709551616 := by decide
    have hb2 : (2 ^ (IntKind.i64.bits - 1) : Int) = 9223372036854775808 := by decide
    have hs : IntKind.i64.signed = true := rfl
    simp only [hb, hb2, hs, Bool.true_and, decide_eq_true_eq]
    constructor
    · intro h
      apply BitVec.eq_of_toNat_eq
      simp
      split at h <;> omega
    · rintro rfl; simp
  rw [h1, ← hx, BitVec.or_eq_zero_iff, ofInt_zero hb, ofInt_zero ha]

theorem inI64_iff {n : Int} : inI64 n = true ↔ w64 n := by simp [inI64, w64]
end Go.Proofs.YtecidokjhplbgaaGreatDoorD.Ctr

