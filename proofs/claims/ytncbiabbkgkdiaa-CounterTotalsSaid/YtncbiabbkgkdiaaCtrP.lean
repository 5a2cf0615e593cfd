/-
  Chapter 06: numbers that go round, in plain words.
-/
import Derived.Test.YtncbiabbkgkdiaaCtrC
set_option linter.unusedVariables false
set_option linter.unusedSimpArgs false
namespace Go.Proofs.YtncbiabbkgkdiaaD
open Go Go.RowKit

theorem add64_def (a b : Int) : add64 a b = IntKind.i64.wrap (IntKind.u64.wrap (IntKind.u64.wrap a + IntKind.u64.wrap b)) := rfl
/-- What numbers come to, one by one. -/
def total (n : Int) : List Int → Int
  | [] => n
  | x :: l => total (add64 n x) l
def backs (n : Int) : List Int → Int
  | [] => n
  | x :: l => backs (add64 n (IntKind.i64.wrap (0 - x))) l
def rbacks (n : Int) (l : List Int) : Int := IntKind.i64.wrap (IntKind.u64.wrap (IntKind.u64.wrap n - IntKind.u64.wrap (total 0 l)))

theorem wrap_bmod (n : Int) : IntKind.i64.wrap n = Int.bmod n 18446744073709551616 := by
  unfold IntKind.wrap
  have hb : (2 ^ IntKind.i64.bits : Int) = 18446744073709551616 := by decide
  have hb2 : (2 ^ (IntKind.i64.bits - 1) : Int) = 9223372036854775808 := by decide
  have hs : IntKind.i64.signed = true := rfl
  simp only [hb, hb2, hs, Bool.true_and, decide_eq_true_eq, Int.bmod]
  split <;> split <;> omega
theorem wrapU_emod (n : Int) : IntKind.u64.wrap n = n % 18446744073709551616 := by
  unfold IntKind.wrap
  have hb : (2 ^ IntKind.u64.bits : Int) = 18446744073709551616 := by decide
  have hs : IntKind.u64.signed = false := rfl
  simp only [hb, hs, Bool.false_and, Bool.false_eq_true, if_false]
theorem bmod_eq_of {a b : Int} (h : a % 18446744073709551616 = b % 18446744073709551616) : Int.bmod a 18446744073709551616 = Int.bmod b 18446744073709551616 := by
  unfold Int.bmod; simp only []; split <;> split <;> omega
theorem bmod_mod (a : Int) : Int.bmod a 18446744073709551616 % 18446744073709551616 = a % 18446744073709551616 := by
  unfold Int.bmod; simp only []; split <;> omega
theorem bmod_w64 {a : Int} (h : w64 a) : Int.bmod a 18446744073709551616 = a := by
  simp only [w64] at h
  unfold Int.bmod; simp only []; split <;> omega
theorem w64_bmod (a : Int) : w64 (Int.bmod a 18446744073709551616) := by
  unfold Int.bmod w64; simp only []; split <;> omega
theorem add64_bmod (a b : Int) : add64 a b = Int.bmod (a + b) 18446744073709551616 := by
  rw [add64, wrap_bmod, wrapU_emod, wrapU_emod, wrapU_emod]
  apply bmod_eq_of; omega
theorem w64_add (a b : Int) : w64 (add64 a b) := by rw [add64_bmod]; exact w64_bmod _
theorem total_eq : ∀ (l : List Int) (n : Int), w64 n → total n l = Int.bmod (n + l.sum) 18446744073709551616
  | [], n, h => by simp [total, bmod_w64 h]
  | x :: l, n, h => by
    rw [total, total_eq l _ (w64_add n x), add64_bmod]
    apply bmod_eq_of
    rw [List.sum_cons, Int.add_emod, bmod_mod, ← Int.add_emod, Int.add_assoc]
theorem backs_eq : ∀ (l : List Int) (n : Int), w64 n → backs n l = Int.bmod (n - l.sum) 18446744073709551616
  | [], n, h => by simp [backs, bmod_w64 h]
  | x :: l, n, h => by
    rw [backs, backs_eq l _ (w64_add n _), add64_bmod, wrap_bmod]
    apply bmod_eq_of
    rw [List.sum_cons]
    have h1 := bmod_mod (n + Int.bmod (0 - x) 18446744073709551616)
    have h2 := bmod_mod (0 - x)
    omega
theorem rbacks_eq (l : List Int) (n : Int) : rbacks n l = Int.bmod (n - l.sum) 18446744073709551616 := by
  rw [rbacks, wrap_bmod, wrapU_emod, wrapU_emod, wrapU_emod, total_eq l 0 ⟨by omega, by omega⟩]
  apply bmod_eq_of
  have := bmod_mod (0 + l.sum)
  omega
theorem backs_rbacks (l : List Int) {n : Int} (h : w64 n) : backs n l = rbacks n l := by rw [backs_eq l n h, rbacks_eq]
theorem total_append : ∀ (l m : List Int) (n : Int), total n (l ++ m) = total (total n l) m
  | [], m, n => rfl
  | x :: l, m, n => by rw [List.cons_append, total, total, total_append l m]
theorem backs_total (l : List Int) {n : Int} (h : w64 n) : backs (total n l) l = n := by
  rw [total_eq l n h, backs_eq l _ (w64_bmod _)]
  have := bmod_mod (n + l.sum)
  rw [bmod_eq_of (b := n) (by omega), bmod_w64 h]

end Go.Proofs.YtncbiabbkgkdiaaD
