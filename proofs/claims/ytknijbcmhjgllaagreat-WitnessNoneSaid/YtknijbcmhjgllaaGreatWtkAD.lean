/-
  Chapter 19: the examples: closed runs; the law WitnessKnown.
-/
import Derived.Test.YtknijbcmhjgllaaGreatCwAF
import Derived.Test.YtknijbcmhjgllaaGreatChRun
import Derived.Test.YtknijbcmhjgllaaGreatFrzA
import Derived.Test.YtknijbcmhjgllaaGreatKitJ
import Derived.Test.YtknijbcmhjgllaaGreatClose
set_option linter.unusedVariables false
set_option linter.unusedSimpArgs false
namespace Go.Proofs.YtknijbcmhjgllaaGreatD
open Go Go.RowKit

/- WtkA -/
def wtE : List (Nat × ExtFn) := (14, pureExt (sigExt [] opsG)) :: (32, pureExt (sigExt [] opTypeG)) :: (runNE ++ legNE)
theorem wtE_ok (N : Nat) : ExtsOk Tryz.prog N wtE := extsOk_cons (extOk_pure ops_fn) (extsOk_cons (extOk_pure opType_fn) (exts_append (runNE_ok N) (legNE_ok N)))

/- WtkA1 -/
def wkE : List (Nat × ExtFn) := (58, pureExt joinG) :: wtE
theorem wkE_ok (N : Nat) : ExtsOk Tryz.prog N wkE := extsOk_cons (extOk_pure joinS_fn) (wtE_ok N)

/- WtkB1 -/
set_option maxRecDepth 100000 in
theorem first0_fn : PureFn Tryz.prog 8 (onlyG [.agg #[.int .i64 1, .int .i64 2, .int .i64 0, .int .i64 0, .int .i64 0], .agg #[.int .i64 2, .int .i64 0, .int .i64 0, .int .i64 2, .int .i64 5], .string ⟨#[99, 111, 117, 110, 116, 101, 114, 32, 53]⟩, .int .i64 0] (.bool true)) := only_fn plainN mixedN wkE_ok noL (k := 100) (by kernel_rfl) rfl (by kernel_rfl)
set_option maxRecDepth 100000 in
theorem first1_fn : PureFn Tryz.prog 8 (onlyG [.agg #[.int .i64 3, .int .i64 1, .int .i64 0, .int .i64 2, .int .i64 1], .agg #[.int .i64 4, .int .i64 1, .int .i64 0, .int .i64 2, .int .i64 1], .string ⟨#[115, 101, 116]⟩, .int .i64 0] (.bool true)) := only_fn plainN mixedN wkE_ok noL (k := 100) (by kernel_rfl) rfl (by kernel_rfl)
set_option maxRecDepth 100000 in
theorem first2_fn : PureFn Tryz.prog 8 (onlyG [.agg #[.int .i64 11, .int .i64 0, .int .i64 0, .int .i64 2, .int .i64 1], .agg #[.int .i64 11, .int .i64 0, .int .i64 0, .int .i64 2, .int .i64 2], .string ⟨#[113, 117, 101, 117, 101, 32, 49, 32, 50]⟩, .int .i64 0] (.bool true)) := only_fn plainN mixedN wkE_ok noL (k := 100) (by kernel_rfl) rfl (by kernel_rfl)
set_option maxRecDepth 100000 in
theorem first3_fn : PureFn Tryz.prog 8 (onlyG [.agg #[.int .i64 1, .int .i64 2, .int .i64 0, .int .i64 0, .int .i64 0], .agg #[.int .i64 1, .int .i64 3, .int .i64 0, .int .i64 0, .int .i64 0], .string ⟨#[]⟩, .int .i64 14] (.bool true)) := only_fn plainN mixedN wkE_ok noL (k := 100) (by kernel_rfl) rfl (by kernel_rfl)

/- WtkB2 -/
set_option maxRecDepth 100000 in
theorem first4_fn : PureFn Tryz.prog 8 (onlyG [.agg #[.int .i64 3, .int .i64 1, .int .i64 0, .int .i64 2, .int .i64 1], .agg #[.int .i64 3, .int .i64 1, .int .i64 0, .int .i64 2, .int .i64 1], .string ⟨#[]⟩, .int .i64 14] (.bool true)) := only_fn plainN mixedN wkE_ok noL (k := 100) (by kernel_rfl) rfl (by kernel_rfl)
set_option maxRecDepth 100000 in
theorem first5_fn : PureFn Tryz.prog 8 (onlyG [.agg #[.int .i64 10, .int .i64 1, .int .i64 0, .int .i64 0, .int .i64 0], .agg #[.int .i64 11, .int .i64 0, .int .i64 0, .int .i64 1, .int .i64 0], .string ⟨#[113, 117, 101, 117, 101]⟩, .int .i64 0] (.bool true)) := only_fn plainN mixedN wkE_ok noL (k := 100) (by kernel_rfl) rfl (by kernel_rfl)
set_option maxRecDepth 100000 in
theorem first6_fn : PureFn Tryz.prog 8 (onlyG [.agg #[.int .i64 7, .int .i64 1, .int .i64 2, .int .i64 1, .int .i64 0], .agg #[.int .i64 8, .int .i64 1, .int .i64 0, .int .i64 2, .int .i64 2], .string ⟨#[109, 97, 112]⟩, .int .i64 0] (.bool true)) := only_fn plainN mixedN wkE_ok noL (k := 100) (by kernel_rfl) rfl (by kernel_rfl)
set_option maxRecDepth 100000 in
theorem first7_fn : PureFn Tryz.prog 8 (onlyG [.agg #[.int .i64 13, .int .i64 5, .int .i64 0, .int .i64 2, .int .i64 1], .agg #[.int .i64 14, .int .i64 3, .int .i64 0, .int .i64 2, .int .i64 1], .string ⟨#[101, 115, 99, 114, 111, 119, 32, 48]⟩, .int .i64 0] (.bool true)) := only_fn plainN mixedN wkE_ok noL (k := 100) (by kernel_rfl) rfl (by kernel_rfl)

/- WtkB3 -/
set_option maxRecDepth 100000 in
theorem first8_fn : PureFn Tryz.prog 8 (onlyG [.agg #[.int .i64 6, .int .i64 0, .int .i64 0, .int .i64 2, .int .i64 5000], .agg #[.int .i64 3, .int .i64 1, .int .i64 0, .int .i64 2, .int .i64 1], .string ⟨#[]⟩, .int .i64 15] (.bool true)) := only_fn plainN mixedN wkE_ok noL (k := 100) (by kernel_rfl) rfl (by kernel_rfl)
set_option maxRecDepth 100000 in
theorem first9_fn : PureFn Tryz.prog 8 (onlyG [.agg #[.int .i64 6, .int .i64 0, .int .i64 0, .int .i64 2, .int .i64 2], .agg #[.int .i64 3, .int .i64 7, .int .i64 0, .int .i64 2, .int .i64 1], .string ⟨#[115, 101, 116, 32, 48]⟩, .int .i64 0] (.bool true)) := only_fn plainN mixedN wkE_ok noL (k := 100) (by kernel_rfl) rfl (by kernel_rfl)
set_option maxRecDepth 100000 in
theorem first10_fn : PureFn Tryz.prog 8 (onlyG [.agg #[.int .i64 1, .int .i64 1, .int .i64 0, .int .i64 0, .int .i64 0], .agg #[.int .i64 6, .int .i64 0, .int .i64 0, .int .i64 2, .int .i64 1], .string ⟨#[]⟩, .int .i64 8] (.bool true)) := only_fn plainN mixedN wkE_ok noL (k := 100) (by kernel_rfl) rfl (by kernel_rfl)

/- WtkC -/
def firstL : List (List CV × CV) := [([.agg #[.int .i64 1, .int .i64 2, .int .i64 0, .int .i64 0, .int .i64 0], .agg #[.int .i64 2, .int .i64 0, .int .i64 0, .int .i64 2, .int .i64 5], .string ⟨#[99, 111, 117, 110, 116, 101, 114, 32, 53]⟩, .int .i64 0], .bool true),
  ([.agg #[.int .i64 3, .int .i64 1, .int .i64 0, .int .i64 2, .int .i64 1], .agg #[.int .i64 4, .int .i64 1, .int .i64 0, .int .i64 2, .int .i64 1], .string ⟨#[115, 101, 116]⟩, .int .i64 0], .bool true),
  ([.agg #[.int .i64 11, .int .i64 0, .int .i64 0, .int .i64 2, .int .i64 1], .agg #[.int .i64 11, .int .i64 0, .int .i64 0, .int .i64 2, .int .i64 2], .string ⟨#[113, 117, 101, 117, 101, 32, 49, 32, 50]⟩, .int .i64 0], .bool true),
  ([.agg #[.int .i64 1, .int .i64 2, .int .i64 0, .int .i64 0, .int .i64 0], .agg #[.int .i64 1, .int .i64 3, .int .i64 0, .int .i64 0, .int .i64 0], .string ⟨#[]⟩, .int .i64 14], .bool true),
  ([.agg #[.int .i64 3, .int .i64 1, .int .i64 0, .int .i64 2, .int .i64 1], .agg #[.int .i64 3, .int .i64 1, .int .i64 0, .int .i64 2, .int .i64 1], .string ⟨#[]⟩, .int .i64 14], .bool true),
  ([.agg #[.int .i64 10, .int .i64 1, .int .i64 0, .int .i64 0, .int .i64 0], .agg #[.int .i64 11, .int .i64 0, .int .i64 0, .int .i64 1, .int .i64 0], .string ⟨#[113, 117, 101, 117, 101]⟩, .int .i64 0], .bool true),
  ([.agg #[.int .i64 7, .int .i64 1, .int .i64 2, .int .i64 1, .int .i64 0], .agg #[.int .i64 8, .int .i64 1, .int .i64 0, .int .i64 2, .int .i64 2], .string ⟨#[109, 97, 112]⟩, .int .i64 0], .bool true),
  ([.agg #[.int .i64 13, .int .i64 5, .int .i64 0, .int .i64 2, .int .i64 1], .agg #[.int .i64 14, .int .i64 3, .int .i64 0, .int .i64 2, .int .i64 1], .string ⟨#[101, 115, 99, 114, 111, 119, 32, 48]⟩, .int .i64 0], .bool true),
  ([.agg #[.int .i64 6, .int .i64 0, .int .i64 0, .int .i64 2, .int .i64 5000], .agg #[.int .i64 3, .int .i64 1, .int .i64 0, .int .i64 2, .int .i64 1], .string ⟨#[]⟩, .int .i64 15], .bool true),
  ([.agg #[.int .i64 6, .int .i64 0, .int .i64 0, .int .i64 2, .int .i64 2], .agg #[.int .i64 3, .int .i64 7, .int .i64 0, .int .i64 2, .int .i64 1], .string ⟨#[115, 101, 116, 32, 48]⟩, .int .i64 0], .bool true),
  ([.agg #[.int .i64 1, .int .i64 1, .int .i64 0, .int .i64 0, .int .i64 0], .agg #[.int .i64 6, .int .i64 0, .int .i64 0, .int .i64 2, .int .i64 1], .string ⟨#[]⟩, .int .i64 8], .bool true)]
theorem firstL_fn : PureFn Tryz.prog 8 (manyG firstL) := many_cons first0_fn (many_cons first1_fn (many_cons first2_fn (many_cons first3_fn (many_cons first4_fn (many_cons first5_fn (many_cons first6_fn (many_cons first7_fn (many_cons first8_fn (many_cons first9_fn (many_cons first10_fn (many_nil (by kernel_rfl))))))))))))
def fiE : List (Nat × ExtFn) := [(8, pureExt (manyG firstL))]
theorem fiE_ok (N : Nat) : ExtsOk Tryz.prog N fiE := extsOk_cons (extOk_pure firstL_fn) extsOk_nil
set_option maxRecDepth 100000 in
theorem awake_fn : PureFn Tryz.prog 11 trueG :=
  true_fn plainN mixedN fiE_ok noL (k := 60) (by kernel_rfl) (by kernel_rfl)
set_option maxRecDepth 100000 in
theorem known_fn : PureFn Tryz.prog 3 trueG :=
  true_fn plainN mixedN fiE_ok noL (k := 60) (by kernel_rfl) (by kernel_rfl)

/- WtkD -/
theorem wknown_all (xs : List CV) (h : ArsAll [] xs) : PureAt Tryz.prog 3 xs (.bool true) := by
  cases h.nil_inv
  exact known_fn.2 [] _ rfl

end Go.Proofs.YtknijbcmhjgllaaGreatD
