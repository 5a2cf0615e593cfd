/-
  Chapter 18: operations by their texts.
-/
import Derived.Test.YtecidokjhplbgaaGreatDoorCwAF
import Derived.Test.YtecidokjhplbgaaGreatDoorCmtB1
import Derived.Test.YtecidokjhplbgaaGreatDoorCmtB2
import Derived.Test.YtecidokjhplbgaaGreatDoorCmtB3
import Derived.Test.YtecidokjhplbgaaGreatDoorCmtB4
set_option linter.unusedVariables false
set_option linter.unusedSimpArgs false
namespace Go.Proofs.YtecidokjhplbgaaGreatDoorD
open Go Go.RowKit

def optL : List (List CV × CV) := [([.string ⟨#[97, 100, 100, 32, 50, 32, 45, 62, 32, 111, 107]⟩], .tuple #[.agg #[.int .i64 1, .int .i64 2, .int .i64 0, .int .i64 0, .int .i64 0], .bool true]),
  ([.string ⟨#[97, 100, 100, 32, 51, 32, 45, 62, 32, 111, 107]⟩], .tuple #[.agg #[.int .i64 1, .int .i64 3, .int .i64 0, .int .i64 0, .int .i64 0], .bool true]),
  ([.string ⟨#[114, 101, 97, 100, 32, 45, 62, 32, 53]⟩], .tuple #[.agg #[.int .i64 2, .int .i64 0, .int .i64 0, .int .i64 2, .int .i64 5], .bool true]),
  ([.string ⟨#[105, 110, 115, 101, 114, 116, 32, 49, 32, 45, 62, 32, 49]⟩], .tuple #[.agg #[.int .i64 3, .int .i64 1, .int .i64 0, .int .i64 2, .int .i64 1], .bool true]),
  ([.string ⟨#[101, 110, 113, 32, 49, 32, 45, 62, 32, 111, 107]⟩], .tuple #[.agg #[.int .i64 10, .int .i64 1, .int .i64 0, .int .i64 0, .int .i64 0], .bool true]),
  ([.string ⟨#[100, 101, 113, 32, 45, 62, 32, 49]⟩], .tuple #[.agg #[.int .i64 11, .int .i64 0, .int .i64 0, .int .i64 2, .int .i64 1], .bool true]),
  ([.string ⟨#[100, 101, 112, 111, 115, 105, 116, 32, 53, 32, 45, 62, 32, 49]⟩], .tuple #[.agg #[.int .i64 13, .int .i64 5, .int .i64 0, .int .i64 2, .int .i64 1], .bool true]),
  ([.string ⟨#[119, 105, 116, 104, 100, 114, 97, 119, 32, 51, 32, 45, 62, 32, 49]⟩], .tuple #[.agg #[.int .i64 14, .int .i64 3, .int .i64 0, .int .i64 2, .int .i64 1], .bool true]),
  ([.string ⟨#[97, 100, 100, 32, 48, 32, 45, 62, 32, 111, 107]⟩], .tuple #[.agg #[.int .i64 1, .int .i64 0, .int .i64 0, .int .i64 0, .int .i64 0], .bool true]),
  ([.string ⟨#[114, 101, 97, 100, 32, 45, 62, 32, 49]⟩], .tuple #[.agg #[.int .i64 2, .int .i64 0, .int .i64 0, .int .i64 2, .int .i64 1], .bool true]),
  ([.string ⟨#[114, 101, 97, 100, 32, 45, 62, 32, 50]⟩], .tuple #[.agg #[.int .i64 2, .int .i64 0, .int .i64 0, .int .i64 2, .int .i64 2], .bool true]),
  ([.string ⟨#[114, 101, 109, 111, 118, 101, 32, 49, 32, 45, 62, 32, 49]⟩], .tuple #[.agg #[.int .i64 4, .int .i64 1, .int .i64 0, .int .i64 2, .int .i64 1], .bool true]),
  ([.string ⟨#[104, 97, 115, 32, 50, 32, 45, 62, 32, 48]⟩], .tuple #[.agg #[.int .i64 5, .int .i64 2, .int .i64 0, .int .i64 2, .int .i64 0], .bool true]),
  ([.string ⟨#[115, 105, 122, 101, 32, 45, 62, 32, 51]⟩], .tuple #[.agg #[.int .i64 6, .int .i64 0, .int .i64 0, .int .i64 2, .int .i64 3], .bool true]),
  ([.string ⟨#[105, 110, 115, 101, 114, 116, 32, 49, 32, 45, 62, 32, 48]⟩], .tuple #[.agg #[.int .i64 3, .int .i64 1, .int .i64 0, .int .i64 2, .int .i64 0], .bool true]),
  ([.string ⟨#[112, 117, 116, 32, 49, 32, 50, 32, 45, 62, 32, 110, 111, 110, 101]⟩], .tuple #[.agg #[.int .i64 7, .int .i64 1, .int .i64 2, .int .i64 1, .int .i64 0], .bool true]),
  ([.string ⟨#[103, 101, 116, 32, 49, 32, 45, 62, 32, 50]⟩], .tuple #[.agg #[.int .i64 8, .int .i64 1, .int .i64 0, .int .i64 2, .int .i64 2], .bool true]),
  ([.string ⟨#[103, 101, 116, 32, 49, 32, 45, 62, 32, 51]⟩], .tuple #[.agg #[.int .i64 8, .int .i64 1, .int .i64 0, .int .i64 2, .int .i64 3], .bool true]),
  ([.string ⟨#[112, 117, 116, 32, 49, 32, 50, 32, 45, 62, 32, 50]⟩], .tuple #[.agg #[.int .i64 7, .int .i64 1, .int .i64 2, .int .i64 2, .int .i64 2], .bool true]),
  ([.string ⟨#[100, 101, 108, 32, 51, 32, 45, 62, 32, 110, 111, 110, 101]⟩], .tuple #[.agg #[.int .i64 9, .int .i64 3, .int .i64 0, .int .i64 1, .int .i64 0], .bool true]),
  ([.string ⟨#[100, 101, 113, 32, 45, 62, 32, 50]⟩], .tuple #[.agg #[.int .i64 11, .int .i64 0, .int .i64 0, .int .i64 2, .int .i64 2], .bool true]),
  ([.string ⟨#[100, 101, 113, 32, 45, 62, 32, 110, 111, 110, 101]⟩], .tuple #[.agg #[.int .i64 11, .int .i64 0, .int .i64 0, .int .i64 1, .int .i64 0], .bool true]),
  ([.string ⟨#[108, 101, 110, 32, 45, 62, 32, 52]⟩], .tuple #[.agg #[.int .i64 12, .int .i64 0, .int .i64 0, .int .i64 2, .int .i64 4], .bool true]),
  ([.string ⟨#[100, 101, 112, 111, 115, 105, 116, 32, 54, 32, 45, 62, 32, 49]⟩], .tuple #[.agg #[.int .i64 13, .int .i64 6, .int .i64 0, .int .i64 2, .int .i64 1], .bool true]),
  ([.string ⟨#[119, 105, 116, 104, 100, 114, 97, 119, 32, 50, 32, 45, 62, 32, 48]⟩], .tuple #[.agg #[.int .i64 14, .int .i64 2, .int .i64 0, .int .i64 2, .int .i64 0], .bool true]),
  ([.string ⟨#[98, 97, 108, 97, 110, 99, 101, 32, 45, 62, 32, 55]⟩], .tuple #[.agg #[.int .i64 15, .int .i64 0, .int .i64 0, .int .i64 2, .int .i64 7], .bool true]),
  ([.string ⟨#[97, 100, 100, 32, 49, 32, 45, 62, 32, 111, 107]⟩], .tuple #[.agg #[.int .i64 1, .int .i64 1, .int .i64 0, .int .i64 0, .int .i64 0], .bool true]),
  ([.string ⟨#[115, 105, 122, 101, 32, 45, 62, 32, 49]⟩], .tuple #[.agg #[.int .i64 6, .int .i64 0, .int .i64 0, .int .i64 2, .int .i64 1], .bool true])]
theorem optL_fn : PureFn Tryz.prog 65 (manyG optL) := many_cons opt0_fn (many_cons opt1_fn (many_cons opt2_fn (many_cons opt3_fn (many_cons opt4_fn (many_cons opt5_fn (many_cons opt6_fn (many_cons opt7_fn (many_cons opt8_fn (many_cons opt9_fn (many_cons opt10_fn (many_cons opt11_fn (many_cons opt12_fn (many_cons opt13_fn (many_cons opt14_fn (many_cons opt15_fn (many_cons opt16_fn (many_cons opt17_fn (many_cons opt18_fn (many_cons opt19_fn (many_cons opt20_fn (many_cons opt21_fn (many_cons opt22_fn (many_cons opt23_fn (many_cons opt24_fn (many_cons opt25_fn (many_cons opt26_fn (many_cons opt27_fn (many_nil (by kernel_rfl)))))))))))))))))))))))))))))
def optE : List (Nat × ExtFn) := [(65, pureExt (manyG optL)), (8, pureExt (sigExt [] opsG))]
theorem optE_ok (N : Nat) : ExtsOk Tryz.prog N optE := extsOk_cons (extOk_pure optL_fn) (extsOk_cons (extOk_pure ops_fn) extsOk_nil)
set_option maxRecDepth 100000 in
theorem cmtAwake_fn : PureFn Tryz.prog 12 trueG :=
  true_fn plainN mixedN optE_ok noL (k := 60) (by kernel_rfl) (by kernel_rfl)
set_option maxRecDepth 100000 in
theorem cmtKnown_fn : PureFn Tryz.prog 19 trueG :=
  true_fn plainN mixedN optE_ok noL (k := 60) (by kernel_rfl) (by kernel_rfl)

end Go.Proofs.YtecidokjhplbgaaGreatDoorD
