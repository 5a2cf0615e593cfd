/-
  Chapter 18: operations by their texts, closed runs (4).
-/
import Derived.Test.YtecidokjhplbgaaGreatDoorCmtA
set_option linter.unusedVariables false
set_option linter.unusedSimpArgs false
namespace Go.Proofs.YtecidokjhplbgaaGreatDoorD
open Go Go.RowKit

set_option maxRecDepth 100000 in
theorem opt21_fn : PureFn Tryz.prog 65 (onlyG [.string ⟨#[100, 101, 113, 32, 45, 62, 32, 110, 111, 110, 101]⟩] (.tuple #[.agg #[.int .i64 11, .int .i64 0, .int .i64 0, .int .i64 1, .int .i64 0], .bool true])) := only_fn plainN mixedN cmtE_ok noL (k := 90) (by kernel_rfl) rfl (by kernel_rfl)
set_option maxRecDepth 100000 in
theorem opt22_fn : PureFn Tryz.prog 65 (onlyG [.string ⟨#[108, 101, 110, 32, 45, 62, 32, 52]⟩] (.tuple #[.agg #[.int .i64 12, .int .i64 0, .int .i64 0, .int .i64 2, .int .i64 4], .bool true])) := only_fn plainN mixedN cmtE_ok noL (k := 90) (by kernel_rfl) rfl (by kernel_rfl)
set_option maxRecDepth 100000 in
theorem opt23_fn : PureFn Tryz.prog 65 (onlyG [.string ⟨#[100, 101, 112, 111, 115, 105, 116, 32, 54, 32, 45, 62, 32, 49]⟩] (.tuple #[.agg #[.int .i64 13, .int .i64 6, .int .i64 0, .int .i64 2, .int .i64 1], .bool true])) := only_fn plainN mixedN cmtE_ok noL (k := 90) (by kernel_rfl) rfl (by kernel_rfl)
set_option maxRecDepth 100000 in
theorem opt24_fn : PureFn Tryz.prog 65 (onlyG [.string ⟨#[119, 105, 116, 104, 100, 114, 97, 119, 32, 50, 32, 45, 62, 32, 48]⟩] (.tuple #[.agg #[.int .i64 14, .int .i64 2, .int .i64 0, .int .i64 2, .int .i64 0], .bool true])) := only_fn plainN mixedN cmtE_ok noL (k := 90) (by kernel_rfl) rfl (by kernel_rfl)
set_option maxRecDepth 100000 in
theorem opt25_fn : PureFn Tryz.prog 65 (onlyG [.string ⟨#[98, 97, 108, 97, 110, 99, 101, 32, 45, 62, 32, 55]⟩] (.tuple #[.agg #[.int .i64 15, .int .i64 0, .int .i64 0, .int .i64 2, .int .i64 7], .bool true])) := only_fn plainN mixedN cmtE_ok noL (k := 90) (by kernel_rfl) rfl (by kernel_rfl)
set_option maxRecDepth 100000 in
theorem opt26_fn : PureFn Tryz.prog 65 (onlyG [.string ⟨#[97, 100, 100, 32, 49, 32, 45, 62, 32, 111, 107]⟩] (.tuple #[.agg #[.int .i64 1, .int .i64 1, .int .i64 0, .int .i64 0, .int .i64 0], .bool true])) := only_fn plainN mixedN cmtE_ok noL (k := 90) (by kernel_rfl) rfl (by kernel_rfl)
set_option maxRecDepth 100000 in
theorem opt27_fn : PureFn Tryz.prog 65 (onlyG [.string ⟨#[115, 105, 122, 101, 32, 45, 62, 32, 49]⟩] (.tuple #[.agg #[.int .i64 6, .int .i64 0, .int .i64 0, .int .i64 2, .int .i64 1], .bool true])) := only_fn plainN mixedN cmtE_ok noL (k := 90) (by kernel_rfl) rfl (by kernel_rfl)

end Go.Proofs.YtecidokjhplbgaaGreatDoorD
