/-
  Chapter 18: operations by their texts, closed runs (3).
-/
import Derived.Test.YtecidokjhplbgaaGreatDoorCmtA
set_option linter.unusedVariables false
set_option linter.unusedSimpArgs false
namespace Go.Proofs.YtecidokjhplbgaaGreatDoorD
open Go Go.RowKit

set_option maxRecDepth 100000 in
theorem opt14_fn : PureFn Tryz.prog 65 (onlyG [.string ⟨#[105, 110, 115, 101, 114, 116, 32, 49, 32, 45, 62, 32, 48]⟩] (.tuple #[.agg #[.int .i64 3, .int .i64 1, .int .i64 0, .int .i64 2, .int .i64 0], .bool true])) := only_fn plainN mixedN cmtE_ok noL (k := 90) (by kernel_rfl) rfl (by kernel_rfl)
set_option maxRecDepth 100000 in
theorem opt15_fn : PureFn Tryz.prog 65 (onlyG [.string ⟨#[112, 117, 116, 32, 49, 32, 50, 32, 45, 62, 32, 110, 111, 110, 101]⟩] (.tuple #[.agg #[.int .i64 7, .int .i64 1, .int .i64 2, .int .i64 1, .int .i64 0], .bool true])) := only_fn plainN mixedN cmtE_ok noL (k := 90) (by kernel_rfl) rfl (by kernel_rfl)
set_option maxRecDepth 100000 in
theorem opt16_fn : PureFn Tryz.prog 65 (onlyG [.string ⟨#[103, 101, 116, 32, 49, 32, 45, 62, 32, 50]⟩] (.tuple #[.agg #[.int .i64 8, .int .i64 1, .int .i64 0, .int .i64 2, .int .i64 2], .bool true])) := only_fn plainN mixedN cmtE_ok noL (k := 90) (by kernel_rfl) rfl (by kernel_rfl)
set_option maxRecDepth 100000 in
theorem opt17_fn : PureFn Tryz.prog 65 (onlyG [.string ⟨#[103, 101, 116, 32, 49, 32, 45, 62, 32, 51]⟩] (.tuple #[.agg #[.int .i64 8, .int .i64 1, .int .i64 0, .int .i64 2, .int .i64 3], .bool true])) := only_fn plainN mixedN cmtE_ok noL (k := 90) (by kernel_rfl) rfl (by kernel_rfl)
set_option maxRecDepth 100000 in
theorem opt18_fn : PureFn Tryz.prog 65 (onlyG [.string ⟨#[112, 117, 116, 32, 49, 32, 50, 32, 45, 62, 32, 50]⟩] (.tuple #[.agg #[.int .i64 7, .int .i64 1, .int .i64 2, .int .i64 2, .int .i64 2], .bool true])) := only_fn plainN mixedN cmtE_ok noL (k := 90) (by kernel_rfl) rfl (by kernel_rfl)
set_option maxRecDepth 100000 in
theorem opt19_fn : PureFn Tryz.prog 65 (onlyG [.string ⟨#[100, 101, 108, 32, 51, 32, 45, 62, 32, 110, 111, 110, 101]⟩] (.tuple #[.agg #[.int .i64 9, .int .i64 3, .int .i64 0, .int .i64 1, .int .i64 0], .bool true])) := only_fn plainN mixedN cmtE_ok noL (k := 90) (by kernel_rfl) rfl (by kernel_rfl)
set_option maxRecDepth 100000 in
theorem opt20_fn : PureFn Tryz.prog 65 (onlyG [.string ⟨#[100, 101, 113, 32, 45, 62, 32, 50]⟩] (.tuple #[.agg #[.int .i64 11, .int .i64 0, .int .i64 0, .int .i64 2, .int .i64 2], .bool true])) := only_fn plainN mixedN cmtE_ok noL (k := 90) (by kernel_rfl) rfl (by kernel_rfl)

end Go.Proofs.YtecidokjhplbgaaGreatDoorD
