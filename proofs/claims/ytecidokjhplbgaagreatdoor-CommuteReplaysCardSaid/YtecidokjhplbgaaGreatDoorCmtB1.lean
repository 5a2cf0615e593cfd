/-
  Chapter 18: operations by their texts, closed runs (1).
-/
import Derived.Test.YtecidokjhplbgaaGreatDoorCmtA
set_option linter.unusedVariables false
set_option linter.unusedSimpArgs false
namespace Go.Proofs.YtecidokjhplbgaaGreatDoorD
open Go Go.RowKit

set_option maxRecDepth 100000 in
theorem opt0_fn : PureFn Tryz.prog 65 (onlyG [.string ⟨#[97, 100, 100, 32, 50, 32, 45, 62, 32, 111, 107]⟩] (.tuple #[.agg #[.int .i64 1, .int .i64 2, .int .i64 0, .int .i64 0, .int .i64 0], .bool true])) := only_fn plainN mixedN cmtE_ok noL (k := 90) (by kernel_rfl) rfl (by kernel_rfl)
set_option maxRecDepth 100000 in
theorem opt1_fn : PureFn Tryz.prog 65 (onlyG [.string ⟨#[97, 100, 100, 32, 51, 32, 45, 62, 32, 111, 107]⟩] (.tuple #[.agg #[.int .i64 1, .int .i64 3, .int .i64 0, .int .i64 0, .int .i64 0], .bool true])) := only_fn plainN mixedN cmtE_ok noL (k := 90) (by kernel_rfl) rfl (by kernel_rfl)
set_option maxRecDepth 100000 in
theorem opt2_fn : PureFn Tryz.prog 65 (onlyG [.string ⟨#[114, 101, 97, 100, 32, 45, 62, 32, 53]⟩] (.tuple #[.agg #[.int .i64 2, .int .i64 0, .int .i64 0, .int .i64 2, .int .i64 5], .bool true])) := only_fn plainN mixedN cmtE_ok noL (k := 90) (by kernel_rfl) rfl (by kernel_rfl)
set_option maxRecDepth 100000 in
theorem opt3_fn : PureFn Tryz.prog 65 (onlyG [.string ⟨#[105, 110, 115, 101, 114, 116, 32, 49, 32, 45, 62, 32, 49]⟩] (.tuple #[.agg #[.int .i64 3, .int .i64 1, .int .i64 0, .int .i64 2, .int .i64 1], .bool true])) := only_fn plainN mixedN cmtE_ok noL (k := 90) (by kernel_rfl) rfl (by kernel_rfl)
set_option maxRecDepth 100000 in
theorem opt4_fn : PureFn Tryz.prog 65 (onlyG [.string ⟨#[101, 110, 113, 32, 49, 32, 45, 62, 32, 111, 107]⟩] (.tuple #[.agg #[.int .i64 10, .int .i64 1, .int .i64 0, .int .i64 0, .int .i64 0], .bool true])) := only_fn plainN mixedN cmtE_ok noL (k := 90) (by kernel_rfl) rfl (by kernel_rfl)
set_option maxRecDepth 100000 in
theorem opt5_fn : PureFn Tryz.prog 65 (onlyG [.string ⟨#[100, 101, 113, 32, 45, 62, 32, 49]⟩] (.tuple #[.agg #[.int .i64 11, .int .i64 0, .int .i64 0, .int .i64 2, .int .i64 1], .bool true])) := only_fn plainN mixedN cmtE_ok noL (k := 90) (by kernel_rfl) rfl (by kernel_rfl)
set_option maxRecDepth 100000 in
theorem opt6_fn : PureFn Tryz.prog 65 (onlyG [.string ⟨#[100, 101, 112, 111, 115, 105, 116, 32, 53, 32, 45, 62, 32, 49]⟩] (.tuple #[.agg #[.int .i64 13, .int .i64 5, .int .i64 0, .int .i64 2, .int .i64 1], .bool true])) := only_fn plainN mixedN cmtE_ok noL (k := 90) (by kernel_rfl) rfl (by kernel_rfl)

end Go.Proofs.YtecidokjhplbgaaGreatDoorD
