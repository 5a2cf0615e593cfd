/-
  Chapter 18: operations by their texts, closed runs (2).
-/
import Derived.Test.YtecidokjhplbgaaGreatDoorCmtA
set_option linter.unusedVariables false
set_option linter.unusedSimpArgs false
namespace Go.Proofs.YtecidokjhplbgaaGreatDoorD
open Go Go.RowKit

set_option maxRecDepth 100000 in
theorem opt7_fn : PureFn Tryz.prog 65 (onlyG [.string ⟨#[119, 105, 116, 104, 100, 114, 97, 119, 32, 51, 32, 45, 62, 32, 49]⟩] (.tuple #[.agg #[.int .i64 14, .int .i64 3, .int .i64 0, .int .i64 2, .int .i64 1], .bool true])) := only_fn plainN mixedN cmtE_ok noL (k := 90) (by kernel_rfl) rfl (by kernel_rfl)
set_option maxRecDepth 100000 in
theorem opt8_fn : PureFn Tryz.prog 65 (onlyG [.string ⟨#[97, 100, 100, 32, 48, 32, 45, 62, 32, 111, 107]⟩] (.tuple #[.agg #[.int .i64 1, .int .i64 0, .int .i64 0, .int .i64 0, .int .i64 0], .bool true])) := only_fn plainN mixedN cmtE_ok noL (k := 90) (by kernel_rfl) rfl (by kernel_rfl)
set_option maxRecDepth 100000 in
theorem opt9_fn : PureFn Tryz.prog 65 (onlyG [.string ⟨#[114, 101, 97, 100, 32, 45, 62, 32, 49]⟩] (.tuple #[.agg #[.int .i64 2, .int .i64 0, .int .i64 0, .int .i64 2, .int .i64 1], .bool true])) := only_fn plainN mixedN cmtE_ok noL (k := 90) (by kernel_rfl) rfl (by kernel_rfl)
set_option maxRecDepth 100000 in
theorem opt10_fn : PureFn Tryz.prog 65 (onlyG [.string ⟨#[114, 101, 97, 100, 32, 45, 62, 32, 50]⟩] (.tuple #[.agg #[.int .i64 2, .int .i64 0, .int .i64 0, .int .i64 2, .int .i64 2], .bool true])) := only_fn plainN mixedN cmtE_ok noL (k := 90) (by kernel_rfl) rfl (by kernel_rfl)
set_option maxRecDepth 100000 in
theorem opt11_fn : PureFn Tryz.prog 65 (onlyG [.string ⟨#[114, 101, 109, 111, 118, 101, 32, 49, 32, 45, 62, 32, 49]⟩] (.tuple #[.agg #[.int .i64 4, .int .i64 1, .int .i64 0, .int .i64 2, .int .i64 1], .bool true])) := only_fn plainN mixedN cmtE_ok noL (k := 90) (by kernel_rfl) rfl (by kernel_rfl)
set_option maxRecDepth 100000 in
theorem opt12_fn : PureFn Tryz.prog 65 (onlyG [.string ⟨#[104, 97, 115, 32, 50, 32, 45, 62, 32, 48]⟩] (.tuple #[.agg #[.int .i64 5, .int .i64 2, .int .i64 0, .int .i64 2, .int .i64 0], .bool true])) := only_fn plainN mixedN cmtE_ok noL (k := 90) (by kernel_rfl) rfl (by kernel_rfl)
set_option maxRecDepth 100000 in
theorem opt13_fn : PureFn Tryz.prog 65 (onlyG [.string ⟨#[115, 105, 122, 101, 32, 45, 62, 32, 51]⟩] (.tuple #[.agg #[.int .i64 6, .int .i64 0, .int .i64 0, .int .i64 2, .int .i64 3], .bool true])) := only_fn plainN mixedN cmtE_ok noL (k := 90) (by kernel_rfl) rfl (by kernel_rfl)

end Go.Proofs.YtecidokjhplbgaaGreatDoorD
