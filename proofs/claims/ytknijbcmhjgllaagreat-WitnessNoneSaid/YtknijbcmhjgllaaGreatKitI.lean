/-
  slices.Insert at whole numbers, at this program's numbers.
-/
import Derived.Test.YtknijbcmhjgllaaGreatInsA
import Derived.Test.YtknijbcmhjgllaaGreatKitD
set_option linter.unusedVariables false
set_option linter.unusedSimpArgs false
namespace Go.Proofs.YtknijbcmhjgllaaGreatD
open Go Go.RowKit Go.Shelf

def renI : Ren := { f := fun | 21 => 215 | 27 => 229 | 28 => 230 | 35 => 232 | 39 => 233 | x => x, t := fun | 22 => 33 | x => x, g := fun x => x }

set_option maxRecDepth 100000 in
theorem laysI : Lays2.n21 Tryz.prog renI where
  mixed := by kernel_rfl
  f21 := by kernel_rfl
  f27 := by kernel_rfl
  f28 := by kernel_rfl
  f35 := by kernel_rfl
  f39 := by kernel_rfl
  t0 := by kernel_rfl
  a0 := fun w => by kernel_rfl
  z0 := fun w => by kernel_rfl
  v0 := fun w => by kernel_rfl
  t3 := by kernel_rfl
  a3 := fun w => by kernel_rfl
  z3 := fun w => by kernel_rfl
  v3 := fun w => by kernel_rfl
  t4 := by kernel_rfl
  a4 := fun w => by kernel_rfl
  z4 := fun w => by kernel_rfl
  v4 := fun w => by kernel_rfl
  t22 := by kernel_rfl
  a22 := fun w => by kernel_rfl
  z22 := fun w => by kernel_rfl
  v22 := fun w => by kernel_rfl
  i3 := by kernel_rfl
set_option maxRecDepth 100000 in
theorem insert_ok (N : Nat) : ExtOk1 Tryz.prog N 215 insertX := insertX_ok laysI (bodied_ex (by kernel_rfl))

end Go.Proofs.YtknijbcmhjgllaaGreatD
