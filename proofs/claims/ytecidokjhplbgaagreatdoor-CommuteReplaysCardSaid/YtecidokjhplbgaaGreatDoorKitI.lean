/-
  slices.Insert at whole numbers, at this program's numbers.
-/
import Derived.Test.YtecidokjhplbgaaGreatDoorInsA
import Derived.Test.YtecidokjhplbgaaGreatDoorKitD
set_option linter.unusedVariables false
set_option linter.unusedSimpArgs false
namespace Go.Proofs.YtecidokjhplbgaaGreatDoorD
open Go Go.RowKit Go.Shelf

def renI : Ren := { f := fun | 21 => 158 | 27 => 169 | 28 => 170 | 35 => 175 | 39 => 181 | x => x, t := fun | 22 => 35 | x => x, g := fun x => x }

set_option maxRecDepth 100000 in
theorem laysI : Lays2.n21 Tryz.prog renI where
  mixed := by kernel_rfl
  f21 := by kernel_rfl
  f27 := by kernel_rfl
  f28 := by kernel_rfl
  f35 := by kernel_rfl
  f39 := by kernel_rfl
  t0 := by kernel_rfl
  a0 := fun w => by kernel_rfl
  z0 := fun w => by kernel_rfl
  v0 := fun w => by kernel_rfl
  t3 := by kernel_rfl
  a3 := fun w => by kernel_rfl
  z3 := fun w => by kernel_rfl
  v3 := fun w => by kernel_rfl
  t4 := by kernel_rfl
  a4 := fun w => by kernel_rfl
  z4 := fun w => by kernel_rfl
  v4 := fun w => by kernel_rfl
  t22 := by kernel_rfl
  a22 := fun w => by kernel_rfl
  z22 := fun w => by kernel_rfl
  v22 := fun w => by kernel_rfl
  i3 := by kernel_rfl
set_option maxRecDepth 100000 in
theorem insert_ok (N : Nat) : ExtOk1 Tryz.prog N 158 insertX := insertX_ok laysI (bodied_ex (by kernel_rfl))

end Go.Proofs.YtecidokjhplbgaaGreatDoorD
