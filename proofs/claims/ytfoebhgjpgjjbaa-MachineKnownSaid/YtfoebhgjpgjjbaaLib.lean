/-
  The library functions that a reference run over this seat's program takes by the kit's contracts.
-/
import Derived.Test.YtfoebhgjpgjjbaaInsert
import Derived.Test.YtfoebhgjpgjjbaaProg
import Derived.KernelRfl
namespace Go.Proofs.YtfoebhgjpgjjbaaD
open Go Go.Shelf

def ren : Ren := { f := fun | 21 => 99 | 27 => 103 | 28 => 104 | 35 => 105 | 39 => 106 | x => x, t := fun | 22 => 22 | x => x, g := fun x => x }

set_option maxRecDepth 100000 in
theorem lays : Lays2.n21 Try.prog ren where
  mixed := by kernel_rfl
  f21 := by kernel_rfl
  f27 := by kernel_rfl
  f28 := by kernel_rfl
  f35 := by kernel_rfl
  f39 := by kernel_rfl
  t0 := by kernel_rfl
  a0 := fun w => by kernel_rfl
  z0 := fun w => by kernel_rfl
  v0 := fun w => by kernel_rfl
  t3 := by kernel_rfl
  a3 := fun w => by kernel_rfl
  z3 := fun w => by kernel_rfl
  v3 := fun w => by kernel_rfl
  t4 := by kernel_rfl
  a4 := fun w => by kernel_rfl
  z4 := fun w => by kernel_rfl
  v4 := fun w => by kernel_rfl
  t22 := by kernel_rfl
  a22 := fun w => by kernel_rfl
  z22 := fun w => by kernel_rfl
  v22 := fun w => by kernel_rfl
  i3 := by kernel_rfl

def exts : List (Nat × ExtFn) := [(99, insertExt)]

set_option maxRecDepth 100000 in
theorem body_there : Try.f99.body.isSome = true := by kernel_rfl

theorem extsOk (N : Nat) : ExtsOk Try.prog N exts := by
  intro f x h
  have hx : f = 99 ∧ x = insertExt := by
    simp only [exts, findExt, nbeq] at h
    by_cases e : 99 = f
    · rw [decide_eq_true e, cond_true] at h; cases h; exact ⟨e.symm, rfl⟩
    · rw [decide_eq_false e, cond_false] at h; cases h
  obtain ⟨rfl, rfl⟩ := hx
  obtain ⟨c, hc⟩ := Option.isSome_iff_exists.1 body_there
  exact ⟨⟨_, c, Try.func99, hc⟩, fun ro args s v s' e i w args' hs hl => calls_any (insert_sound lays (ev_of e) hs hl)⟩

end Go.Proofs.YtfoebhgjpgjjbaaD
