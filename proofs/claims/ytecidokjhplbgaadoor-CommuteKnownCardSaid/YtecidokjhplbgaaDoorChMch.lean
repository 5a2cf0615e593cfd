/-
  Chapter 11: what the machine answers: Apply and Legal, the document's too.
-/
import Derived.Test.YtecidokjhplbgaaDoorChCtr
import Derived.Test.YtecidokjhplbgaaDoorChSet
import Derived.Test.YtecidokjhplbgaaDoorChMap
import Derived.Test.YtecidokjhplbgaaDoorChFif
import Derived.Test.YtecidokjhplbgaaDoorChEsc
import Derived.Test.YtecidokjhplbgaaDoorFreA
set_option linter.unusedVariables false
set_option linter.unusedSimpArgs false
namespace Go.Proofs.YtecidokjhplbgaaDoorD
open Go Go.RowKit


def machA (t n : Int) (l : List Int) (k a b : Int) : Ans :=
  if t = 1 then Ctr.ctrA t n l k a b
  else if t = 2 then Set.setA t n l k a b
  else if t = 3 then Map.mapA t n l k a b
  else if t = 4 then Fif.fifoA t n l k a b
  else if t = 5 then Esc.escA t n l k a b
  else bad 8
def machB (l : List Int) (a b : Int) : Bool := Set.midB l && (Ctr.inI64 a && Ctr.inI64 b)
def machG : List CV → T CV
  | [.agg ⟨[.int .i64 t, .int .i64 n, .pl .ints l]⟩, .int .i64 k, .int .i64 a, .int .i64 b] => T.when (machB l a b) (.ret (machA t n l k a b).cv)
  | _ => .fail

theorem machB_iff {l : List Int} {a b : Int} (h : machB l a b = true) : Set.midB l = true ∧ small l.length = true ∧ small (l.length + 1) = true ∧ small (l.length + 4) = true ∧ Ctr.inI64 a = true ∧ Ctr.inI64 b = true := by
  simp only [machB, Bool.and_eq_true] at h
  have h1 := h.1
  rw [Set.midB, Nat.ble_eq] at h1
  exact ⟨h.1, by rw [small_iff]; omega, by rw [small_iff]; omega, by rw [small_iff]; omega, h.2.1, h.2.2⟩
theorem wt1 : IntKind.i64.wrap (1 - 1) = 0 := by decide
theorem wt2 : IntKind.i64.wrap (2 - 1) = 1 := by decide
theorem wt3 : IntKind.i64.wrap (3 - 1) = 2 := by decide
theorem wt4 : IntKind.i64.wrap (4 - 1) = 3 := by decide
theorem wt5 : IntKind.i64.wrap (5 - 1) = 4 := by decide

def NoneIf (x : Ans) : Prop := x.e ≠ 0 → x.s = ⟨0, 0, []⟩ ∧ x.r = ⟨0, 0⟩
theorem noneIf_bad (e : Int) : NoneIf (bad e) := fun _ => ⟨rfl, rfl⟩
theorem noneIf_ok (s : DState) (r : DRet) : NoneIf ⟨s, r, 0⟩ := fun h => absurd rfl h
theorem noneIf_ite {p : Prop} [Decidable p] {x y : Ans} (h1 : NoneIf x) (h2 : NoneIf y) : NoneIf (if p then x else y) := by split <;> assumption
theorem ctr_none (t n : Int) (l : List Int) (k a b : Int) : NoneIf (Ctr.ctrA t n l k a b) := by
  unfold Ctr.ctrA
  repeat' (first | exact noneIf_bad _ | exact noneIf_ok _ _ | apply noneIf_ite)
theorem set_none (t n : Int) (l : List Int) (k a b : Int) : NoneIf (Set.setA t n l k a b) := by
  unfold Set.setA
  repeat' (first | exact noneIf_bad _ | exact noneIf_ok _ _ | apply noneIf_ite)
theorem map_none (t n : Int) (l : List Int) (k a b : Int) : NoneIf (Map.mapA t n l k a b) := by
  unfold Map.mapA
  repeat' (first | exact noneIf_bad _ | exact noneIf_ok _ _ | apply noneIf_ite)
theorem fif_none (t n : Int) (l : List Int) (k a b : Int) : NoneIf (Fif.fifoA t n l k a b) := by
  unfold Fif.fifoA
  repeat' (first | exact noneIf_bad _ | exact noneIf_ok _ _ | apply noneIf_ite)
  cases l <;> exact noneIf_ok _ _
theorem esc_none (t n : Int) (l : List Int) (k a b : Int) : NoneIf (Esc.escA t n l k a b) := by
  unfold Esc.escA
  repeat' (first | exact noneIf_bad _ | exact noneIf_ok _ _ | apply noneIf_ite)
theorem mach_bad (t n : Int) (l : List Int) (k a b : Int) : NoneIf (machA t n l k a b) := by
  unfold machA
  exact noneIf_ite (ctr_none _ _ _ _ _ _) (noneIf_ite (set_none _ _ _ _ _ _) (noneIf_ite (map_none _ _ _ _ _ _) (noneIf_ite (fif_none _ _ _ _ _ _) (noneIf_ite (esc_none _ _ _ _ _ _) (noneIf_bad _)))))

def legB (x : Ans) (rk rn : Int) : Bool := x.e == 0 && (x.r.kind == rk && x.r.n == rn)
def legV (x : Ans) (rk rn : Int) : CV := .tuple #[.agg #[.int .i64 x.s.type, .int .i64 x.s.n, .pl .ints x.s.l], .bool (legB x rk rn), .int .i64 x.e]
def legG : List CV → T CV
  | [.agg ⟨[.int .i64 t, .int .i64 n, .pl .ints l]⟩, .agg ⟨[.int .i64 k, .int .i64 a, .int .i64 b, .int .i64 rk, .int .i64 rn]⟩] => T.when (machB l a b) (.ret (legV (machA t n l k a b) rk rn))
  | _ => .fail

namespace Ctr
end Ctr

namespace Set
end Set

namespace Map
end Map

namespace Fif
end Fif

namespace Esc
end Esc

def freE : List (Nat × ExtFn) := []
theorem freE_ok (N : Nat) : ExtsOk Tryd.prog N freE :=
  extsOk_nil

def machNE : List (Nat × ExtFn) := []
theorem machNE_ok (N : Nat) : ExtsOk Tryd.prog N machNE := extsOk_nil

namespace Set
end Set

namespace Set
end Set

namespace Map
end Map

namespace Map
end Map

/-- The references' lists, new. -/
def refNE : List (Nat × ExtFn) := [] ++ kitE
theorem refNE_ok (N : Nat) : ExtsOk Tryd.prog N refNE :=
  kitE_ok N

namespace Ctr
end Ctr

namespace Set
end Set

namespace Map
end Map

namespace Fif
end Fif

namespace Esc
end Esc

def rfreE : List (Nat × ExtFn) := []
theorem rfreE_ok (N : Nat) : ExtsOk Tryd.prog N rfreE :=
  extsOk_nil

def machRE : List (Nat × ExtFn) := []
theorem machRE_ok (N : Nat) : ExtsOk Tryd.prog N machRE := extsOk_nil

def legNE : List (Nat × ExtFn) := [] ++ machRE
theorem legNE_ok (N : Nat) : ExtsOk Tryd.prog N legNE := exts_append (E := []) (extsOk_nil) (machRE_ok N)

theorem machG_ok : ∀ args d, (sigExt [sgS] machG args).ev = some d → okD d = true := fun args d h => by
  unfold sigExt machG at h
  split at h
  · obtain ⟨_, h1⟩ := ev_when h
    cases ev_ret h1; rfl
  · exact (ev_fail h).elim
theorem legG_ok : ∀ args d, (sigExt [sgS] legG args).ev = some d → okD d = true := fun args d h => by
  unfold sigExt legG at h
  split at h
  · obtain ⟨_, h1⟩ := ev_when h
    cases ev_ret h1; rfl
  · exact (ev_fail h).elim
/-- .. as data. -/
def mchE : List (Nat × ExtFn) := []
theorem mchE_ok (N : Nat) : ExtsOk Tryd.prog N mchE :=
  extsOk_nil

end Go.Proofs.YtecidokjhplbgaaDoorD

