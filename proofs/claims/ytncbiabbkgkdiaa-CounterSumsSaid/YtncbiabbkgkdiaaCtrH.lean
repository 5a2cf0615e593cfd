/-
  Chapter 06: sums: contracts.
-/
import Derived.Test.YtncbiabbkgkdiaaCtrG2
import Derived.Test.YtncbiabbkgkdiaaClose
set_option linter.unusedVariables false
set_option linter.unusedSimpArgs false
namespace Go.Proofs.YtncbiabbkgkdiaaD
open Go Go.RowKit

theorem total_fn : PureFn Try.prog 14 (sigExt [.any, .l .ints] totalG) :=
  pureFn_mk (bodied_ex (by kernel_rfl)) fun args d h => by
    unfold totalG at h
    split at h
    · rename_i n l
      obtain ⟨hc, h1⟩ := ev_when h
      cases ev_ret h1
      refine pureAt0 plainN mixedN noE ctrL_ok (k := 30) ((total_tree n l).trans ?_) rfl
      simp [T.ev_ite, T.ev_ret, hc]
    · exact (ev_fail h).elim
theorem back_fn : PureFn Try.prog 16 (sigExt [.any, .l .ints] backG) :=
  pureFn_mk (bodied_ex (by kernel_rfl)) fun args d h => by
    unfold backG at h
    split at h
    · rename_i n l
      obtain ⟨hc, h1⟩ := ev_when h
      cases ev_ret h1
      refine pureAt0 plainN mixedN noE ctrL_ok (k := 30) ((back_tree n l).trans ?_) rfl
      simp [T.ev_ite, T.ev_ret, hc]
    · exact (ev_fail h).elim
theorem wrap_fn : PureFn Try.prog 21 wrapG :=
  ⟨bodied_ex (by kernel_rfl), fun args d h => by
    unfold wrapG at h
    split at h
    · rename_i n a
      cases ev_ret h
      exact pureAt0 plainN mixedN noE noL (k := 30) (wrap_tree n a) rfl
    · exact (ev_fail h).elim⟩
theorem applied_fn : PureFn Try.prog 20 appliedG :=
  ⟨bodied_ex (by kernel_rfl), fun args d h => by
    unfold appliedG at h
    split at h
    · rename_i n a
      obtain ⟨hc, h1⟩ := ev_when h
      cases ev_ret h1
      refine pureAt0 plainN mixedN ctrE_ok noL (k := 30) ((applied_tree n a).trans ?_) rfl
      have e : ctrA 1 n [] 1 a 0 = ⟨⟨1, add64 n a, []⟩, ⟨0, 0⟩, 0⟩ := by simp [ctrA, checkN]
      simp [T.ev_ite, T.ev_ret, hc, e, show inI64 0 = true from rfl, show small 0 = true from rfl]
    · exact (ev_fail h).elim⟩
theorem doesRead_fn : PureFn Try.prog 22 doesReadG :=
  ⟨bodied_ex (by kernel_rfl), fun args d h => by
    unfold doesReadG at h
    split at h
    · rename_i n t r
      cases ev_ret h
      refine pureAt0 plainN mixedN ctrE_ok noL (k := 30) ((read_tree n t r).trans ?_) rfl
      have e : ctrA 1 n [] 2 0 0 = ⟨⟨1, n, []⟩, ⟨2, n⟩, 0⟩ := by simp [ctrA, checkN]
      rw [e]
      by_cases h1 : n = t
      · subst h1; simp [T.ev_ite, T.ev_ret]
      · simp [T.ev_ite, T.ev_ret, h1]
    · exact (ev_fail h).elim⟩
theorem known_fn : PureFn Try.prog 5 trueG :=
  true_fn plainN mixedN noE noL (k := 30) (by kernel_rfl) (by kernel_rfl)
def numE : List (Nat × ExtFn) := [(14, pureExt (sigExt [.any, .l .ints] totalG)), (16, pureExt (sigExt [.any, .l .ints] backG)), (21, pureExt wrapG),
  (20, pureExt appliedG), (22, pureExt doesReadG), (5, pureExt trueG), (17, pureExt (sigExt [.any, .l .ints] rbackG))] ++ (rtE ++ lawE)
theorem rback_fn : PureFn Try.prog 17 (sigExt [.any, .l .ints] rbackG) :=
  pureFn_mk (bodied_ex (by kernel_rfl)) fun args d h => by
    unfold rbackG at h
    split at h
    · rename_i n l
      obtain ⟨hc, h1⟩ := ev_when h
      cases ev_ret h1
      refine pureAt0 plainN mixedN rtE_ok noL (k := 30) ((rback_tree n l).trans ?_) rfl
      simp [T.ev_ite, T.ev_ret, hc, rbacks]
    · exact (ev_fail h).elim
theorem numE_ok (N : Nat) : ExtsOk Try.prog N numE :=
  extsOk_cons (extOk_pure total_fn) (extsOk_cons (extOk_pure back_fn) (extsOk_cons (extOk_pure wrap_fn) (extsOk_cons (extOk_pure applied_fn) (extsOk_cons (extOk_pure doesRead_fn) (extsOk_cons (extOk_pure known_fn) (extsOk_cons (extOk_pure rback_fn) (exts_append (E := rtE) (E' := lawE) (rtE_ok N) (lawE_ok N))))))))

end Go.Proofs.YtncbiabbkgkdiaaD
