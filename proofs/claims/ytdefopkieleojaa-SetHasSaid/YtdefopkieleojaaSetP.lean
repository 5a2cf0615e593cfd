/-
  Chapter 07: risen's tree.
-/
import Derived.Test.YtdefopkieleojaaSetO
import Derived.Test.YtdefopkieleojaaKitP
set_option linter.unusedVariables false
set_option linter.unusedSimpArgs false
namespace Go.Proofs.YtdefopkieleojaaD
open Go Go.RowKit

set_option maxRecDepth 100000 in
theorem risen_tree (l : List Int) : (((tden Try.prog riE riL 30).call 0 14 [.pl .ints l] ⟨.nil, 0⟩).pure.cut
    (.ite (.all) (.all))).ev = T.ev (α := CV) (
     .ite ((0 : Int) == (0 : Int) && l.length.ble (1000000 : Nat))
      (.ret (.pl .ints (grow [] l)))
      (.fail)) := by kernel_rfl
theorem risen_fn : PureFn Try.prog 14 (sigExt [.l .ints] risenG) :=
  pureFn_mk (bodied_ex (by kernel_rfl)) fun args d h => by
    unfold risenG at h
    split at h
    · rename_i l
      obtain ⟨hc, h1⟩ := ev_when h
      cases ev_ret h1
      refine pureAt0 plainN mixedN riE_ok riL_ok (k := 30) ((risen_tree l).trans ?_) rfl
      simp only [T.ev_ite, T.ev_ret, hc, if_true, beq_self_eq_true, Bool.and_self]
    · exact (ev_fail h).elim
def lawE : List (Nat × ExtFn) := [(8, pureExt trueG), (5, pureExt trueG), (14, pureExt (sigExt [.l .ints] risenG)), (10, pureExt (sigExt [sgS] setG)), (11, pureExt (sigExt [sgS] setG)), (28, pureExt pickG)] ++ (kitO ++ stE)
theorem lawE_ok (N : Nat) : ExtsOk Try.prog N lawE :=
  extsOk_cons (extOk_pure awake_fn) (extsOk_cons (extOk_pure known_fn) (extsOk_cons (extOk_pure risen_fn) (extsOk_cons (extOk_pure set_fn) (extsOk_cons (extOk_pure rset_fn) (extsOk_cons (extOk_pure pick_fn) (exts_append (E := kitO) (E' := stE) (kitO_ok N) (stE_ok N)))))))
/-- set.Apply itself is run. -/
def lawE0 : List (Nat × ExtFn) := [(8, pureExt trueG), (11, pureExt (sigExt [sgS] setG))] ++ (kitO ++ stE)
theorem lawE0_ok (N : Nat) : ExtsOk Try.prog N lawE0 :=
  extsOk_cons (extOk_pure awake_fn) (extsOk_cons (extOk_pure rset_fn) (exts_append (E := kitO) (E' := stE) (kitO_ok N) (stE_ok N)))

end Go.Proofs.YtdefopkieleojaaD
