/-
  Chapter 18: which operations commute: the law.
-/
import Derived.Test.YtecidokjhplbgaaGreatDoorCtlA
import Derived.Test.YtecidokjhplbgaaGreatDoorArG
set_option linter.unusedVariables false
set_option linter.unusedSimpArgs false
namespace Go.Proofs.YtecidokjhplbgaaGreatDoorD
open Go Go.RowKit

theorem ctell_all (xs : List CV) (h : ArsAll [.agg [i6, i6, i6, i6, i6], .agg [i6, i6, i6, i6, i6]] xs) : PureAt Tryz.prog 3 xs (.bool true) := by
  obtain ⟨_, _, rfl, h1, h2⟩ := h.cons_inv; obtain ⟨k, a, b, rk, rn, rfl, _⟩ := ArG.op h1
  obtain ⟨_, _, rfl, h3, h4⟩ := h2.cons_inv; obtain ⟨k', a', b', rk', rn', rfl, _⟩ := ArG.op h3
  cases h4.nil_inv
  refine pureAt0 plainN mixedN c18E_ok noL (k := 30) ((ctell_tree k a b rk rn k' a' b' rk' rn').trans ?_) rfl
  simp only [T.ev_ite, T.ev_ret, beq_self_eq_true, if_true]

end Go.Proofs.YtecidokjhplbgaaGreatDoorD
