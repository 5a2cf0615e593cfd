/-
  Chapter 07: the law SetGrows, to all data.
-/
import Derived.Test.YtdefopkieleojaaSetZ1
set_option linter.unusedVariables false
set_option linter.unusedSimpArgs false
namespace Go.Proofs.YtdefopkieleojaaD
open Go Go.RowKit

theorem Lf.ints3 {x : CV} (h : (Ar.one (.row .ints)).is x) : ∃ l : List Int, x = .pl .ints l ∧ wfInts l := by
  obtain ⟨l, rfl, h1⟩ := h
  exact ⟨l, rfl, h1⟩
theorem grows_all (xs : List CV) (h : ArsAll [.one (.row .ints)] xs) : PureAt Try.prog 7 xs (.bool true) := by
  obtain ⟨_, _, rfl, h1, h2⟩ := h.cons_inv; obtain ⟨l, rfl, _⟩ := Lf.ints3 h1
  cases h2.nil_inv
  refine pureAt0 plainN mixedN lawE_ok gbL_ok (k := 30) ((grows_tree l).trans ?_) rfl
  by_cases hl : l.length ≤ 60
  · have hb : l.length.ble 1000000 = true := by rw [Nat.ble_eq]; omega
    have hr : riseB (grow [] l) = true := grow_rise l rfl
    have hg := grow_length l (o := []) rfl
    have ha : allHas (grow [] l) l = true := by
      rw [allHas, List.all_eq_true]
      intro y hy
      rw [grow_has l y rfl, (hasN_mem l y).2 hy, Bool.or_true]
    simp only [List.length_nil, Nat.zero_add] at hg
    generalize grow [] l = g at *
    have hs : small g.length = true := by rw [small_iff]; omega
    have hb2 : g.length.ble 1000000 = true := by rw [Nat.ble_eq]; omega
    have hd : decide ((l.length : Int) > 60) = false := by rw [decide_eq_false_iff_not]; omega
    simp only [T.ev_ite, T.ev_ret, hd, hb, hb2, hs, hr, ha, Bool.and_self, beq_self_eq_true, decide_true, if_true, Bool.false_eq_true, if_false]
  · simp [T.ev_ite, T.ev_ret, show (60 : Int) < l.length by omega]

end Go.Proofs.YtdefopkieleojaaD
