/-
  Chapter 09: the law FifoOrder, to all data.
-/
import Derived.Test.YtieebjdlmhggpaaFifN
set_option linter.unusedVariables false
set_option linter.unusedSimpArgs false
namespace Go.Proofs.YtieebjdlmhggpaaD
open Go Go.RowKit

theorem Lf.ints2 {x : CV} (h : (Ar.one (.row .ints)).is x) : ∃ l : List Int, x = .pl .ints l ∧ wfInts l := by
  obtain ⟨l, rfl, h1⟩ := h
  exact ⟨l, rfl, h1⟩
theorem order_all (xs : List CV) (h : ArsAll [.one (.row .ints), .one (.row .ints)] xs) : PureAt Try.prog 6 xs (.bool true) := by
  obtain ⟨_, _, rfl, h1, h2⟩ := h.cons_inv; obtain ⟨l, rfl, _⟩ := Lf.ints2 h1
  obtain ⟨_, _, rfl, h3, h4⟩ := h2.cons_inv; obtain ⟨c, rfl, _⟩ := Lf.ints2 h3
  cases h4.nil_inv
  refine pureAt0 plainN mixedN lawE_ok foL_ok (k := 30) ((order_tree l c).trans ?_) rfl
  clear h h1 h2 h3 h4
  by_cases hl : l.length ≤ 60
  · by_cases hc : c.length ≤ 120
    · obtain ⟨g1, g2⟩ := foF_le l.length c 0 0 (Nat.le_refl _) (Nat.zero_le _)
      generalize (foF l.length c (0, 0)).1 = u at *
      generalize (foF l.length c (0, 0)).2 = v at *
      have e1 : lpart l (some (v : Int).toNat) (some (u : Int).toNat) = sl l v u := by
        simp only [lpart, Int.toNat_natCast, sl]; rw [List.drop_take]
      have s1 : small (sl l v u).length = true := by rw [sl_length g1 g2, small_iff]; omega
      have q1 : (decide ((0 : Int) ≤ (u : Int)) && decide ((u : Int) ≤ (l.length : Int))) = true := by
        rw [Bool.and_eq_true, decide_eq_true_eq, decide_eq_true_eq]; omega
      have q2 : (decide ((0 : Int) ≤ (v : Int)) && decide ((v : Int) ≤ ((hi0 l.length (some (u : Int).toNat) : Nat) : Int))) = true := by
        rw [Bool.and_eq_true, decide_eq_true_eq, decide_eq_true_eq]
        have : hi0 l.length (some (u : Int).toNat) = u := by simp [hi0]
        rw [this]; omega
      have b1 : l.length.ble 1000000 = true := by rw [Nat.ble_eq]; omega
      have b2 : c.length.ble 1000000 = true := by rw [Nat.ble_eq]; omega
      simp only [T.ev_ite, T.ev_ret, e1, s1, q1, q2, b1, b2, beq_self_eq_true, Bool.and_self, if_true, show decide ((l.length : Int) > 60) = false by (rw [decide_eq_false_iff_not]; omega), show decide ((c.length : Int) > 120) = false by (rw [decide_eq_false_iff_not]; omega), Bool.false_eq_true, if_false]
      cases hq : sl l v u with
      | nil => rfl
      | cons x q => simp
    · simp [T.ev_ite, T.ev_ret, show (120 : Int) < c.length by omega]
  · simp [T.ev_ite, T.ev_ret, show (60 : Int) < l.length by omega]

end Go.Proofs.YtieebjdlmhggpaaD
