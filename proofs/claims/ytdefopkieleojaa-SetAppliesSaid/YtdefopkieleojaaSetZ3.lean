/-
  Chapter 07: the law SetApplies, to all data.
-/
import Derived.Test.YtdefopkieleojaaSetY
import Derived.Test.YtdefopkieleojaaSetQ
set_option linter.unusedVariables false
set_option linter.unusedSimpArgs false
namespace Go.Proofs.YtdefopkieleojaaD
open Go Go.RowKit

theorem wz0 : IntKind.i64.wrap 0 = 0 := by decide
theorem wz1 : IntKind.i64.wrap 1 = 1 := by decide
theorem wz2 : IntKind.i64.wrap 2 = 2 := by decide
theorem wz3 : IntKind.i64.wrap 3 = 3 := by decide

set_option maxHeartbeats 4000000 in
theorem applies_all (xs : List CV) (h : ArsAll [.agg [i6, i6, .row .ints], .one i6, .one i6, .one i6] xs) : PureAt Try.prog 3 xs (.bool true) := by
  obtain ⟨_, _, rfl, h1, h2⟩ := h.cons_inv; obtain ⟨t, n, l, rfl, _⟩ := Ar.state h1
  obtain ⟨_, _, rfl, h3, h4⟩ := h2.cons_inv; obtain ⟨k, rfl, _⟩ := Lf.int64 h3
  obtain ⟨_, _, rfl, h5, h6⟩ := h4.cons_inv; obtain ⟨a, rfl, _⟩ := Lf.int64 h5
  obtain ⟨_, _, rfl, h7, h8⟩ := h6.cons_inv; obtain ⟨b, rfl, _⟩ := Lf.int64 h7
  cases h8.nil_inv
  refine pureAt0 plainN mixedN lawE0_ok noL (k := 30) ((applies_tree t n l k a b).trans ?_) rfl
  clear h h1 h2 h3 h4 h5 h6 h7 h8
  by_cases hl : l.length ≤ 60
  · have hm : midB l = true := by rw [midB, Nat.ble_eq]; omega
    have h1 : small l.length = true := mid_small hm
    have h5 : ¬ (60 : Int) < l.length := by omega
    by_cases c1 : t ≠ 2 ∨ checkN t n l ≠ 0
    · have e : setA t n l k a b = bad 12 := by unfold setA; rw [if_pos c1]
      by_cases c0 : t = 2
      · subst c0
        have c2 : checkN 2 n l ≠ 0 := by simpa using c1
        simp [T.ev_ite, T.ev_ret, h1, hm, h5, e, bad, c2]
      · simp [T.ev_ite, T.ev_ret, h1, hm, h5, e, bad, c0]
    · have c1' : t = 2 ∧ checkN t n l = 0 := by simpa using c1
      obtain ⟨rfl, c0⟩ := c1'
      have hr := (check2.1 c0).2
      by_cases c2 : k < 3 ∨ 6 < k
      · have e : setA 2 n l k a b = bad 6 := by unfold setA; rw [if_neg c1, if_pos c2]
        rcases c2 with c2 | c2
        · simp [T.ev_ite, T.ev_ret, h1, hm, h5, e, bad, c0, c2]
        · simp [T.ev_ite, T.ev_ret, h1, hm, h5, e, bad, c0, c2, show ¬ k < 3 by omega]
      · by_cases c3 : b ≠ 0 ∨ (k = 6 ∧ a ≠ 0)
        · have e : setA 2 n l k a b = bad 2 := by unfold setA; rw [if_neg c1, if_neg c2, if_pos c3]
          by_cases hb : b = 0
          · subst hb; obtain ⟨d1, d2⟩ : k = 6 ∧ a ≠ 0 := by omega
            subst d1
            simp [T.ev_ite, T.ev_ret, h1, hm, h5, e, bad, c0, d2]
          · simp [T.ev_ite, T.ev_ret, h1, hm, h5, e, bad, c0, hb, show ¬ k < 3 by omega, show ¬ 6 < k by omega]
        · have hb : b = 0 := by omega
          subst hb
          have sw : small (withN l a).length = true := by
            have hw := with_length a hr
            rw [small_iff]; split at hw <;> omega
          have hsl := less_length l a
          have s1 : small (lessN l a).length = true := by rw [small_iff]; omega
          obtain rfl | rfl | rfl | rfl : k = 3 ∨ k = 4 ∨ k = 5 ∨ k = 6 := by omega
          · have e : setA 2 n l 3 a 0 = ⟨⟨2, 0, withN l a⟩, ⟨2, if hasN l a then 0 else 1⟩, 0⟩ := by unfold setA; rw [if_neg c1, if_neg c2, if_neg c3]; rfl
            cases hh : hasN l a <;> simp [T.ev_ite, T.ev_ret, h1, hm, hr, h5, e, c0, hh, sw, wz0, wz1, wz2, wz3]
          · have e : setA 2 n l 4 a 0 = ⟨⟨2, 0, lessN l a⟩, ⟨2, if hasN l a then 1 else 0⟩, 0⟩ := by unfold setA; rw [if_neg c1, if_neg c2, if_neg c3]; rfl
            cases hh : hasN l a with
            | false =>
              have e1 := less_has hh
              simp [T.ev_ite, T.ev_ret, h1, hm, hr, h5, e, c0, hh, e1, wz0, wz1, wz2, wz3]
            | true =>
              have e1 := less_row hr hh
              have h2 : (small (l.length - 1) && (0 + (l.length - 1)).ble (lessRow l (cntN l a)).length) = true := by
                have hlt := has_lt hr hh
                have hL : (lessRow l (cntN l a)).length = l.length := by simp only [lessRow, List.length_append, List.length_take, List.length_drop, List.length_cons, List.length_nil]; omega
                rw [hL, Bool.and_eq_true]
                exact ⟨by rw [small_iff]; omega, by rw [Nat.ble_eq]; omega⟩
              simp only [e1, h2]
              simp [T.ev_ite, T.ev_ret, h1, hm, hr, h5, e, c0, hh, s1, wz0, wz1, wz2, wz3]
          · have e : setA 2 n l 5 a 0 = ⟨⟨2, 0, l⟩, ⟨2, if hasN l a then 1 else 0⟩, 0⟩ := by unfold setA; rw [if_neg c1, if_neg c2, if_neg c3]; rfl
            cases hh : hasN l a <;> simp [T.ev_ite, T.ev_ret, h1, hm, hr, h5, e, c0, hh, wz0, wz1, wz2, wz3]
          · have ha : a = 0 := by omega
            subst ha
            have e : setA 2 n l 6 0 0 = ⟨⟨2, 0, l⟩, ⟨2, l.length⟩, 0⟩ := by unfold setA; rw [if_neg c1, if_neg c2, if_neg c3]; rfl
            simp [T.ev_ite, T.ev_ret, h1, hm, hr, h5, e, c0, wz0, wz1, wz2, wz3]
  · simp [T.ev_ite, T.ev_ret, show (60 : Int) < l.length by omega]

end Go.Proofs.YtdefopkieleojaaD
