/-
  Chapter 08: the law MappingApplies, to all data.
-/
import Derived.Test.YtffgmpkcfohhgaaMapN
import Derived.Test.YtffgmpkcfohhgaaMapK
set_option linter.unusedVariables false
set_option linter.unusedSimpArgs false
namespace Go.Proofs.YtffgmpkcfohhgaaD
open Go Go.RowKit

theorem wz0 : IntKind.i64.wrap 0 = 0 := by decide
theorem wz1 : IntKind.i64.wrap 1 = 1 := by decide
theorem wz2 : IntKind.i64.wrap 2 = 2 := by decide
theorem Ar.state {x : CV} (h : (Ar.agg [i6, i6, .row .ints]).is x) : ∃ (t n : Int) (l : List Int), x = .agg #[.int .i64 t, .int .i64 n, .pl .ints l] ∧ w64 t ∧ w64 n ∧ wfInts l := by
  obtain ⟨xs, rfl, h⟩ := h
  obtain ⟨a, _, rfl, ha, h⟩ := h.int; obtain ⟨b, _, rfl, hb, h⟩ := h.int; obtain ⟨c, _, rfl, hc, h⟩ := h.row; cases h.nil_inv
  exact ⟨a, b, c, rfl, ha, hb, hc⟩

set_option maxHeartbeats 4000000 in
theorem applies_all (xs : List CV) (h : ArsAll [.agg [i6, i6, .row .ints], .one i6, .one i6, .one i6] xs) : PureAt Try.prog 3 xs (.bool true) := by
  obtain ⟨_, _, rfl, h1, h2⟩ := h.cons_inv; obtain ⟨t, n, l, rfl, _⟩ := Ar.state h1
  obtain ⟨_, _, rfl, h3, h4⟩ := h2.cons_inv; obtain ⟨k, rfl, _⟩ := Lf.int64 h3
  obtain ⟨_, _, rfl, h5, h6⟩ := h4.cons_inv; obtain ⟨a, rfl, _⟩ := Lf.int64 h5
  obtain ⟨_, _, rfl, h7, h8⟩ := h6.cons_inv; obtain ⟨b, rfl, _⟩ := Lf.int64 h7
  cases h8.nil_inv
  refine pureAt0 plainN mixedN lawE0_ok noL (k := 30) ((applies_tree t n l k a b).trans ?_) rfl
  clear h h1 h2 h3 h4 h5 h6 h7 h8
  by_cases hl : l.length ≤ 100
  · have h1 : small l.length = true := by rw [small_iff]; omega
    have h2 : small (l.length + 4) = true := by rw [small_iff]; omega
    have h5 : ¬ (100 : Int) < l.length := by omega
    have h0 : small 0 = true := rfl
    have hr0 := roomB_small h1 (b := 8) (by decide)
    have lS := setP_length l a b
    have lD := dropP_length l a
    have sS : small (setP (dropP l a) a b).length = true := by rw [small_iff]; omega
    have sD : small (dropP l a).length = true := by rw [small_iff]; omega
    by_cases c1 : t ≠ 3 ∨ checkN t n l ≠ 0
    · have e : mapA t n l k a b = bad 12 := by unfold mapA; rw [if_pos c1]
      by_cases c0 : t = 3
      · subst c0
        have c2 : checkN 3 n l ≠ 0 := by simpa using c1
        simp [T.ev_ite, T.ev_ret, h1, h2, h5, h0, e, bad, c2]
      · simp [T.ev_ite, T.ev_ret, h1, h2, h5, h0, e, bad, c0]
    · have c1' : t = 3 ∧ checkN t n l = 0 := by simpa using c1
      obtain ⟨rfl, c0⟩ := c1'
      by_cases c2 : k < 7 ∨ 9 < k
      · have e : mapA 3 n l k a b = bad 6 := by unfold mapA; rw [if_neg c1, if_pos c2]
        rcases c2 with c2 | c2
        · simp [T.ev_ite, T.ev_ret, h1, h2, h5, h0, e, bad, c0, c2]
        · simp [T.ev_ite, T.ev_ret, h1, h2, h5, h0, e, bad, c0, c2, show ¬ k < 7 by omega]
      · by_cases c3 : k ≠ 7 ∧ b ≠ 0
        · have e : mapA 3 n l k a b = bad 2 := by unfold mapA; rw [if_neg c1, if_neg c2, if_pos c3]
          simp [T.ev_ite, T.ev_ret, h1, h2, h5, h0, e, bad, c0, c3, show ¬ k < 7 by omega, show ¬ 9 < k by omega]
        · have e : mapA 3 n l k a b = ⟨⟨3, 0, if k = 7 then setP (dropP l a) a b else if k = 8 then l else dropP l a⟩, hadP l a, 0⟩ := by unfold mapA; rw [if_neg c1, if_neg c2, if_neg c3]
          obtain rfl | rfl | rfl : k = 7 ∨ k = 8 ∨ k = 9 := by omega
          · cases hf : (findP l a).2.1
            · have hh : hadP l a = ⟨1, 0⟩ := by simp [hadP, hf]
              simp [T.ev_ite, T.ev_ret, h1, h2, h5, h0, e, hh, c0, hf, sS, sD, hr0, wz0, wz1, wz2]
            · have hh : hadP l a = ⟨2, (findP l a).1⟩ := by simp [hadP, hf]
              simp [T.ev_ite, T.ev_ret, h1, h2, h5, h0, e, hh, c0, hf, sS, sD, hr0, wz0, wz1, wz2]
          · have hb : b = 0 := by omega
            subst hb
            cases hf : (findP l a).2.1
            · have hh : hadP l a = ⟨1, 0⟩ := by simp [hadP, hf]
              simp [T.ev_ite, T.ev_ret, h1, h2, h5, h0, e, hh, c0, hf, sS, sD, hr0, wz0, wz1, wz2]
            · have hh : hadP l a = ⟨2, (findP l a).1⟩ := by simp [hadP, hf]
              simp [T.ev_ite, T.ev_ret, h1, h2, h5, h0, e, hh, c0, hf, sS, sD, hr0, wz0, wz1, wz2]
          · have hb : b = 0 := by omega
            subst hb
            cases hf : (findP l a).2.1
            · have hh : hadP l a = ⟨1, 0⟩ := by simp [hadP, hf]
              simp [T.ev_ite, T.ev_ret, h1, h2, h5, h0, e, hh, c0, hf, sS, sD, hr0, wz0, wz1, wz2]
            · have hh : hadP l a = ⟨2, (findP l a).1⟩ := by simp [hadP, hf]
              simp [T.ev_ite, T.ev_ret, h1, h2, h5, h0, e, hh, c0, hf, sS, sD, hr0, wz0, wz1, wz2]
  · simp [T.ev_ite, T.ev_ret, show (100 : Int) < l.length by omega]

end Go.Proofs.YtffgmpkcfohhgaaD
