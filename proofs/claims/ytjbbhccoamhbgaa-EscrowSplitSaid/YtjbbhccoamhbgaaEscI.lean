/-
  Chapter 10: the laws EscrowStays, EscrowWhere and EscrowSplit, to all data.
-/
import Derived.Test.YtjbbhccoamhbgaaEscH
set_option linter.unusedVariables false
set_option linter.unusedSimpArgs false
namespace Go.Proofs.YtjbbhccoamhbgaaD
open Go Go.RowKit

theorem esc_dep {n a : Int} (h1 : 0 ≤ n) (h2 : n ≤ 4611686018427387904) (h3 : 0 ≤ a) (h4 : a ≤ 4611686018427387904) :
    escA 5 n [] 13 a 0 = if a ≤ 4611686018427387904 - n then ⟨⟨5, n + a, []⟩, ⟨2, 1⟩, 0⟩ else ⟨⟨5, n, []⟩, ⟨2, 0⟩, 0⟩ := by
  have hc : checkN 5 n [] = 0 := check5.2 ⟨rfl, h1, h2⟩
  have hcap : cap62 = 4611686018427387904 := rfl
  rw [escA, hc]
  simp [hcap, show ¬ a < 0 by omega, show ¬ 4611686018427387904 < a by omega]
theorem esc_wd {n a : Int} (h1 : 0 ≤ n) (h2 : n ≤ 4611686018427387904) (h3 : 0 ≤ a) (h4 : a ≤ 4611686018427387904) :
    escA 5 n [] 14 a 0 = if a ≤ n then ⟨⟨5, n - a, []⟩, ⟨2, 1⟩, 0⟩ else ⟨⟨5, n, []⟩, ⟨2, 0⟩, 0⟩ := by
  have hc : checkN 5 n [] = 0 := check5.2 ⟨rfl, h1, h2⟩
  have hcap : cap62 = 4611686018427387904 := rfl
  rw [escA, hc]
  simp [hcap, show ¬ a < 0 by omega, show ¬ 4611686018427387904 < a by omega]
theorem pick_range (x : Int) {n : Int} (h : 0 < n) : 0 ≤ pick x n ∧ pick x n < n := by
  rw [pick, if_neg (by omega)]
  exact ⟨Int.emod_nonneg x (by omega), Int.emod_lt_of_pos x h⟩
theorem small0 : small 0 = true := rfl

theorem does_dep {n a th r : Int} (h1 : 0 ≤ n) (h2 : n ≤ 4611686018427387904) (h3 : 0 ≤ a) (h4 : a ≤ 4611686018427387904) :
    doesA n 13 a th r = if a ≤ 4611686018427387904 - n then (n + a == th && (1 : Int) == r) else (n == th && (0 : Int) == r) := by
  rw [doesA, esc_dep h1 h2 h3 h4]; split <;> simp
theorem does_wd {n a th r : Int} (h1 : 0 ≤ n) (h2 : n ≤ 4611686018427387904) (h3 : 0 ≤ a) (h4 : a ≤ 4611686018427387904) :
    doesA n 14 a th r = if a ≤ n then (n - a == th && (1 : Int) == r) else (n == th && (0 : Int) == r) := by
  rw [doesA, esc_wd h1 h2 h3 h4]; split <;> simp

theorem stays_all (xs : List CV) (h : ArsAll [.one i6, .one i6, .one i6] xs) : PureAt Try.prog 6 xs (.bool true) := by
  obtain ⟨_, _, rfl, h1, h2⟩ := h.cons_inv; obtain ⟨n, rfl, wn⟩ := Lf.int64 h1
  obtain ⟨_, _, rfl, h3, h4⟩ := h2.cons_inv; obtain ⟨k, rfl, wk⟩ := Lf.int64 h3
  obtain ⟨_, _, rfl, h5, h6⟩ := h4.cons_inv; obtain ⟨a, rfl, wa⟩ := Lf.int64 h5
  cases h6.nil_inv
  refine pureAt0 plainN mixedN pkE_ok noL (k := 30) ((stays_tree n k a).trans ?_) rfl
  obtain ⟨n1, n2⟩ := pick_range n (n := 4611686018427387905) (by omega)
  obtain ⟨a1, a2⟩ := pick_range a (n := 4611686018427387905) (by omega)
  obtain ⟨k1, k2⟩ := pick_range k (n := 2) (by omega)
  simp only [T.ev_ite, T.ev_ret, T.ev_fail, wn.1, wn.2, wk.1, wk.2, wa.1, wa.2, decide_true, Bool.true_and, show ((4611686018427387905 : Int) ≤ 9223372036854775807) by omega, show ((2 : Int) ≤ 9223372036854775807) by omega, if_true]
  generalize pick n 4611686018427387905 = N at *
  generalize pick a 4611686018427387905 = A at *
  generalize pick k 2 = K at *
  obtain rfl | rfl : K = 0 ∨ K = 1 := by omega
  · have w1 : IntKind.i64.wrap (13 + 0) = 13 := by decide
    have w2 : IntKind.i64.wrap (27 - 13) = 14 := by decide
    rw [w1, w2, esc_dep n1 (by omega) a1 (by omega)]
    by_cases hA : A ≤ 4611686018427387904 - N
    · have w3 : IntKind.i64.wrap (N + A - N) = A := by rw [show N + A - N = A by omega]; exact wrap64 (by omega) (by omega)
      simp [hA, does_wd (n := N + A) (a := A) (by omega) (by omega) a1 (by omega), show ¬ N + A < 0 by omega, show ¬ 4611686018427387904 < N + A by omega, show A ≤ N + A by omega, show N + A - A = N by omega, w3]
    · simp [hA, show ¬ N < 0 by omega, show ¬ 4611686018427387904 < N by omega, show 0 < A by omega]
  · have w1 : IntKind.i64.wrap (13 + 1) = 14 := by decide
    have w2 : IntKind.i64.wrap (27 - 14) = 13 := by decide
    rw [w1, w2, esc_wd n1 (by omega) a1 (by omega)]
    by_cases hA : A ≤ N
    · have w3 : IntKind.i64.wrap (N - (N - A)) = A := by rw [show N - (N - A) = A by omega]; exact wrap64 (by omega) (by omega)
      simp [hA, does_dep (n := N - A) (a := A) (by omega) (by omega) a1 (by omega), show ¬ N - A < 0 by omega, show ¬ 4611686018427387904 < N - A by omega, show A ≤ 4611686018427387904 - (N - A) by omega, show N - A + A = N by omega, w3]
    · simp [hA, show ¬ N < 0 by omega, show ¬ 4611686018427387904 < N by omega, show 0 < A by omega]

theorem esc_word {n k a : Int} (h1 : 0 ≤ n) (h2 : n ≤ 4611686018427387904) (hk : k < 13 ∨ 15 < k) : escA 5 n [] k a 0 = bad 6 := by
  have hc : checkN 5 n [] = 0 := check5.2 ⟨rfl, h1, h2⟩
  rw [escA, hc]; simp [hk]
theorem esc_arg {n k a : Int} (h1 : 0 ≤ n) (h2 : n ≤ 4611686018427387904) (hk : k = 13 ∨ k = 14) (ha : a < 0 ∨ 4611686018427387904 < a) : escA 5 n [] k a 0 = bad 2 := by
  have hc : checkN 5 n [] = 0 := check5.2 ⟨rfl, h1, h2⟩
  have hcap : cap62 = 4611686018427387904 := rfl
  rw [escA, hc]
  rw [if_neg (by omega), if_neg (by omega), if_neg (by omega), if_neg (by omega), if_pos (by omega)]
theorem esc_bal {n a : Int} (h1 : 0 ≤ n) (h2 : n ≤ 4611686018427387904) : escA 5 n [] 15 a 0 = if a = 0 then ⟨⟨5, n, []⟩, ⟨2, n⟩, 0⟩ else bad 2 := by
  have hc : checkN 5 n [] = 0 := check5.2 ⟨rfl, h1, h2⟩
  rw [escA, hc]; simp

theorem range_word {k a r : Int} (hk : k < 13 ∨ 15 < k) : rangeA k a r = ⟨0, 0, false⟩ := by
  rw [rangeA, if_pos hk]
theorem range_arg {k a r : Int} (hk : k = 13 ∨ k = 14) (ha : a < 0 ∨ 4611686018427387904 < a) : rangeA k a r = ⟨0, 0, false⟩ := by
  have hcap : cap62 = 4611686018427387904 := rfl
  rw [rangeA, if_neg (by omega), if_neg (by omega), if_pos (by omega)]
theorem range_dep {a r : Int} (h3 : 0 ≤ a) (h4 : a ≤ 4611686018427387904) :
    rangeA 13 a r = if r = 1 then ⟨0, 4611686018427387904 - a, true⟩ else if r = 0 ∧ a ≠ 0 then ⟨4611686018427387904 - a + 1, 4611686018427387904, true⟩ else ⟨0, 0, false⟩ := by
  have hcap : cap62 = 4611686018427387904 := rfl
  rw [rangeA, if_neg (by omega), if_neg (by omega)]
  by_cases h1 : r = 1
  · subst h1; rw [if_neg (by omega)]; simp [hcap]
  · by_cases h0 : r = 0
    · subst h0; rw [if_neg (by omega)]; by_cases ha : a = 0 <;> simp [hcap, ha]
    · rw [if_pos (by omega)]; simp [h1, h0]
theorem range_wd {a r : Int} (h3 : 0 ≤ a) (h4 : a ≤ 4611686018427387904) :
    rangeA 14 a r = if r = 1 then ⟨a, 4611686018427387904, true⟩ else if r = 0 ∧ a ≠ 0 then ⟨0, a - 1, true⟩ else ⟨0, 0, false⟩ := by
  have hcap : cap62 = 4611686018427387904 := rfl
  rw [rangeA, if_neg (by omega), if_neg (by omega)]
  by_cases h1 : r = 1
  · subst h1; rw [if_neg (by omega)]; simp [hcap]
  · by_cases h0 : r = 0
    · subst h0; rw [if_neg (by omega)]; by_cases ha : a = 0 <;> simp [hcap, ha]
    · rw [if_pos (by omega)]; simp [h1, h0]
theorem range_bal {a r : Int} : rangeA 15 a r = if a = 0 ∧ 0 ≤ r ∧ r ≤ 4611686018427387904 then ⟨r, r, true⟩ else ⟨0, 0, false⟩ := by
  have hcap : cap62 = 4611686018427387904 := rfl
  rw [rangeA, if_neg (by omega), if_pos rfl, hcap]

theorem where_all (xs : List CV) (h : ArsAll [.one i6, .one i6, .one i6, .one i6] xs) : PureAt Try.prog 7 xs (.bool true) := by
  obtain ⟨_, _, rfl, h1, h2⟩ := h.cons_inv; obtain ⟨n, rfl, wn⟩ := Lf.int64 h1
  obtain ⟨_, _, rfl, h3, h4⟩ := h2.cons_inv; obtain ⟨k, rfl, wk⟩ := Lf.int64 h3
  obtain ⟨_, _, rfl, h5, h6⟩ := h4.cons_inv; obtain ⟨a, rfl, wa⟩ := Lf.int64 h5
  obtain ⟨_, _, rfl, h7, h8⟩ := h6.cons_inv; obtain ⟨r, rfl, wr⟩ := Lf.int64 h7
  cases h8.nil_inv
  refine pureAt0 plainN mixedN pkE_ok noL (k := 30) ((where_tree n k a r).trans ?_) rfl
  obtain ⟨n1, n2⟩ := pick_range n (n := 4611686018427387905) (by omega)
  simp only [T.ev_ite, T.ev_ret, T.ev_fail, inI64_iff.2 wk, inI64_iff.2 wa, inI64_iff.2 wr, wn.1, wn.2, decide_true, Bool.true_and, show ((4611686018427387905 : Int) ≤ 9223372036854775807) by omega, if_true]
  generalize pick n 4611686018427387905 = N at *
  have hcap : cap62 = 4611686018427387904 := rfl
  by_cases hk : k < 13 ∨ 15 < k
  · rw [esc_word n1 (by omega) hk, range_word hk]
    simp [bad]
  · obtain rfl | rfl | rfl : k = 13 ∨ k = 14 ∨ k = 15 := by omega
    · by_cases ha : a < 0 ∨ 4611686018427387904 < a
      · rw [esc_arg n1 (by omega) (.inl rfl) ha, range_arg (.inl rfl) ha]
        simp [bad]
      · rw [esc_dep n1 (by omega) (by omega) (by omega), range_dep (by omega) (by omega)]
        by_cases r1 : r = 1
        · subst r1
          by_cases hA : a ≤ 4611686018427387904 - N
          · simp [hA, n1, show a ≤ 4611686018427387904 by omega, show ¬ (4611686018427387904 < 4611686018427387904 - a) by omega, show N ≤ 4611686018427387904 - a by omega]
          · simp [hA, n1, show a ≤ 4611686018427387904 by omega, show ¬ (4611686018427387904 < 4611686018427387904 - a) by omega, show ¬ N ≤ 4611686018427387904 - a by omega]
        · by_cases r0 : r = 0 ∧ a ≠ 0
          · obtain ⟨rfl, h0⟩ := r0
            by_cases hA : a ≤ 4611686018427387904 - N
            · simp [h0, hA, show ¬ (4611686018427387904 - a + 1 < 0) by omega, show ¬ (4611686018427387904 < 4611686018427387904 - a + 1) by omega, show ¬ 4611686018427387904 - a + 1 ≤ N by omega]
            · simp [h0, hA, show ¬ (4611686018427387904 - a + 1 < 0) by omega, show ¬ (4611686018427387904 < 4611686018427387904 - a + 1) by omega, show 4611686018427387904 - a + 1 ≤ N by omega, show N ≤ 4611686018427387904 by omega]
          · rw [if_neg r1, if_neg r0]
            by_cases hA : a ≤ 4611686018427387904 - N
            · simp [hA, Ne.symm r1]
            · simp [hA, show ¬ (0 : Int) = r by omega]
    · by_cases ha : a < 0 ∨ 4611686018427387904 < a
      · rw [esc_arg n1 (by omega) (.inr rfl) ha, range_arg (.inr rfl) ha]
        simp [bad]
      · rw [esc_wd n1 (by omega) (by omega) (by omega), range_wd (by omega) (by omega)]
        by_cases r1 : r = 1
        · subst r1
          by_cases hA : a ≤ N
          · simp [hA, show ¬ (a < 0) by omega, show ¬ (4611686018427387904 < a) by omega, show N ≤ 4611686018427387904 by omega]
          · simp [hA, show ¬ (a < 0) by omega, show ¬ (4611686018427387904 < a) by omega]
        · by_cases r0 : r = 0 ∧ a ≠ 0
          · obtain ⟨rfl, h0⟩ := r0
            by_cases hA : a ≤ N
            · simp [h0, hA, n1, show ¬ (a - 1 < 0) by omega, show ¬ (4611686018427387904 < a - 1) by omega, show ¬ N ≤ a - 1 by omega]
            · simp [h0, hA, n1, show ¬ (a - 1 < 0) by omega, show ¬ (4611686018427387904 < a - 1) by omega, show N ≤ a - 1 by omega]
          · rw [if_neg r1, if_neg r0]
            by_cases hA : a ≤ N
            · simp [hA, Ne.symm r1]
            · simp [hA, show ¬ (0 : Int) = r by omega]
    · rw [esc_bal n1 (by omega), range_bal]
      by_cases h0 : a = 0
      · by_cases hr : 0 ≤ r ∧ r ≤ 4611686018427387904
        · by_cases e : N = r
          · subst e; simp [h0, hr, show ¬ N < 0 by omega, show ¬ 4611686018427387904 < N by omega]
          · by_cases e2 : r ≤ N
            · simp [h0, hr, e, e2, show ¬ N ≤ r by omega, show ¬ r < 0 by omega, show ¬ 4611686018427387904 < r by omega]
            · simp [h0, hr, e, e2, show ¬ r < 0 by omega, show ¬ 4611686018427387904 < r by omega]
        · simp [h0, hr, show ¬ N = r by omega]
      · simp [h0, bad]

theorem split_all (xs : List CV) (h : ArsAll [.one i6, .one i6, .one i6] xs) : PureAt Try.prog 8 xs (.bool true) := by
  obtain ⟨_, _, rfl, h1, h2⟩ := h.cons_inv; obtain ⟨n, rfl, wn⟩ := Lf.int64 h1
  obtain ⟨_, _, rfl, h3, h4⟩ := h2.cons_inv; obtain ⟨a, rfl, wa⟩ := Lf.int64 h3
  obtain ⟨_, _, rfl, h5, h6⟩ := h4.cons_inv; obtain ⟨b, rfl, wb⟩ := Lf.int64 h5
  cases h6.nil_inv
  refine pureAt0 plainN mixedN pkE_ok noL (k := 30) ((split_tree n a b).trans ?_) rfl
  obtain ⟨n1, n2⟩ := pick_range n (n := 4611686018427387905) (by omega)
  obtain ⟨a1, a2⟩ := pick_range a (n := 4611686018427387905) (by omega)
  obtain ⟨b1, b2⟩ := pick_range b (n := 4611686018427387905) (by omega)
  simp only [T.ev_ite, T.ev_ret, T.ev_fail, wn.1, wn.2, wa.1, wa.2, wb.1, wb.2, decide_true, Bool.true_and, show ((4611686018427387905 : Int) ≤ 9223372036854775807) by omega, if_true]
  generalize pick n 4611686018427387905 = N at *
  generalize pick a 4611686018427387905 = A at *
  generalize pick b 4611686018427387905 = B at *
  have hr : roomA N = 4611686018427387904 - N := by
    have hcap : cap62 = 4611686018427387904 := rfl
    rw [roomA, if_neg (by omega), hcap]
  have d1 : doesA N 13 (4611686018427387904 - N) 4611686018427387904 1 = true := by
    rw [does_dep n1 (by omega) (by omega) (by omega)]; simp [show N + (4611686018427387904 - N) = 4611686018427387904 by omega]
  have d2 : 4611686018427387904 - N < 4611686018427387904 → doesA N 13 (IntKind.i64.wrap (4611686018427387904 - N + 1)) N 0 = true := by
    intro h
    rw [wrap64 (by omega) (by omega), does_dep n1 (by omega) (by omega) (by omega), if_neg (by omega)]; simp
  rw [hr, d1, esc_dep n1 (by omega) a1 (by omega), esc_wd n1 (by omega) a1 (by omega)]
  have t1 : ∀ M : Int, 0 ≤ M → M ≤ 4611686018427387904 → escA 5 M [] 13 B 0 = if B ≤ 4611686018427387904 - M then ⟨⟨5, M + B, []⟩, ⟨2, 1⟩, 0⟩ else ⟨⟨5, M, []⟩, ⟨2, 0⟩, 0⟩ := fun M q1 q2 => esc_dep q1 q2 b1 (by omega)
  have t2 : ∀ M : Int, 0 ≤ M → M ≤ 4611686018427387904 → escA 5 M [] 14 B 0 = if B ≤ M then ⟨⟨5, M - B, []⟩, ⟨2, 1⟩, 0⟩ else ⟨⟨5, M, []⟩, ⟨2, 0⟩, 0⟩ := fun M q1 q2 => esc_wd q1 q2 b1 (by omega)
  have u1 : A ≤ 4611686018427387904 - N → B ≤ 4611686018427387904 - (N + A) → doesA N 13 (IntKind.i64.wrap (A + B)) (N + A + B) 1 = true := by
    intro q1 q2
    rw [wrap64 (by omega) (by omega), does_dep n1 (by omega) (by omega) (by omega), if_pos (by omega)]; simp [show N + (A + B) = N + A + B by omega]
  have u2 : A ≤ N → B ≤ N - A → doesA N 14 (IntKind.i64.wrap (A + B)) (N - A - B) 1 = true := by
    intro q1 q2
    rw [wrap64 (by omega) (by omega), does_wd n1 (by omega) (by omega) (by omega), if_pos (by omega)]; simp [show N - (A + B) = N - A - B by omega]
  by_cases hA : A ≤ 4611686018427387904 - N <;> by_cases hW : A ≤ N
  · have s1 := t1 (N + A) (by omega) (by omega); have s2 := t2 (N - A) (by omega) (by omega)
    by_cases hB : B ≤ 4611686018427387904 - (N + A) <;> by_cases hV : B ≤ N - A <;> by_cases h0 : 4611686018427387904 - N < 4611686018427387904 <;>
      simp only [hA, hW, s1, s2, hB, hV, h0, small0, if_true, if_false] <;> simp [small0, hA, hW, hB, hV, h0, d2, u1, u2]
  · have s1 := t1 (N + A) (by omega) (by omega); have s2 := t2 N n1 (by omega)
    by_cases hB : B ≤ 4611686018427387904 - (N + A) <;> by_cases hV : B ≤ N <;> by_cases h0 : 4611686018427387904 - N < 4611686018427387904 <;>
      simp only [hA, hW, s1, s2, hB, hV, h0, small0, if_true, if_false] <;> simp [small0, hA, hW, hB, hV, h0, d2, u1, u2]
  · have s1 := t1 N n1 (by omega); have s2 := t2 (N - A) (by omega) (by omega)
    by_cases hB : B ≤ 4611686018427387904 - N <;> by_cases hV : B ≤ N - A <;> by_cases h0 : 4611686018427387904 - N < 4611686018427387904 <;>
      simp only [hA, hW, s1, s2, hB, hV, h0, small0, if_true, if_false] <;> simp [small0, hA, hW, hB, hV, h0, d2, u1, u2]
  · have s1 := t1 N n1 (by omega); have s2 := t2 N n1 (by omega)
    by_cases hB : B ≤ 4611686018427387904 - N <;> by_cases hV : B ≤ N <;> by_cases h0 : 4611686018427387904 - N < 4611686018427387904 <;>
      simp only [hA, hW, s1, s2, hB, hV, h0, small0, if_true, if_false] <;> simp [small0, hA, hW, hB, hV, h0, d2, u1, u2]

end Go.Proofs.YtjbbhccoamhbgaaD
