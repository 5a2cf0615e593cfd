/-
  Chapter 09: the laws FifoLists, FifoStarts and FifoApplies, to all data.
-/
import Derived.Test.YtieebjdlmhggpaaFifI
import Derived.Test.YtieebjdlmhggpaaFifJ
set_option linter.unusedVariables false
set_option linter.unusedSimpArgs false
namespace Go.Proofs.YtieebjdlmhggpaaD
open Go Go.RowKit

theorem Lf.int64 {x : CV} (h : (Ar.one i6).is x) : ∃ n, x = .int .i64 n ∧ w64 n := by
  obtain ⟨n, rfl, h1, h2⟩ := h
  exact ⟨n, rfl, h1, h2⟩
theorem Lf.ints {x : CV} (h : (Ar.one (.row .ints)).is x) : ∃ l : List Int, x = .pl .ints l ∧ wfInts l := by
  obtain ⟨l, rfl, h1⟩ := h
  exact ⟨l, rfl, h1⟩
theorem Ar.state {x : CV} (h : (Ar.agg [i6, i6, .row .ints]).is x) : ∃ (t n : Int) (l : List Int), x = .agg #[.int .i64 t, .int .i64 n, .pl .ints l] ∧ w64 t ∧ w64 n ∧ wfInts l := by
  obtain ⟨xs, rfl, h⟩ := h
  obtain ⟨a, _, rfl, ha, h⟩ := h.int; obtain ⟨b, _, rfl, hb, h⟩ := h.int; obtain ⟨c, _, rfl, hc, h⟩ := h.row; cases h.nil_inv
  exact ⟨a, b, c, rfl, ha, hb, hc⟩

theorem lists_all (xs : List CV) (h : ArsAll [.agg [i6, i6, .row .ints], .one (.row .ints)] xs) : PureAt Try.prog 4 xs (.bool true) := by
  obtain ⟨_, _, rfl, h1, h2⟩ := h.cons_inv; obtain ⟨t, n, l, rfl, _⟩ := Ar.state h1
  obtain ⟨_, _, rfl, h3, h4⟩ := h2.cons_inv; obtain ⟨m, rfl, _⟩ := Lf.ints h3
  cases h4.nil_inv
  refine pureAt0 plainN mixedN lawE_ok noL (k := 30) ((lists_tree t n l m).trans ?_) rfl
  by_cases hl : l.length ≤ 60
  · by_cases hm : m.length ≤ 60
    · have hsl : small l.length = true := by rw [small_iff]; omega
      have h0 : small 0 = true := rfl
      by_cases h4 : t = 4 ∧ checkN t n l = 0
      · obtain ⟨rfl, hc⟩ := h4
        cases l with
        | nil => simp [T.ev_ite, T.ev_ret, h0, hc, show ¬ (60 : Int) < m.length by omega]
        | cons x q =>
          simp only [T.ev_ite, T.ev_ret, hsl, hc, List.isEmpty_cons, show ¬ (((x :: q).length : Nat) : Int) > 60 by omega, show ¬ (m.length : Int) > 60 by omega]
          simp
      · simp only [T.ev_ite, T.ev_ret, hsl, h4, show ¬ (l.length : Int) > 60 by omega, show ¬ (m.length : Int) > 60 by omega]
        simp
    · simp [T.ev_ite, T.ev_ret, show (60 : Int) < m.length by omega]
  · simp [T.ev_ite, T.ev_ret, show (60 : Int) < l.length by omega]

theorem starts_all (xs : List CV) (h : ArsAll [.one (.row .ints), .one i6, .one (.row .ints)] xs) : PureAt Try.prog 7 xs (.bool true) := by
  obtain ⟨_, _, rfl, h1, h2⟩ := h.cons_inv; obtain ⟨l, rfl, _⟩ := Lf.ints h1
  obtain ⟨_, _, rfl, h3, h4⟩ := h2.cons_inv; obtain ⟨n, rfl, wn⟩ := Lf.int64 h3
  obtain ⟨_, _, rfl, h5, h6⟩ := h4.cons_inv; obtain ⟨o, rfl, _⟩ := Lf.ints h5
  cases h6.nil_inv
  refine pureAt0 plainN mixedN lawE_ok noL (k := 30) ((starts2_tree l n o).trans ?_) rfl
  by_cases hl : l.length ≤ 60
  · by_cases ho : o.length ≤ 60
    · have h1 : small l.length = true := by rw [small_iff]; omega
      have h2 : small o.length = true := by rw [small_iff]; omega
      have hw : IntKind.i64.wrap ((l.length : Int) + 1) = ((l.length + 1 : Nat) : Int) := by rw [wrap64 (by omega) (by omega)]; omega
      have hp := pick_range n (n := ((l.length + 1 : Nat) : Int)) (by omega)
      obtain ⟨p, hp2⟩ : ∃ p : Nat, pick n ((l.length + 1 : Nat) : Int) = p := ⟨(pick n ((l.length + 1 : Nat) : Int)).toNat, by omega⟩
      rw [hw, hp2]
      rw [hp2] at hp
      have hpl : p ≤ l.length := by omega
      have s1 : small (List.take p l).length = true := by rw [small_iff, List.length_take]; omega
      have s2 : small (List.take o.length l).length = true := by rw [small_iff, List.length_take]; omega
      have e0 : (List.take p l).length = p := by rw [List.length_take]; omega
      have e1 : (List.take l.length (List.take p l) = l) ↔ (p : Int) = l.length := by
        rw [List.take_take]
        constructor
        · intro h; have := congrArg List.length h; rw [List.length_take] at this; omega
        · intro h; rw [show min l.length p = l.length by omega, List.take_length]
      have q1 : decide ((-9223372036854775808 : Int) ≤ n) = true := by rw [decide_eq_true_eq]; exact wn.1
      have q2 : decide (n ≤ (9223372036854775807 : Int)) = true := by rw [decide_eq_true_eq]; exact wn.2
      have q3 : decide (((l.length + 1 : Nat) : Int) ≤ 9223372036854775807) = true := by rw [decide_eq_true_eq]; omega
      have q4 : decide ((0 : Int) ≤ (p : Int)) = true := by rw [decide_eq_true_eq]; omega
      have q5 : decide ((p : Int) ≤ (l.length : Int)) = true := by rw [decide_eq_true_eq]; omega
      have q6 : decide ((0 : Int) ≤ (o.length : Int)) = true := by rw [decide_eq_true_eq]; omega
      have e2 : (decide (List.take l.length (List.take p l) = l) == ((p : Int) == (l.length : Int))) = true := by
        by_cases hq : (p : Int) = l.length
        · simp [e1.2 hq, hq]
        · simp [mt e1.1 hq, hq]
      simp only [T.ev_ite, T.ev_ret, lpart, Int.toNat_natCast, h1, h2, s1, s2, e0, q1, q2, q3, q4, q5, q6, Bool.and_self, if_true, show decide ((l.length : Int) > 60) = false by (rw [decide_eq_false_iff_not]; omega), show decide ((o.length : Int) > 60) = false by (rw [decide_eq_false_iff_not]; omega), decide_true, Bool.not_true, Bool.false_eq_true, if_false, e2]
      have e2p : ((p : Int) = l.length ∧ List.take l.length (List.take p l) = l) ∨ (¬ (p : Int) = l.length ∧ ¬ List.take l.length (List.take p l) = l) := by
        by_cases hq : (p : Int) = l.length
        · exact .inl ⟨hq, e1.2 hq⟩
        · exact .inr ⟨hq, mt e1.1 hq⟩
      have s0 : small p = true := by rw [small_iff]; omega
      by_cases he : List.take o.length l = o
      · have hol : o.length ≤ l.length := by
          have := congrArg List.length he; rw [List.length_take] at this; omega
        have e3 : (List.take p o = List.take p l) ↔ p ≤ o.length := by
          constructor
          · intro h; have := congrArg List.length h; rw [List.length_take, List.length_take] at this; omega
          · intro h; rw [← he, List.take_take, show min p o.length = p by omega]
        have e4 : o.length < p → List.take o.length (List.take p l) = o := fun h => by rw [List.take_take, show min o.length p = o.length by omega, he]
        by_cases hpo : p ≤ o.length
        · rcases e2p with ⟨g1, g2⟩ | ⟨g1, g2⟩
          · obtain rfl : p = l.length := by omega
            simp [s0, g1, g2, he, e3.2 hpo, hpo, show ¬ ((l.length : Int) < o.length) by omega, show ((o.length : Int) ≤ l.length) by omega]
          · simp [s0, g1, g2, he, e3.2 hpo, hpo, show ¬ ((l.length : Int) < o.length) by omega, show ((o.length : Int) ≤ l.length) by omega]
        · rcases e2p with ⟨g1, g2⟩ | ⟨g1, g2⟩
          · obtain rfl : p = l.length := by omega
            have g5 : ¬ List.take l.length o = l := fun e => hpo (by have := congrArg List.length e; rw [List.length_take] at this; omega)
            simp [s0, g1, g2, he, e4 (by omega), hpo, g5, show ¬ ((l.length : Int) < o.length) by omega, show ((o.length : Int) ≤ l.length) by omega]
          · simp [s0, g1, g2, he, e4 (by omega), hpo, mt e3.1 hpo, show ¬ ((l.length : Int) < o.length) by omega, show ((o.length : Int) ≤ l.length) by omega]
      · by_cases hol : o.length ≤ l.length
        · rcases e2p with ⟨g1, g2⟩ | ⟨g1, g2⟩
          · obtain rfl : p = l.length := by omega
            simp [s0, g1, g2, he, show ¬ ((l.length : Int) < o.length) by omega, show ((o.length : Int) ≤ l.length) by omega]
          · simp [s0, g1, g2, he, show ¬ ((l.length : Int) < o.length) by omega, show ((o.length : Int) ≤ l.length) by omega]
        · rcases e2p with ⟨g1, g2⟩ | ⟨g1, g2⟩
          · obtain rfl : p = l.length := by omega
            simp [s0, g1, g2, he, show ((l.length : Int) < o.length) by omega]
          · simp [s0, g1, g2, he, show ((l.length : Int) < o.length) by omega]
    · simp [T.ev_ite, T.ev_ret, show (60 : Int) < o.length by omega]
  · simp [T.ev_ite, T.ev_ret, show (60 : Int) < l.length by omega]

theorem applies_all (xs : List CV) (h : ArsAll [.agg [i6, i6, .row .ints], .one i6, .one i6, .one i6] xs) : PureAt Try.prog 3 xs (.bool true) := by
  obtain ⟨_, _, rfl, h1, h2⟩ := h.cons_inv; obtain ⟨t, n, l, rfl, _⟩ := Ar.state h1
  obtain ⟨_, _, rfl, h3, h4⟩ := h2.cons_inv; obtain ⟨k, rfl, _⟩ := Lf.int64 h3
  obtain ⟨_, _, rfl, h5, h6⟩ := h4.cons_inv; obtain ⟨a, rfl, _⟩ := Lf.int64 h5
  obtain ⟨_, _, rfl, h7, h8⟩ := h6.cons_inv; obtain ⟨b, rfl, _⟩ := Lf.int64 h7
  cases h8.nil_inv
  refine pureAt0 plainN mixedN lawE0_ok noL (k := 30) ((applies_tree t n l k a b).trans ?_) rfl
  by_cases hl : l.length ≤ 60
  · have h1 : small l.length = true := by rw [small_iff]; omega
    have h2 : small (l.length + 1) = true := by rw [small_iff]; omega
    have h3 : small (l ++ [a]).length = true := by simpa using h2
    have h4 : roomB (l.length + [a].length) 8 = true := small_succ h2
    have h5 : ¬ (l.length : Int) > 60 := by omega
    have h0 : small 0 = true := rfl
    simp only [T.ev_ite, T.ev_ret, h1, h2, h3, h4, h5, decide_false, Bool.false_eq_true, if_false, if_true, Bool.and_self, beq_self_eq_true]
    by_cases c1 : t ≠ 4 ∨ checkN t n l ≠ 0
    · have e : fifoA t n l k a b = bad 12 := by unfold fifoA; rw [if_pos c1]
      rw [e]
      rcases c1 with c1 | c1
      · simp [bad, c1]
      · by_cases c0 : t = 4
        · simp [bad, c0 ▸ c1, c0]
        · simp [bad, c0]
    · have c1' : t = 4 ∧ checkN t n l = 0 := by simpa using c1
      obtain ⟨rfl, c0⟩ := c1'
      by_cases c2 : k < 10 ∨ 12 < k
      · have e : fifoA 4 n l k a b = bad 6 := by unfold fifoA; rw [if_neg c1, if_pos c2]
        rw [e]
        rcases c2 with c2 | c2
        · simp [bad, c0, c2]
        · simp [bad, c0, c2, show ¬ k < 10 by omega]
      · have c2' : ¬ k < 10 ∧ ¬ 12 < k := by omega
        by_cases c3 : b ≠ 0 ∨ (k ≠ 10 ∧ a ≠ 0)
        · have e : fifoA 4 n l k a b = bad 2 := by unfold fifoA; rw [if_neg c1, if_neg c2, if_pos c3]
          rw [e]
          by_cases hb : b = 0
          · obtain ⟨d1, d2⟩ : k ≠ 10 ∧ a ≠ 0 := by omega
            simp [bad, c0, c2', hb, d1, d2]
          · simp [bad, c0, c2', hb]
        · have hb : b = 0 := by omega
          have ha : k = 10 ∨ a = 0 := by omega
          by_cases k0 : k = 10
          · have e : fifoA 4 n l k a b = ⟨⟨4, 0, l ++ [a]⟩, ⟨0, 0⟩, 0⟩ := by unfold fifoA; rw [if_neg c1, if_neg c2, if_neg c3, if_pos k0]
            rw [e]
            simp [c0, hb, k0]
          · have ha0 : a = 0 := by omega
            by_cases k2 : k = 12
            · have e : fifoA 4 n l k a b = ⟨⟨4, 0, l⟩, ⟨2, l.length⟩, 0⟩ := by unfold fifoA; rw [if_neg c1, if_neg c2, if_neg c3, if_neg k0, if_pos k2]
              rw [e]
              simp [c0, hb, k2, ha0]
            · have k1 : k = 11 := by omega
              cases l with
              | nil =>
                have e : fifoA 4 n [] k a b = ⟨⟨4, 0, []⟩, ⟨1, 0⟩, 0⟩ := by unfold fifoA; rw [if_neg c1, if_neg c2, if_neg c3, if_neg k0, if_neg k2]
                rw [e]
                simp [c0, hb, k1, ha0]
              | cons x q =>
                have e : fifoA 4 n (x :: q) k a b = ⟨⟨4, 0, q⟩, ⟨2, x⟩, 0⟩ := by unfold fifoA; rw [if_neg c1, if_neg c2, if_neg c3, if_neg k0, if_neg k2]
                rw [e]
                have e1 : List.take (hi0 (x :: q).length none - lo0 (some (Int.toNat 1))) (List.drop (lo0 (some (Int.toNat 1))) (x :: q)) = q := by simp [hi0, lo0]
                have e2 : (decide ((0 : Int) ≤ 1) && decide ((1 : Int) ≤ ((hi0 (x :: q).length none : Nat) : Int))) = true := by
                  rw [Bool.and_eq_true]; exact ⟨by decide, by rw [decide_eq_true_eq]; show (1 : Int) ≤ ((q.length + 1 : Nat) : Int); omega⟩
                have e3 : (Int.toNat 0).blt (x :: q).length = true := by rw [Nat.blt_eq]; simp
                have e4 : (x :: q).getD (Int.toNat 0) RC.ints.zero = x := rfl
                have e5 : ((((x :: q).length : Nat) : Int) == 0) = false := by rw [beq_eq_false_iff_ne]; simp; omega
                have e6 : inRange 0 (x :: q).length = true := by rw [inRange_iff]; exact ⟨Int.le_refl _, by simp⟩
                have e7 : small q.length = true := by rw [small_iff]; simp at hl; omega
                have e8 : (small (hi0 (x :: q).length none - lo0 (some (Int.toNat 1))) && (lo0 (some (Int.toNat 1)) + (hi0 (x :: q).length none - lo0 (some (Int.toNat 1)))).ble (x :: q).length) = true := by
                  rw [Bool.and_eq_true]
                  refine ⟨by simpa [hi0, lo0] using e7, ?_⟩
                  rw [Nat.ble_eq]; simp [hi0, lo0]; omega
                simp only [e1, e2, e3, e4, e5, e6, e7, e8, c0, hb, k1, ha0]
                simp
  · simp [T.ev_ite, T.ev_ret, show (60 : Int) < l.length by omega]

end Go.Proofs.YtieebjdlmhggpaaD
