/-
  Chapter 07: the law SetLists, to all data.
-/
import Derived.Test.YtdefopkieleojaaSetR
set_option linter.unusedVariables false
set_option linter.unusedSimpArgs false
namespace Go.Proofs.YtdefopkieleojaaD
open Go Go.RowKit

theorem Lf.int64 {x : CV} (h : (Ar.one i6).is x) : ∃ n, x = .int .i64 n ∧ w64 n := by
  obtain ⟨n, rfl, h1, h2⟩ := h
  exact ⟨n, rfl, h1, h2⟩
theorem Lf.ints {x : CV} (h : (Ar.one (.row .ints)).is x) : ∃ l : List Int, x = .pl .ints l ∧ wfInts l := by
  obtain ⟨l, rfl, h1⟩ := h
  exact ⟨l, rfl, h1⟩
theorem Ar.state {x : CV} (h : (Ar.agg [i6, i6, .row .ints]).is x) : ∃ (t n : Int) (l : List Int), x = .agg #[.int .i64 t, .int .i64 n, .pl .ints l] ∧ w64 t ∧ w64 n ∧ wfInts l := by
  obtain ⟨xs, rfl, h⟩ := h
  obtain ⟨a, _, rfl, ha, h⟩ := h.int; obtain ⟨b, _, rfl, hb, h⟩ := h.int; obtain ⟨c, _, rfl, hc, h⟩ := h.row; cases h.nil_inv
  exact ⟨a, b, c, rfl, ha, hb, hc⟩

theorem lists_all (xs : List CV) (h : ArsAll [.one (.row .ints), .one i6] xs) : PureAt Try.prog 4 xs (.bool true) := by
  obtain ⟨_, _, rfl, h1, h2⟩ := h.cons_inv; obtain ⟨l, rfl, _⟩ := Lf.ints h1
  obtain ⟨_, _, rfl, h3, h4⟩ := h2.cons_inv; obtain ⟨x, rfl, _⟩ := Lf.int64 h3
  cases h4.nil_inv
  refine pureAt0 plainN mixedN lawE_ok noL (k := 30) ((lists_tree l x).trans ?_) rfl
  by_cases hl : l.length ≤ 60
  · have hb : l.length.ble 1000000 = true := by rw [Nat.ble_eq]; omega
    have hr : riseB (grow [] l) = true := grow_rise l rfl
    have hg := grow_length l (o := []) rfl
    simp only [List.length_nil, Nat.zero_add] at hg
    generalize grow [] l = g at *
    have hm : midB g = true := by rw [midB, Nat.ble_eq]; omega
    have hs : small g.length = true := mid_small hm
    have hw := with_length x hr
    have sw : small (withN g x).length = true := by rw [small_iff]; split at hw <;> omega
    have hd : decide ((l.length : Int) > 60) = false := by rw [decide_eq_false_iff_not]; omega
    cases hh : hasN g x with
    | true =>
      have e1 := less_row hr hh
      have h1 := less_length g x
      have s1 : small (lessN g x).length = true := by rw [small_iff]; omega
      have h2 : (small (g.length - 1) && (0 + (g.length - 1)).ble (lessRow g (cntN g x)).length) = true := by
        have hlt := has_lt hr hh
        have hL : (lessRow g (cntN g x)).length = g.length := by simp only [lessRow, List.length_append, List.length_take, List.length_drop, List.length_cons, List.length_nil]; omega
        rw [hL, Bool.and_eq_true]
        exact ⟨by rw [small_iff]; omega, by rw [Nat.ble_eq]; omega⟩
      simp only [T.ev_ite, T.ev_ret, hd, hb, hs, hm, hr, hh, sw, e1, s1, h2, Bool.and_self, beq_self_eq_true, if_true, Bool.false_eq_true, if_false]
    | false =>
      have e1 := less_has hh
      simp only [T.ev_ite, T.ev_ret, hd, hb, hs, hm, hr, hh, sw, e1, Bool.and_self, beq_self_eq_true, if_true, Bool.false_eq_true, if_false]
  · simp [T.ev_ite, T.ev_ret, show (60 : Int) < l.length by omega]

end Go.Proofs.YtdefopkieleojaaD
