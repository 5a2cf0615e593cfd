/-
  Chapter 07: the law SetHas, to all data.
-/
import Derived.Test.YtdefopkieleojaaSetY
import Derived.Test.YtdefopkieleojaaSetV
import Derived.Test.YtdefopkieleojaaSetS
set_option linter.unusedVariables false
set_option linter.unusedSimpArgs false
namespace Go.Proofs.YtdefopkieleojaaD
open Go Go.RowKit

theorem set_rem {s : List Int} (x : Int) (h : riseB s = true) : setA 2 0 s 4 x 0 = ⟨⟨2, 0, lessN s x⟩, ⟨2, if hasN s x then 1 else 0⟩, 0⟩ := by
  have hc : checkN 2 0 s = 0 := check2.2 ⟨rfl, h⟩
  unfold setA; simp [hc]
theorem set_is {s : List Int} (x : Int) (h : riseB s = true) : setA 2 0 s 5 x 0 = ⟨⟨2, 0, s⟩, ⟨2, if hasN s x then 1 else 0⟩, 0⟩ := by
  have hc : checkN 2 0 s = 0 := check2.2 ⟨rfl, h⟩
  unfold setA; simp [hc]
theorem set_size {s : List Int} (h : riseB s = true) : setA 2 0 s 6 0 0 = ⟨⟨2, 0, s⟩, ⟨2, s.length⟩, 0⟩ := by
  have hc : checkN 2 0 s = 0 := check2.2 ⟨rfl, h⟩
  unfold setA; simp [hc]

set_option maxHeartbeats 4000000 in
theorem has_all (xs : List CV) (h : ArsAll [.one (.row .ints), .one i6, .one i6, .one i6] xs) : PureAt Try.prog 6 xs (.bool true) := by
  obtain ⟨_, _, rfl, h1, h2⟩ := h.cons_inv; obtain ⟨l, rfl, _⟩ := Lf.ints h1
  obtain ⟨_, _, rfl, h3, h4⟩ := h2.cons_inv; obtain ⟨k, rfl, wk⟩ := Lf.int64 h3
  obtain ⟨_, _, rfl, h5, h6⟩ := h4.cons_inv; obtain ⟨x, rfl, _⟩ := Lf.int64 h5
  obtain ⟨_, _, rfl, h7, h8⟩ := h6.cons_inv; obtain ⟨o, rfl, _⟩ := Lf.int64 h7
  cases h8.nil_inv
  refine pureAt0 plainN mixedN lawE_ok noL (k := 30) ((has_tree l k x o).trans ?_) rfl
  clear h h1 h2 h3 h4 h5 h6 h7 h8
  by_cases hl : l.length ≤ 60
  · have hb : l.length.ble 1000000 = true := by rw [Nat.ble_eq]; omega
    have hr : riseB (grow [] l) = true := grow_rise l rfl
    have hg := grow_length l (o := []) rfl
    simp only [List.length_nil, Nat.zero_add] at hg
    generalize grow [] l = g at *
    have hm : midB g = true := by rw [midB, Nat.ble_eq]; omega
    have hs : small g.length = true := mid_small hm
    have hd : ¬ (60 : Int) < l.length := by omega
    have hw := with_length x hr
    have mw : midB (withN g x) = true := by rw [midB, Nat.ble_eq]; split at hw <;> omega
    have sw := mid_small mw
    have rw' := rise_with x hr
    have cw : checkN 2 0 (withN g x) = 0 := check2.2 ⟨rfl, rw'⟩
    have cg : checkN 2 0 g = 0 := check2.2 ⟨rfl, hr⟩
    have hll := less_length g x
    have ml : midB (lessN g x) = true := by rw [midB, Nat.ble_eq]; omega
    have sl := mid_small ml
    have rl := rise_less x hr
    have cl : checkN 2 0 (lessN g x) = 0 := check2.2 ⟨rfl, rl⟩
    have q1 : (-9223372036854775808 : Int) ≤ k := wk.1
    have q2 : k ≤ (9223372036854775807 : Int) := wk.2
    have hp := pick_range k (n := 4) (by omega)
    have hq : IntKind.i64.wrap (3 + pick k 4) = 3 + pick k 4 := wrap64 (by omega) (by omega)
    rw [hq]
    have e3 := set_ins x hr
    have e4 := set_rem x hr
    have e5 := set_is x hr
    have e6 := set_size hr
    have w1 := fun y => has_with x y hr
    have w2 := fun y => has_less g x y
    have hW : hasN g x = false → ¬ g = withN g x := fun hh he => by
      have := w1 x; rw [← he, hh] at this; simp at this
    have hW' : hasN g x = true → withN g x = g := fun hh => with_has hr hh
    have hL : hasN g x = true → ¬ g = lessN g x := fun hh he => by
      have := w2 x; rw [← he, hh] at this; simp at this
    have hL' : hasN g x = false → lessN g x = g := fun hh => less_has hh
    generalize withN g x = W at *
    generalize lessN g x = L at *
    have hp2 : 3 ≤ 3 + pick k 4 ∧ 3 + pick k 4 ≤ 6 := by omega
    generalize 3 + pick k 4 = p at *
    obtain rfl | rfl | rfl | rfl : p = 3 ∨ p = 4 ∨ p = 5 ∨ p = 6 := by omega
    · cases hh : hasN g x with
      | true =>
        have hW2 := hW' hh
        subst hW2
        by_cases hox : o = x <;> simp [T.ev_ite, T.ev_ret, hb, hs, hm, hr, hd, q1, q2, e3, cg, hh, hox]
      | false =>
        have hW2 := hW hh
        by_cases hox : o = x <;> simp [T.ev_ite, T.ev_ret, hb, hs, hm, hr, hd, q1, q2, e3, w1, cw, mw, sw, rw', hh, hox, hW2]
    · cases hh : hasN g x with
      | true =>
        have hW2 := hL hh
        by_cases hox : o = x <;> simp [T.ev_ite, T.ev_ret, hb, hs, hm, hr, hd, q1, q2, e4, w2, cl, ml, sl, rl, hh, hox, hW2]
      | false =>
        have hW2 := hL' hh
        subst hW2
        by_cases hox : o = x <;> simp [T.ev_ite, T.ev_ret, hb, hs, hm, hr, hd, q1, q2, e4, cg, hh, hox]
    · by_cases hox : o = x <;> cases hh : hasN g x <;> simp [T.ev_ite, T.ev_ret, hb, hs, hm, hr, hd, q1, q2, e5, cg, hh, hox]
    · by_cases hox : o = x <;> simp [T.ev_ite, T.ev_ret, hb, hs, hm, hr, hd, q1, q2, e6, cg, hox]
  · simp [T.ev_ite, T.ev_ret, show (60 : Int) < l.length by omega]

end Go.Proofs.YtdefopkieleojaaD
