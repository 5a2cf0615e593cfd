/-
  Chapter 06: the law CounterApplies, to all data.
-/
import Derived.Test.YtkdjllolnlndkaaCtrC
import Derived.Test.YtkdjllolnlndkaaClose
set_option linter.unusedVariables false
set_option linter.unusedSimpArgs false
namespace Go.Proofs.YtkdjllolnlndkaaD
open Go Go.RowKit

set_option maxRecDepth 100000 in
theorem applies_tree (t n : Int) (l : List Int) (k a b : Int) : (((tden Try.prog lawE [] 30).call 0 3 [.agg #[.int .i64 t, .int .i64 n, .pl .ints l], .int .i64 k, .int .i64 a, .int .i64 b] ⟨.nil, 0⟩).pure.cut
    (.ite (.all) (.ite (.ite (.yes (.ite (.ite (.yes (.yes (.ite (.yes (.yes (.yes (.yes (.yes (.yes (.ite (.all) (.no (.all))))))))) (.no (.no (.no (.no (.no (.no (.no (.no (.no (.all))))))))))))) (.no (.no (.no (.no (.no (.no (.no (.no (.no (.no (.no (.no (.no (.all))))))))))))))) (.all))) (.all)) (.all)))).ev = T.ev (α := CV) (
     .ite (decide ((↑l.length : Int) > (100 : Int)))
      (.ret (.bool true))
      (.ite (small l.length)
       (.ite (small l.length && (inI64 a && inI64 b))
        (.ite (small l.length && (inI64 a && inI64 b))
         (.ite (small (ctrA t n l k a b).s.l.length)
          (.ite ((ctrA t n l k a b).s.type == (ctrA t n l k a b).s.type && (ctrA t n l k a b).s.n == (ctrA t n l k a b).s.n && (ctrA t n l k a b).s.l == (ctrA t n l k a b).s.l)
           (.ite ((ctrA t n l k a b).r.kind == (ctrA t n l k a b).r.kind && ((ctrA t n l k a b).r.n == (ctrA t n l k a b).r.n && true))
            (.ite ((ctrA t n l k a b).e == (ctrA t n l k a b).e)
             (.ite (small l.length)
              (.ite (t == t && n == n && l == l)
               (.ret (.bool true))
               (.ret (.bool false)))
              .fail)
             .fail)
            (.ret (.bool false)))
           (.ret (.bool false)))
          (.fail))
         .fail)
        (.fail))
       (.fail))) := by kernel_rfl

theorem IsAll.int1 {xs : List CV} (h : IsAll [i6] xs) : ∃ n, xs = [.int .i64 n] ∧ w64 n := by
  obtain ⟨n, ys, rfl, h1, h2⟩ := h.int
  cases h2.nil_inv
  exact ⟨n, rfl, h1⟩
theorem Lf.int64 {x : CV} (h : (Ar.one i6).is x) : ∃ n, x = .int .i64 n ∧ w64 n := by
  obtain ⟨n, rfl, h1, h2⟩ := h
  exact ⟨n, rfl, h1, h2⟩
theorem Ar.state {x : CV} (h : (Ar.agg [i6, i6, .row .ints]).is x) : ∃ (t n : Int) (l : List Int), x = .agg #[.int .i64 t, .int .i64 n, .pl .ints l] ∧ w64 t ∧ w64 n ∧ wfInts l := by
  obtain ⟨xs, rfl, h⟩ := h
  obtain ⟨a, _, rfl, ha, h⟩ := h.int; obtain ⟨b, _, rfl, hb, h⟩ := h.int; obtain ⟨c, _, rfl, hc, h⟩ := h.row; cases h.nil_inv
  exact ⟨a, b, c, rfl, ha, hb, hc⟩

theorem ctrLen (t n : Int) (l : List Int) (k a b : Int) : (ctrA t n l k a b).s.l = [] := by
  unfold ctrA bad
  repeat' split
  all_goals rfl

theorem applies_all (xs : List CV) (h : ArsAll [.agg [i6, i6, .row .ints], .one i6, .one i6, .one i6] xs) : PureAt Try.prog 3 xs (.bool true) := by
  obtain ⟨_, _, rfl, h1, h2⟩ := h.cons_inv; obtain ⟨t, n, l, rfl, _⟩ := Ar.state h1
  obtain ⟨_, _, rfl, h3, h4⟩ := h2.cons_inv; obtain ⟨k, rfl, _⟩ := Lf.int64 h3
  obtain ⟨_, _, rfl, h5, h6⟩ := h4.cons_inv; obtain ⟨a, rfl, wa⟩ := Lf.int64 h5
  obtain ⟨_, _, rfl, h7, h8⟩ := h6.cons_inv; obtain ⟨b, rfl, wb⟩ := Lf.int64 h7
  cases h8.nil_inv
  refine pureAt0 plainN mixedN lawE_ok noL (k := 30) ((applies_tree t n l k a b).trans ?_) rfl
  simp only [T.ev_ite, T.ev_ret, T.ev_fail, ctrLen, inI64_iff.2 wa, inI64_iff.2 wb, Bool.and_true]
  by_cases hl : l.length ≤ 100
  · have h1 : small l.length = true := by rw [small_iff]; omega
    have h2 : small ([] : List Int).length = true := rfl
    simp [h1, hl, show small 0 = true from rfl, show ¬ (100 : Int) < l.length by omega]
  · simp [show (100 : Int) < l.length by omega]

end Go.Proofs.YtkdjllolnlndkaaD
