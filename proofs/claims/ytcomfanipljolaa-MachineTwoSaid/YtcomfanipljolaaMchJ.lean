/-
  Chapter 11: the law MachineTotal, to all data.
-/
import Derived.Test.YtcomfanipljolaaMchH
import Derived.Test.YtcomfanipljolaaMchI
set_option linter.unusedVariables false
set_option linter.unusedSimpArgs false
namespace Go.Proofs.YtcomfanipljolaaD
open Go Go.RowKit

theorem Lf.int64 {x : CV} (h : (Ar.one i6).is x) : ∃ n, x = .int .i64 n ∧ w64 n := by
  obtain ⟨n, rfl, h1, h2⟩ := h
  exact ⟨n, rfl, h1, h2⟩
theorem Ar.state {x : CV} (h : (Ar.agg [i6, i6, .row .ints]).is x) : ∃ (t n : Int) (l : List Int), x = .agg #[.int .i64 t, .int .i64 n, .pl .ints l] ∧ w64 t ∧ w64 n ∧ wfInts l := by
  obtain ⟨xs, rfl, h⟩ := h
  obtain ⟨a, _, rfl, ha, h⟩ := h.int; obtain ⟨b, _, rfl, hb, h⟩ := h.int; obtain ⟨c, _, rfl, hc, h⟩ := h.row; cases h.nil_inv
  exact ⟨a, b, c, rfl, ha, hb, hc⟩
theorem Ar.ret {x : CV} (h : (Ar.agg [i6, i6]).is x) : ∃ (t n : Int), x = .agg #[.int .i64 t, .int .i64 n] ∧ w64 t ∧ w64 n := by
  obtain ⟨xs, rfl, h⟩ := h
  obtain ⟨a, _, rfl, ha, h⟩ := h.int; obtain ⟨b, _, rfl, hb, h⟩ := h.int; cases h.nil_inv
  exact ⟨a, b, rfl, ha, hb⟩
theorem inI64_w {a : Int} (h : w64 a) : Ctr.inI64 a = true := by
  rw [Ctr.inI64, Bool.and_eq_true, decide_eq_true_eq, decide_eq_true_eq]; exact h
theorem mayX_w {t w a b : Int} (h : w64 a) : w64 (mayX t w a b) := by
  have pc := pick_range a (n := 4611686018427387904) (by omega)
  have hb := lowBit_range b
  have h1 : (-9223372036854775808 : Int) ≤ a := h.1
  have h2 : a ≤ (9223372036854775807 : Int) := h.2
  unfold mayX
  split
  · exact ⟨by decide, by decide⟩
  · split
    · exact ⟨by show (-9223372036854775808 : Int) ≤ _; omega, by show _ ≤ (9223372036854775807 : Int); omega⟩
    · exact h
theorem mayY_w {t w b : Int} (h : w64 b) : w64 (mayY t w b) := by
  unfold mayY
  split
  · exact h
  · exact ⟨by decide, by decide⟩

set_option maxHeartbeats 4000000 in
theorem total_all (xs : List CV) (h : ArsAll [.agg [i6, i6, .row .ints], .one i6, .one i6, .one i6, .agg [i6, i6]] xs) : PureAt Try.prog 6 xs (.bool true) := by
  obtain ⟨_, _, rfl, h1, h2⟩ := h.cons_inv; obtain ⟨t, n, l, rfl, _⟩ := Ar.state h1
  obtain ⟨_, _, rfl, h3, h4⟩ := h2.cons_inv; obtain ⟨w, rfl, ww⟩ := Lf.int64 h3
  obtain ⟨_, _, rfl, h5, h6⟩ := h4.cons_inv; obtain ⟨a, rfl, wa⟩ := Lf.int64 h5
  obtain ⟨_, _, rfl, h7, h8⟩ := h6.cons_inv; obtain ⟨b, rfl, wb⟩ := Lf.int64 h7
  obtain ⟨_, _, rfl, h9, h10⟩ := h8.cons_inv; obtain ⟨rk, rn, rfl, _⟩ := Ar.ret h9
  cases h10.nil_inv
  refine pureAt0 plainN mixedN lawE_ok noL (k := 30) ((total_tree t n l w a b rk rn).trans ?_) rfl
  clear h h1 h2 h3 h4 h5 h6 h7 h8 h9 h10
  by_cases hl : l.length ≤ 60
  · have hs : small l.length = true := by rw [small_iff]; omega
    have hd : ¬ (60 : Int) < l.length := by omega
    by_cases hc : checkN t n l = 0
    · have ht := check_type hc
      have hok := may_ok t w a b ht
      have hty := may_type t w ht
      obtain ⟨e1, e2, e3, e4⟩ := mach_total hc hok
      have g1 := inI64_w ww
      have g2 := inI64_w wa
      have g3 : machB l (mayX t w a b) (mayY t w b) = true := by
        rw [machB, inI64_w (mayX_w wa), inI64_w (mayY_w wb), Set.midB, Bool.and_eq_true, Nat.ble_eq]
        exact ⟨by omega, rfl⟩
      generalize mayX t w a b = x at *
      generalize mayY t w b = y at *
      generalize mayK t w = k at *
      generalize machA t n l k x y = m at *
      have s1 : small m.s.l.length = true := by rw [small_iff]; omega
      rw [← e2] at e3
      have q1 : (m.r.kind == rk) = (rk == m.r.kind) := by rw [Bool.eq_iff_iff, beq_iff_eq, beq_iff_eq]; exact eq_comm
      have q2 : (m.r.n == rn) = (rn == m.r.n) := by rw [Bool.eq_iff_iff, beq_iff_eq, beq_iff_eq]; exact eq_comm
      simp only [T.ev_ite, T.ev_ret, hs, hd, hc, g1, g2, g3, hty, e1, e2, s1, legB, q1, q2]
      rw [e2] at e3
      simp [e3]
    · simp [T.ev_ite, T.ev_ret, hs, hd, hc]
  · simp [T.ev_ite, T.ev_ret, show (60 : Int) < l.length by omega]

end Go.Proofs.YtcomfanipljolaaD
