/-
  Chapter 11: the law MachineApplies, to all data.
-/
import Derived.Test.YtcomfanipljolaaMchO
import Derived.Test.YtcomfanipljolaaMchJ
set_option linter.unusedVariables false
set_option linter.unusedSimpArgs false
namespace Go.Proofs.YtcomfanipljolaaD
open Go Go.RowKit

theorem mach_len (t n : Int) (l : List Int) (k a b : Int) : (machA t n l k a b).s.l.length ≤ l.length + 2 := by
  unfold machA
  split
  · unfold Ctr.ctrA; repeat' split
    all_goals simp [bad]
  · split
    · unfold Set.setA
      split
      · simp [bad]
      · rename_i h
        have hc : checkN 2 n l = 0 := by
          rename_i h2; subst h2; simpa using h
        have hr := (Set.check2.1 hc).2
        have hw := Set.with_length a hr
        have hl := Set.less_length l a
        repeat' split
        all_goals first
          | (simp [bad]; done)
          | (simp only []; split at hw <;> omega)
          | (simp only []; omega)
    · split
      · unfold Map.mapA
        have l1 : (Map.setP (Map.dropP l a) a b).length ≤ l.length + 2 := by
          obtain ⟨m, hm⟩ := Map.dropP_even a l
          rw [Map.setP_same a b m _ hm]
          have h1 := Map.dropP_length l a
          have h2 := Map.rsP_le a (Map.dropP l a)
          simp only [List.length_append, List.length_take, List.length_drop, List.length_cons, List.length_nil]; omega
        have l2 := Map.dropP_length l a
        repeat' split
        all_goals first
          | (simp [bad]; done)
          | (simp only []; omega)
      · split
        · unfold Fif.fifoA
          have h1 : ∀ (c : Prop) [Decidable c] (x y : Ans), x.s.l.length ≤ l.length + 2 → y.s.l.length ≤ l.length + 2 → (if c then x else y).s.l.length ≤ l.length + 2 := fun c _ x y h1 h2 => by split <;> assumption
          refine h1 _ _ _ (by simp [bad]) (h1 _ _ _ (by simp [bad]) (h1 _ _ _ (by simp [bad]) (h1 _ _ _ (by simp) (h1 _ _ _ (by simp) ?_))))
          cases l
          · simp
          · simp; omega
        · split
          · unfold Esc.escA; repeat' split
            all_goals simp [bad]
          · simp [bad]
theorem Ar.op {x : CV} (h : (Ar.agg [i6, i6, i6, i6, i6]).is x) : ∃ (k a b r n : Int), x = .agg #[.int .i64 k, .int .i64 a, .int .i64 b, .int .i64 r, .int .i64 n] ∧ w64 k ∧ w64 a ∧ w64 b ∧ w64 r ∧ w64 n := by
  obtain ⟨xs, rfl, h⟩ := h
  obtain ⟨a, _, rfl, ha, h⟩ := h.int; obtain ⟨b, _, rfl, hb, h⟩ := h.int; obtain ⟨c, _, rfl, hc, h⟩ := h.int; obtain ⟨d, _, rfl, hd, h⟩ := h.int; obtain ⟨e, _, rfl, he, h⟩ := h.int; cases h.nil_inv
  exact ⟨a, b, c, d, e, rfl, ha, hb, hc, hd, he⟩

set_option maxHeartbeats 4000000 in
theorem appl_all (xs : List CV) (h : ArsAll [.agg [i6, i6, .row .ints], .agg [i6, i6, i6, i6, i6]] xs) : PureAt Try.prog 3 xs (.bool true) := by
  obtain ⟨_, _, rfl, h1, h2⟩ := h.cons_inv; obtain ⟨t, n, l, rfl, _⟩ := Ar.state h1
  obtain ⟨_, _, rfl, h3, h4⟩ := h2.cons_inv; obtain ⟨k, a, b, rk, rn, rfl, wk, wa, wb, _⟩ := Ar.op h3
  cases h4.nil_inv
  refine pureAt0 plainN mixedN lawN1_ok noL (k := 30) ((appl_tree t n l k a b rk rn).trans ?_) rfl
  clear h h1 h2 h3 h4
  by_cases hl : l.length ≤ 60
  · have hs : small l.length = true := by rw [small_iff]; omega
    have hd : ¬ (60 : Int) < l.length := by omega
    have g3 : machB l a b = true := by
      rw [machB, inI64_w wa, inI64_w wb, Set.midB, Bool.and_eq_true, Nat.ble_eq]
      exact ⟨by omega, rfl⟩
    have hm := mach_len t n l k a b
    generalize machA t n l k a b = m at *
    have s1 : small m.s.l.length = true := by rw [small_iff]; omega
    cases he : (m.e == 0) with
    | true => simp [T.ev_ite, T.ev_ret, hs, hd, g3, s1, legB, he]
    | false => simp [T.ev_ite, T.ev_ret, hs, hd, g3, s1, legB, he]
  · simp [T.ev_ite, T.ev_ret, show (60 : Int) < l.length by omega]

end Go.Proofs.YtcomfanipljolaaD
