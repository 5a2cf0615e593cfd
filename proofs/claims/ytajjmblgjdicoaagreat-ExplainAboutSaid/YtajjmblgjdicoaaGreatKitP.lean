/-
  Shared small functions: a number picked.
-/
import Derived.Test.YtajjmblgjdicoaaGreatKitD
set_option linter.unusedVariables false
set_option linter.unusedSimpArgs false
namespace Go.Proofs.YtajjmblgjdicoaaGreatD
open Go Go.RowKit

set_option maxRecDepth 100000 in
theorem pick_tree (x n : Int) : (((tden Tryz.prog [] [] 30).call 0 37 [.int .i64 x, .int .i64 n] ⟨.nil, 0⟩).pure.cut
    (.ite (.all) (.ite (.ite (.all) (.all)) (.all)))).ev = T.ev (α := CV) (
     .ite (decide (n ≤ (0 : Int)))
      (.ret (.int .i64 (0)))
      (.ite (n != (0 : Int))
       (.ite (decide (x.tmod n < (0 : Int)))
        (.ret (.int .i64 (IntKind.i64.wrap (x.tmod n + n))))
        (.ret (.int .i64 (x.tmod n))))
       (.fail))) := by kernel_rfl

theorem pick_fn : PureFn Tryz.prog 37 pickG :=
  ⟨bodied_ex (by kernel_rfl), fun args d h => by
    unfold pickG at h
    split at h
    · rename_i x n
      obtain ⟨hc, h1⟩ := ev_when h
      cases ev_ret h1
      simp only [Bool.and_eq_true, decide_eq_true_eq] at hc
      refine pureAt0 plainN mixedN noE noL (k := 30) ((pick_tree x n).trans ?_) rfl
      simp only [T.ev_ite, T.ev_ret, T.ev_fail]
      by_cases h0 : n ≤ 0
      · simp [h0, pick]
      · have hn : 0 < n := by omega
        have e1 : x % n = if x.tmod n < 0 then x.tmod n + n else x.tmod n := by
          have := Int.tmod_eq_emod (a := x) (b := n)
          have q1 := Int.emod_nonneg x (b := n) (by omega)
          have q2 := Int.emod_lt_of_pos x hn
          have q3 : ((n.natAbs : Nat) : Int) = n := by omega
          by_cases hx : 0 ≤ x ∨ n ∣ x
          · rw [if_pos hx] at this
            rw [if_neg (by omega)]; omega
          · rw [if_neg hx, q3] at this
            rw [if_pos (by omega)]; omega
        have q1 := Int.emod_nonneg x (b := n) (by omega)
        have q2 := Int.emod_lt_of_pos x hn
        have hp : pick x n = if x.tmod n < 0 then x.tmod n + n else x.tmod n := by rw [pick, if_neg h0, e1]
        by_cases ht : x.tmod n < 0
        · rw [if_pos ht] at hp e1
          have w : IntKind.i64.wrap (x.tmod n + n) = x.tmod n + n := wrap64 (by omega) (by omega)
          simp [h0, ht, hp, w, show ¬ n = 0 by omega]
        · rw [if_neg ht] at hp
          simp [h0, ht, hp, show ¬ n = 0 by omega]
    · exact (ev_fail h).elim⟩

theorem pick_range (x : Int) {n : Int} (h : 0 < n) : 0 ≤ pick x n ∧ pick x n < n := by
  rw [pick, if_neg (by omega)]
  exact ⟨Int.emod_nonneg x (by omega), Int.emod_lt_of_pos x h⟩

end Go.Proofs.YtajjmblgjdicoaaGreatD
