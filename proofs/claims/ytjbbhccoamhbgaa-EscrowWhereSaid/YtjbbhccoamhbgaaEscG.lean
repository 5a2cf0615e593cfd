/-
  Chapter 10: ranges, and numbers picked: contracts.
-/
import Derived.Test.YtjbbhccoamhbgaaEscF
set_option linter.unusedVariables false
set_option linter.unusedSimpArgs false
namespace Go.Proofs.YtjbbhccoamhbgaaD
open Go Go.RowKit

theorem pick_fn : PureFn Try.prog 23 pickG :=
  ⟨bodied_ex (by kernel_rfl), fun args d h => by
    unfold pickG at h
    split at h
    · rename_i x n
      obtain ⟨hc, h1⟩ := ev_when h
      cases ev_ret h1
      simp only [Bool.and_eq_true, decide_eq_true_eq] at hc
      refine pureAt0 plainN mixedN noE noL (k := 30) ((pick_tree x n).trans ?_) rfl
      simp only [T.ev_ite, T.ev_ret, T.ev_fail]
      by_cases h0 : n ≤ 0
      · simp [h0, pick]
      · have hn : 0 < n := by omega
        have e1 : x % n = if x.tmod n < 0 then x.tmod n + n else x.tmod n := by
          have := Int.tmod_eq_emod (a := x) (b := n)
          have q1 := Int.emod_nonneg x (b := n) (by omega)
          have q2 := Int.emod_lt_of_pos x hn
          have q3 : ((n.natAbs : Nat) : Int) = n := by omega
          by_cases hx : 0 ≤ x ∨ n ∣ x
          · rw [if_pos hx] at this
            rw [if_neg (by omega)]; omega
          · rw [if_neg hx, q3] at this
            rw [if_pos (by omega)]; omega
        have q1 := Int.emod_nonneg x (b := n) (by omega)
        have q2 := Int.emod_lt_of_pos x hn
        have hp : pick x n = if x.tmod n < 0 then x.tmod n + n else x.tmod n := by rw [pick, if_neg h0, e1]
        by_cases ht : x.tmod n < 0
        · rw [if_pos ht] at hp e1
          have w : IntKind.i64.wrap (x.tmod n + n) = x.tmod n + n := wrap64 (by omega) (by omega)
          simp [h0, ht, hp, w, show ¬ n = 0 by omega]
        · rw [if_neg ht] at hp
          simp [h0, ht, hp, show ¬ n = 0 by omega]
    · exact (ev_fail h).elim⟩

theorem room_fn : PureFn Try.prog 16 roomG :=
  ⟨bodied_ex (by kernel_rfl), fun args d h => by
    unfold roomG at h
    split at h
    · rename_i n
      cases ev_ret h
      refine pureAt0 plainN mixedN noE noL (k := 30) ((room_tree n).trans ?_) rfl
      simp only [T.ev_ite, T.ev_ret, T.ev_fail, roomA]
      have hcap : cap62 = 4611686018427387904 := rfl
      by_cases h1 : n < 0
      · simp [h1]
      · by_cases h2 : 4611686018427387904 < n
        · simp [h1, h2, hcap]
        · have w : IntKind.i64.wrap (4611686018427387904 - n) = 4611686018427387904 - n := wrap64 (by omega) (by omega)
          simp [h1, h2, hcap, w]
    · exact (ev_fail h).elim⟩

set_option maxHeartbeats 4000000 in
theorem range_fn : PureFn Try.prog 14 rangeG :=
  ⟨bodied_ex (by kernel_rfl), fun args d h => by
    unfold rangeG at h
    split at h
    · rename_i k a r
      obtain ⟨hc, h1⟩ := ev_when h
      cases ev_ret h1
      simp only [Bool.and_eq_true, inI64_iff, w64] at hc
      refine pureAtS plainN mixedN noE noL (k := 30) .any (range_tree k a r) ?_
      have hcap : cap62 = 4611686018427387904 := rfl
      simp only [sat_ite, sat_ret, sat_fail, decide_eq_true_eq, decide_eq_false_iff_not, beq_iff_eq, bne_iff_ne, beq_eq_false_iff_ne, bne_eq_false_iff_eq, Bool.not_eq_true', Bool.not_eq_false', true_implies, Bool.true_eq_false, false_implies, and_true, true_and, implies_true, reduceCtorEq, eq_self, not_true_eq_false]
      simp only [rangeA]
      repeat' (first | apply And.intro | intro _)
      all_goals first
        | omega
        | (simp (disch := omega) only [wrap64] at *; omega)
        | ((repeat' split) <;> first | exact ⟨rfl, rfl⟩ | omega | (simp (disch := omega) only [wrap64] at *; first | omega | (subst_vars; exact ⟨rfl, rfl⟩)))
    · exact (ev_fail h).elim⟩

theorem does_fn : PureFn Try.prog 18 doesG :=
  ⟨bodied_ex (by kernel_rfl), fun args d h => by
    unfold doesG at h
    split at h
    · rename_i n k a th r
      cases ev_ret h
      refine pureAt0 plainN mixedN escE_ok noL (k := 30) ((does_tree n k a th r).trans ?_) rfl
      simp only [T.ev_ite, T.ev_ret, T.ev_fail, escLen]
      unfold doesA
      generalize escA 5 n [] k a 0 = x
      by_cases h1 : x.e = 0 <;> by_cases h2 : x.s.type = 5 <;> by_cases h3 : x.s.n = th <;> by_cases h4 : x.r.kind = 2 <;> by_cases h5 : x.r.n = r <;> simp [h1, h2, h3, h4, h5, show small 0 = true from rfl]
    · exact (ev_fail h).elim⟩
theorem known_fn : PureFn Try.prog 5 trueG :=
  true_fn plainN mixedN noE noL (k := 30) (by kernel_rfl) (by kernel_rfl)
theorem pkE_ok (N : Nat) : ExtsOk Try.prog N pkE :=
  extsOk_cons (extOk_pure pick_fn) (extsOk_cons (extOk_pure range_fn) (extsOk_cons (extOk_pure room_fn) (extsOk_cons (extOk_pure known_fn) (extsOk_cons (extOk_pure does_fn) (escE_ok N)))))

end Go.Proofs.YtjbbhccoamhbgaaD
