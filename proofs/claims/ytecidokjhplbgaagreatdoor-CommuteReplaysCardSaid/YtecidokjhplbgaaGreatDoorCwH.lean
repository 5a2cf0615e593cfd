/-
  Two operations one behind the other: legal, what they leave.
-/
import Derived.Test.YtecidokjhplbgaaGreatDoorCwAF
import Derived.Test.YtecidokjhplbgaaGreatDoorChRun
set_option linter.unusedVariables false
set_option linter.unusedSimpArgs false
namespace Go.Proofs.YtecidokjhplbgaaGreatDoorD
open Go Go.RowKit

theorem step_check {s : DState} {o : DOp} (h : (stepM s o).e = 0) : checkN s.type s.n s.l = 0 ∧ (stepM s o).s.type = s.type := by
  obtain ⟨t, n, l⟩ := s
  obtain ⟨k, a, b, r⟩ := o
  simp only [stepM, machA] at h ⊢
  by_cases h1 : t = 1
  · subst h1
    simp only [if_true, Ctr.ctrA] at h ⊢
    by_cases hc : checkN 1 n l = 0
    · refine ⟨hc, ?_⟩
      simp only [hc, ne_eq, not_true_eq_false, or_self, if_false] at h ⊢
      by_cases k1 : k = 1 <;> by_cases k2 : k = 2 <;> by_cases k3 : b = 0 <;> by_cases k4 : a = 0 <;> simp_all [bad]
    · simp [hc, bad] at h
  · by_cases h2 : t = 2
    · subst h2
      simp only [if_true, h1, if_false, Set.setA] at h ⊢
      by_cases hc : checkN 2 n l = 0
      · refine ⟨hc, ?_⟩
        simp only [hc, ne_eq, not_true_eq_false, or_self, if_false] at h ⊢
        by_cases k1 : k < 3 ∨ 6 < k
        · simp [k1, bad] at h
        · simp only [k1, if_false] at h ⊢
          by_cases k2 : ¬ b = 0 ∨ k = 6 ∧ ¬ a = 0
          · simp [k2, bad] at h
          · simp only [k2, if_false]
            by_cases k3 : k = 3 <;> by_cases k4 : k = 4 <;> by_cases k5 : k = 5 <;> simp [k3, k4, k5]
      · simp [hc, bad] at h
    · by_cases h3 : t = 3
      · subst h3
        simp only [if_true, h1, h2, if_false, Map.mapA] at h ⊢
        by_cases hc : checkN 3 n l = 0
        · refine ⟨hc, ?_⟩
          simp only [hc, ne_eq, not_true_eq_false, or_self, if_false] at h ⊢
          by_cases k1 : k < 7 ∨ 9 < k
          · simp [k1, bad] at h
          · simp only [k1, if_false] at h ⊢
            by_cases k2 : ¬ k = 7 ∧ ¬ b = 0
            · simp [k2, bad] at h
            · simp only [k2, if_false]
        · simp [hc, bad] at h
      · by_cases h4 : t = 4
        · subst h4
          simp only [if_true, h1, h2, h3, if_false, Fif.fifoA] at h ⊢
          by_cases hc : checkN 4 n l = 0
          · refine ⟨hc, ?_⟩
            simp only [hc, ne_eq, not_true_eq_false, or_self, if_false] at h ⊢
            by_cases k1 : k < 10 ∨ 12 < k
            · simp [k1, bad] at h
            · simp only [k1, if_false] at h ⊢
              by_cases k2 : ¬ b = 0 ∨ ¬ k = 10 ∧ ¬ a = 0
              · simp [k2, bad] at h
              · simp only [k2, if_false]
                by_cases k3 : k = 10 <;> by_cases k4 : k = 12 <;> cases l <;> simp [k3, k4]
          · simp [hc, bad] at h
        · by_cases h5 : t = 5
          · subst h5
            simp only [if_true, h1, h2, h3, h4, if_false, Esc.escA] at h ⊢
            by_cases hc : checkN 5 n l = 0
            · refine ⟨hc, ?_⟩
              simp only [hc, ne_eq, not_true_eq_false, or_self, if_false] at h ⊢
              by_cases k1 : k < 13 ∨ 15 < k
              · simp [k1, bad] at h
              · simp only [k1, if_false] at h ⊢
                by_cases k2 : b = 0
                · simp only [k2, not_true_eq_false, if_false] at h ⊢
                  by_cases k3 : k = 15
                  · by_cases k4 : a = 0
                    · simp [k3, k4]
                    · simp [k3, k4, bad] at h
                  · simp only [k3, if_false] at h ⊢
                    by_cases k4 : a < 0 ∨ cap62 < a
                    · simp [k4, bad] at h
                    · simp only [k4, if_false]
                      by_cases k5 : k = 13 <;> by_cases k6 : a ≤ cap62 - n <;> by_cases k7 : a ≤ n <;> simp [k5, k6, k7]
                · simp [k2, bad] at h
            · simp [hc, bad] at h
          · simp [h1, h2, h3, h4, h5, bad] at h
end Go.Proofs.YtecidokjhplbgaaGreatDoorD
