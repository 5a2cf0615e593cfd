/-
  Chapter 18: where two commute: plain law, contracts, the law
-/
import Derived.Test.YtecidokjhplbgaaGreatDoorCmvAK
import Derived.Test.YtecidokjhplbgaaGreatDoorCwH
import Derived.Test.YtecidokjhplbgaaGreatDoorKitE
import Derived.Test.YtecidokjhplbgaaGreatDoorArG
set_option linter.unusedVariables false
set_option linter.unusedSimpArgs false
namespace Go.Proofs.YtecidokjhplbgaaGreatDoorD
open Go Go.RowKit

theorem opTy_of {k : Int} (h : 1 ≤ k ∧ k ≤ 15) : (opTy k = 1 ∧ k ≤ 2) ∨ (opTy k = 2 ∧ 3 ≤ k ∧ k ≤ 6) ∨ (opTy k = 3 ∧ 7 ≤ k ∧ k ≤ 9) ∨ (opTy k = 4 ∧ 10 ≤ k ∧ k ≤ 12) ∨ (opTy k = 5 ∧ 13 ≤ k ∧ k ≤ 15) := by
  obtain ⟨_, f⟩ := five h
  simp only [decide_eq_true_eq, decide_eq_false_iff_not] at f
  omega
theorem opF {o : DOp} (h : opC o = 0) : OpF o.kind o.a o.b o.ret.kind o.ret.n := opChk_facts h
theorem cmOps_sym {p q : DOp} (hp : opC p = 0) (hq : opC q = 0) : cmOpsB p q = cmOpsB q p := by
  have fp := opF hp
  have fq := opF hq
  obtain ⟨k, a, b, ⟨rk, rn⟩⟩ := p
  obtain ⟨k', a', b', ⟨rk', rn'⟩⟩ := q
  simp only at fp fq
  unfold cmOpsB
  simp only
  by_cases ht : opTy k = opTy k'
  · rw [if_neg (not_not_intro ht), if_neg (show ¬ (opTy k' ≠ opTy k) from not_not_intro ht.symm), ht]
    by_cases t1 : opTy k' = 1
    · rw [if_pos t1, if_pos t1]
      simp only [cmCtrB, decide_eq_decide]
      constructor <;> (intro h; omega)
    rw [if_neg t1, if_neg t1]
    by_cases t2 : opTy k' = 2
    · rw [if_pos t2, if_pos t2]
      have kk := opTy_of (k := k) (opC_kind hp)
      have kk' := opTy_of (k := k') (opC_kind hq)
      have s1 := stillB_set (k := k) (a := a) (b := b) (rk := rk) (rn := rn) (by omega) (fun h => by unfold OpF at fp; omega)
      have s2 := stillB_set (k := k') (a := a') (b := b') (rk := rk') (rn := rn') (by omega) (fun h => by unfold OpF at fq; omega)
      unfold cmSetB
      rw [s1, s2]
      by_cases c1 : k = 6 ∨ k' = 6
      · rw [if_pos c1, if_pos (show k' = 6 ∨ k = 6 from c1.symm), Bool.and_comm]
      · rw [if_neg c1, if_neg (show ¬ (k' = 6 ∨ k = 6) from fun h => c1 h.symm)]
        by_cases c2 : a = a'
        · rw [if_neg (show ¬ (a ≠ a') from not_not_intro c2), if_neg (show ¬ (a' ≠ a) from not_not_intro c2.symm)]
          by_cases c3 : k = k' ∧ rk = rk' ∧ rn = rn'
          · obtain ⟨rfl, rfl, rfl⟩ := c3; rfl
          · rw [decide_eq_false c3, decide_eq_false (fun h => c3 ⟨h.1.symm, h.2.1.symm, h.2.2.symm⟩), Bool.and_false, Bool.and_false, Bool.and_comm]
        · rw [if_pos (show a ≠ a' from c2), if_pos (show a' ≠ a from Ne.symm c2)]
    rw [if_neg t2, if_neg t2]
    by_cases t3 : opTy k' = 3
    · rw [if_pos t3, if_pos t3]
      simp only [cmMapB, decide_eq_decide]
      generalize leftK k rk = x1
      generalize leftN k b rn = x2
      generalize leftK k' rk' = y1
      generalize leftN k' b' rn' = y2
      constructor <;> (intro h; omega)
    rw [if_neg t3, if_neg t3]
    by_cases t4 : opTy k' = 4
    · rw [if_pos t4, if_pos t4]
      unfold cmQueB
      generalize stillB k a b rk rn = x
      generalize stillB k' a' b' rk' rn' = y
      rw [Bool.and_comm y x]
      by_cases c0 : (x && y) = true
      · rw [if_pos c0, if_pos c0]
      rw [if_neg c0, if_neg c0]
      by_cases c1 : k = 10 ∧ k' = 10
      · rw [if_pos c1, if_pos (show k' = 10 ∧ k = 10 from c1.symm), decide_eq_decide]; exact eq_comm
      rw [if_neg c1, if_neg (show ¬ (k' = 10 ∧ k = 10) from fun h => c1 h.symm)]
      by_cases c2 : (k = 11 ∧ rk = 2) ∧ (k' = 11 ∧ rk' = 2)
      · rw [if_pos c2, if_pos (show (k' = 11 ∧ rk' = 2) ∧ (k = 11 ∧ rk = 2) from c2.symm), decide_eq_decide]; constructor <;> (intro h; omega)
      rw [if_neg c2, if_neg (show ¬ ((k' = 11 ∧ rk' = 2) ∧ (k = 11 ∧ rk = 2)) from fun h => c2 h.symm)]
      by_cases c3 : k = 10 ∧ k' = 11 ∧ rk' = 2
      · rw [if_pos c3, if_neg (show ¬ (k' = 10 ∧ k = 11 ∧ rk = 2) by omega), if_pos c3]
      · rw [if_neg c3]
        by_cases c4 : k' = 10 ∧ k = 11 ∧ rk = 2
        · rw [if_pos c4, if_pos c4]
        · rw [if_neg c4, if_neg c4, if_neg c3]
    · rw [if_neg t4, if_neg t4]
      simp only [cmAccB, decide_eq_decide]
      constructor <;> (rintro ⟨h1, h2, h3⟩; exact ⟨h1.symm, h2.symm, h3.symm⟩)
  · rw [if_pos ht, if_pos (show opTy k' ≠ opTy k from Ne.symm ht)]
theorem cmIs_sym (p q : DOp) : cmIs p q = cmIs q p := by
  unfold cmIs
  by_cases hp : opC p = 0
  · by_cases hq : opC q = 0
    · rw [if_neg (by simp [hp, hq]), if_neg (by simp [hp, hq]), cmOps_sym hp hq]
    · rw [if_pos (.inr hq), if_pos (.inl hq)]
  · rw [if_pos (.inl hp), if_pos (.inr hp)]

theorem step_ok {s : DState} {o : DOp} (hs : checkN s.type s.n s.l = 0) (ho : opC o = 0) (ht : opTy o.kind = s.type) : (stepM s o).e = 0 := by
  have f := opF ho
  have kk := opTy_of (opC_kind ho)
  obtain ⟨k, a, b, ⟨rk, rn⟩⟩ := o
  obtain ⟨t, n, l⟩ := s
  simp only at hs ht f kk
  unfold OpF at f
  have hcap : cap62 = 4611686018427387904 := rfl
  unfold stepM machA
  simp only
  obtain rfl | rfl | rfl | rfl | rfl : t = 1 ∨ t = 2 ∨ t = 3 ∨ t = 4 ∨ t = 5 := by omega
  · rw [if_pos rfl]; unfold Ctr.ctrA; rw [if_neg (by simp [hs])]
    by_cases h1 : k = 1
    · rw [if_pos h1, if_pos (by omega)]
    · rw [if_neg h1, if_pos (by omega), if_pos (by omega)]
  · rw [if_neg (by decide), if_pos rfl]; unfold Set.setA; rw [if_neg (by simp [hs]), if_neg (by omega), if_neg (by omega)]
    split
    · rfl
    · split
      · rfl
      · split <;> rfl
  · rw [if_neg (by decide), if_neg (by decide), if_pos rfl]; unfold Map.mapA; rw [if_neg (by simp [hs]), if_neg (by omega), if_neg (by omega)]
  · rw [if_neg (by decide), if_neg (by decide), if_neg (by decide), if_pos rfl]; unfold Fif.fifoA; rw [if_neg (by simp [hs]), if_neg (by omega), if_neg (by omega)]
    split
    · rfl
    · split
      · rfl
      · split <;> rfl
  · rw [if_neg (by decide), if_neg (by decide), if_neg (by decide), if_neg (by decide), if_pos rfl]; unfold Esc.escA; rw [if_neg (by simp [hs]), if_neg (by omega), if_neg (by omega)]
    split
    · rw [if_pos (by omega)]
    · rw [if_neg (by omega)]
      split
      · split <;> rfl
      · split <;> rfl

theorem two_comm {s : DState} {p q : DOp} (hn : w64 s.n) (hp : opC p = 0) (hq : opC q = 0) (hc : cmOpsB p q = true) : twoS s p q = twoS s q p := by
  by_cases hs : checkN s.type s.n s.l = 0
  · by_cases tp : opTy p.kind = s.type
    · by_cases tq : opTy q.kind = s.type
      · exact commute_two hs hn hp hq hc (step_ok hs hp tp) (step_ok hs hq tq)
      · have n1 : ∀ u : DState, u.type = s.type → legS u q = none := fun u hu => if_neg fun h => tq (by rw [step_kind h.1, hu])
        unfold twoS
        rw [n1 s rfl, Option.bind_none]
        cases h : legS s p with
        | none => rfl
        | some u =>
          rw [Option.bind_some]
          refine n1 u ?_
          unfold legS at h
          split at h
          · rename_i h1; cases h; exact (step_check h1.1).2
          · cases h
    · have n1 : ∀ u : DState, u.type = s.type → legS u p = none := fun u hu => if_neg fun h => tp (by rw [step_kind h.1, hu])
      unfold twoS
      rw [n1 s rfl, Option.bind_none]
      cases h : legS s q with
      | none => rfl
      | some u =>
        rw [Option.bind_some]
        refine (n1 u ?_).symm
        unfold legS at h
        split at h
        · rename_i h1; cases h; exact (step_check h1.1).2
        · cases h
  · have n1 : ∀ o : DOp, legS s o = none := fun o => if_neg fun h => hs (step_check h.1).1
    unfold twoS
    rw [n1, n1]; rfl
end Go.Proofs.YtecidokjhplbgaaGreatDoorD
