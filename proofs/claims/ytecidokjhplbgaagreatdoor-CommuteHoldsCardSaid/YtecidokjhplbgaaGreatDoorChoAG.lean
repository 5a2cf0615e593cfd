/-
  Chapter 18: where two commute: plain law, contracts, the law
-/
import Derived.Test.YtecidokjhplbgaaGreatDoorCmvAK
import Derived.Test.YtecidokjhplbgaaGreatDoorCwH
import Derived.Test.YtecidokjhplbgaaGreatDoorKitE
import Derived.Test.YtecidokjhplbgaaGreatDoorArG
set_option linter.unusedVariables false
set_option linter.unusedSimpArgs false
namespace Go.Proofs.YtecidokjhplbgaaGreatDoorD
open Go Go.RowKit

/- ChoA -/
theorem opTy_of {k : Int} (h : 1 ≤ k ∧ k ≤ 15) : (opTy k = 1 ∧ k ≤ 2) ∨ (opTy k = 2 ∧ 3 ≤ k ∧ k ≤ 6) ∨ (opTy k = 3 ∧ 7 ≤ k ∧ k ≤ 9) ∨ (opTy k = 4 ∧ 10 ≤ k ∧ k ≤ 12) ∨ (opTy k = 5 ∧ 13 ≤ k ∧ k ≤ 15) := by
  obtain ⟨_, f⟩ := five h
  simp only [decide_eq_true_eq, decide_eq_false_iff_not] at f
  omega
theorem opF {o : DOp} (h : opC o = 0) : OpF o.kind o.a o.b o.ret.kind o.ret.n := opChk_facts h
theorem cmOps_sym {p q : DOp} (hp : opC p = 0) (hq : opC q = 0) : cmOpsB p q = cmOpsB q p := by
  have fp := opF hp
  have fq := opF hq
  obtain ⟨k, a, b, ⟨rk, rn⟩⟩ := p
  obtain ⟨k', a', b', ⟨rk', rn'⟩⟩ := q
  simp only at fp fq
  unfold cmOpsB
  simp only
  by_cases ht : opTy k = opTy k'
  · rw [if_neg (not_not_intro ht), if_neg (show ¬ (opTy k' ≠ opTy k) from not_not_intro ht.symm), ht]
    by_cases t1 : opTy k' = 1
    · rw [if_pos t1, if_pos t1]
      simp only [cmCtrB, decide_eq_decide]
      constructor <;> (intro h; omega)
    rw [if_neg t1, if_neg t1]
    by_cases t2 : opTy k' = 2
    · rw [if_pos t2, if_pos t2]
      have kk := opTy_of (k := k) (opC_kind hp)
      have kk' := opTy_of (k := k') (opC_kind hq)
      have s1 := stillB_set (k := k) (a := a) (b := b) (rk := rk) (rn := rn) (by omega) (fun h => by unfold OpF at fp; omega)
      have s2 := stillB_set (k := k') (a := a') (b := b') (rk := rk') (rn := rn') (by omega) (fun h => by unfold OpF at fq; omega)
      unfold cmSetB
      rw [s1, s2]
      by_cases c1 : k = 6 ∨ k' = 6
      · rw [if_pos c1, if_pos (show k' = 6 ∨ k = 6 from c1.symm), Bool.and_comm]
      · rw [if_neg c1, if_neg (show ¬ (k' = 6 ∨ k = 6) from fun h => c1 h.symm)]
        by_cases c2 : a = a'
        · rw [if_neg (show ¬ (a ≠ a') from not_not_intro c2), if_neg (show ¬ (a' ≠ a) from not_not_intro c2.symm)]
          by_cases c3 : k = k' ∧ rk = rk' ∧ rn = rn'
          · obtain ⟨rfl, rfl, rfl⟩ := c3; rfl
          · rw [decide_eq_false c3, decide_eq_false (fun h => c3 ⟨h.1.symm, h.2.1.symm, h.2.2.symm⟩), Bool.and_false, Bool.and_false, Bool.and_comm]
        · rw [if_pos (show a ≠ a' from c2), if_pos (show a' ≠ a from Ne.symm c2)]
    rw [if_neg t2, if_neg t2]
    by_cases t3 : opTy k' = 3
    · rw [if_pos t3, if_pos t3]
      simp only [cmMapB, decide_eq_decide]
      generalize leftK k rk = x1
      generalize leftN k b rn = x2
      generalize leftK k' rk' = y1
      generalize leftN k' b' rn' = y2
      constructor <;> (intro h; omega)
    rw [if_neg t3, if_neg t3]
    by_cases t4 : opTy k' = 4
    · rw [if_pos t4, if_pos t4]
      unfold cmQueB
      generalize stillB k a b rk rn = x
      generalize stillB k' a' b' rk' rn' = y
      rw [Bool.and_comm y x]
      by_cases c0 : (x && y) = true
      · rw [if_pos c0, if_pos c0]
      rw [if_neg c0, if_neg c0]
      by_cases c1 : k = 10 ∧ k' = 10
      · rw [if_pos c1, if_pos (show k' = 10 ∧ k = 10 from c1.symm), decide_eq_decide]; exact eq_comm
      rw [if_neg c1, if_neg (show ¬ (k' = 10 ∧ k = 10) from fun h => c1 h.symm)]
      by_cases c2 : (k = 11 ∧ rk = 2) ∧ (k' = 11 ∧ rk' = 2)
      · rw [if_pos c2, if_pos (show (k' = 11 ∧ rk' = 2) ∧ (k = 11 ∧ rk = 2) from c2.symm), decide_eq_decide]; constructor <;> (intro h; omega)
      rw [if_neg c2, if_neg (show ¬ ((k' = 11 ∧ rk' = 2) ∧ (k = 11 ∧ rk = 2)) from fun h => c2 h.symm)]
      by_cases c3 : k = 10 ∧ k' = 11 ∧ rk' = 2
      · rw [if_pos c3, if_neg (show ¬ (k' = 10 ∧ k = 11 ∧ rk = 2) by omega), if_pos c3]
      · rw [if_neg c3]
        by_cases c4 : k' = 10 ∧ k = 11 ∧ rk = 2
        · rw [if_pos c4, if_pos c4]
        · rw [if_neg c4, if_neg c4, if_neg c3]
    · rw [if_neg t4, if_neg t4]
      simp only [cmAccB, decide_eq_decide]
      constructor <;> (rintro ⟨h1, h2, h3⟩; exact ⟨h1.symm, h2.symm, h3.symm⟩)
  · rw [if_pos ht, if_pos (show opTy k' ≠ opTy k from Ne.symm ht)]
theorem cmIs_sym (p q : DOp) : cmIs p q = cmIs q p := by
  unfold cmIs
  by_cases hp : opC p = 0
  · by_cases hq : opC q = 0
    · rw [if_neg (by simp [hp, hq]), if_neg (by simp [hp, hq]), cmOps_sym hp hq]
    · rw [if_pos (.inr hq), if_pos (.inl hq)]
  · rw [if_pos (.inl hp), if_pos (.inr hp)]

/-- An operation that may be can be applied to each state of its type. -/
theorem step_ok {s : DState} {o : DOp} (hs : checkN s.type s.n s.l = 0) (ho : opC o = 0) (ht : opTy o.kind = s.type) : (stepM s o).e = 0 := by
  have f := opF ho
  have kk := opTy_of (opC_kind ho)
  obtain ⟨k, a, b, ⟨rk, rn⟩⟩ := o
  obtain ⟨t, n, l⟩ := s
  simp only at hs ht f kk
  unfold OpF at f
  have hcap : cap62 = 4611686018427387904 := rfl
  unfold stepM machA
  simp only
  obtain rfl | rfl | rfl | rfl | rfl : t = 1 ∨ t = 2 ∨ t = 3 ∨ t = 4 ∨ t = 5 := by omega
  · rw [if_pos rfl]; unfold Ctr.ctrA; rw [if_neg (by simp [hs])]
    by_cases h1 : k = 1
    · rw [if_pos h1, if_pos (by omega)]
    · rw [if_neg h1, if_pos (by omega), if_pos (by omega)]
  · rw [if_neg (by decide), if_pos rfl]; unfold Set.setA; rw [if_neg (by simp [hs]), if_neg (by omega), if_neg (by omega)]
    split
    · rfl
    · split
      · rfl
      · split <;> rfl
  · rw [if_neg (by decide), if_neg (by decide), if_pos rfl]; unfold Map.mapA; rw [if_neg (by simp [hs]), if_neg (by omega), if_neg (by omega)]
  · rw [if_neg (by decide), if_neg (by decide), if_neg (by decide), if_pos rfl]; unfold Fif.fifoA; rw [if_neg (by simp [hs]), if_neg (by omega), if_neg (by omega)]
    split
    · rfl
    · split
      · rfl
      · split <;> rfl
  · rw [if_neg (by decide), if_neg (by decide), if_neg (by decide), if_neg (by decide), if_pos rfl]; unfold Esc.escA; rw [if_neg (by simp [hs]), if_neg (by omega), if_neg (by omega)]
    split
    · rw [if_pos (by omega)]
    · rw [if_neg (by omega)]
      split
      · split <;> rfl
      · split <;> rfl

/-- What changes nothing leaves a state as it was. -/
theorem still_same {s : DState} {o : DOp} (hn : w64 s.n) (ho : opC o = 0) (e : (stepM s o).e = 0) (hst : stillB o.kind o.a o.b o.ret.kind o.ret.n = true) : ∀ t, legS s o = some t → t = s := by
  have kp := step_kind e
  have hs := (step_check e).1
  have fo := opF ho
  obtain ⟨t, n, l⟩ := s
  simp only at hs kp hn
  have kk := opTy_of (opC_kind ho)
  intro u hu
  obtain rfl | rfl | rfl | rfl | rfl : t = 1 ∨ t = 2 ∨ t = 3 ∨ t = 4 ∨ t = 5 := by omega
  · have hl : l = [] := by
      by_cases h : l = []
      · exact h
      · simp [checkN, h] at hs
    subst hl
    rcases ctr_leg e with ⟨h1, h2⟩ | ⟨h1, h2⟩
    · rw [h2] at hu
      split at hu
      · cases hu
        have ha : o.a = 0 := by simpa [stillB, h1] using hst
        rw [ha, add64_zero hn]
      · cases hu
    · rw [h2] at hu
      split at hu <;> cases hu
      rfl
  · obtain ⟨rfl, hl⟩ := Set.check2.1 hs
    obtain ⟨_, lp⟩ := set_leg hl e
    rcases lp with ⟨h1, h2, h3⟩ | ⟨h1, h3⟩
    · rw [h3 l hl] at hu; split at hu <;> cases hu; rfl
    · rw [h3 l hl] at hu
      split at hu
      · rename_i hr
        cases hu
        have hrn : o.ret.n = setRn o.kind (Set.hasN l o.a) := by rw [hr]
        rcases h1 with h1 | h1 | h1
        · simp [h1, stillB] at hst
          simp only [h1, setRn, setNl, if_true] at hrn ⊢
          cases hh : Set.hasN l o.a with
          | true => rw [Set.with_has hl hh]
          | false => rw [hh] at hrn; simp at hrn; omega
        · simp [h1, stillB] at hst
          simp only [h1, setRn, setNl, if_true, show ¬ ((4 : Int) = 3) by decide, if_false] at hrn ⊢
          cases hh : Set.hasN l o.a with
          | false => rw [Set.less_has hh]
          | true => rw [hh] at hrn; simp at hrn; omega
        · simp [h1, setNl]
      · cases hu
  · have h0 : n = 0 := by
      by_cases h : n = 0
      · exact h
      · simp [checkN, h] at hs
    subst h0
    have hl := (Map.check3 l).1 hs
    obtain ⟨hk, hleg⟩ := map_leg hl e
    rw [hleg l hl] at hu
    split at hu
    · rename_i hr
      cases hu
      have : mapNl o.kind l o.a o.b = l := by
        refine map_ext (mapNl_sb hl) hl fun y => ?_
        rw [mapNl_look hl]
        by_cases hy : y = o.a
        · rw [if_pos hy, hy]
          rcases hk with h7 | ⟨h8 | h9, _⟩
          · rw [if_pos h7]
            simp [stillB, h7] at hst
            have : fromO (Map.look l o.a) = fromO (some o.b) := by
              rw [hr, show o.ret = ⟨o.ret.kind, o.ret.n⟩ from rfl, hst.1, hst.2]; rfl
            exact (fromO_inj this).symm
          · rw [if_neg (by omega), if_pos h8]
          · rw [if_neg (by omega), if_neg (by omega)]
            simp [stillB, h9] at hst
            have : fromO (Map.look l o.a) = fromO none := by
              rw [hr, show o.ret = ⟨o.ret.kind, o.ret.n⟩ from rfl, hst.1, hst.2]; rfl
            exact (fromO_inj this).symm
        · rw [if_neg hy]
      rw [this]
    · cases hu
  · have h0 : n = 0 := by
      by_cases h : n = 0
      · exact h
      · simp [checkN, h] at hs
    subst h0
    obtain ⟨_, lp⟩ := fif_leg e ho
    rcases lp with ⟨h1, _⟩ | ⟨h1, _, h3⟩ | ⟨h1, _, h3, h4⟩
    · simp [stillB, h1] at hst
    · rw [h3 l] at hu; split at hu <;> cases hu; rfl
    · simp [stillB, h1] at hst
      cases l with
      | nil => rw [h3] at hu; split at hu <;> cases hu; rfl
      | cons x r =>
        rw [h4 x r] at hu
        split at hu
        · rename_i hr
          rw [hr] at hst; simp at hst
        · cases hu
  · obtain ⟨rfl, hn5⟩ := Esc.check5.1 hs
    obtain ⟨_, _, h3⟩ := esc_leg hn5 e ho
    rw [h3 n hn5] at hu
    split at hu
    · cases hu
      have hm : movesB o.kind o.a o.ret.n = 0 := by
        unfold movesB
        by_cases c : o.kind = 15 ∨ o.ret.n = 0
        · rw [if_pos c]
        · rw [if_neg c]
          have ha : o.a = 0 := by
            have c13 : o.kind = 13 ∨ o.kind = 14 := by omega
            rcases c13 with h | h <;> (simp [stillB, h] at hst; omega)
          rw [ha]; simp
      rw [hm, Int.add_zero]
    · cases hu

/- ChoB -/
set_option maxRecDepth 100000 in
theorem ssame_tree (t n : Int) (l : List Int) (t2 n2 : Int) (l2 : List Int) : (((tden Tryz.prog Equ.eqE [] 30).call 0 25 [.agg #[.int .i64 t, .int .i64 n, .pl .ints l], .agg #[.int .i64 t2, .int .i64 n2, .pl .ints l2]] ⟨.nil, 0⟩).pure.cut
    (.ite (.yes (.yes (.yes (.yes (.ite (.yes (.yes (.yes (.yes (.ite (.all) (.all)))))) (.no (.no (.no (.no (.no (.all))))))))))) (.no (.no (.no (.no (.no (.no (.no (.no (.no (.no (.no (.all)))))))))))))).ev = T.ev (α := CV) (
     .ite (t == t2)
      (.ite (n == n2)
       (.ite (small l.length)
        (.ret (.bool (decide (l = l2))))
        (.fail))
       (.ret (.bool false)))
      (.ret (.bool false))) := by kernel_rfl

/- ChoC -/
theorem ssame_fn : PureFn Tryz.prog 25 (sigExt [sgS, sgS] sameStateG) :=
  pureFn_mk (bodied_ex (by kernel_rfl)) fun args d h => by
    unfold sameStateG at h
    split at h
    · rename_i t n l t2 n2 l2
      obtain ⟨hc, h1⟩ := ev_when h
      cases ev_ret h1
      refine pureAt0 plainN mixedN Equ.eqE_ok noL (k := 30) ((ssame_tree t n l t2 n2 l2).trans ?_) rfl
      simp only [T.ev_ite, T.ev_ret, T.ev_fail, hc, if_true]
      have hl : decide (l = l2) = (l == l2) := by rw [Bool.eq_iff_iff, decide_eq_true_eq, beq_iff_eq]
      by_cases e : t = t2 <;> by_cases e2 : n = n2 <;> simp [e, e2, hl]
    · exact (ev_fail h).elim
def choE : List (Nat × ExtFn) := (25, pureExt (sigExt [sgS, sgS] sameStateG)) :: (c18E ++ (legNE ++ runNE))
theorem choE_ok (N : Nat) : ExtsOk Tryz.prog N choE := extsOk_cons (extOk_pure ssame_fn) (exts_append (c18E_ok N) (exts_append (legNE_ok N) (runNE_ok N)))

/- ChoD -/
set_option maxRecDepth 100000 in
theorem either_tree (t n : Int) (l : List Int) (k a b rk rn k' a' b' rk' rn' : Int) : (((tden Tryz.prog choE [] 30).call 0 23 [.agg #[.int .i64 t, .int .i64 n, .pl .ints l], .agg #[.int .i64 k, .int .i64 a, .int .i64 b, .int .i64 rk, .int .i64 rn], .agg #[.int .i64 k', .int .i64 a', .int .i64 b', .int .i64 rk', .int .i64 rn']] ⟨.nil, 0⟩).pure.cut
    (.ite (.ite (.ite (.yes (.yes (.yes (.all)))) (.no (.ite (.all) (.ite (.all) (.all))))) (.all)) (.all))).ev = T.ev (α := CV) (
     .ite (runB l [DOp.mk k a b (DRet.mk rk rn), DOp.mk k' a' b' (DRet.mk rk' rn')])
      (.ite (runB l [DOp.mk k' a' b' (DRet.mk rk' rn'), DOp.mk k a b (DRet.mk rk rn)])
       (.ite ((runA (DState.mk t n l) [DOp.mk k a b (DRet.mk rk rn), DOp.mk k' a' b' (DRet.mk rk' rn')]).e != (0 : Int))
        (.ret (.bool (((runA (DState.mk t n l) [DOp.mk k a b (DRet.mk rk rn), DOp.mk k' a' b' (DRet.mk rk' rn')]).e == (0 : Int)) == ((runA (DState.mk t n l) [DOp.mk k' a' b' (DRet.mk rk' rn'), DOp.mk k a b (DRet.mk rk rn)]).e == (0 : Int)))))
        (.ite ((runA (DState.mk t n l) [DOp.mk k' a' b' (DRet.mk rk' rn'), DOp.mk k a b (DRet.mk rk rn)]).e != (0 : Int))
         (.ret (.bool (((runA (DState.mk t n l) [DOp.mk k a b (DRet.mk rk rn), DOp.mk k' a' b' (DRet.mk rk' rn')]).e == (0 : Int)) == ((runA (DState.mk t n l) [DOp.mk k' a' b' (DRet.mk rk' rn'), DOp.mk k a b (DRet.mk rk rn)]).e == (0 : Int)))))
         (.ite (small (runA (DState.mk t n l) [DOp.mk k a b (DRet.mk rk rn), DOp.mk k' a' b' (DRet.mk rk' rn')]).s.l.length)
          (.ret (.bool ((runA (DState.mk t n l) [DOp.mk k a b (DRet.mk rk rn), DOp.mk k' a' b' (DRet.mk rk' rn')]).s.type == (runA (DState.mk t n l) [DOp.mk k' a' b' (DRet.mk rk' rn'), DOp.mk k a b (DRet.mk rk rn)]).s.type && (runA (DState.mk t n l) [DOp.mk k a b (DRet.mk rk rn), DOp.mk k' a' b' (DRet.mk rk' rn')]).s.n == (runA (DState.mk t n l) [DOp.mk k' a' b' (DRet.mk rk' rn'), DOp.mk k a b (DRet.mk rk rn)]).s.n && (runA (DState.mk t n l) [DOp.mk k a b (DRet.mk rk rn), DOp.mk k' a' b' (DRet.mk rk' rn')]).s.l == (runA (DState.mk t n l) [DOp.mk k' a' b' (DRet.mk rk' rn'), DOp.mk k a b (DRet.mk rk rn)]).s.l)))
          (.fail))))
       (.fail))
      (.fail)) := by kernel_rfl

/- ChoE -/
theorem run_len (s : DState) : ∀ (l : List DOp), (runA s l).s.l.length ≤ s.l.length + 2 * l.length := by
  intro l
  induction l generalizing s with
  | nil => simp [runA]
  | cons o r ih =>
    rw [runA_cons]
    have h1 := mach_len s.type s.n s.l o.kind o.a o.b
    have h2 := ih (stepA s o).s
    have h3 : (stepA s o).s.l.length ≤ s.l.length + 2 := h1
    split
    · simp only [List.length_cons]; omega
    · split
      · simp only [List.length_cons]; omega
      · simp only [List.length_cons]; omega
/-- Whether both orders of two operations are legal at a state, or neither is, and leave the same. -/
def eithB (s : DState) (p q : DOp) : Bool :=
  if (runA s [p, q]).e = 0 ∧ (runA s [q, p]).e = 0 then decide ((runA s [p, q]).s = (runA s [q, p]).s) else decide ((runA s [p, q]).e = 0 ↔ (runA s [q, p]).e = 0)
def eitherG : List CV → T CV
  | [.agg ⟨[.int .i64 t, .int .i64 n, .pl .ints l]⟩, .agg ⟨[.int .i64 k, .int .i64 a, .int .i64 b, .int .i64 rk, .int .i64 rn]⟩, .agg ⟨[.int .i64 k', .int .i64 a', .int .i64 b', .int .i64 rk', .int .i64 rn']⟩] =>
    T.when (runB l [⟨k, a, b, ⟨rk, rn⟩⟩, ⟨k', a', b', ⟨rk', rn'⟩⟩] && runB l [⟨k', a', b', ⟨rk', rn'⟩⟩, ⟨k, a, b, ⟨rk, rn⟩⟩]) (.ret (.bool (eithB ⟨t, n, l⟩ ⟨k, a, b, ⟨rk, rn⟩⟩ ⟨k', a', b', ⟨rk', rn'⟩⟩)))
  | _ => .fail
theorem state_beq (x y : DState) : (x.type == y.type && x.n == y.n && x.l == y.l) = decide (x = y) := by
  obtain ⟨t, n, l⟩ := x
  obtain ⟨t2, n2, l2⟩ := y
  rw [Bool.eq_iff_iff]
  simp only [Bool.and_eq_true, beq_iff_eq, decide_eq_true_eq, DState.mk.injEq, and_assoc]
theorem either_fn : PureFn Tryz.prog 23 (sigExt [sgS] eitherG) :=
  pureFn_mk (bodied_ex (by kernel_rfl)) fun args d h => by
    unfold eitherG at h
    split at h
    · rename_i t n l k a b rk rn k' a' b' rk' rn'
      obtain ⟨hc, h1⟩ := ev_when h
      cases ev_ret h1
      rw [Bool.and_eq_true] at hc
      refine pureAt0 plainN mixedN choE_ok noL (k := 30) ((either_tree t n l k a b rk rn k' a' b' rk' rn').trans ?_) rfl
      simp only [T.ev_ite, T.ev_ret, hc.1, hc.2, if_true]
      generalize hP : DOp.mk k a b (DRet.mk rk rn) = p at *
      generalize hQ : DOp.mk k' a' b' (DRet.mk rk' rn') = q at *
      obtain ⟨_, _, _, hb⟩ := runB_inv hc.1
      have hlen := run_len ⟨t, n, l⟩ [p, q]
      simp only [List.length_cons, List.length_nil, Nat.ble_eq] at hb hlen
      have hs : small (runA ⟨t, n, l⟩ [p, q]).s.l.length = true := by rw [small_iff]; omega
      rw [hs, state_beq]
      unfold eithB
      by_cases e1 : (runA ⟨t, n, l⟩ [p, q]).e = 0
      · by_cases e2 : (runA ⟨t, n, l⟩ [q, p]).e = 0
        · simp [e1, e2]
        · have b2 : ((runA ⟨t, n, l⟩ [q, p]).e != 0) = true := by rw [bne_iff_ne]; exact e2
          have b3 : ((runA ⟨t, n, l⟩ [q, p]).e == 0) = false := by simpa using e2
          simp [e1, e2, b2, b3]
      · have b2 : ((runA ⟨t, n, l⟩ [p, q]).e != 0) = true := by rw [bne_iff_ne]; exact e1
        have b3 : ((runA ⟨t, n, l⟩ [p, q]).e == 0) = false := by simpa using e1
        by_cases e2 : (runA ⟨t, n, l⟩ [q, p]).e = 0
        · simp [e1, e2, b2, b3]
        · have b4 : ((runA ⟨t, n, l⟩ [q, p]).e == 0) = false := by simpa using e2
          simp [e1, e2, b2, b3, b4]
    · exact (ev_fail h).elim
def choE2 : List (Nat × ExtFn) := (23, pureExt (sigExt [sgS] eitherG)) :: choE
theorem choE2_ok (N : Nat) : ExtsOk Tryz.prog N choE2 := extsOk_cons (extOk_pure either_fn) (choE_ok N)

/- ChoF -/
set_option maxRecDepth 100000 in
theorem cholds_tree (t n : Int) (l : List Int) (k a b rk rn k' a' b' rk' rn' : Int) : (((tden Tryz.prog choE2 [] 30).call 0 6 [.agg #[.int .i64 t, .int .i64 n, .pl .ints l], .agg #[.int .i64 k, .int .i64 a, .int .i64 b, .int .i64 rk, .int .i64 rn], .agg #[.int .i64 k', .int .i64 a', .int .i64 b', .int .i64 rk', .int .i64 rn']] ⟨.nil, 0⟩).pure.cut
    (.ite (.all) (.ite (.yes (.yes (.yes (.yes (.yes (.yes (.yes (.yes (.yes (.yes (.yes (.yes (.yes (.yes (.all))))))))))))))) (.no (.no (.no (.no (.ite (.yes (.yes (.yes (.yes (.yes (.yes (.yes (.yes (.all))))))))) (.no (.no (.no (.no (.ite (.yes (.no (.no (.ite (.all) (.ite (.yes (.yes (.ite (.ite (.ite (.yes (.yes (.ite (.yes (.ite (.all) (.ite (.yes (.yes (.all))) (.ite (.yes (.all)) (.yes (.yes (.yes (.ite (.yes (.yes (.yes (.yes (.yes (.yes (.yes (.yes (.yes (.yes (.ite (.yes (.yes (.yes (.yes (.yes (.all)))))) (.no (.no (.no (.ite (.yes (.all)) (.all)))))))))))))))) (.no (.yes (.yes (.ite (.yes (.yes (.yes (.yes (.yes (.ite (.yes (.yes (.yes (.yes (.yes (.all)))))) (.no (.no (.no (.ite (.yes (.all)) (.all))))))))))) (.yes (.ite (.yes (.yes (.ite (.yes (.yes (.yes (.yes (.yes (.all)))))) (.no (.no (.no (.ite (.yes (.all)) (.all)))))))) (.no (.no (.no (.no (.all))))))))))))))))))) (.all)))) (.no (.no (.no (.no (.no (.ite (.yes (.yes (.all))) (.ite (.yes (.all)) (.yes (.yes (.yes (.ite (.yes (.yes (.yes (.yes (.yes (.yes (.yes (.yes (.yes (.yes (.ite (.yes (.yes (.yes (.yes (.yes (.all)))))) (.no (.no (.no (.ite (.yes (.all)) (.all)))))))))))))))) (.no (.yes (.yes (.ite (.yes (.yes (.yes (.yes (.yes (.ite (.yes (.yes (.yes (.yes (.yes (.all)))))) (.no (.no (.no (.ite (.yes (.all)) (.all))))))))))) (.yes (.ite (.yes (.yes (.ite (.yes (.yes (.yes (.yes (.yes (.all)))))) (.no (.no (.no (.ite (.yes (.all)) (.all)))))))) (.no (.no (.no (.no (.all))))))))))))))))))))))) (.no (.no (.no (.no (.no (.no (.no (.ite (.yes (.yes (.all))) (.ite (.yes (.all)) (.yes (.yes (.yes (.ite (.yes (.yes (.yes (.yes (.yes (.yes (.yes (.yes (.yes (.yes (.ite (.yes (.yes (.yes (.yes (.yes (.all)))))) (.no (.no (.no (.ite (.yes (.all)) (.all)))))))))))))))) (.no (.yes (.yes (.ite (.yes (.yes (.yes (.yes (.yes (.ite (.yes (.yes (.yes (.yes (.yes (.all)))))) (.no (.no (.no (.ite (.yes (.all)) (.all))))))))))) (.yes (.ite (.yes (.yes (.ite (.yes (.yes (.yes (.yes (.yes (.all)))))) (.no (.no (.no (.ite (.yes (.all)) (.all)))))))) (.no (.no (.no (.no (.all))))))))))))))))))))))))) (.no (.no (.no (.no (.no (.no (.no (.no (.no (.ite (.yes (.yes (.all))) (.ite (.yes (.all)) (.yes (.yes (.yes (.ite (.yes (.yes (.yes (.yes (.yes (.yes (.yes (.yes (.yes (.yes (.ite (.yes (.yes (.yes (.yes (.yes (.all)))))) (.no (.no (.no (.ite (.yes (.all)) (.all)))))))))))))))) (.no (.yes (.yes (.ite (.yes (.yes (.yes (.yes (.yes (.ite (.yes (.yes (.yes (.yes (.yes (.all)))))) (.no (.no (.no (.ite (.yes (.all)) (.all))))))))))) (.yes (.ite (.yes (.yes (.ite (.yes (.yes (.yes (.yes (.yes (.all)))))) (.no (.no (.no (.ite (.yes (.all)) (.all)))))))) (.no (.no (.no (.no (.all))))))))))))))))))))))))))))) (.all)))))) (.no (.no (.no (.no (.ite (.all) (.ite (.no (.no (.no (.no (.no (.no (.no (.no (.no (.no (.no (.no (.no (.ite (.yes (.yes (.all))) (.ite (.yes (.all)) (.yes (.yes (.yes (.ite (.yes (.yes (.yes (.yes (.yes (.yes (.yes (.yes (.yes (.yes (.ite (.yes (.yes (.yes (.yes (.yes (.all)))))) (.no (.no (.no (.ite (.yes (.all)) (.all)))))))))))))))) (.no (.yes (.yes (.ite (.yes (.yes (.yes (.yes (.yes (.ite (.yes (.yes (.yes (.yes (.yes (.all)))))) (.no (.no (.no (.ite (.yes (.all)) (.all))))))))))) (.yes (.ite (.yes (.yes (.ite (.yes (.yes (.yes (.yes (.yes (.all)))))) (.no (.no (.no (.ite (.yes (.all)) (.all)))))))) (.no (.no (.no (.no (.all)))))))))))))))))))))))))))))) (.all)))))))))))))))))))).ev = T.ev (α := CV) (
     .ite (decide ((↑l.length : Int) > (60 : Int)))
      (.ret (.bool true))
      (.ite (!cmIs (DOp.mk k a b (DRet.mk rk rn)) (DOp.mk k' a' b' (DRet.mk rk' rn')) == cmIs (DOp.mk k' a' b' (DRet.mk rk' rn')) (DOp.mk k a b (DRet.mk rk rn)))
       (.ret (.bool false))
       (.ite (!(cmEr (DOp.mk k a b (DRet.mk rk rn)) (DOp.mk k' a' b' (DRet.mk rk' rn')) == (0 : Int)) == (cmEr (DOp.mk k' a' b' (DRet.mk rk' rn')) (DOp.mk k a b (DRet.mk rk rn)) == (0 : Int)))
        (.ret (.bool false))
        (.ite (opChk k a b rk rn == (0 : Int))
         (.ite (!(cmEr (DOp.mk k a b (DRet.mk rk rn)) (DOp.mk k' a' b' (DRet.mk rk' rn')) == (0 : Int)) == (opChk k' a' b' rk' rn' == (0 : Int)))
          (.ret (.bool false))
          (.ite (machB l a b)
           (.ite (opChk k a b rk rn == (0 : Int))
            (.ite ((machA t n l k a b).e == (0 : Int))
             (.ite (legB (machA t n l k a b) rk rn)
              (.ite (if opChk k a b rk rn = (0 : Int) then stillB k a b rk rn else false)
               (.ite (small (machA t n l k a b).s.l.length)
                (.ite (!((machA t n l k a b).s.type == t && (machA t n l k a b).s.n == n && (machA t n l k a b).s.l == l))
                 (.ret (.bool false))
                 (.ite (cmEr (DOp.mk k a b (DRet.mk rk rn)) (DOp.mk k' a' b' (DRet.mk rk' rn')) != (0 : Int))
                  (.ret (.bool (!cmIs (DOp.mk k a b (DRet.mk rk rn)) (DOp.mk k' a' b' (DRet.mk rk' rn')))))
                  (.ite (opTy k != opTy k')
                   (.ret (.bool (cmIs (DOp.mk k a b (DRet.mk rk rn)) (DOp.mk k' a' b' (DRet.mk rk' rn')))))
                   (.ite (!if opChk k a b rk rn = (0 : Int) then stillB k a b rk rn else false)
                    (.ite (!cmIs (DOp.mk k a b (DRet.mk rk rn)) (DOp.mk k' a' b' (DRet.mk rk' rn')))
                     (.ret (.bool true))
                     (.ite (runB l [DOp.mk k a b (DRet.mk rk rn), DOp.mk k' a' b' (DRet.mk rk' rn')] && runB l [DOp.mk k' a' b' (DRet.mk rk' rn'), DOp.mk k a b (DRet.mk rk rn)])
                      (.ret (.bool (eithB (DState.mk t n l) (DOp.mk k a b (DRet.mk rk rn)) (DOp.mk k' a' b' (DRet.mk rk' rn')))))
                      (.fail)))
                    (.ite (!if opChk k' a' b' rk' rn' = (0 : Int) then stillB k' a' b' rk' rn' else false)
                     (.ite (!cmIs (DOp.mk k a b (DRet.mk rk rn)) (DOp.mk k' a' b' (DRet.mk rk' rn')))
                      (.ret (.bool true))
                      (.ite (runB l [DOp.mk k a b (DRet.mk rk rn), DOp.mk k' a' b' (DRet.mk rk' rn')] && runB l [DOp.mk k' a' b' (DRet.mk rk' rn'), DOp.mk k a b (DRet.mk rk rn)])
                       (.ret (.bool (eithB (DState.mk t n l) (DOp.mk k a b (DRet.mk rk rn)) (DOp.mk k' a' b' (DRet.mk rk' rn')))))
                       (.fail)))
                     (.ite (cmIs (DOp.mk k a b (DRet.mk rk rn)) (DOp.mk k' a' b' (DRet.mk rk' rn')))
                      (.ite (!cmIs (DOp.mk k a b (DRet.mk rk rn)) (DOp.mk k' a' b' (DRet.mk rk' rn')))
                       (.ret (.bool true))
                       (.ite (runB l [DOp.mk k a b (DRet.mk rk rn), DOp.mk k' a' b' (DRet.mk rk' rn')] && runB l [DOp.mk k' a' b' (DRet.mk rk' rn'), DOp.mk k a b (DRet.mk rk rn)])
                        (.ret (.bool (eithB (DState.mk t n l) (DOp.mk k a b (DRet.mk rk rn)) (DOp.mk k' a' b' (DRet.mk rk' rn')))))
                        (.fail)))
                      (.ret (.bool false))))))))
                (.fail))
               (.ite (cmEr (DOp.mk k a b (DRet.mk rk rn)) (DOp.mk k' a' b' (DRet.mk rk' rn')) != (0 : Int))
                (.ret (.bool (!cmIs (DOp.mk k a b (DRet.mk rk rn)) (DOp.mk k' a' b' (DRet.mk rk' rn')))))
                (.ite (opTy k != opTy k')
                 (.ret (.bool (cmIs (DOp.mk k a b (DRet.mk rk rn)) (DOp.mk k' a' b' (DRet.mk rk' rn')))))
                 (.ite (!if opChk k a b rk rn = (0 : Int) then stillB k a b rk rn else false)
                  (.ite (!cmIs (DOp.mk k a b (DRet.mk rk rn)) (DOp.mk k' a' b' (DRet.mk rk' rn')))
                   (.ret (.bool true))
                   (.ite (runB l [DOp.mk k a b (DRet.mk rk rn), DOp.mk k' a' b' (DRet.mk rk' rn')] && runB l [DOp.mk k' a' b' (DRet.mk rk' rn'), DOp.mk k a b (DRet.mk rk rn)])
                    (.ret (.bool (eithB (DState.mk t n l) (DOp.mk k a b (DRet.mk rk rn)) (DOp.mk k' a' b' (DRet.mk rk' rn')))))
                    (.fail)))
                  (.ite (!if opChk k' a' b' rk' rn' = (0 : Int) then stillB k' a' b' rk' rn' else false)
                   (.ite (!cmIs (DOp.mk k a b (DRet.mk rk rn)) (DOp.mk k' a' b' (DRet.mk rk' rn')))
                    (.ret (.bool true))
                    (.ite (runB l [DOp.mk k a b (DRet.mk rk rn), DOp.mk k' a' b' (DRet.mk rk' rn')] && runB l [DOp.mk k' a' b' (DRet.mk rk' rn'), DOp.mk k a b (DRet.mk rk rn)])
                     (.ret (.bool (eithB (DState.mk t n l) (DOp.mk k a b (DRet.mk rk rn)) (DOp.mk k' a' b' (DRet.mk rk' rn')))))
                     (.fail)))
                   (.ite (cmIs (DOp.mk k a b (DRet.mk rk rn)) (DOp.mk k' a' b' (DRet.mk rk' rn')))
                    (.ite (!cmIs (DOp.mk k a b (DRet.mk rk rn)) (DOp.mk k' a' b' (DRet.mk rk' rn')))
                     (.ret (.bool true))
                     (.ite (runB l [DOp.mk k a b (DRet.mk rk rn), DOp.mk k' a' b' (DRet.mk rk' rn')] && runB l [DOp.mk k' a' b' (DRet.mk rk' rn'), DOp.mk k a b (DRet.mk rk rn)])
                      (.ret (.bool (eithB (DState.mk t n l) (DOp.mk k a b (DRet.mk rk rn)) (DOp.mk k' a' b' (DRet.mk rk' rn')))))
                      (.fail)))
                    (.ret (.bool false))))))))
              (.ite (cmEr (DOp.mk k a b (DRet.mk rk rn)) (DOp.mk k' a' b' (DRet.mk rk' rn')) != (0 : Int))
               (.ret (.bool (!cmIs (DOp.mk k a b (DRet.mk rk rn)) (DOp.mk k' a' b' (DRet.mk rk' rn')))))
               (.ite (opTy k != opTy k')
                (.ret (.bool (cmIs (DOp.mk k a b (DRet.mk rk rn)) (DOp.mk k' a' b' (DRet.mk rk' rn')))))
                (.ite (!if opChk k a b rk rn = (0 : Int) then stillB k a b rk rn else false)
                 (.ite (!cmIs (DOp.mk k a b (DRet.mk rk rn)) (DOp.mk k' a' b' (DRet.mk rk' rn')))
                  (.ret (.bool true))
                  (.ite (runB l [DOp.mk k a b (DRet.mk rk rn), DOp.mk k' a' b' (DRet.mk rk' rn')] && runB l [DOp.mk k' a' b' (DRet.mk rk' rn'), DOp.mk k a b (DRet.mk rk rn)])
                   (.ret (.bool (eithB (DState.mk t n l) (DOp.mk k a b (DRet.mk rk rn)) (DOp.mk k' a' b' (DRet.mk rk' rn')))))
                   (.fail)))
                 (.ite (!if opChk k' a' b' rk' rn' = (0 : Int) then stillB k' a' b' rk' rn' else false)
                  (.ite (!cmIs (DOp.mk k a b (DRet.mk rk rn)) (DOp.mk k' a' b' (DRet.mk rk' rn')))
                   (.ret (.bool true))
                   (.ite (runB l [DOp.mk k a b (DRet.mk rk rn), DOp.mk k' a' b' (DRet.mk rk' rn')] && runB l [DOp.mk k' a' b' (DRet.mk rk' rn'), DOp.mk k a b (DRet.mk rk rn)])
                    (.ret (.bool (eithB (DState.mk t n l) (DOp.mk k a b (DRet.mk rk rn)) (DOp.mk k' a' b' (DRet.mk rk' rn')))))
                    (.fail)))
                  (.ite (cmIs (DOp.mk k a b (DRet.mk rk rn)) (DOp.mk k' a' b' (DRet.mk rk' rn')))
                   (.ite (!cmIs (DOp.mk k a b (DRet.mk rk rn)) (DOp.mk k' a' b' (DRet.mk rk' rn')))
                    (.ret (.bool true))
                    (.ite (runB l [DOp.mk k a b (DRet.mk rk rn), DOp.mk k' a' b' (DRet.mk rk' rn')] && runB l [DOp.mk k' a' b' (DRet.mk rk' rn'), DOp.mk k a b (DRet.mk rk rn)])
                     (.ret (.bool (eithB (DState.mk t n l) (DOp.mk k a b (DRet.mk rk rn)) (DOp.mk k' a' b' (DRet.mk rk' rn')))))
                     (.fail)))
                   (.ret (.bool false))))))))
             (.ite (cmEr (DOp.mk k a b (DRet.mk rk rn)) (DOp.mk k' a' b' (DRet.mk rk' rn')) != (0 : Int))
              (.ret (.bool (!cmIs (DOp.mk k a b (DRet.mk rk rn)) (DOp.mk k' a' b' (DRet.mk rk' rn')))))
              (.ite (opTy k != opTy k')
               (.ret (.bool (cmIs (DOp.mk k a b (DRet.mk rk rn)) (DOp.mk k' a' b' (DRet.mk rk' rn')))))
               (.ite (!if opChk k a b rk rn = (0 : Int) then stillB k a b rk rn else false)
                (.ite (!cmIs (DOp.mk k a b (DRet.mk rk rn)) (DOp.mk k' a' b' (DRet.mk rk' rn')))
                 (.ret (.bool true))
                 (.ite (runB l [DOp.mk k a b (DRet.mk rk rn), DOp.mk k' a' b' (DRet.mk rk' rn')] && runB l [DOp.mk k' a' b' (DRet.mk rk' rn'), DOp.mk k a b (DRet.mk rk rn)])
                  (.ret (.bool (eithB (DState.mk t n l) (DOp.mk k a b (DRet.mk rk rn)) (DOp.mk k' a' b' (DRet.mk rk' rn')))))
                  (.fail)))
                (.ite (!if opChk k' a' b' rk' rn' = (0 : Int) then stillB k' a' b' rk' rn' else false)
                 (.ite (!cmIs (DOp.mk k a b (DRet.mk rk rn)) (DOp.mk k' a' b' (DRet.mk rk' rn')))
                  (.ret (.bool true))
                  (.ite (runB l [DOp.mk k a b (DRet.mk rk rn), DOp.mk k' a' b' (DRet.mk rk' rn')] && runB l [DOp.mk k' a' b' (DRet.mk rk' rn'), DOp.mk k a b (DRet.mk rk rn)])
                   (.ret (.bool (eithB (DState.mk t n l) (DOp.mk k a b (DRet.mk rk rn)) (DOp.mk k' a' b' (DRet.mk rk' rn')))))
                   (.fail)))
                 (.ite (cmIs (DOp.mk k a b (DRet.mk rk rn)) (DOp.mk k' a' b' (DRet.mk rk' rn')))
                  (.ite (!cmIs (DOp.mk k a b (DRet.mk rk rn)) (DOp.mk k' a' b' (DRet.mk rk' rn')))
                   (.ret (.bool true))
                   (.ite (runB l [DOp.mk k a b (DRet.mk rk rn), DOp.mk k' a' b' (DRet.mk rk' rn')] && runB l [DOp.mk k' a' b' (DRet.mk rk' rn'), DOp.mk k a b (DRet.mk rk rn)])
                    (.ret (.bool (eithB (DState.mk t n l) (DOp.mk k a b (DRet.mk rk rn)) (DOp.mk k' a' b' (DRet.mk rk' rn')))))
                    (.fail)))
                  (.ret (.bool false))))))))
            .fail)
           (.fail)))
         (.ite (!(cmEr (DOp.mk k a b (DRet.mk rk rn)) (DOp.mk k' a' b' (DRet.mk rk' rn')) == (0 : Int)) == false)
          (.ret (.bool false))
          (.ite (machB l a b)
           (.ite (opChk k a b rk rn == (0 : Int)) .fail
            (.ite (cmEr (DOp.mk k a b (DRet.mk rk rn)) (DOp.mk k' a' b' (DRet.mk rk' rn')) != (0 : Int))
             (.ret (.bool (!cmIs (DOp.mk k a b (DRet.mk rk rn)) (DOp.mk k' a' b' (DRet.mk rk' rn')))))
             (.ite (opTy k != opTy k')
              (.ret (.bool (cmIs (DOp.mk k a b (DRet.mk rk rn)) (DOp.mk k' a' b' (DRet.mk rk' rn')))))
              (.ite (!if opChk k a b rk rn = (0 : Int) then stillB k a b rk rn else false)
               (.ite (!cmIs (DOp.mk k a b (DRet.mk rk rn)) (DOp.mk k' a' b' (DRet.mk rk' rn')))
                (.ret (.bool true))
                (.ite (runB l [DOp.mk k a b (DRet.mk rk rn), DOp.mk k' a' b' (DRet.mk rk' rn')] && runB l [DOp.mk k' a' b' (DRet.mk rk' rn'), DOp.mk k a b (DRet.mk rk rn)])
                 (.ret (.bool (eithB (DState.mk t n l) (DOp.mk k a b (DRet.mk rk rn)) (DOp.mk k' a' b' (DRet.mk rk' rn')))))
                 (.fail)))
               (.ite (!if opChk k' a' b' rk' rn' = (0 : Int) then stillB k' a' b' rk' rn' else false)
                (.ite (!cmIs (DOp.mk k a b (DRet.mk rk rn)) (DOp.mk k' a' b' (DRet.mk rk' rn')))
                 (.ret (.bool true))
                 (.ite (runB l [DOp.mk k a b (DRet.mk rk rn), DOp.mk k' a' b' (DRet.mk rk' rn')] && runB l [DOp.mk k' a' b' (DRet.mk rk' rn'), DOp.mk k a b (DRet.mk rk rn)])
                  (.ret (.bool (eithB (DState.mk t n l) (DOp.mk k a b (DRet.mk rk rn)) (DOp.mk k' a' b' (DRet.mk rk' rn')))))
                  (.fail)))
                (.ite (cmIs (DOp.mk k a b (DRet.mk rk rn)) (DOp.mk k' a' b' (DRet.mk rk' rn')))
                 (.ite (!cmIs (DOp.mk k a b (DRet.mk rk rn)) (DOp.mk k' a' b' (DRet.mk rk' rn')))
                  (.ret (.bool true))
                  (.ite (runB l [DOp.mk k a b (DRet.mk rk rn), DOp.mk k' a' b' (DRet.mk rk' rn')] && runB l [DOp.mk k' a' b' (DRet.mk rk' rn'), DOp.mk k a b (DRet.mk rk rn)])
                   (.ret (.bool (eithB (DState.mk t n l) (DOp.mk k a b (DRet.mk rk rn)) (DOp.mk k' a' b' (DRet.mk rk' rn')))))
                   (.fail)))
                 (.ret (.bool false))))))))
           (.fail))))))) := by kernel_rfl

/- ChoG -/
theorem cmEr_iff (p q : DOp) : cmEr p q = 0 ↔ opC p = 0 ∧ opC q = 0 := by
  unfold cmEr
  by_cases hp : opC p = 0
  · rw [if_neg (not_not_intro hp)]; exact ⟨fun h => ⟨hp, h⟩, fun h => h.2⟩
  · rw [if_pos hp]; exact ⟨fun h => absurd h hp, fun h => absurd h.1 hp⟩
/-- Where two operations commute both orders are the same, whatever the state. -/
theorem two_comm {s : DState} {p q : DOp} (hn : w64 s.n) (hp : opC p = 0) (hq : opC q = 0) (hc : cmOpsB p q = true) : twoS s p q = twoS s q p := by
  by_cases hs : checkN s.type s.n s.l = 0
  · by_cases tp : opTy p.kind = s.type
    · by_cases tq : opTy q.kind = s.type
      · exact commute_two hs hn hp hq hc (step_ok hs hp tp) (step_ok hs hq tq)
      · have n1 : ∀ u : DState, u.type = s.type → legS u q = none := fun u hu => if_neg fun h => tq (by rw [step_kind h.1, hu])
        unfold twoS
        rw [n1 s rfl, Option.bind_none]
        cases h : legS s p with
        | none => rfl
        | some u =>
          rw [Option.bind_some]
          refine n1 u ?_
          unfold legS at h
          split at h
          · rename_i h1; cases h; exact (step_check h1.1).2
          · cases h
    · have n1 : ∀ u : DState, u.type = s.type → legS u p = none := fun u hu => if_neg fun h => tp (by rw [step_kind h.1, hu])
      unfold twoS
      rw [n1 s rfl, Option.bind_none]
      cases h : legS s q with
      | none => rfl
      | some u =>
        rw [Option.bind_some]
        refine (n1 u ?_).symm
        unfold legS at h
        split at h
        · rename_i h1; cases h; exact (step_check h1.1).2
        · cases h
  · have n1 : ∀ o : DOp, legS s o = none := fun o => if_neg fun h => hs (step_check h.1).1
    unfold twoS
    rw [n1, n1]; rfl
theorem eith_comm {s : DState} {p q : DOp} (hn : w64 s.n) (hp : opC p = 0) (hq : opC q = 0) (hc : cmOpsB p q = true) : eithB s p q = true := by
  have h := two_comm hn hp hq hc
  rw [run_two, run_two] at h
  unfold eithB
  by_cases h1 : (runA s [p, q]).e = 0 <;> by_cases h2 : (runA s [q, p]).e = 0
  · simp only [h1, h2, if_true, Option.some.injEq] at h ⊢
    simp [h]
  · simp [h1, h2] at h
  · simp [h1, h2] at h
  · simp [h1, h2]
theorem still_comm {p q : DOp} (hp : opC p = 0) (hq : opC q = 0) (sp : stillB p.kind p.a p.b p.ret.kind p.ret.n = true) (sq : stillB q.kind q.a q.b q.ret.kind q.ret.n = true) : cmOpsB p q = true := by
  have fp := opF hp
  have fq := opF hq
  have kk := opTy_of (opC_kind hp)
  have kk' := opTy_of (opC_kind hq)
  have k1 := opC_kind hp
  have k1' := opC_kind hq
  obtain ⟨k, a, b, ⟨rk, rn⟩⟩ := p
  obtain ⟨k', a', b', ⟨rk', rn'⟩⟩ := q
  simp only at fp fq sp sq kk kk' k1 k1'
  unfold cmOpsB
  simp only
  by_cases ht : opTy k = opTy k'
  · rw [if_neg (not_not_intro ht), ht]
    by_cases t1 : opTy k' = 1
    · rw [if_pos t1]
      unfold cmCtrB
      rw [decide_eq_true_eq]
      by_cases c : k = 1
      · have : a = 0 := by simpa [stillB, c] using sp
        exact .inr (.inl ⟨c, this⟩)
      · by_cases c' : k' = 1
        · have : a' = 0 := by simpa [stillB, c'] using sq
          exact .inr (.inr ⟨c', this⟩)
        · left; omega
    rw [if_neg t1]
    by_cases t2 : opTy k' = 2
    · rw [if_pos t2]
      unfold cmSetB
      rw [sp, sq]
      by_cases c1 : k = 6 ∨ k' = 6
      · rw [if_pos c1]; rfl
      · rw [if_neg c1]; split <;> rfl
    rw [if_neg t2]
    by_cases t3 : opTy k' = 3
    · rw [if_pos t3]
      unfold cmMapB
      rw [decide_eq_true_eq]
      have l1 : leftK k rk = rk ∧ leftN k b rn = rn := by
        unfold leftK leftN
        by_cases c7 : k = 7
        · have : rk = 2 ∧ rn = b := by simpa [stillB, c7] using sp
          simp [c7, this.1, this.2]
        · by_cases c9 : k = 9
          · have : rk = 1 ∧ rn = 0 := by simpa [stillB, c9] using sp
            simp [c9, this.1, this.2]
          · simp [c7, c9]
      have l2 : leftK k' rk' = rk' ∧ leftN k' b' rn' = rn' := by
        unfold leftK leftN
        by_cases c7 : k' = 7
        · have : rk' = 2 ∧ rn' = b' := by simpa [stillB, c7] using sq
          simp [c7, this.1, this.2]
        · by_cases c9 : k' = 9
          · have : rk' = 1 ∧ rn' = 0 := by simpa [stillB, c9] using sq
            simp [c9, this.1, this.2]
          · simp [c7, c9]
      rw [l1.1, l1.2, l2.1, l2.2]
      omega
    rw [if_neg t3]
    by_cases t4 : opTy k' = 4
    · rw [if_pos t4]
      unfold cmQueB
      rw [sp, sq]; rfl
    rw [if_neg t4]
    have m1 : ∀ {k a rn : Int}, 13 ≤ k ∧ k ≤ 15 → stillB k a b rk rn = true → movesB k a rn = 0 := by
      intro k a rn hk h
      unfold movesB
      by_cases c : k = 15 ∨ rn = 0
      · rw [if_pos c]
      · rw [if_neg c]
        have ha : a = 0 := by
          have c13 : k = 13 ∨ k = 14 := by omega
          rcases c13 with h1 | h1 <;> (simp [stillB, h1] at h; omega)
        rw [ha]; simp
    have sq' : stillB k' a' b rk rn' = true := by
      have c13 : k' = 13 ∨ k' = 14 ∨ k' = 15 := by omega
      rcases c13 with h1 | h1 | h1 <;> (simp [stillB, h1] at sq ⊢; try exact sq)
    have e1 := m1 (k := k) (a := a) (rn := rn) (by omega) sp
    have e2 := m1 (k := k') (a := a') (rn := rn') (by omega) sq'
    unfold cmAccB behindA
    rw [e1, e2]
    by_cases c1 : (rangeA k a rn).is = false ∨ (rangeA k' a' rn').is = false
    · rw [if_pos c1, if_pos c1.symm]; simp
    · rw [if_neg c1, if_neg (show ¬ ((rangeA k' a' rn').is = false ∨ (rangeA k a rn).is = false) from fun h => c1 h.symm)]
      simp only [Int.add_zero, Int.sub_zero]
      rw [Int.min_comm, Int.max_comm]
      simp
  · rw [if_pos ht]

set_option maxHeartbeats 4000000 in
theorem cholds_all (xs : List CV) (h : ArsAll [.agg [i6, i6, .row .ints], .agg [i6, i6, i6, i6, i6], .agg [i6, i6, i6, i6, i6]] xs) : PureAt Tryz.prog 6 xs (.bool true) := by
  obtain ⟨_, _, rfl, h5, h6⟩ := h.cons_inv; obtain ⟨t, n, l, rfl, wt, wn, _⟩ := ArG.state h5
  obtain ⟨_, _, rfl, h1, h2⟩ := h6.cons_inv; obtain ⟨k, a, b, rk, rn, rfl, wk, wa, wb, _⟩ := ArG.op h1
  obtain ⟨_, _, rfl, h3, h4⟩ := h2.cons_inv; obtain ⟨k', a', b', rk', rn', rfl, wk', wa', wb', _⟩ := ArG.op h3
  cases h4.nil_inv
  refine pureAt0 plainN mixedN choE2_ok noL (k := 30) ((cholds_tree t n l k a b rk rn k' a' b' rk' rn').trans ?_) rfl
  clear h h1 h2 h3 h4 h5 h6
  by_cases hl : l.length ≤ 60
  · have hd : decide ((l.length : Int) > 60) = false := by rw [decide_eq_false_iff_not]; omega
    have inI : ∀ {n : Int}, w64 n → Ctr.inI64 n = true := fun h => Ctr.inI64_iff.2 h
    have bp : opB ⟨k, a, b, ⟨rk, rn⟩⟩ = true := by simp only [opB, inI wa, inI wb, Bool.and_self]
    have bq : opB ⟨k', a', b', ⟨rk', rn'⟩⟩ = true := by simp only [opB, inI wa', inI wb', Bool.and_self]
    have hm : machB l a b = true := machB_of (o := ⟨k, a, b, ⟨rk, rn⟩⟩) (by omega) bp
    have hr : (runB l [⟨k, a, b, ⟨rk, rn⟩⟩, ⟨k', a', b', ⟨rk', rn'⟩⟩] && runB l [⟨k', a', b', ⟨rk', rn'⟩⟩, ⟨k, a, b, ⟨rk, rn⟩⟩]) = true := by
      simp only [runB, opsB, List.all_cons, List.all_nil, bp, bq, Bool.and_self, Bool.and_true, Bool.true_and, List.length_cons, List.length_nil, Nat.ble_eq]; omega
    have hsm : small (machA t n l k a b).s.l.length = true := by have := mach_len t n l k a b; rw [small_iff]; omega
    have hsym := cmIs_sym ⟨k, a, b, ⟨rk, rn⟩⟩ ⟨k', a', b', ⟨rk', rn'⟩⟩
    have i1 := cmEr_iff ⟨k, a, b, ⟨rk, rn⟩⟩ ⟨k', a', b', ⟨rk', rn'⟩⟩
    have i2 := cmEr_iff ⟨k', a', b', ⟨rk', rn'⟩⟩ ⟨k, a, b, ⟨rk, rn⟩⟩
    have hsame : ∀ x : DState, (x.type == t && x.n == n && x.l == l) = decide (x = ⟨t, n, l⟩) := fun x => state_beq x ⟨t, n, l⟩
    simp only [T.ev_ite, T.ev_ret, T.ev_fail, hd, hm, hr, hsm, hsame, ← hsym, beq_self_eq_true, Bool.not_true, Bool.false_eq_true, if_false, if_true]
    by_cases hp : opChk k a b rk rn = 0
    · have cp : opC ⟨k, a, b, ⟨rk, rn⟩⟩ = 0 := hp
      have ep : (opChk k a b rk rn == 0) = true := by rw [hp]; rfl
      have s1 : (if opChk k a b rk rn = 0 then stillB k a b rk rn else false) = stillB k a b rk rn := if_pos hp
      -- what changes nothing leaves the state
      have keep : (machA t n l k a b).e = 0 → legB (machA t n l k a b) rk rn = true → stillB k a b rk rn = true → decide ((machA t n l k a b).s = ⟨t, n, l⟩) = true := fun he hle hst => by
        rw [decide_eq_true_eq]
        have hrr : (machA t n l k a b).r = ⟨rk, rn⟩ := by
          have := legB_dec (machA t n l k a b) ⟨rk, rn⟩ he
          rw [hle] at this
          exact of_decide_eq_true this.symm
        exact still_same (s := ⟨t, n, l⟩) (o := ⟨k, a, b, ⟨rk, rn⟩⟩) wn cp he hst _ (if_pos ⟨he, hrr⟩)
      by_cases hq : opChk k' a' b' rk' rn' = 0
      · have cq : opC ⟨k', a', b', ⟨rk', rn'⟩⟩ = 0 := hq
        have eq : (opChk k' a' b' rk' rn' == 0) = true := by rw [hq]; rfl
        have s2 : (if opChk k' a' b' rk' rn' = 0 then stillB k' a' b' rk' rn' else false) = stillB k' a' b' rk' rn' := if_pos hq
        have e1 := i1.2 ⟨cp, cq⟩
        have e2 := i2.2 ⟨cq, cp⟩
        have hI : cmIs ⟨k, a, b, ⟨rk, rn⟩⟩ ⟨k', a', b', ⟨rk', rn'⟩⟩ = cmOpsB ⟨k, a, b, ⟨rk, rn⟩⟩ ⟨k', a', b', ⟨rk', rn'⟩⟩ := if_neg (by simp [cp, cq])
        have hE : cmOpsB ⟨k, a, b, ⟨rk, rn⟩⟩ ⟨k', a', b', ⟨rk', rn'⟩⟩ = true → eithB ⟨t, n, l⟩ ⟨k, a, b, ⟨rk, rn⟩⟩ ⟨k', a', b', ⟨rk', rn'⟩⟩ = true := fun hc => eith_comm (s := ⟨t, n, l⟩) wn cp cq hc
        have hS : stillB k a b rk rn = true → stillB k' a' b' rk' rn' = true → cmOpsB ⟨k, a, b, ⟨rk, rn⟩⟩ ⟨k', a', b', ⟨rk', rn'⟩⟩ = true := fun h1 h2 => still_comm cp cq h1 h2
        have hT : opTy k ≠ opTy k' → cmOpsB ⟨k, a, b, ⟨rk, rn⟩⟩ ⟨k', a', b', ⟨rk', rn'⟩⟩ = true := fun h => if_pos h
        simp only [ep, eq, s1, s2, e1, e2, hI, beq_self_eq_true, bne_self_eq_false, Bool.not_true, Bool.false_eq_true, if_false, if_true]
        generalize cmOpsB ⟨k, a, b, ⟨rk, rn⟩⟩ ⟨k', a', b', ⟨rk', rn'⟩⟩ = I at *
        generalize eithB ⟨t, n, l⟩ ⟨k, a, b, ⟨rk, rn⟩⟩ ⟨k', a', b', ⟨rk', rn'⟩⟩ = X at *
        generalize stillB k a b rk rn = S1 at *
        generalize stillB k' a' b' rk' rn' = S2 at *
        by_cases ht : opTy k = opTy k'
        · have ht' : (opTy k != opTy k') = false := by rw [ht]; simp
          by_cases he : (machA t n l k a b).e = 0
          · have he' : ((machA t n l k a b).e == 0) = true := by rw [he]; rfl
            cases hle : legB (machA t n l k a b) rk rn with
            | true => cases S1 <;> cases S2 <;> cases I <;> simp_all
            | false => cases S1 <;> cases S2 <;> cases I <;> simp_all
          · have he' : ((machA t n l k a b).e == 0) = false := by simpa using he
            cases S1 <;> cases S2 <;> cases I <;> simp_all
        · have ht' : (opTy k != opTy k') = true := by rw [bne_iff_ne]; exact ht
          have := hT ht
          subst this
          by_cases he : (machA t n l k a b).e = 0
          · have he' : ((machA t n l k a b).e == 0) = true := by rw [he]; rfl
            cases hle : legB (machA t n l k a b) rk rn with
            | true => cases S1 <;> simp_all
            | false => cases S1 <;> simp_all
          · have he' : ((machA t n l k a b).e == 0) = false := by simpa using he
            cases S1 <;> simp_all
      · have eq : (opChk k' a' b' rk' rn' == 0) = false := by simpa using hq
        have e1 : ¬ cmEr ⟨k, a, b, ⟨rk, rn⟩⟩ ⟨k', a', b', ⟨rk', rn'⟩⟩ = 0 := fun h => hq (i1.1 h).2
        have e2 : ¬ cmEr ⟨k', a', b', ⟨rk', rn'⟩⟩ ⟨k, a, b, ⟨rk, rn⟩⟩ = 0 := fun h => hq (i2.1 h).1
        have b1 : (cmEr ⟨k, a, b, ⟨rk, rn⟩⟩ ⟨k', a', b', ⟨rk', rn'⟩⟩ == 0) = false := by simpa using e1
        have b2 : (cmEr ⟨k', a', b', ⟨rk', rn'⟩⟩ ⟨k, a, b, ⟨rk, rn⟩⟩ == 0) = false := by simpa using e2
        have b3 : (cmEr ⟨k, a, b, ⟨rk, rn⟩⟩ ⟨k', a', b', ⟨rk', rn'⟩⟩ != 0) = true := by rw [bne_iff_ne]; exact e1
        have hI : cmIs ⟨k, a, b, ⟨rk, rn⟩⟩ ⟨k', a', b', ⟨rk', rn'⟩⟩ = false := if_pos (.inr hq)
        simp only [ep, eq, s1, b1, b2, b3, hI, beq_self_eq_true, Bool.not_true, Bool.not_false, Bool.false_eq_true, if_false, if_true]
        by_cases he : (machA t n l k a b).e = 0
        · have he' : ((machA t n l k a b).e == 0) = true := by rw [he]; rfl
          cases hle : legB (machA t n l k a b) rk rn with
          | true =>
            cases hst : stillB k a b rk rn with
            | true => simp [he', keep he hle hst]
            | false => simp [he']
          | false => simp [he']
        · have he' : ((machA t n l k a b).e == 0) = false := by simpa using he
          simp [he']
    · have ep : (opChk k a b rk rn == 0) = false := by simpa using hp
      have e1 : ¬ cmEr ⟨k, a, b, ⟨rk, rn⟩⟩ ⟨k', a', b', ⟨rk', rn'⟩⟩ = 0 := fun h => hp (i1.1 h).1
      have e2 : ¬ cmEr ⟨k', a', b', ⟨rk', rn'⟩⟩ ⟨k, a, b, ⟨rk, rn⟩⟩ = 0 := fun h => hp (i2.1 h).2
      have b1 : (cmEr ⟨k, a, b, ⟨rk, rn⟩⟩ ⟨k', a', b', ⟨rk', rn'⟩⟩ == 0) = false := by simpa using e1
      have b2 : (cmEr ⟨k', a', b', ⟨rk', rn'⟩⟩ ⟨k, a, b, ⟨rk, rn⟩⟩ == 0) = false := by simpa using e2
      have b3 : (cmEr ⟨k, a, b, ⟨rk, rn⟩⟩ ⟨k', a', b', ⟨rk', rn'⟩⟩ != 0) = true := by rw [bne_iff_ne]; exact e1
      have hI : cmIs ⟨k, a, b, ⟨rk, rn⟩⟩ ⟨k', a', b', ⟨rk', rn'⟩⟩ = false := if_pos (.inl hp)
      simp only [ep, b1, b2, b3, hI, beq_self_eq_true, Bool.not_true, Bool.not_false, Bool.false_eq_true, if_false, if_true]
  · have hd : decide ((l.length : Int) > 60) = true := by rw [decide_eq_true_eq]; omega
    simp only [T.ev_ite, T.ev_ret, hd, if_true]

end Go.Proofs.YtecidokjhplbgaaGreatDoorD
