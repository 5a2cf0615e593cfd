/-
  Chapter 07: contracts of sets with and without a number.
-/
import Derived.Test.YtdefopkieleojaaSetG
set_option linter.unusedVariables false
set_option linter.unusedSimpArgs false
namespace Go.Proofs.YtdefopkieleojaaD
open Go Go.RowKit

theorem withR_true {l : List Int} {x : Int} : ∀ (h : ∀ z ∈ l, x < z), withR true l x = (true, l) := by
  induction l with
  | nil => intro _; rfl
  | cons y r ih =>
    intro h
    have h1 := h y (by simp)
    simp only [withR, Bool.true_eq_false, false_and, if_false, ih (fun z hz => h z (List.mem_cons_of_mem _ hz)), show ¬ y = x by omega]
    rfl
theorem with_rise : ∀ {l : List Int} {x : Int}, riseB l = true → withN l x = if hasN l x then l else l.take (cntN l x) ++ [x] ++ l.drop (cntN l x)
  | [], x, _ => rfl
  | y :: r, x, h => by
    have ih := with_rise (x := x) (riseB_tail h)
    have hlow := riseB_low h
    by_cases hy : y < x
    · have e1 : (y == x) = false := by rw [beq_eq_false_iff_ne]; omega
      have e2 : withN (y :: r) x = y :: withN r x := by
        simp only [withN, withR, show ¬ x ≤ y by omega, and_false, if_false, show ¬ y = x by omega]
        split <;> rfl
      rw [e2, ih]
      simp only [hasN, cntN, e1, Bool.false_or, hy, if_true, show 1 + cntN r x = cntN r x + 1 by omega, List.take_succ_cons, List.drop_succ_cons]
      split <;> simp
    · by_cases he : y = x
      · subst he
        simp only [withN, withR, Int.le_refl, and_self, if_true, withR_true hlow, hasN, beq_self_eq_true, Bool.true_or]
        rfl
      · have e1 : (y == x) = false := by rw [beq_eq_false_iff_ne]; omega
        have hl : ∀ z ∈ r, x < z := fun z hz => by have := hlow z hz; omega
        have h0 : cntN r x = 0 := cntN_low fun z hz => by have := hl z hz; omega
        simp only [withN, withR, show x ≤ y by omega, and_self, if_true, he, if_false, withR_true hl, hasN, e1, Bool.false_or, hasN_low hl, cntN, hy, h0]
        rfl
theorem lessN_low {l : List Int} {x : Int} : ∀ (h : ∀ z ∈ l, x < z), lessN l x = l := by
  induction l with
  | nil => intro _; rfl
  | cons y r ih =>
    intro h
    have h1 := h y (by simp)
    simp only [lessN, ih (fun z hz => h z (List.mem_cons_of_mem _ hz)), show ¬ y = x by omega, if_false]
    rfl
theorem less_rise : ∀ {l : List Int} {x : Int}, riseB l = true → lessN l x = if hasN l x then l.take (cntN l x) ++ l.drop (cntN l x + 1) else l
  | [], x, _ => rfl
  | y :: r, x, h => by
    have ih := less_rise (x := x) (riseB_tail h)
    have hlow := riseB_low h
    by_cases hy : y < x
    · have e1 : (y == x) = false := by rw [beq_eq_false_iff_ne]; omega
      simp only [lessN, show ¬ y = x by omega, if_false, ih, hasN, cntN, e1, Bool.false_or, hy, if_true, show 1 + cntN r x = cntN r x + 1 by omega, List.take_succ_cons, List.drop_succ_cons]
      split <;> simp
    · by_cases he : y = x
      · subst he
        have h0 : cntN r y = 0 := cntN_low fun z hz => by have := hlow z hz; omega
        simp only [lessN, if_true, List.nil_append, lessN_low hlow, hasN, beq_self_eq_true, Bool.true_or, cntN, show ¬ y < y by omega, if_false, h0]
        rfl
      · have e1 : (y == x) = false := by rw [beq_eq_false_iff_ne]; omega
        have hl : ∀ z ∈ r, x < z := fun z hz => by have := hlow z hz; omega
        simp only [lessN, he, if_false, lessN_low hl, hasN, e1, Bool.false_or, hasN_low hl]
        rfl
theorem has_lt {l : List Int} {x : Int} (h : riseB l = true) (hh : hasN l x = true) : cntN l x < l.length := by
  rw [has_get h] at hh
  split at hh
  · assumption
  · cases hh

def withSG : NSt → T NSt
  | ⟨[.pl .ints l, .int .i64 x], [], [], 0⟩ => T.when (midB l && riseB l) (.ret ⟨[.row 0 1 0], [], [(0, .rows .ints (withN l x))], 1⟩)
  | _ => .fail
theorem withS_fn : StFn Try.prog 18 withSG :=
  ⟨bodied_ex (by kernel_rfl), fun n0 n h => by
    unfold withSG at h
    split at h
    · rename_i l x
      obtain ⟨hc, h1⟩ := ev_when h
      refine st_cut plainN mixedN fdE_ok noL ((with_tree l x).trans ?_)
      rw [← h1]
      have hc2 := hc
      simp only [Bool.and_eq_true] at hc
      have hm := hc.1
      rw [midB, Nat.ble_eq] at hm
      have hle := cntN_le l x
      rw [with_rise hc.2]
      have e1 : (decide ((0 : Int) ≤ (cntN l x : Int)) && decide ((cntN l x : Int) ≤ (l.length : Int)) && (l.length + 1).ble 1000000000) = true := by
        simp only [Bool.and_eq_true, decide_eq_true_eq, Nat.ble_eq]; omega
      simp only [T.ev_ite, hc2, mid_small hc.1, e1, if_true, Int.toNat_natCast]
      cases hasN l x <;> rfl
    · exact (ev_fail h).elim⟩
def withG : List CV → T CV
  | [.pl .ints l, .int .i64 x] => T.when (midB l && riseB l) (.ret (.pl .ints (withN l x)))
  | _ => .fail
theorem with_fn : PureFn Try.prog 18 (sigExt [.l .ints] withG) :=
  pureFn_mk (bodied_ex (by kernel_rfl)) fun args d h => by
    refine (pure_of_st withS_fn).2 args d ?_
    unfold withG at h
    split at h
    · rename_i l x
      obtain ⟨hc, h1⟩ := ev_when h
      cases ev_ret h1
      simp only [pureOfSt, withSG, T.when, hc]
      rfl
    · exact (ev_fail h).elim

def lessRow (l : List Int) (c : Nat) : List Int := l.take c ++ l.drop (c + 1) ++ [0]
def lessSG : NSt → T NSt
  | ⟨[.pl .ints l, .int .i64 x], [], [], 0⟩ => T.when (midB l && riseB l) (.ite (hasN l x) (.ret ⟨[.win 0 1 0 (l.length - 1) l.length], [], [(0, .rows .ints (lessRow l (cntN l x)))], 1⟩) (.ret ⟨[.row 0 1 0], [], [(0, .rows .ints l)], 1⟩))
  | _ => .fail
theorem lessS_fn : StFn Try.prog 19 lessSG :=
  ⟨bodied_ex (by kernel_rfl), fun n0 n h => by
    unfold lessSG at h
    split at h
    · rename_i l x
      obtain ⟨hc, h1⟩ := ev_when h
      refine st_cut plainN mixedN fdE_ok noL ((less_tree l x).trans ?_)
      rw [← h1]
      have hc2 := hc
      simp only [Bool.and_eq_true] at hc
      have hm := hc.1
      rw [midB, Nat.ble_eq] at hm
      cases hh : hasN l x with
      | false => simp only [T.ev_ite, hc2, mid_small hc.1, hh, if_true, Bool.not_false, Bool.false_eq_true, if_false]; rfl
      | true =>
        have hlt := has_lt hc.2 hh
        generalize cntN l x = c at *
        have hw : IntKind.i64.wrap ((c : Int) + 1) = ((c + 1 : Nat) : Int) := by rw [wrap64 (by omega) (by omega)]; omega
        have hys : List.take (l.length - (c + 1)) (List.drop (c + 1) l) = List.drop (c + 1) l := List.take_of_length_le (by rw [List.length_drop]; omega)
        have hn : c + (l.length - (c + 1)) = l.length - 1 := by omega
        have q0 : decide ((0 : Int) ≤ (l.length : Int)) = true := by rw [decide_eq_true_eq]; omega
        have q1 : decide ((l.length : Int) ≤ (l.length : Int)) = true := by rw [decide_eq_true_eq]; omega
        have q2 : decide ((0 : Int) ≤ ((c + 1 : Nat) : Int)) = true := by rw [decide_eq_true_eq]; omega
        have q3 : decide (((c + 1 : Nat) : Int) ≤ (l.length : Int)) = true := by rw [decide_eq_true_eq]; omega
        have q4 : decide ((0 : Int) ≤ (c : Int)) = true := by rw [decide_eq_true_eq]; omega
        have q5 : decide ((c : Int) ≤ ((c + 1 : Nat) : Int)) = true := by rw [decide_eq_true_eq]; omega
        have q6 : ((c : Int) == ((c + 1 : Nat) : Int)) = false := by rw [beq_eq_false_iff_ne]; omega
        have q7 : decide ((c : Int) ≤ (l.length : Int)) = true := by rw [decide_eq_true_eq]; omega
        have q8 : (c + 1 + (l.length - (c + 1))).ble l.length = true := by rw [Nat.ble_eq]; omega
        have q9 : (l.length - 1).ble l.length = true := by rw [Nat.ble_eq]; omega
        have q10 : l.length.ble l.length = true := by rw [Nat.ble_eq]; omega
        have q11 : decide ((0 : Int) ≤ ((l.length - 1 : Nat) : Int)) = true := by rw [decide_eq_true_eq]; omega
        have q12 : decide (((l.length - 1 : Nat) : Int) ≤ (l.length : Int)) = true := by rw [decide_eq_true_eq]; omega
        have hL : (List.take c l ++ List.drop (c + 1) l).length = l.length - 1 := by rw [List.length_append, List.length_take, List.length_drop]; omega
        have e1 : List.take (l.length - 1) (List.take c l ++ List.drop (c + 1) l ++ List.drop (l.length - 1) l) = List.take c l ++ List.drop (c + 1) l := List.take_left' hL
        have e2 : List.drop (l.length - 1 + (l.length - (l.length - 1))) (List.take c l ++ List.drop (c + 1) l ++ List.drop (l.length - 1) l) = [] := by
          apply List.drop_eq_nil_of_le
          rw [List.length_append, hL, List.length_drop]; omega
        have e3 : l.length - (l.length - 1) = 1 := by omega
        simp only [T.ev_ite, hc2, mid_small hc.1, hh, hw, hi0, lo0, Int.toNat_natCast, Nat.zero_add, Nat.sub_zero, hys, List.length_drop, hn, q0, q1, q2, q3, q4, q5, q6, q7, q8, q9, q10, q11, q12, Bool.and_self, Bool.not_true, Bool.false_eq_true, if_false, if_true, e1, e2]
        rw [e3, List.append_nil, if_pos (by simp)]
        rfl
    · exact (ev_fail h).elim⟩
def lessG : List CV → T CV
  | [.pl .ints l, .int .i64 x] => T.when (midB l && riseB l) (.ret (.pl .ints (lessN l x)))
  | _ => .fail
theorem less_fn : PureFn Try.prog 19 (sigExt [.l .ints] lessG) :=
  pureFn_mk (bodied_ex (by kernel_rfl)) fun args d h => by
    refine (pure_of_st lessS_fn).2 args d ?_
    unfold lessG at h
    split at h
    · rename_i l x
      obtain ⟨hc, h1⟩ := ev_when h
      cases ev_ret h1
      have hr := hc
      simp only [Bool.and_eq_true] at hr
      rw [less_rise hr.2]
      simp only [pureOfSt, lessSG, T.when, hc]
      cases hh : hasN l x with
      | false => rfl
      | true =>
        have hlt := has_lt hr.2 hh
        show (T.ret (CV.pl .ints (List.take (l.length - 1) (List.drop 0 (lessRow l (cntN l x)))))).ev = _
        have hL : (List.take (cntN l x) l ++ List.drop (cntN l x + 1) l).length = l.length - 1 := by rw [List.length_append, List.length_take, List.length_drop]; omega
        rw [List.drop_zero, lessRow, List.take_left' hL]
        rfl
    · exact (ev_fail h).elim

end Go.Proofs.YtdefopkieleojaaD
