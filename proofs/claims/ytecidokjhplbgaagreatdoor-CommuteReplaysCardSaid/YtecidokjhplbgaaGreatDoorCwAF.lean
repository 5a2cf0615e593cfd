/-
  Operations that commute, in plain words; commute.Ops: contract.
-/
import Derived.Test.YtecidokjhplbgaaGreatDoorCmuAK
import Derived.Test.YtecidokjhplbgaaGreatDoorChMch
import Derived.Test.YtecidokjhplbgaaGreatDoorChSetP
import Derived.Test.YtecidokjhplbgaaGreatDoorChMapP
set_option linter.unusedVariables false
set_option linter.unusedSimpArgs false
namespace Go.Proofs.YtecidokjhplbgaaGreatDoorD
open Go Go.RowKit

def cmOpsB (p q : DOp) : Bool :=
  if opTy p.kind ≠ opTy q.kind then true
  else if opTy p.kind = 1 then cmCtrB p.kind p.a p.b p.ret.kind p.ret.n q.kind q.a q.b q.ret.kind q.ret.n
  else if opTy p.kind = 2 then cmSetB p.kind p.a p.b p.ret.kind p.ret.n q.kind q.a q.b q.ret.kind q.ret.n
  else if opTy p.kind = 3 then cmMapB p.kind p.a p.b p.ret.kind p.ret.n q.kind q.a q.b q.ret.kind q.ret.n
  else if opTy p.kind = 4 then cmQueB p.kind p.a p.b p.ret.kind p.ret.n q.kind q.a q.b q.ret.kind q.ret.n
  else cmAccB p.kind p.a p.b p.ret.kind p.ret.n q.kind q.a q.b q.ret.kind q.ret.n
def opC (o : DOp) : Int := opChk o.kind o.a o.b o.ret.kind o.ret.n
def stepM (s : DState) (o : DOp) : Ans := machA s.type s.n s.l o.kind o.a o.b
def legS (s : DState) (o : DOp) : Option DState := if (stepM s o).e = 0 ∧ (stepM s o).r = o.ret then some (stepM s o).s else none
def twoS (s : DState) (p q : DOp) : Option DState := (legS s p).bind fun t => legS t q

theorem two_still {s : DState} {p q : DOp} (hp : ∀ t, legS s p = some t → t = s) (hq : ∀ t, legS s q = some t → t = s) : twoS s p q = twoS s q p := by
  unfold twoS
  cases h1 : legS s p with
  | none =>
    cases h2 : legS s q with
    | none => rfl
    | some t => have := hq t h2; subst this; simp [h1]
  | some t =>
    have := hp t h1; subst this
    cases h2 : legS t q with
    | none => simp [h2]
    | some u => have := hq u h2; subst this; simp [h1, h2]

theorem wrap_bmod (n : Int) : IntKind.i64.wrap n = Int.bmod n 18446744073709551616 := by
  unfold IntKind.wrap
  have hb : (2 ^ IntKind.i64.bits : Int) = 18446744073709551616 := by decide
  have hb2 : (2 ^ (IntKind.i64.bits - 1) : Int) = 9223372036854775808 := by decide
  have hs : IntKind.i64.signed = true := rfl
  simp only [hb, hb2, hs, Bool.true_and, decide_eq_true_eq, Int.bmod]
  split <;> split <;> omega
theorem wrapU_emod (n : Int) : IntKind.u64.wrap n = n % 18446744073709551616 := by
  unfold IntKind.wrap
  have hb : (2 ^ IntKind.u64.bits : Int) = 18446744073709551616 := by decide
  have hs : IntKind.u64.signed = false := rfl
  simp only [hb, hs, Bool.false_and, Bool.false_eq_true, if_false]
theorem bmod_eq_of {a b : Int} (h : a % 18446744073709551616 = b % 18446744073709551616) : Int.bmod a 18446744073709551616 = Int.bmod b 18446744073709551616 := by
  unfold Int.bmod; simp only []; split <;> split <;> omega
theorem bmod_mod (a : Int) : Int.bmod a 18446744073709551616 % 18446744073709551616 = a % 18446744073709551616 := by
  unfold Int.bmod; simp only []; split <;> omega
theorem bmod_w64 {a : Int} (h : w64 a) : Int.bmod a 18446744073709551616 = a := by
  simp only [w64] at h
  unfold Int.bmod; simp only []; split <;> omega
theorem w64_bmod (a : Int) : w64 (Int.bmod a 18446744073709551616) := by
  unfold Int.bmod w64; simp only []; split <;> omega
theorem add64_bm (a b : Int) : Ctr.add64 a b = Int.bmod (a + b) 18446744073709551616 := by
  rw [Ctr.add64, wrap_bmod, wrapU_emod, wrapU_emod, wrapU_emod]
  apply bmod_eq_of; omega
theorem add64_swap (n a b : Int) : Ctr.add64 (Ctr.add64 n a) b = Ctr.add64 (Ctr.add64 n b) a := by
  simp only [add64_bm]
  apply bmod_eq_of
  have h1 := bmod_mod (n + a)
  have h2 := bmod_mod (n + b)
  omega
theorem add64_zero {n : Int} (hn : w64 n) : Ctr.add64 n 0 = n := by
  rw [add64_bm, Int.add_zero, bmod_w64 hn]
theorem ctr_leg {n : Int} {o : DOp} (h : (stepM ⟨1, n, []⟩ o).e = 0) : (o.kind = 1 ∧ legS ⟨1, n, []⟩ o = if o.ret = ⟨0, 0⟩ then some ⟨1, Ctr.add64 n o.a, []⟩ else none) ∨ (o.kind = 2 ∧ legS ⟨1, n, []⟩ o = if o.ret = ⟨2, n⟩ then some ⟨1, n, []⟩ else none) := by
  obtain ⟨k, a, b, r⟩ := o
  have hc : checkN 1 n [] = 0 := rfl
  simp only [legS, stepM, machA, Ctr.ctrA, hc, ne_eq, not_true_eq_false, or_self, if_false, if_true] at h ⊢
  by_cases h1 : k = 1
  · left; subst h1
    by_cases hb : b = 0 <;> simp [hb, bad] at h ⊢
    simp [eq_comm]
  · by_cases h2 : k = 2
    · right; subst h2
      by_cases hb : b = 0 ∧ a = 0 <;> simp [hb, bad] at h ⊢
      simp [eq_comm]
    · simp [h1, h2, bad] at h
theorem ctr_kind1 {n : Int} {o : DOp} (h : (stepM ⟨1, n, []⟩ o).e = 0) : ∀ m, (stepM ⟨1, m, []⟩ o).e = 0 := fun m => by
  obtain ⟨k, a, b, r⟩ := o
  have hc : ∀ n, checkN 1 n [] = 0 := fun _ => rfl
  simp only [stepM, machA, Ctr.ctrA, hc, ne_eq, not_true_eq_false, or_self, if_false, if_true] at h ⊢
  by_cases h1 : k = 1 <;> by_cases h2 : k = 2 <;> by_cases h3 : b = 0 <;> by_cases h4 : a = 0 <;> simp_all [bad]

theorem ctr_two {n : Int} {p q : DOp} (hn : w64 n) (hc : cmCtrB p.kind p.a p.b p.ret.kind p.ret.n q.kind q.a q.b q.ret.kind q.ret.n = true) (ep : (stepM ⟨1, n, []⟩ p).e = 0) (eq : (stepM ⟨1, n, []⟩ q).e = 0) : twoS ⟨1, n, []⟩ p q = twoS ⟨1, n, []⟩ q p := by
  have lp := fun m => ctr_leg (ctr_kind1 ep m)
  have lq := fun m => ctr_leg (ctr_kind1 eq m)
  simp only [cmCtrB, decide_eq_true_eq] at hc
  have still : ∀ {o : DOp}, (∀ m, (o.kind = 1 ∧ legS ⟨1, m, []⟩ o = if o.ret = ⟨0, 0⟩ then some ⟨1, Ctr.add64 m o.a, []⟩ else none) ∨ (o.kind = 2 ∧ legS ⟨1, m, []⟩ o = if o.ret = ⟨2, m⟩ then some ⟨1, m, []⟩ else none)) → (o.kind = 2 ∨ o.a = 0) → ∀ t, legS ⟨1, n, []⟩ o = some t → t = ⟨1, n, []⟩ := by
    intro o l ho t ht
    rcases l n with ⟨h1, h2⟩ | ⟨h1, h2⟩
    · have h0 : o.a = 0 := by omega
      rw [h2, h0, add64_zero hn] at ht
      split at ht <;> cases ht; rfl
    · rw [h2] at ht
      split at ht <;> cases ht; rfl
  by_cases hs : (p.kind = 2 ∨ p.a = 0) ∧ (q.kind = 2 ∨ q.a = 0)
  · exact two_still (still lp hs.1) (still lq hs.2)
  · rcases lp n with ⟨p1, p2⟩ | ⟨p1, p2⟩
    · rcases lq n with ⟨q1, q2⟩ | ⟨q1, q2⟩
      · unfold twoS
        rw [p2, q2]
        by_cases rp : p.ret = ⟨0, 0⟩ <;> by_cases rq : q.ret = ⟨0, 0⟩ <;> simp only [rp, rq, if_true, if_false, Option.bind_some, Option.bind_none]
        · have p3 := ((lp (Ctr.add64 n q.a)).resolve_right (fun h => by have := h.1; omega)).2
          have q3 := ((lq (Ctr.add64 n p.a)).resolve_right (fun h => by have := h.1; omega)).2
          rw [p3, q3, if_pos rp, if_pos rq, add64_swap]
        · have q3 := ((lq (Ctr.add64 n p.a)).resolve_right (fun h => by have := h.1; omega)).2
          rw [q3, if_neg rq]
        · have p3 := ((lp (Ctr.add64 n q.a)).resolve_right (fun h => by have := h.1; omega)).2
          rw [p3, if_neg rp]
      · -- p adds nothing
        exfalso; omega
    · rcases lq n with ⟨q1, q2⟩ | ⟨q1, q2⟩
      · exfalso; omega
      · exfalso; omega

theorem fif_leg {l : List Int} {o : DOp} (h : (stepM ⟨4, 0, l⟩ o).e = 0) (hc : opC o = 0) : o.b = 0 ∧
    ((o.kind = 10 ∧ o.ret = ⟨0, 0⟩ ∧ ∀ l, legS ⟨4, 0, l⟩ o = some ⟨4, 0, l ++ [o.a]⟩) ∨ (o.kind = 12 ∧ o.a = 0 ∧ ∀ l : List Int, legS ⟨4, 0, l⟩ o = if o.ret = ⟨2, l.length⟩ then some ⟨4, 0, l⟩ else none) ∨
    (o.kind = 11 ∧ o.a = 0 ∧ (legS ⟨4, 0, []⟩ o = if o.ret = ⟨1, 0⟩ then some ⟨4, 0, []⟩ else none) ∧ ∀ x r, legS ⟨4, 0, x :: r⟩ o = if o.ret = ⟨2, x⟩ then some ⟨4, 0, r⟩ else none)) := by
  obtain ⟨k, a, b, ⟨rk, rn⟩⟩ := o
  have hk : ∀ l, checkN 4 0 l = 0 := fun _ => rfl
  have e41 : ¬ ((4 : Int) = 1) := by decide
  have e42 : ¬ ((4 : Int) = 2) := by decide
  have e43 : ¬ ((4 : Int) = 3) := by decide
  simp only [legS, stepM, machA, Fif.fifoA, hk, ne_eq, not_true_eq_false, or_self, if_false, if_true, e41, e42, e43] at h ⊢
  by_cases h1 : k < 10 ∨ 12 < k
  · simp [h1, bad] at h
  · simp only [h1, if_false] at h ⊢
    by_cases h2 : b ≠ 0 ∨ (k ≠ 10 ∧ a ≠ 0)
    · simp [h2, bad] at h
    · simp only [ne_eq] at h2
      have hb : b = 0 := by omega
      subst hb
      refine ⟨rfl, ?_⟩
      by_cases k10 : k = 10
      · subst k10
        left
        have hr : rk = 0 ∧ rn = 0 := by
          simp only [opC, opChk] at hc
          by_cases ho : opArgs 10 a 0
          · simp only [ho, if_true, opRet, opNum] at hc
            by_cases h5 : rk = 0 ∧ rn = 0
            · exact h5
            · simp [h5] at hc
          · simp [ho] at hc
        obtain ⟨rfl, rfl⟩ := hr
        simp
      · by_cases k12 : k = 12
        · subst k12
          right; left
          have ha : a = 0 := by omega
          subst ha
          simp [eq_comm]
        · have k11 : k = 11 := by omega
          subst k11
          right; right
          have ha : a = 0 := by omega
          subst ha
          simp [eq_comm]
theorem fif_two {l : List Int} {p q : DOp} (hc : cmQueB p.kind p.a p.b p.ret.kind p.ret.n q.kind q.a q.b q.ret.kind q.ret.n = true) (op : opC p = 0) (oq : opC q = 0) (ep : (stepM ⟨4, 0, l⟩ p).e = 0) (eq : (stepM ⟨4, 0, l⟩ q).e = 0) : twoS ⟨4, 0, l⟩ p q = twoS ⟨4, 0, l⟩ q p := by
  obtain ⟨bp, lp⟩ := fif_leg ep op
  obtain ⟨bq, lq⟩ := fif_leg eq oq
  have still : ∀ {o : DOp}, o.b = 0 → ((o.kind = 10 ∧ o.ret = ⟨0, 0⟩ ∧ ∀ l, legS ⟨4, 0, l⟩ o = some ⟨4, 0, l ++ [o.a]⟩) ∨ (o.kind = 12 ∧ o.a = 0 ∧ ∀ l : List Int, legS ⟨4, 0, l⟩ o = if o.ret = ⟨2, l.length⟩ then some ⟨4, 0, l⟩ else none) ∨
    (o.kind = 11 ∧ o.a = 0 ∧ (legS ⟨4, 0, []⟩ o = if o.ret = ⟨1, 0⟩ then some ⟨4, 0, []⟩ else none) ∧ ∀ x r, legS ⟨4, 0, x :: r⟩ o = if o.ret = ⟨2, x⟩ then some ⟨4, 0, r⟩ else none)) → stillB o.kind o.a o.b o.ret.kind o.ret.n = true → ∀ t, legS ⟨4, 0, l⟩ o = some t → t = ⟨4, 0, l⟩ := by
    intro o hb ho hs t ht
    rcases ho with ⟨h1, h2, h3⟩ | ⟨h1, h2, h3⟩ | ⟨h1, h2, h3, h4⟩
    · rw [h1] at hs; simp [stillB] at hs
    · rw [h3] at ht; split at ht <;> cases ht; rfl
    · rw [h1] at hs; simp [stillB] at hs
      cases l with
      | nil => rw [h3] at ht; split at ht <;> cases ht; rfl
      | cons x r =>
        rw [h4] at ht
        split at ht
        · rename_i h5; rw [h5] at hs; simp at hs
        · cases ht
  unfold cmQueB at hc
  split at hc
  · rename_i h
    simp only [Bool.and_eq_true] at h
    exact two_still (still bp lp h.1) (still bq lq h.2)
  split at hc
  · rename_i h
    simp only [decide_eq_true_eq] at hc
    have lp := (lp.resolve_right (fun h => by rcases h with h | h <;> have := h.1 <;> omega)).2.2
    have lq := (lq.resolve_right (fun h => by rcases h with h | h <;> have := h.1 <;> omega)).2.2
    simp [twoS, lp, lq, hc]
  split at hc
  · rename_i h
    simp only [decide_eq_true_eq] at hc
    have : p = q := by
      rcases lp with lp | lp | lp <;> rcases lq with lq | lq | lq
      all_goals first
        | (exfalso; have := lp.1; omega)
        | (exfalso; have := lq.1; omega)
        | skip
      obtain ⟨pk, pa, pb, ⟨prk, prn⟩⟩ := p
      obtain ⟨qk, qa, qb, ⟨qrk, qrn⟩⟩ := q
      simp only at *
      simp only [DOp.mk.injEq, DRet.mk.injEq]
      have := lp.2.1; have := lq.2.1
      omega
    rw [this]
  have key : ∀ {p q : DOp}, p.kind = 10 → q.kind = 11 → q.ret.kind = 2 → p.a ≠ q.ret.n → (∀ l, legS ⟨4, 0, l⟩ p = some ⟨4, 0, l ++ [p.a]⟩) → ((legS ⟨4, 0, []⟩ q = if q.ret = ⟨1, 0⟩ then some ⟨4, 0, []⟩ else none) ∧ ∀ x r, legS ⟨4, 0, x :: r⟩ q = if q.ret = ⟨2, x⟩ then some ⟨4, 0, r⟩ else none) → twoS ⟨4, 0, l⟩ p q = twoS ⟨4, 0, l⟩ q p := by
    intro p q h1 h2 h3 h4 h5 h6
    obtain ⟨h6, h7⟩ := h6
    unfold twoS
    rw [h5]
    cases l with
    | nil =>
      have e1 : ¬ q.ret = ⟨1, 0⟩ := fun e => by rw [e] at h3; simp at h3
      have e2 : ¬ q.ret = ⟨2, p.a⟩ := fun e => by rw [e] at h4; simp at h4
      rw [h6, if_neg e1]
      simp only [List.nil_append, Option.bind_some, Option.bind_none]
      rw [h7, if_neg e2]
    | cons x r =>
      rw [h7]
      simp only [List.cons_append, Option.bind_some]
      rw [h7]
      by_cases e : q.ret = ⟨2, x⟩
      · rw [if_pos e, if_pos e, Option.bind_some, h5]
      · rw [if_neg e, if_neg e]; rfl
  split at hc
  · rename_i h
    simp only [decide_eq_true_eq, ne_eq] at hc
    have lp := (lp.resolve_right (fun h => by rcases h with h | h <;> have := h.1 <;> omega)).2.2
    have lq := ((lq.resolve_left (fun h => by have := h.1; omega)).resolve_left (fun h => by have := h.1; omega)).2.2
    exact key h.1 h.2.1 h.2.2 hc lp lq
  split at hc
  · rename_i h
    simp only [decide_eq_true_eq, ne_eq] at hc
    have lq := (lq.resolve_right (fun h => by rcases h with h | h <;> have := h.1 <;> omega)).2.2
    have lp := ((lp.resolve_left (fun h => by have := h.1; omega)).resolve_left (fun h => by have := h.1; omega)).2.2
    exact (key h.1 h.2.1 h.2.2 hc lq lp).symm
  · cases hc

def setNl (k : Int) (l : List Int) (a : Int) : List Int := if k = 3 then Set.withN l a else if k = 4 then Set.lessN l a else l
def setRn (k : Int) (has : Bool) : Int := if k = 3 then (if has then 0 else 1) else if has then 1 else 0
theorem set_leg {l : List Int} {o : DOp} (hl : Set.riseB l = true) (h : (stepM ⟨2, 0, l⟩ o).e = 0) : o.b = 0 ∧
    ((o.kind = 6 ∧ o.a = 0 ∧ ∀ l, Set.riseB l = true → legS ⟨2, 0, l⟩ o = if o.ret = ⟨2, l.length⟩ then some ⟨2, 0, l⟩ else none) ∨
     ((o.kind = 3 ∨ o.kind = 4 ∨ o.kind = 5) ∧ ∀ l, Set.riseB l = true → legS ⟨2, 0, l⟩ o = if o.ret = ⟨2, setRn o.kind (Set.hasN l o.a)⟩ then some ⟨2, 0, setNl o.kind l o.a⟩ else none)) := by
  obtain ⟨k, a, b, ⟨rk, rn⟩⟩ := o
  have e21 : ¬ ((2 : Int) = 1) := by decide
  have hk : ∀ l, Set.riseB l = true → checkN 2 0 l = 0 := fun l hl => Set.check2.2 ⟨rfl, hl⟩
  simp only [legS, stepM, machA, Set.setA, hk l hl, ne_eq, not_true_eq_false, or_self, if_false, if_true, e21] at h ⊢
  by_cases h1 : k < 3 ∨ 6 < k
  · simp [h1, bad] at h
  · simp only [h1, if_false] at h ⊢
    by_cases h2 : b ≠ 0 ∨ (k = 6 ∧ a ≠ 0)
    · simp [h2, bad] at h
    · simp only [ne_eq] at h2
      have hb : b = 0 := by omega
      subst hb
      refine ⟨rfl, ?_⟩
      by_cases k6 : k = 6
      · subst k6
        left
        have ha : a = 0 := by omega
        subst ha
        refine ⟨rfl, rfl, fun l hl => ?_⟩
        simp [hk l hl, @eq_comm Int 2 rk, @eq_comm Int _ rn]
      · right
        refine ⟨by omega, fun l hl => ?_⟩
        have k3 : k = 3 ∨ k = 4 ∨ k = 5 := by omega
        rcases k3 with rfl | rfl | rfl <;> simp [hk l hl, @eq_comm Int 2 rk, @eq_comm Int _ rn, setNl, setRn]
theorem setNl_rise {k : Int} {l : List Int} {a : Int} (hl : Set.riseB l = true) : Set.riseB (setNl k l a) = true := by
  unfold setNl; split
  · exact Set.rise_with a hl
  · split
    · exact Set.rise_less a hl
    · exact hl
theorem setNl_has {k : Int} {l : List Int} {a : Int} (hl : Set.riseB l = true) (y : Int) : Set.hasN (setNl k l a) y = if y = a then (if k = 3 then true else if k = 4 then false else Set.hasN l a) else Set.hasN l y := by
  unfold setNl
  by_cases h3 : k = 3
  · simp only [h3, if_true]; rw [Set.has_with a y hl]; by_cases hy : y = a <;> simp [hy]
  · by_cases h4 : k = 4
    · simp only [h4, if_true, show ¬ ((4 : Int) = 3) by decide, if_false]; rw [Set.has_less l a y]; by_cases hy : y = a <;> simp [hy]
    · simp only [h3, h4, if_false]; by_cases hy : y = a <;> simp [hy]
theorem setNl_comm {k k' : Int} {l : List Int} {a a' : Int} (hl : Set.riseB l = true) (ha : a ≠ a') : setNl k' (setNl k l a) a' = setNl k (setNl k' l a') a := by
  refine Set.rise_ext (setNl_rise (setNl_rise hl)) (setNl_rise (setNl_rise hl)) fun y => ?_
  rw [setNl_has (setNl_rise hl), setNl_has (setNl_rise hl), setNl_has hl, setNl_has hl, setNl_has hl, setNl_has hl]
  by_cases h1 : y = a
  · subst h1; simp [ha, Ne.symm ha]
  · by_cases h2 : y = a'
    · subst h2; simp [ha, Ne.symm ha]
    · simp [h1, h2]
theorem set_two {l : List Int} {p q : DOp} (hl : Set.riseB l = true) (hc : cmSetB p.kind p.a p.b p.ret.kind p.ret.n q.kind q.a q.b q.ret.kind q.ret.n = true) (ep : (stepM ⟨2, 0, l⟩ p).e = 0) (eq : (stepM ⟨2, 0, l⟩ q).e = 0) : twoS ⟨2, 0, l⟩ p q = twoS ⟨2, 0, l⟩ q p := by
  obtain ⟨bp, lp⟩ := set_leg hl ep
  obtain ⟨bq, lq⟩ := set_leg hl eq
  have still : ∀ {o : DOp}, ((o.kind = 6 ∧ o.a = 0 ∧ ∀ l, Set.riseB l = true → legS ⟨2, 0, l⟩ o = if o.ret = ⟨2, l.length⟩ then some ⟨2, 0, l⟩ else none) ∨
     ((o.kind = 3 ∨ o.kind = 4 ∨ o.kind = 5) ∧ ∀ l, Set.riseB l = true → legS ⟨2, 0, l⟩ o = if o.ret = ⟨2, setRn o.kind (Set.hasN l o.a)⟩ then some ⟨2, 0, setNl o.kind l o.a⟩ else none)) → stillB o.kind o.a o.b o.ret.kind o.ret.n = true → ∀ t, legS ⟨2, 0, l⟩ o = some t → t = ⟨2, 0, l⟩ := by
    intro o ho hs t ht
    rcases ho with ⟨h1, h2, h3⟩ | ⟨h1, h3⟩
    · rw [h3 l hl] at ht; split at ht <;> cases ht; rfl
    · rw [h3 l hl] at ht
      split at ht
      · rename_i hr
        cases ht
        have hrn : o.ret.n = setRn o.kind (Set.hasN l o.a) := by rw [hr]
        rcases h1 with h1 | h1 | h1
        · simp [h1, stillB] at hs
          simp only [h1, setRn, setNl, if_true] at hrn ⊢
          cases hh : Set.hasN l o.a with
          | true => rw [Set.with_has hl hh]
          | false => rw [hh] at hrn; simp at hrn; omega
        · simp [h1, stillB] at hs
          simp only [h1, setRn, setNl, if_true, show ¬ ((4 : Int) = 3) by decide, if_false] at hrn ⊢
          cases hh : Set.hasN l o.a with
          | false => rw [Set.less_has hh]
          | true => rw [hh] at hrn; simp at hrn; omega
        · simp [h1, setNl]
      · cases ht
  unfold cmSetB at hc
  split at hc
  · simp only [Bool.and_eq_true] at hc
    exact two_still (still lp hc.1) (still lq hc.2)
  rename_i h6
  have lp := (lp.resolve_left (fun h => by have := h.1; omega))
  have lq := (lq.resolve_left (fun h => by have := h.1; omega))
  split at hc
  · rename_i ha
    unfold twoS
    rw [lp.2 l hl, lq.2 l hl]
    have hp2 := lp.2 (setNl q.kind l q.a) (setNl_rise hl)
    have hq2 := lq.2 (setNl p.kind l p.a) (setNl_rise hl)
    rw [setNl_has hl, if_neg ha] at hp2
    rw [setNl_has hl, if_neg (Ne.symm ha)] at hq2
    by_cases rp : p.ret = ⟨2, setRn p.kind (Set.hasN l p.a)⟩ <;> by_cases rq : q.ret = ⟨2, setRn q.kind (Set.hasN l q.a)⟩
    · rw [if_pos rp, if_pos rq, Option.bind_some, Option.bind_some, hp2, hq2, if_pos rp, if_pos rq, setNl_comm hl ha]
    · rw [if_pos rp, if_neg rq, Option.bind_some, Option.bind_none, hq2, if_neg rq]
    · rw [if_neg rp, if_pos rq, Option.bind_some, Option.bind_none, hp2, if_neg rp]
    · rw [if_neg rp, if_neg rq]; rfl
  · rename_i ha
    simp only [ne_eq, Decidable.not_not] at ha
    simp only [Bool.or_eq_true, Bool.and_eq_true, decide_eq_true_eq] at hc
    rcases hc with hc | hc
    · exact two_still (still (.inr lp) hc.1) (still (.inr lq) hc.2)
    · have : p = q := by
        obtain ⟨pk, pa, pb, ⟨prk, prn⟩⟩ := p
        obtain ⟨qk, qa, qb, ⟨qrk, qrn⟩⟩ := q
        simp only [DOp.mk.injEq, DRet.mk.injEq] at *
        have := hc.2
        omega
      rw [this]

def mapNl (k : Int) (l : List Int) (a b : Int) : List Int := if k = 7 then Map.setP (Map.dropP l a) a b else if k = 8 then l else Map.dropP l a
def fromO : Option Int → DRet
  | some v => ⟨2, v⟩
  | none => ⟨1, 0⟩
theorem fromO_inj {x y : Option Int} (h : fromO x = fromO y) : x = y := by
  cases x <;> cases y <;> simp_all [fromO]
theorem had_fromO (l : List Int) (x : Int) : Map.hadP l x = fromO (Map.look l x) := by
  rw [Map.look_find]; cases Map.look l x <;> rfl
theorem map_leg {l : List Int} {o : DOp} (hl : ∃ b, Map.sb b l) (h : (stepM ⟨3, 0, l⟩ o).e = 0) : (o.kind = 7 ∨ ((o.kind = 8 ∨ o.kind = 9) ∧ o.b = 0)) ∧
    ∀ l, (∃ b, Map.sb b l) → legS ⟨3, 0, l⟩ o = if fromO (Map.look l o.a) = o.ret then some ⟨3, 0, mapNl o.kind l o.a o.b⟩ else none := by
  obtain ⟨k, a, b, r⟩ := o
  have hk : ∀ l, (∃ b, Map.sb b l) → checkN 3 0 l = 0 := fun l hl => (Map.check3 l).2 hl
  have e31 : ¬ ((3 : Int) = 1) := by decide
  have e32 : ¬ ((3 : Int) = 2) := by decide
  simp only [legS, stepM, machA, Map.mapA, hk l hl, ne_eq, not_true_eq_false, or_self, if_false, if_true, e31, e32] at h ⊢
  by_cases h1 : k < 7 ∨ 9 < k
  · simp [h1, bad] at h
  · simp only [h1, if_false] at h ⊢
    by_cases h2 : ¬ k = 7 ∧ ¬ b = 0
    · simp [h2, bad] at h
    · refine ⟨by omega, fun l hl => ?_⟩
      simp only [hk l hl, not_true_eq_false, or_self, if_false, h2, true_and, mapNl, had_fromO]
theorem mapNl_sb {k : Int} {l : List Int} {a b : Int} (hl : ∃ b, Map.sb b l) : ∃ b', Map.sb b' (mapNl k l a b) := by
  obtain ⟨c, hc⟩ := hl
  unfold mapNl; split
  · exact Map.sb_put a b hc
  · split
    · exact ⟨c, hc⟩
    · exact ⟨c, Map.sb_drop a hc⟩
theorem mapNl_look {k : Int} {l : List Int} {a b : Int} (hl : ∃ b, Map.sb b l) (y : Int) : Map.look (mapNl k l a b) y = if y = a then (if k = 7 then some b else if k = 8 then Map.look l a else none) else Map.look l y := by
  obtain ⟨c, hc⟩ := hl
  unfold mapNl
  by_cases h7 : k = 7
  · simp only [h7, if_true]; exact Map.look_put a b y hc
  · by_cases h8 : k = 8
    · simp only [h7, h8, if_true, if_false, show ¬ ((8 : Int) = 7) by decide]; by_cases hy : y = a <;> simp [hy]
    · simp only [h7, h8, if_false]; exact Map.look_drop l a y
theorem map_ext {l l' : List Int} (hl : ∃ b, Map.sb b l) (hl' : ∃ b, Map.sb b l') (h : ∀ k, Map.look l k = Map.look l' k) : l = l' := by
  obtain ⟨b, hb⟩ := hl
  obtain ⟨b', hb'⟩ := hl'
  exact Map.look_ext hb hb' h
theorem mapNl_comm {k k' : Int} {l : List Int} {a a' b b' : Int} (hl : ∃ b, Map.sb b l) (ha : a ≠ a') : mapNl k' (mapNl k l a b) a' b' = mapNl k (mapNl k' l a' b') a b := by
  refine map_ext (mapNl_sb (mapNl_sb hl)) (mapNl_sb (mapNl_sb hl)) fun y => ?_
  rw [mapNl_look (mapNl_sb hl), mapNl_look (mapNl_sb hl), mapNl_look hl, mapNl_look hl, mapNl_look hl, mapNl_look hl]
  by_cases h1 : y = a
  · subst h1; simp [ha, Ne.symm ha]
  · by_cases h2 : y = a'
    · subst h2; simp [ha, Ne.symm ha]
    · simp [h1, h2]
theorem map_left {o : DOp} {l : List Int} (hl : ∃ b, Map.sb b l) (hk : o.kind = 7 ∨ ((o.kind = 8 ∨ o.kind = 9) ∧ o.b = 0)) (hr : fromO (Map.look l o.a) = o.ret) : fromO (Map.look (mapNl o.kind l o.a o.b) o.a) = ⟨leftK o.kind o.ret.kind, leftN o.kind o.b o.ret.n⟩ := by
  rw [mapNl_look hl, if_pos rfl]
  rcases hk with h | ⟨h | h, hb⟩
  · simp [h, leftK, leftN, fromO]
  · simp only [h, leftK, leftN, show ¬ ((8 : Int) = 7) by decide, show ¬ ((8 : Int) = 9) by decide, if_true, if_false]; rw [hr]
  · simp [h, leftK, leftN, fromO]
theorem map_two {l : List Int} {p q : DOp} (hl : ∃ b, Map.sb b l) (hc : cmMapB p.kind p.a p.b p.ret.kind p.ret.n q.kind q.a q.b q.ret.kind q.ret.n = true) (ep : (stepM ⟨3, 0, l⟩ p).e = 0) (eq : (stepM ⟨3, 0, l⟩ q).e = 0) : twoS ⟨3, 0, l⟩ p q = twoS ⟨3, 0, l⟩ q p := by
  obtain ⟨bp, lp⟩ := map_leg hl ep
  obtain ⟨bq, lq⟩ := map_leg hl eq
  have hp2 := lp (mapNl q.kind l q.a q.b) (mapNl_sb hl)
  have hq2 := lq (mapNl p.kind l p.a p.b) (mapNl_sb hl)
  simp only [cmMapB, decide_eq_true_eq] at hc
  by_cases ha : p.a = q.a
  · have hc := hc.resolve_left (fun h => h ha)
    have two : ∀ {p q : DOp}, p.a = q.a → (p.kind = 7 ∨ ((p.kind = 8 ∨ p.kind = 9) ∧ p.b = 0)) → (∀ l, (∃ b, Map.sb b l) → legS ⟨3, 0, l⟩ p = if fromO (Map.look l p.a) = p.ret then some ⟨3, 0, mapNl p.kind l p.a p.b⟩ else none) →
        (∀ l, (∃ b, Map.sb b l) → legS ⟨3, 0, l⟩ q = if fromO (Map.look l q.a) = q.ret then some ⟨3, 0, mapNl q.kind l q.a q.b⟩ else none) →
        twoS ⟨3, 0, l⟩ p q = if fromO (Map.look l p.a) = p.ret ∧ (⟨leftK p.kind p.ret.kind, leftN p.kind p.b p.ret.n⟩ : DRet) = q.ret then some ⟨3, 0, mapNl q.kind (mapNl p.kind l p.a p.b) q.a q.b⟩ else none := by
      intro p q ha hk lp lq
      unfold twoS
      rw [lp l hl]
      by_cases rp : fromO (Map.look l p.a) = p.ret
      · rw [if_pos rp, Option.bind_some, lq _ (mapNl_sb hl), ← ha, map_left hl hk rp]
        simp only [rp, true_and]
      · rw [if_neg rp, if_neg (fun h => rp h.1)]; rfl
    rw [two ha bp lp lq, two ha.symm bq lq lp]
    rcases hc with ⟨h1, h2⟩ | ⟨h1, h2, h3⟩
    · rw [if_neg (fun h => h1 (by have := h.2; rw [← this]; exact ⟨rfl, rfl⟩)), if_neg (fun h => h2 (by have := h.2; rw [← this]; exact ⟨rfl, rfl⟩))]
    · have r1 : p.ret = ⟨leftK p.kind p.ret.kind, leftN p.kind p.b p.ret.n⟩ := by
        obtain ⟨u, v⟩ := h1
        generalize hx : leftK p.kind p.ret.kind = x at u
        generalize hy : leftN p.kind p.b p.ret.n = y at v
        cases hr : p.ret; rw [hr] at u v; simp only at u v; rw [u, v]
      have r2 : (⟨leftK p.kind p.ret.kind, leftN p.kind p.b p.ret.n⟩ : DRet) = q.ret := by
        obtain ⟨u, v⟩ := h2
        cases hr : q.ret; rw [hr] at u v; simp only at u v; rw [u, v]
      have r3 : q.ret = ⟨leftK q.kind q.ret.kind, leftN q.kind q.b q.ret.n⟩ := by
        obtain ⟨u, v⟩ := h3
        generalize hx : leftK q.kind q.ret.kind = x at u
        generalize hy : leftN q.kind q.b q.ret.n = y at v
        cases hr : q.ret; rw [hr] at u v; simp only at u v; rw [u, v]
      have r12 : p.ret = q.ret := r1.trans r2
      have e1 : (fromO (Map.look l p.a) = p.ret ∧ (⟨leftK p.kind p.ret.kind, leftN p.kind p.b p.ret.n⟩ : DRet) = q.ret) ↔ fromO (Map.look l p.a) = p.ret := ⟨fun h => h.1, fun h => ⟨h, r2⟩⟩
      have e2 : (fromO (Map.look l q.a) = q.ret ∧ (⟨leftK q.kind q.ret.kind, leftN q.kind q.b q.ret.n⟩ : DRet) = p.ret) ↔ fromO (Map.look l p.a) = p.ret := ⟨fun h => by rw [ha, r12]; exact h.1, fun h => ⟨by rw [← ha, ← r12]; exact h, by rw [← r3, r12]⟩⟩
      by_cases hx : fromO (Map.look l p.a) = p.ret
      · rw [if_pos (e1.2 hx), if_pos (e2.2 hx)]
        have same : ∀ {o : DOp}, (o.kind = 7 ∨ ((o.kind = 8 ∨ o.kind = 9) ∧ o.b = 0)) → fromO (Map.look l o.a) = o.ret → o.ret = ⟨leftK o.kind o.ret.kind, leftN o.kind o.b o.ret.n⟩ → mapNl o.kind l o.a o.b = l := by
          intro o hk h1 h2
          refine map_ext (mapNl_sb hl) hl fun y => ?_
          have h3 := map_left hl hk h1
          rw [← h2, ← h1] at h3
          by_cases hy : y = o.a
          · subst hy; exact fromO_inj h3
          · rw [mapNl_look hl, if_neg hy]
        have hxq : fromO (Map.look l q.a) = q.ret := (e2.2 hx).1
        rw [same bp hx r1, same bq hxq r3, same bp hx r1]
      · rw [if_neg (fun h => hx (e1.1 h)), if_neg (fun h => hx (e2.1 h))]
  · unfold twoS
    rw [lp l hl, lq l hl]
    rw [mapNl_look hl, if_neg ha] at hp2
    rw [mapNl_look hl, if_neg (Ne.symm ha)] at hq2
    by_cases rp : fromO (Map.look l p.a) = p.ret <;> by_cases rq : fromO (Map.look l q.a) = q.ret
    · rw [if_pos rp, if_pos rq, Option.bind_some, Option.bind_some, hp2, hq2, if_pos rp, if_pos rq, mapNl_comm hl ha]
    · rw [if_pos rp, if_neg rq, Option.bind_some, Option.bind_none, hq2, if_neg rq]
    · rw [if_neg rp, if_pos rq, Option.bind_some, Option.bind_none, hp2, if_neg rp]
    · rw [if_neg rp, if_neg rq]; rfl

theorem esc_leg {n : Int} {o : DOp} (hn : 0 ≤ n ∧ n ≤ 4611686018427387904) (h : (stepM ⟨5, n, []⟩ o).e = 0) (hc : opC o = 0) : o.b = 0 ∧ (o.kind = 15 → o.a = 0) ∧ ∀ n, 0 ≤ n ∧ n ≤ 4611686018427387904 →
    legS ⟨5, n, []⟩ o = if (rangeA o.kind o.a o.ret.n).is = true ∧ (rangeA o.kind o.a o.ret.n).from_ ≤ n ∧ n ≤ (rangeA o.kind o.a o.ret.n).to then some ⟨5, n + movesB o.kind o.a o.ret.n, []⟩ else none := by
  obtain ⟨k, a, b, ⟨rk, rn⟩⟩ := o
  have hcap : cap62 = 4611686018427387904 := rfl
  have hk : ∀ n, 0 ≤ n ∧ n ≤ 4611686018427387904 → checkN 5 n [] = 0 := fun n hn => Esc.check5.2 ⟨rfl, hn.1, hn.2⟩
  have e51 : ¬ ((5 : Int) = 1) := by decide
  have e52 : ¬ ((5 : Int) = 2) := by decide
  have e53 : ¬ ((5 : Int) = 3) := by decide
  have e54 : ¬ ((5 : Int) = 4) := by decide
  simp only [legS, stepM, machA, Esc.escA, hk n hn, ne_eq, not_true_eq_false, or_self, if_false, if_true, e51, e52, e53, e54] at h ⊢
  by_cases h1 : k < 13 ∨ 15 < k
  · simp [h1, bad] at h
  · simp only [h1, if_false] at h ⊢
    by_cases h2 : b = 0
    · subst h2
      simp only [not_true_eq_false, if_false] at h ⊢
      have hr : rk = 2 ∧ (k = 15 ∨ rn = 0 ∨ rn = 1) ∧ (k ≠ 15 → 0 ≤ a ∧ a ≤ 4611686018427387904) := by
        simp only [opC, opChk] at hc
        rw [if_neg (by omega)] at hc
        by_cases ho : opArgs k a 0
        · rw [if_pos ho, opRet] at hc
          have ho' := ho
          simp only [opArgs] at ho'
          rw [if_neg (show ¬ (k = 1 ∨ k = 10) by omega), if_neg (show ¬ (k = 7 ∨ k = 8 ∨ k = 9 ∨ k = 11) by omega)] at hc
          have : rk = 2 ∧ opNum k rn := by
            by_cases q1 : rk = 0 ∧ rn = 0
            · rw [if_pos q1] at hc; omega
            · rw [if_neg q1] at hc
              by_cases q2 : rk = 1 ∧ rn = 0
              · rw [if_pos q2] at hc; omega
              · rw [if_neg q2] at hc
                by_cases q3 : rk = 2 ∧ opNum k rn
                · exact q3
                · rw [if_neg q3] at hc; omega
          refine ⟨this.1, ?_, fun h => by omega⟩
          have h3 := this.2
          unfold opNum at h3
          by_cases k15 : k = 15
          · exact .inl k15
          · rw [if_neg (by omega), if_neg (by omega), if_neg (by omega)] at h3
            exact .inr h3
        · rw [if_neg ho] at hc; omega
      obtain ⟨rfl, hrn, ha⟩ := hr
      refine ⟨trivial, fun h15 => ?_, fun n hn => ?_⟩
      · by_cases h0 : a = 0
        · exact h0
        · subst h15; simp [h0, bad] at h
      simp only [hk n hn, not_true_eq_false, or_self, if_false]
      unfold rangeA movesB
      rw [if_neg h1]
      by_cases k15 : k = 15
      · subst k15
        by_cases h0 : a = 0
        · subst h0
          simp only [if_true, true_and, true_or]
          by_cases hz : 0 ≤ rn ∧ rn ≤ cap62
          · simp only [hz, if_true, and_self, true_and, DRet.mk.injEq]
            by_cases e : n = rn
            · subst e; simp
            · rw [if_neg e, if_neg (by omega)]
          · rw [if_neg hz]
            simp only [Bool.false_eq_true, false_and, if_false, DRet.mk.injEq, true_and]
            rw [if_neg (by omega)]
        · simp [h0, bad] at h
      · have ha := ha k15
        have hr2 := hrn.resolve_left k15
        have hrn : rn = 0 ∨ rn = 1 := hr2
        simp only [k15, if_false, false_or]
        have n1 : ¬ (a < 0 ∨ cap62 < a) := by omega
        have n2 : ¬ (a < 0 ∨ cap62 < a ∨ (rn ≠ 0 ∧ rn ≠ 1)) := by omega
        simp only [n1, n2, if_false]
        by_cases k13 : k = 13
        · subst k13
          simp only [if_true, show ¬ ((13 : Int) = 14) by decide, if_false]
          by_cases hle : a ≤ cap62 - n
          · simp only [hle, if_true, true_and, DRet.mk.injEq]
            rcases hr2 with rfl | rfl
            · simp only [show ¬ ((1 : Int) = 0) by decide, if_false, show ¬ ((0 : Int) = 1) by decide]
              by_cases h0 : a = 0
              · simp [h0]
              · rw [if_neg h0]; simp only [true_and]; rw [if_neg (by omega)]
            · simp only [if_true, true_and, show ¬ ((1 : Int) = 0) by decide, if_false]
              rw [if_pos (by omega)]
          · simp only [hle, if_false, true_and, DRet.mk.injEq]
            rcases hr2 with rfl | rfl
            · simp only [show ¬ ((0 : Int) = 1) by decide, if_false, if_true]
              rw [if_neg (show ¬ a = 0 by omega)]; simp only [true_and]; rw [if_pos (by omega), Int.add_zero]
            · simp only [if_true, true_and, show ¬ ((0 : Int) = 1) by decide, if_false]
              rw [if_neg (by omega)]
        · have k14 : k = 14 := by omega
          subst k14
          simp only [show ¬ ((14 : Int) = 13) by decide, if_false, if_true]
          by_cases hle : a ≤ n
          · simp only [hle, if_true, true_and, DRet.mk.injEq]
            rcases hr2 with rfl | rfl
            · simp only [show ¬ ((1 : Int) = 0) by decide, if_false, show ¬ ((0 : Int) = 1) by decide]
              by_cases h0 : a = 0
              · simp [h0]
              · rw [if_neg h0]; simp only [true_and]; rw [if_neg (by omega)]
            · simp only [if_true, true_and, show ¬ ((1 : Int) = 0) by decide, if_false]
              rw [if_pos (by omega), Int.sub_eq_add_neg]
          · simp only [hle, if_false, true_and, DRet.mk.injEq]
            rcases hr2 with rfl | rfl
            · simp only [show ¬ ((0 : Int) = 1) by decide, if_false, if_true]
              rw [if_neg (show ¬ a = 0 by omega)]; simp only [true_and]; rw [if_pos (by omega), Int.add_zero]
            · simp only [if_true, true_and, show ¬ ((0 : Int) = 1) by decide, if_false]
              rw [if_neg (by omega)]
    · simp [h2, bad] at h
theorem esc_two {n : Int} {p q : DOp} (hn : 0 ≤ n ∧ n ≤ 4611686018427387904) (hc : cmAccB p.kind p.a p.b p.ret.kind p.ret.n q.kind q.a q.b q.ret.kind q.ret.n = true) (op : opC p = 0) (oq : opC q = 0) (ep : (stepM ⟨5, n, []⟩ p).e = 0) (eq : (stepM ⟨5, n, []⟩ q).e = 0) : twoS ⟨5, n, []⟩ p q = twoS ⟨5, n, []⟩ q p := by
  obtain ⟨_, _, lp⟩ := esc_leg hn ep op
  obtain ⟨_, _, lq⟩ := esc_leg hn eq oq
  have two : ∀ {p q : DOp}, (∀ n, 0 ≤ n ∧ n ≤ 4611686018427387904 → legS ⟨5, n, []⟩ p = if (rangeA p.kind p.a p.ret.n).is = true ∧ (rangeA p.kind p.a p.ret.n).from_ ≤ n ∧ n ≤ (rangeA p.kind p.a p.ret.n).to then some ⟨5, n + movesB p.kind p.a p.ret.n, []⟩ else none) →
      (∀ n, 0 ≤ n ∧ n ≤ 4611686018427387904 → legS ⟨5, n, []⟩ q = if (rangeA q.kind q.a q.ret.n).is = true ∧ (rangeA q.kind q.a q.ret.n).from_ ≤ n ∧ n ≤ (rangeA q.kind q.a q.ret.n).to then some ⟨5, n + movesB q.kind q.a q.ret.n, []⟩ else none) →
      twoS ⟨5, n, []⟩ p q = if (behindA p.kind p.a p.ret.n q.kind q.a q.ret.n).is = true ∧ (behindA p.kind p.a p.ret.n q.kind q.a q.ret.n).from_ ≤ n ∧ n ≤ (behindA p.kind p.a p.ret.n q.kind q.a q.ret.n).to then some ⟨5, n + movesB p.kind p.a p.ret.n + movesB q.kind q.a q.ret.n, []⟩ else none := by
    intro p q lp lq
    unfold twoS
    rw [lp n hn]
    unfold behindA
    cases h1 : (rangeA p.kind p.a p.ret.n).is with
    | false => simp
    | true =>
      obtain ⟨⟨p1, p2, p3, p4⟩, p5, p6, p7, p8, p9⟩ := rangeA_facts h1
      cases h2 : (rangeA q.kind q.a q.ret.n).is with
      | false =>
        simp only [or_true, if_true, Bool.false_eq_true, false_and, if_false, true_and]
        split
        · rename_i hr
          rw [Option.bind_some, lq _ (by omega), h2]; simp
        · rfl
      | true =>
        obtain ⟨⟨q1, q2, q3, q4⟩, q5, q6, q7, q8, q9⟩ := rangeA_facts h2
        simp only [Bool.true_eq_false, or_self, if_false, true_and]
        generalize movesB p.kind p.a p.ret.n = m at *
        generalize hm' : movesB q.kind q.a q.ret.n = m' at *
        generalize (rangeA p.kind p.a p.ret.n).from_ = x1 at *
        generalize (rangeA p.kind p.a p.ret.n).to = x2 at *
        by_cases hr : x1 ≤ n ∧ n ≤ x2
        · rw [if_pos hr, Option.bind_some, lq _ (by omega), h2]
          simp only [true_and]
          generalize (rangeA q.kind q.a q.ret.n).from_ = y1 at *
          generalize (rangeA q.kind q.a q.ret.n).to = y2 at *
          by_cases hz : min (x2 + m) y2 < max (x1 + m) y1
          · rw [if_pos hz]
            simp only [Bool.false_eq_true, false_and, if_false]
            rw [if_neg (by omega)]
          · rw [if_neg hz]
            simp only [true_and]
            by_cases hy : y1 ≤ n + m ∧ n + m ≤ y2
            · rw [if_pos hy, if_pos (by omega)]
            · rw [if_neg hy, if_neg (by omega)]
        · rw [if_neg hr]
          generalize (rangeA q.kind q.a q.ret.n).from_ = y1 at *
          generalize (rangeA q.kind q.a q.ret.n).to = y2 at *
          by_cases hz : min (x2 + m) y2 < max (x1 + m) y1
          · rw [if_pos hz]
            simp
          · rw [if_neg hz]
            simp only [true_and]
            rw [if_neg (by omega)]; rfl
  rw [two lp lq, two lq lp]
  simp only [cmAccB, decide_eq_true_eq] at hc
  obtain ⟨c1, c2, c3⟩ := hc
  rw [c1, c2, c3]
  congr 2
  congr 1
  omega

theorem opC_kind {o : DOp} (h : opC o = 0) : 1 ≤ o.kind ∧ o.kind ≤ 15 := by
  simp only [opC, opChk] at h
  by_cases hk : o.kind < 1 ∨ 15 < o.kind
  · rw [if_pos hk] at h; omega
  · omega
theorem step_kind {s : DState} {o : DOp} (h : (stepM s o).e = 0) : opTy o.kind = s.type := by
  obtain ⟨t, n, l⟩ := s
  obtain ⟨k, a, b, r⟩ := o
  simp only [stepM, machA] at h ⊢
  unfold opTy
  by_cases h1 : t = 1
  · subst h1
    simp only [if_true, Ctr.ctrA] at h
    by_cases hc : (1 : Int) ≠ 1 ∨ checkN 1 n l ≠ 0
    · rw [if_pos hc] at h; simp [bad] at h
    · rw [if_neg hc] at h
      by_cases k1 : k = 1
      · subst k1; rfl
      · by_cases k2 : k = 2
        · subst k2; rfl
        · rw [if_neg k1, if_neg k2] at h; simp [bad] at h
  · by_cases h2 : t = 2
    · subst h2
      simp only [if_true, h1, if_false, Set.setA] at h
      by_cases hc : (2 : Int) ≠ 2 ∨ checkN 2 n l ≠ 0
      · rw [if_pos hc] at h; simp [bad] at h
      · rw [if_neg hc] at h
        by_cases hk : k < 3 ∨ 6 < k
        · rw [if_pos hk] at h; simp [bad] at h
        · rw [if_neg (by omega), if_neg (by omega), if_pos (by omega)]
    · by_cases h3 : t = 3
      · subst h3
        simp only [if_true, h1, h2, if_false, Map.mapA] at h
        by_cases hc : (3 : Int) ≠ 3 ∨ checkN 3 n l ≠ 0
        · rw [if_pos hc] at h; simp [bad] at h
        · rw [if_neg hc] at h
          by_cases hk : k < 7 ∨ 9 < k
          · rw [if_pos hk] at h; simp [bad] at h
          · rw [if_neg (by omega), if_neg (by omega), if_neg (by omega), if_pos (by omega)]
      · by_cases h4 : t = 4
        · subst h4
          simp only [if_true, h1, h2, h3, if_false, Fif.fifoA] at h
          by_cases hc : (4 : Int) ≠ 4 ∨ checkN 4 n l ≠ 0
          · rw [if_pos hc] at h; simp [bad] at h
          · rw [if_neg hc] at h
            by_cases hk : k < 10 ∨ 12 < k
            · rw [if_pos hk] at h; simp [bad] at h
            · rw [if_neg (by omega), if_neg (by omega), if_neg (by omega), if_neg (by omega), if_pos (by omega)]
        · by_cases h5 : t = 5
          · subst h5
            simp only [if_true, h1, h2, h3, h4, if_false, Esc.escA] at h
            by_cases hc : (5 : Int) ≠ 5 ∨ checkN 5 n l ≠ 0
            · rw [if_pos hc] at h; simp [bad] at h
            · rw [if_neg hc] at h
              by_cases hk : k < 13 ∨ 15 < k
              · rw [if_pos hk] at h; simp [bad] at h
              · rw [if_neg (by omega), if_neg (by omega), if_neg (by omega), if_neg (by omega), if_neg (by omega)]
          · simp [h1, h2, h3, h4, h5, bad] at h

theorem commute_two {s : DState} {p q : DOp} (hs : checkN s.type s.n s.l = 0) (hn : w64 s.n) (hp : opC p = 0) (hq : opC q = 0) (hc : cmOpsB p q = true) (ep : (stepM s p).e = 0) (eq : (stepM s q).e = 0) : twoS s p q = twoS s q p := by
  have kp := step_kind ep
  have kq := step_kind eq
  obtain ⟨t, n, l⟩ := s
  simp only at hs kp kq hn
  unfold cmOpsB at hc
  rw [kp, kq] at hc
  simp only [ne_eq, not_true_eq_false, if_false] at hc
  have hcap : cap62 = 4611686018427387904 := rfl
  by_cases h1 : t = 1
  · subst h1
    have hl : l = [] := by
      by_cases h : l = []
      · exact h
      · simp [checkN, h] at hs
    subst hl
    simp only [if_true] at hc
    exact ctr_two hn hc ep eq
  by_cases h2 : t = 2
  · subst h2
    obtain ⟨rfl, hl⟩ := Set.check2.1 hs
    simp only [h1, if_false, if_true] at hc
    exact set_two hl hc ep eq
  by_cases h3 : t = 3
  · subst h3
    have h0 : n = 0 := by
      by_cases h : n = 0
      · exact h
      · simp [checkN, h] at hs
    subst h0
    simp only [h1, h2, if_false, if_true] at hc
    exact map_two ((Map.check3 l).1 hs) hc ep eq
  by_cases h4 : t = 4
  · subst h4
    have h0 : n = 0 := by
      by_cases h : n = 0
      · exact h
      · simp [checkN, h] at hs
    subst h0
    simp only [h1, h2, h3, if_false, if_true] at hc
    exact fif_two hc hp hq ep eq
  by_cases h5 : t = 5
  · subst h5
    obtain ⟨rfl, hn5⟩ := Esc.check5.1 hs
    simp only [h1, h2, h3, h4, if_false] at hc
    exact esc_two hn5 hc hp hq ep eq
  · exfalso
    have : t < 1 ∨ 5 < t := by omega
    simp [checkN, this] at hs

def cmEr (p q : DOp) : Int := if opC p ≠ 0 then opC p else opC q
def cmIs (p q : DOp) : Bool := if opC p ≠ 0 ∨ opC q ≠ 0 then false else cmOpsB p q
def opsG : List CV → T CV
  | [.agg ⟨[.int .i64 k, .int .i64 a, .int .i64 b, .int .i64 rk, .int .i64 rn]⟩, .agg ⟨[.int .i64 k', .int .i64 a', .int .i64 b', .int .i64 rk', .int .i64 rn']⟩] =>
    .ret (.tuple #[.bool (cmIs ⟨k, a, b, ⟨rk, rn⟩⟩ ⟨k', a', b', ⟨rk', rn'⟩⟩), .int .i64 (cmEr ⟨k, a, b, ⟨rk, rn⟩⟩ ⟨k', a', b', ⟨rk', rn'⟩⟩)])
  | _ => .fail
theorem five {k : Int} (h : 1 ≤ k ∧ k ≤ 15) : (decide (k < 1) = false ∧ decide (15 < k) = false) ∧
    ((decide (k ≤ 2) = true ∧ opTy k = 1) ∨ (decide (k ≤ 2) = false ∧ decide (k ≤ 6) = true ∧ opTy k = 2) ∨ (decide (k ≤ 2) = false ∧ decide (k ≤ 6) = false ∧ decide (k ≤ 9) = true ∧ opTy k = 3) ∨
    (decide (k ≤ 2) = false ∧ decide (k ≤ 6) = false ∧ decide (k ≤ 9) = false ∧ decide (k ≤ 12) = true ∧ opTy k = 4) ∨ (decide (k ≤ 2) = false ∧ decide (k ≤ 6) = false ∧ decide (k ≤ 9) = false ∧ decide (k ≤ 12) = false ∧ opTy k = 5)) := by
  unfold opTy
  rw [if_neg (by omega)]
  simp only [decide_eq_true_eq, decide_eq_false_iff_not]
  refine ⟨by omega, ?_⟩
  by_cases h2 : k ≤ 2
  · left; exact ⟨h2, if_pos h2⟩
  · by_cases h6 : k ≤ 6
    · right; left; exact ⟨h2, h6, by rw [if_neg h2, if_pos h6]⟩
    · by_cases h9 : k ≤ 9
      · right; right; left; exact ⟨h2, h6, h9, by rw [if_neg h2, if_neg h6, if_pos h9]⟩
      · by_cases h12 : k ≤ 12
        · right; right; right; left; exact ⟨h2, h6, h9, h12, by rw [if_neg h2, if_neg h6, if_neg h9, if_pos h12]⟩
        · right; right; right; right; exact ⟨h2, h6, h9, h12, by rw [if_neg h2, if_neg h6, if_neg h9, if_neg h12]⟩
set_option maxHeartbeats 4000000 in
theorem ops_fn : PureFn Tryz.prog 8 (sigExt [] opsG) :=
  pureFn_mk (bodied_ex (by kernel_rfl)) fun args d h => by
    unfold opsG at h
    split at h
    · rename_i k a b rk rn k' a' b' rk' rn'
      cases ev_ret h
      refine pureAt0 plainN mixedN cmE3_ok noL (k := 30) ((cmOps_tree k a b rk rn k' a' b' rk' rn').trans ?_) rfl
      simp only [T.ev_ite, T.ev_ret, T.ev_fail, eq_self, decide_true, if_true]
      simp only [cmIs, cmEr, opC, cmOpsB]
      by_cases hp : opChk k a b rk rn = 0
      · by_cases hq : opChk k' a' b' rk' rn' = 0
        · obtain ⟨⟨f1, f2⟩, f3⟩ := five (opC_kind (o := ⟨k, a, b, ⟨rk, rn⟩⟩) hp)
          obtain ⟨⟨g1, g2⟩, g3⟩ := five (opC_kind (o := ⟨k', a', b', ⟨rk', rn'⟩⟩) hq)
          simp only at f1 f2 f3 g1 g2 g3
          simp only [hp, hq, f1, f2, g1, g2, bne_self_eq_false, Bool.false_eq_true, if_false, Bool.or_self, ne_eq, not_true_eq_false, or_self]
          rcases f3 with ⟨c1, c⟩ | ⟨c1, c2, c⟩ | ⟨c1, c2, c3, c⟩ | ⟨c1, c2, c3, c4, c⟩ | ⟨c1, c2, c3, c4, c⟩ <;>
            rcases g3 with ⟨d1, d⟩ | ⟨d1, d2, d⟩ | ⟨d1, d2, d3, d⟩ | ⟨d1, d2, d3, d4, d⟩ | ⟨d1, d2, d3, d4, d⟩ <;>
            simp only [*, Bool.false_eq_true, if_true, if_false] <;> rfl
        · simp [hp, hq]
      · simp [hp]
    · exact (ev_fail h).elim

end Go.Proofs.YtecidokjhplbgaaGreatDoorD
