/-
  Chapter 19: Differ: contract; the law WitnessNone.
-/
import Derived.Test.YtknijbcmhjgllaaGreatWtkAD
import Derived.Test.YtknijbcmhjgllaaGreatKitE
import Derived.Test.YtknijbcmhjgllaaGreatClose
set_option linter.unusedVariables false
set_option linter.unusedSimpArgs false
namespace Go.Proofs.YtknijbcmhjgllaaGreatD
open Go Go.RowKit

/- WitA0 -/
def wdE : List (Nat × ExtFn) := wtE ++ Equ.eqE
theorem wdE_ok (N : Nat) : ExtsOk Tryz.prog N wdE := exts_append (wtE_ok N) (Equ.eqE_ok N)

/- WitA -/
set_option maxRecDepth 100000 in
theorem differ_tree (t n : Int) (l : List Int) (k a b rk rn k' a' b' rk' rn' : Int) : (((tden Tryz.prog wdE [] 30).call 0 16 [.agg #[.int .i64 t, .int .i64 n, .pl .ints l], .agg #[.int .i64 k, .int .i64 a, .int .i64 b, .int .i64 rk, .int .i64 rn], .agg #[.int .i64 k', .int .i64 a', .int .i64 b', .int .i64 rk', .int .i64 rn']] ⟨.nil, 0⟩).pure.cut
    (.yes (.no (.yes (.ite (.ite (.all) (.yes (.yes (.ite (.ite (.all) (.no (.ite (.ite (.ite (.yes (.yes (.yes (.yes (.ite (.ite (.yes (.yes (.yes (.yes (.all))))) (.no (.no (.ite (.yes (.no (.all))) (.no (.no (.no (.all)))))))) (.all)))))) (.no (.no (.no (.no (.no (.ite (.yes (.yes (.yes (.yes (.all))))) (.no (.no (.ite (.yes (.no (.all))) (.no (.no (.no (.all)))))))))))))) (.all)) (.all)))) (.all))))) (.all)))))).ev = T.ev (α := CV) (
     .ite (machB l a b)
      (.ite ((machA t n l k a b).e != (0 : Int))
       (.ret (.tuple #[.bool false, .int .i64 ((machA t n l k a b).e)]))
       (.ite (machB l a' b')
        (.ite ((machA t n l k' a' b').e != (0 : Int))
         (.ret (.tuple #[.bool false, .int .i64 ((machA t n l k' a' b').e)]))
         (.ite (runB l [DOp.mk k a b (DRet.mk rk rn), DOp.mk k' a' b' (DRet.mk rk' rn')])
          (.ite (runB l [DOp.mk k' a' b' (DRet.mk rk' rn'), DOp.mk k a b (DRet.mk rk rn)])
           (.ite ((runA (DState.mk t n l) [DOp.mk k a b (DRet.mk rk rn), DOp.mk k' a' b' (DRet.mk rk' rn')]).s.n == (runA (DState.mk t n l) [DOp.mk k' a' b' (DRet.mk rk' rn'), DOp.mk k a b (DRet.mk rk rn)]).s.n)
            (.ite (small (runA (DState.mk t n l) [DOp.mk k a b (DRet.mk rk rn), DOp.mk k' a' b' (DRet.mk rk' rn')]).s.l.length)
             (.ite (!((runA (DState.mk t n l) [DOp.mk k a b (DRet.mk rk rn), DOp.mk k' a' b' (DRet.mk rk' rn')]).e == (0 : Int)) == ((runA (DState.mk t n l) [DOp.mk k' a' b' (DRet.mk rk' rn'), DOp.mk k a b (DRet.mk rk rn)]).e == (0 : Int)))
              (.ret (.tuple #[.bool true, .int .i64 (0)]))
              (.ite ((runA (DState.mk t n l) [DOp.mk k a b (DRet.mk rk rn), DOp.mk k' a' b' (DRet.mk rk' rn')]).e == (0 : Int))
               (.ret (.tuple #[.bool (!decide ((runA (DState.mk t n l) [DOp.mk k a b (DRet.mk rk rn), DOp.mk k' a' b' (DRet.mk rk' rn')]).s.l = (runA (DState.mk t n l) [DOp.mk k' a' b' (DRet.mk rk' rn'), DOp.mk k a b (DRet.mk rk rn)]).s.l)), .int .i64 (0)]))
               (.ret (.tuple #[.bool false, .int .i64 (0)]))))
             (.fail))
            (.ite (!((runA (DState.mk t n l) [DOp.mk k a b (DRet.mk rk rn), DOp.mk k' a' b' (DRet.mk rk' rn')]).e == (0 : Int)) == ((runA (DState.mk t n l) [DOp.mk k' a' b' (DRet.mk rk' rn'), DOp.mk k a b (DRet.mk rk rn)]).e == (0 : Int)))
             (.ret (.tuple #[.bool true, .int .i64 (0)]))
             (.ite ((runA (DState.mk t n l) [DOp.mk k a b (DRet.mk rk rn), DOp.mk k' a' b' (DRet.mk rk' rn')]).e == (0 : Int))
              (.ret (.tuple #[.bool true, .int .i64 (0)]))
              (.ret (.tuple #[.bool false, .int .i64 (0)])))))
           (.fail))
          (.fail)))
        (.fail)))
      (.fail)) := by kernel_rfl

/- WitB -/
def difE (s : DState) (p q : DOp) : Int := if (stepM s p).e ≠ 0 then (stepM s p).e else (stepM s q).e
/-- Whether both orders of two operations are unlike. -/
def unlike (s : DState) (p q : DOp) : Bool :=
  if (runA s [p, q]).e = 0 then (if (runA s [q, p]).e = 0 then !decide ((runA s [p, q]).s.n = (runA s [q, p]).s.n ∧ (runA s [p, q]).s.l = (runA s [q, p]).s.l) else true) else decide ((runA s [q, p]).e = 0)
def difB (s : DState) (p q : DOp) : Bool := if (stepM s p).e ≠ 0 ∨ (stepM s q).e ≠ 0 then false else unlike s p q
def difOk (l : List Int) (p q : DOp) : Bool := Nat.ble (l.length + 4) 1000000 && (opB p && opB q)
def differG : List CV → T CV
  | [.agg ⟨[.int .i64 t, .int .i64 n, .pl .ints l]⟩, .agg ⟨[.int .i64 k, .int .i64 a, .int .i64 b, .int .i64 rk, .int .i64 rn]⟩, .agg ⟨[.int .i64 k', .int .i64 a', .int .i64 b', .int .i64 rk', .int .i64 rn']⟩] =>
    T.when (difOk l ⟨k, a, b, ⟨rk, rn⟩⟩ ⟨k', a', b', ⟨rk', rn'⟩⟩) (.ret (.tuple #[.bool (difB ⟨t, n, l⟩ ⟨k, a, b, ⟨rk, rn⟩⟩ ⟨k', a', b', ⟨rk', rn'⟩⟩), .int .i64 (difE ⟨t, n, l⟩ ⟨k, a, b, ⟨rk, rn⟩⟩ ⟨k', a', b', ⟨rk', rn'⟩⟩)]))
  | _ => .fail
theorem difOk_facts {l : List Int} {p q : DOp} (h : difOk l p q = true) : machB l p.a p.b = true ∧ machB l q.a q.b = true ∧ runB l [p, q] = true ∧ runB l [q, p] = true ∧ l.length + 4 ≤ 1000000 := by
  simp only [difOk, Bool.and_eq_true, Nat.ble_eq] at h
  obtain ⟨h1, h2, h3⟩ := h
  refine ⟨machB_of (by omega) h2, machB_of (by omega) h3, ?_, ?_, h1⟩
  · simp only [runB, opsB, List.all_cons, List.all_nil, h2, h3, Bool.and_true, Bool.true_and, Nat.ble_eq, List.length_cons, List.length_nil]; omega
  · simp only [runB, opsB, List.all_cons, List.all_nil, h2, h3, Bool.and_true, Bool.true_and, Nat.ble_eq, List.length_cons, List.length_nil]; omega
theorem run_len (s : DState) : ∀ (l : List DOp), (runA s l).s.l.length ≤ s.l.length + 2 * l.length := by
  intro l
  induction l generalizing s with
  | nil => simp [runA]
  | cons o r ih =>
    rw [runA_cons]
    have h1 := mach_len s.type s.n s.l o.kind o.a o.b
    have h2 := ih (stepA s o).s
    have h3 : (stepA s o).s.l.length ≤ s.l.length + 2 := h1
    split
    · simp only [List.length_cons]; omega
    · split
      · simp only [List.length_cons]; omega
      · simp only [List.length_cons]; omega
theorem differ_fn : PureFn Tryz.prog 16 (sigExt [sgS] differG) :=
  pureFn_mk (bodied_ex (by kernel_rfl)) fun args d h => by
    unfold differG at h
    split at h
    · rename_i t n l k a b rk rn k' a' b' rk' rn'
      obtain ⟨hc, h1⟩ := ev_when h
      cases ev_ret h1
      refine pureAt0 plainN mixedN wdE_ok noL (k := 30) ((differ_tree t n l k a b rk rn k' a' b' rk' rn').trans ?_) rfl
      obtain ⟨f1, f2, f3, f4, f5⟩ := difOk_facts hc
      simp only at f1 f2
      simp only [T.ev_ite, T.ev_ret, T.ev_fail, f1, f2, f3, f4, if_true]
      have g1 := run_len ⟨t, n, l⟩ [⟨k, a, b, ⟨rk, rn⟩⟩, ⟨k', a', b', ⟨rk', rn'⟩⟩]
      have g2 : small (runA ⟨t, n, l⟩ [⟨k, a, b, ⟨rk, rn⟩⟩, ⟨k', a', b', ⟨rk', rn'⟩⟩]).s.l.length = true := by
        rw [small_iff]; simp only [List.length_cons, List.length_nil] at g1; omega
      simp only [g2, if_true, difB, difE, stepM, unlike]
      by_cases e1 : (machA t n l k a b).e = 0
      · by_cases e2 : (machA t n l k' a' b').e = 0
        · simp only [e1, e2, bne_self_eq_false, Bool.false_eq_true, if_false, ne_eq, not_true_eq_false, or_self]
          generalize runA ⟨t, n, l⟩ [⟨k, a, b, ⟨rk, rn⟩⟩, ⟨k', a', b', ⟨rk', rn'⟩⟩] = x
          generalize runA ⟨t, n, l⟩ [⟨k', a', b', ⟨rk', rn'⟩⟩, ⟨k, a, b, ⟨rk, rn⟩⟩] = y
          by_cases c1 : x.e = 0 <;> by_cases c2 : y.e = 0 <;> by_cases c3 : x.s.n = y.s.n <;> by_cases c4 : x.s.l = y.s.l <;> simp [c1, c2, c3, c4, Bool.beq_eq_decide_eq]
        · simp [e1, e2]
      · simp [e1]
    · exact (ev_fail h).elim

/- CwG -/
theorem step_check {s : DState} {o : DOp} (h : (stepM s o).e = 0) : checkN s.type s.n s.l = 0 ∧ (stepM s o).s.type = s.type := by
  obtain ⟨t, n, l⟩ := s
  obtain ⟨k, a, b, r⟩ := o
  simp only [stepM, machA] at h ⊢
  by_cases h1 : t = 1
  · subst h1
    simp only [if_true, Ctr.ctrA] at h ⊢
    by_cases hc : checkN 1 n l = 0
    · refine ⟨hc, ?_⟩
      simp only [hc, ne_eq, not_true_eq_false, or_self, if_false] at h ⊢
      by_cases k1 : k = 1 <;> by_cases k2 : k = 2 <;> by_cases k3 : b = 0 <;> by_cases k4 : a = 0 <;> simp_all [bad]
    · simp [hc, bad] at h
  · by_cases h2 : t = 2
    · subst h2
      simp only [if_true, h1, if_false, Set.setA] at h ⊢
      by_cases hc : checkN 2 n l = 0
      · refine ⟨hc, ?_⟩
        simp only [hc, ne_eq, not_true_eq_false, or_self, if_false] at h ⊢
        by_cases k1 : k < 3 ∨ 6 < k
        · simp [k1, bad] at h
        · simp only [k1, if_false] at h ⊢
          by_cases k2 : ¬ b = 0 ∨ k = 6 ∧ ¬ a = 0
          · simp [k2, bad] at h
          · simp only [k2, if_false]
            by_cases k3 : k = 3 <;> by_cases k4 : k = 4 <;> by_cases k5 : k = 5 <;> simp [k3, k4, k5]
      · simp [hc, bad] at h
    · by_cases h3 : t = 3
      · subst h3
        simp only [if_true, h1, h2, if_false, Map.mapA] at h ⊢
        by_cases hc : checkN 3 n l = 0
        · refine ⟨hc, ?_⟩
          simp only [hc, ne_eq, not_true_eq_false, or_self, if_false] at h ⊢
          by_cases k1 : k < 7 ∨ 9 < k
          · simp [k1, bad] at h
          · simp only [k1, if_false] at h ⊢
            by_cases k2 : ¬ k = 7 ∧ ¬ b = 0
            · simp [k2, bad] at h
            · simp only [k2, if_false]
        · simp [hc, bad] at h
      · by_cases h4 : t = 4
        · subst h4
          simp only [if_true, h1, h2, h3, if_false, Fif.fifoA] at h ⊢
          by_cases hc : checkN 4 n l = 0
          · refine ⟨hc, ?_⟩
            simp only [hc, ne_eq, not_true_eq_false, or_self, if_false] at h ⊢
            by_cases k1 : k < 10 ∨ 12 < k
            · simp [k1, bad] at h
            · simp only [k1, if_false] at h ⊢
              by_cases k2 : ¬ b = 0 ∨ ¬ k = 10 ∧ ¬ a = 0
              · simp [k2, bad] at h
              · simp only [k2, if_false]
                by_cases k3 : k = 10 <;> by_cases k4 : k = 12 <;> cases l <;> simp [k3, k4]
          · simp [hc, bad] at h
        · by_cases h5 : t = 5
          · subst h5
            simp only [if_true, h1, h2, h3, h4, if_false, Esc.escA] at h ⊢
            by_cases hc : checkN 5 n l = 0
            · refine ⟨hc, ?_⟩
              simp only [hc, ne_eq, not_true_eq_false, or_self, if_false] at h ⊢
              by_cases k1 : k < 13 ∨ 15 < k
              · simp [k1, bad] at h
              · simp only [k1, if_false] at h ⊢
                by_cases k2 : b = 0
                · simp only [k2, not_true_eq_false, if_false] at h ⊢
                  by_cases k3 : k = 15
                  · by_cases k4 : a = 0
                    · simp [k3, k4]
                    · simp [k3, k4, bad] at h
                  · simp only [k3, if_false] at h ⊢
                    by_cases k4 : a < 0 ∨ cap62 < a
                    · simp [k4, bad] at h
                    · simp only [k4, if_false]
                      by_cases k5 : k = 13 <;> by_cases k6 : a ≤ cap62 - n <;> by_cases k7 : a ≤ n <;> simp [k5, k6, k7]
                · simp [k2, bad] at h
            · simp [hc, bad] at h
          · simp [h1, h2, h3, h4, h5, bad] at h
theorem run_two (s : DState) (p q : DOp) : twoS s p q = if (runA s [p, q]).e = 0 then some (runA s [p, q]).s else none := by
  have e1 : ∀ (s : DState) (o : DOp), stepA s o = stepM s o := fun _ _ => rfl
  unfold twoS legS
  rw [runA_cons, e1]
  by_cases h1 : (stepM s p).e = 0
  · by_cases h2 : (stepM s p).r = p.ret
    · simp only [h1, h2, ne_eq, not_true_eq_false, if_false, and_self, if_true, Option.bind_some]
      rw [runA_cons, e1]
      by_cases h3 : (stepM (stepM s p).s q).e = 0
      · by_cases h4 : (stepM (stepM s p).s q).r = q.ret
        · simp [h3, h4, runA]
        · simp [h3, h4]
      · simp [h3]
    · simp [h1, h2]
  · simp [h1]
theorem run_type {s : DState} {p q : DOp} (h : (runA s [p, q]).e = 0) : (runA s [p, q]).s.type = s.type := by
  have e1 : ∀ (s : DState) (o : DOp), stepA s o = stepM s o := fun _ _ => rfl
  rw [runA_cons, e1] at h ⊢
  by_cases h1 : (stepM s p).e = 0
  · by_cases h2 : (stepM s p).r = p.ret
    · simp only [h1, h2, ne_eq, not_true_eq_false, if_false] at h ⊢
      rw [runA_cons, e1] at h ⊢
      by_cases h3 : (stepM (stepM s p).s q).e = 0
      · by_cases h4 : (stepM (stepM s p).s q).r = q.ret
        · simp only [h3, h4, ne_eq, not_true_eq_false, if_false, runA]
          rw [(step_check h3).2, (step_check h1).2]
        · simp [h3, h4] at h
      · simp [h3] at h
    · simp [h1, h2] at h
  · simp [h1] at h
/-- Operations that commute are alike in both orders. -/
theorem alike {s : DState} {p q : DOp} (hn : w64 s.n) (hp : opC p = 0) (hq : opC q = 0) (hc : cmOpsB p q = true) (ep : (stepM s p).e = 0) (eq : (stepM s q).e = 0) : unlike s p q = false := by
  have h := commute_two (step_check ep).1 hn hp hq hc ep eq
  rw [run_two, run_two] at h
  unfold unlike
  by_cases h1 : (runA s [p, q]).e = 0 <;> by_cases h2 : (runA s [q, p]).e = 0
  · simp only [h1, h2, if_true, Option.some.injEq] at h ⊢
    simp [h]
  · simp [h1, h2] at h
  · simp [h1, h2] at h
  · simp [h1, h2]

/- WitC0 -/
def wnE : List (Nat × ExtFn) := (3, pureExt trueG) :: (16, pureExt (sigExt [sgS] differG)) :: (wtE ++ kitE)
theorem wnE_ok (N : Nat) : ExtsOk Tryz.prog N wnE := extsOk_cons (extOk_pure known_fn) (extsOk_cons (extOk_pure differ_fn) (exts_append (wtE_ok N) (kitE_ok N)))

/- WitC -/
set_option maxRecDepth 100000 in
theorem wnone_tree (k a b rk rn k' a' b' rk' rn' t n : Int) (l : List Int) : (((tden Tryz.prog wnE [] 30).call 0 5 [.agg #[.int .i64 k, .int .i64 a, .int .i64 b, .int .i64 rk, .int .i64 rn], .agg #[.int .i64 k', .int .i64 a', .int .i64 b', .int .i64 rk', .int .i64 rn'], .agg #[.int .i64 t, .int .i64 n, .pl .ints l]] ⟨.nil, 0⟩).pure.cut
    (.ite (.all) (.ite (.ite (.yes (.yes (.yes (.yes (.yes (.yes (.yes (.yes (.yes (.yes (.yes (.yes (.yes (.yes (.all))))))))))))))) (.no (.ite (.yes (.yes (.yes (.yes (.yes (.yes (.yes (.no (.no (.yes (.all))))))))))) (.no (.ite (.no (.ite (.yes (.yes (.yes (.no (.no (.yes (.all))))))) (.ite (.ite (.yes (.yes (.yes (.yes (.yes (.yes (.yes (.yes (.ite (.yes (.yes (.yes (.yes (.yes (.ite (.yes (.ite (.yes (.yes (.all))) (.yes (.no (.yes (.all)))))) (.no (.no (.no (.no (.all))))))))))) (.no (.ite (.yes (.yes (.ite (.yes (.no (.yes (.yes (.ite (.yes (.ite (.yes (.yes (.all))) (.yes (.no (.yes (.all)))))) (.no (.no (.no (.no (.all)))))))))) (.all)))) (.no (.no (.no (.no (.no (.yes (.yes (.ite (.yes (.ite (.yes (.yes (.all))) (.yes (.no (.yes (.all)))))) (.no (.no (.no (.no (.all)))))))))))))))))))))))) (.all)) (.all)))) (.all)))))) (.all)))).ev = T.ev (α := CV) (
     .ite (decide ((↑l.length : Int) > (60 : Int)))
      (.ret (.bool true))
      (.ite (difOk l (DOp.mk k a b (DRet.mk rk rn)) (DOp.mk k' a' b' (DRet.mk rk' rn')))
       (.ite (difE (DState.mk t n l) (DOp.mk k a b (DRet.mk rk rn)) (DOp.mk k' a' b' (DRet.mk rk' rn')) != (0 : Int))
        (.ite (difE (DState.mk t n l) (DOp.mk k a b (DRet.mk rk rn)) (DOp.mk k' a' b' (DRet.mk rk' rn')) != (0 : Int))
         (.ret (.bool true))
         .fail)
        (.ite (cmEr (DOp.mk k a b (DRet.mk rk rn)) (DOp.mk k' a' b' (DRet.mk rk' rn')) != (0 : Int))
         (.ite (difE (DState.mk t n l) (DOp.mk k a b (DRet.mk rk rn)) (DOp.mk k' a' b' (DRet.mk rk' rn')) != (0 : Int)) .fail
          (.ret (.bool (cmEr (DOp.mk k a b (DRet.mk rk rn)) (DOp.mk k' a' b' (DRet.mk rk' rn')) != (0 : Int)))))
         (.ite (small l.length)
          (.ite (checkN t n l != (0 : Int))
           (.ite (difE (DState.mk t n l) (DOp.mk k a b (DRet.mk rk rn)) (DOp.mk k' a' b' (DRet.mk rk' rn')) != (0 : Int)) .fail
            (.ret (.bool (cmEr (DOp.mk k a b (DRet.mk rk rn)) (DOp.mk k' a' b' (DRet.mk rk' rn')) != (0 : Int)))))
           (.ite (runB l [DOp.mk k a b (DRet.mk rk rn), DOp.mk k' a' b' (DRet.mk rk' rn')])
            (.ite (runB l [DOp.mk k' a' b' (DRet.mk rk' rn'), DOp.mk k a b (DRet.mk rk rn)])
             (.ite (decide ((runA (DState.mk t n l) [DOp.mk k' a' b' (DRet.mk rk' rn'), DOp.mk k a b (DRet.mk rk rn)]).s.type = (runA (DState.mk t n l) [DOp.mk k' a' b' (DRet.mk rk' rn'), DOp.mk k a b (DRet.mk rk rn)]).s.type))
              (.ite (decide ((runA (DState.mk t n l) [DOp.mk k' a' b' (DRet.mk rk' rn'), DOp.mk k a b (DRet.mk rk rn)]).s.n = (runA (DState.mk t n l) [DOp.mk k' a' b' (DRet.mk rk' rn'), DOp.mk k a b (DRet.mk rk rn)]).s.n))
               (.ite ((runA (DState.mk t n l) [DOp.mk k' a' b' (DRet.mk rk' rn'), DOp.mk k a b (DRet.mk rk rn)]).s.l.length.beq (runA (DState.mk t n l) [DOp.mk k' a' b' (DRet.mk rk' rn'), DOp.mk k a b (DRet.mk rk rn)]).s.l.length)
                (.ite (!((runA (DState.mk t n l) [DOp.mk k a b (DRet.mk rk rn), DOp.mk k' a' b' (DRet.mk rk' rn')]).e == (0 : Int)) == ((runA (DState.mk t n l) [DOp.mk k' a' b' (DRet.mk rk' rn'), DOp.mk k a b (DRet.mk rk rn)]).e == (0 : Int)))
                 (.ite (difB (DState.mk t n l) (DOp.mk k a b (DRet.mk rk rn)) (DOp.mk k' a' b' (DRet.mk rk' rn')) == true)
                  (.ite (cmIs (DOp.mk k a b (DRet.mk rk rn)) (DOp.mk k' a' b' (DRet.mk rk' rn')))
                   (.ret (.bool (!difB (DState.mk t n l) (DOp.mk k a b (DRet.mk rk rn)) (DOp.mk k' a' b' (DRet.mk rk' rn')))))
                   (.ret (.bool true)))
                  (.ret (.bool false)))
                 (.ite ((runA (DState.mk t n l) [DOp.mk k a b (DRet.mk rk rn), DOp.mk k' a' b' (DRet.mk rk' rn')]).e == (0 : Int))
                  (.ite (small (runA (DState.mk t n l) [DOp.mk k a b (DRet.mk rk rn), DOp.mk k' a' b' (DRet.mk rk' rn')]).s.l.length)
                   (.ite (difB (DState.mk t n l) (DOp.mk k a b (DRet.mk rk rn)) (DOp.mk k' a' b' (DRet.mk rk' rn')) == !((runA (DState.mk t n l) [DOp.mk k a b (DRet.mk rk rn), DOp.mk k' a' b' (DRet.mk rk' rn')]).s.type == (runA (DState.mk t n l) [DOp.mk k' a' b' (DRet.mk rk' rn'), DOp.mk k a b (DRet.mk rk rn)]).s.type && (runA (DState.mk t n l) [DOp.mk k a b (DRet.mk rk rn), DOp.mk k' a' b' (DRet.mk rk' rn')]).s.n == (runA (DState.mk t n l) [DOp.mk k' a' b' (DRet.mk rk' rn'), DOp.mk k a b (DRet.mk rk rn)]).s.n && (runA (DState.mk t n l) [DOp.mk k a b (DRet.mk rk rn), DOp.mk k' a' b' (DRet.mk rk' rn')]).s.l == (runA (DState.mk t n l) [DOp.mk k' a' b' (DRet.mk rk' rn'), DOp.mk k a b (DRet.mk rk rn)]).s.l))
                    (.ite (cmIs (DOp.mk k a b (DRet.mk rk rn)) (DOp.mk k' a' b' (DRet.mk rk' rn')))
                     (.ret (.bool (!difB (DState.mk t n l) (DOp.mk k a b (DRet.mk rk rn)) (DOp.mk k' a' b' (DRet.mk rk' rn')))))
                     (.ret (.bool true)))
                    (.ret (.bool false)))
                   (.fail))
                  (.ite (difB (DState.mk t n l) (DOp.mk k a b (DRet.mk rk rn)) (DOp.mk k' a' b' (DRet.mk rk' rn')) == false)
                   (.ite (cmIs (DOp.mk k a b (DRet.mk rk rn)) (DOp.mk k' a' b' (DRet.mk rk' rn')))
                    (.ret (.bool (!difB (DState.mk t n l) (DOp.mk k a b (DRet.mk rk rn)) (DOp.mk k' a' b' (DRet.mk rk' rn')))))
                    (.ret (.bool true)))
                   (.ret (.bool false)))))
                .fail)
               .fail)
              .fail)
             (.fail))
            (.fail)))
          (.fail))))
       (.fail))) := by kernel_rfl

/- WitD -/
theorem Ar.stateW {x : CV} (h : (Ar.agg [i6, i6, .row .ints]).is x) : ∃ (t n : Int) (l : List Int), x = .agg #[.int .i64 t, .int .i64 n, .pl .ints l] ∧ w64 t ∧ w64 n ∧ wfInts l := by
  obtain ⟨xs, rfl, h⟩ := h
  obtain ⟨a, _, rfl, ha, h⟩ := h.int; obtain ⟨b, _, rfl, hb, h⟩ := h.int; obtain ⟨c, _, rfl, hc, h⟩ := h.row; cases h.nil_inv
  exact ⟨a, b, c, rfl, ha, hb, hc⟩
theorem Ar.opW {x : CV} (h : (Ar.agg [i6, i6, i6, i6, i6]).is x) : ∃ (k a b r n : Int), x = .agg #[.int .i64 k, .int .i64 a, .int .i64 b, .int .i64 r, .int .i64 n] ∧ w64 k ∧ w64 a ∧ w64 b ∧ w64 r ∧ w64 n := by
  obtain ⟨xs, rfl, h⟩ := h
  obtain ⟨a, _, rfl, ha, h⟩ := h.int; obtain ⟨b, _, rfl, hb, h⟩ := h.int; obtain ⟨c, _, rfl, hc, h⟩ := h.int; obtain ⟨d, _, rfl, hd, h⟩ := h.int; obtain ⟨e, _, rfl, he, h⟩ := h.int; cases h.nil_inv
  exact ⟨a, b, c, d, e, rfl, ha, hb, hc, hd, he⟩
theorem inI64_of {n : Int} (h : w64 n) : Ctr.inI64 n = true := Ctr.inI64_iff.2 h

set_option maxHeartbeats 4000000 in
theorem wnone_all (xs : List CV) (h : ArsAll [.agg [i6, i6, i6, i6, i6], .agg [i6, i6, i6, i6, i6], .agg [i6, i6, .row .ints]] xs) : PureAt Tryz.prog 5 xs (.bool true) := by
  obtain ⟨_, _, rfl, h1, h2⟩ := h.cons_inv; obtain ⟨k, a, b, rk, rn, rfl, wk, wa, wb, _⟩ := Ar.opW h1
  obtain ⟨_, _, rfl, h3, h4⟩ := h2.cons_inv; obtain ⟨k', a', b', rk', rn', rfl, wk', wa', wb', _⟩ := Ar.opW h3
  obtain ⟨_, _, rfl, h5, h6⟩ := h4.cons_inv; obtain ⟨t, n, l, rfl, wt, wn, _⟩ := Ar.stateW h5
  cases h6.nil_inv
  refine pureAt0 plainN mixedN wnE_ok noL (k := 30) ((wnone_tree k a b rk rn k' a' b' rk' rn' t n l).trans ?_) rfl
  clear h h1 h2 h3 h4 h5 h6
  by_cases hl : l.length ≤ 60
  · have hd : ¬ ((l.length : Int) > 60) := by omega
    generalize hP : DOp.mk k a b (DRet.mk rk rn) = p
    generalize hQ : DOp.mk k' a' b' (DRet.mk rk' rn') = q
    generalize hS : DState.mk t n l = s
    have bp : opB p = true := by rw [← hP]; simp only [opB, inI64_of wa, inI64_of wb, Bool.and_self]
    have bq : opB q = true := by rw [← hQ]; simp only [opB, inI64_of wa', inI64_of wb', Bool.and_self]
    have hok : difOk l p q = true := by simp only [difOk, bp, bq, Bool.and_self, Bool.and_true, Nat.ble_eq]; omega
    obtain ⟨f1, f2, f3, f4, f5⟩ := difOk_facts hok
    have hs : small l.length = true := by rw [small_iff]; omega
    have sl : s.l = l := by rw [← hS]
    have sn : s.n = n := by rw [← hS]
    have st : s.type = t := by rw [← hS]
    have g1 := run_len s [p, q]
    have g2 : small (runA s [p, q]).s.l.length = true := by
      rw [small_iff]; rw [sl] at g1; simp only [List.length_cons, List.length_nil] at g1; omega
    simp only [T.ev_ite, T.ev_ret, T.ev_fail, hd, decide_false, Bool.false_eq_true, if_false, hok, if_true, hs, f3, f4, eq_self, decide_true, g2, Nat.beq_refl]
    by_cases e1 : difE s p q = 0
    · by_cases e2 : cmEr p q = 0
      · have ep : (stepM s p).e = 0 := by
          unfold difE at e1
          by_cases h : (stepM s p).e = 0
          · exact h
          · rw [if_pos h] at e1; exact e1
        have eq : (stepM s q).e = 0 := by
          unfold difE at e1
          rw [if_neg (by simp [ep])] at e1; exact e1
        have op : opC p = 0 := by
          unfold cmEr at e2
          by_cases h : opC p = 0
          · exact h
          · rw [if_pos h] at e2; exact e2
        have oq : opC q = 0 := by
          unfold cmEr at e2
          rw [if_neg (by simp [op])] at e2; exact e2
        have hck := (step_check ep).1
        rw [st, sn, sl] at hck
        have hdif : difB s p q = unlike s p q := by simp [difB, ep, eq]
        have his : cmIs p q = cmOpsB p q := by simp [cmIs, op, oq]
        simp only [e1, e2, hck, bne_self_eq_false, Bool.false_eq_true, if_false, hdif, his]
        have key : cmOpsB p q = true → unlike s p q = false := fun hc => alike (by rw [sn]; exact wn) op oq hc ep eq
        have hun : unlike s p q = (if (runA s [p, q]).e = 0 then (if (runA s [q, p]).e = 0 then !decide ((runA s [p, q]).s.n = (runA s [q, p]).s.n ∧ (runA s [p, q]).s.l = (runA s [q, p]).s.l) else true) else decide ((runA s [q, p]).e = 0)) := rfl
        have ty : (runA s [p, q]).e = 0 → (runA s [q, p]).e = 0 → (runA s [p, q]).s.type = (runA s [q, p]).s.type := fun h1 h2 => by rw [run_type h1, run_type h2]
        generalize hU : unlike s p q = u at *
        generalize hC : cmOpsB p q = c at *
        generalize runA s [p, q] = x at *
        generalize runA s [q, p] = y at *
        by_cases c1 : x.e = 0
        · have bx : (x.e == 0) = true := by simp [c1]
          by_cases c2 : y.e = 0
          · have by_ : (y.e == 0) = true := by simp [c2]
            have ht : (x.s.type == y.s.type) = true := by simp [ty c1 c2]
            rw [if_pos c1, if_pos c2] at hun
            by_cases c3 : x.s.n = y.s.n
            · have b3 : (x.s.n == y.s.n) = true := by simp [c3]
              by_cases c4 : x.s.l = y.s.l
              · have b4 : (x.s.l == y.s.l) = true := by simp [c4]
                rw [decide_eq_true (⟨c3, c4⟩ : x.s.n = y.s.n ∧ x.s.l = y.s.l)] at hun
                subst hun
                simp only [bx, by_, ht, b3, b4]
                cases c <;> simp
              · have b4 : (x.s.l == y.s.l) = false := by simp [c4]
                rw [decide_eq_false (fun h : x.s.n = y.s.n ∧ x.s.l = y.s.l => c4 h.2)] at hun
                subst hun
                simp only [bx, by_, ht, b3, b4]
                cases c
                · simp
                · simp at key
            · have b3 : (x.s.n == y.s.n) = false := by simp [c3]
              rw [decide_eq_false (fun h : x.s.n = y.s.n ∧ x.s.l = y.s.l => c3 h.1)] at hun
              subst hun
              simp only [bx, by_, ht, b3]
              cases c
              · simp
              · simp at key
          · have by_ : (y.e == 0) = false := by simp [c2]
            rw [if_pos c1, if_neg c2] at hun
            subst hun
            simp only [bx, by_]
            cases c
            · simp
            · simp at key
        · have bx : (x.e == 0) = false := by simp [c1]
          rw [if_neg c1] at hun
          by_cases c2 : y.e = 0
          · have by_ : (y.e == 0) = true := by simp [c2]
            rw [decide_eq_true c2] at hun
            subst hun
            simp only [bx, by_]
            cases c
            · simp
            · simp at key
          · have by_ : (y.e == 0) = false := by simp [c2]
            rw [decide_eq_false c2] at hun
            subst hun
            simp only [bx, by_]
            cases c <;> simp
      · simp [e1, e2]
    · simp [e1]
  · simp [T.ev_ite, T.ev_ret, show (l.length : Int) > 60 by omega]

end Go.Proofs.YtknijbcmhjgllaaGreatD
