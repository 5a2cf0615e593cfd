/-
  Chapter 08: the law MappingTurns, to all data.
-/
import Derived.Test.YtffgmpkcfohhgaaMapM
import Derived.Test.YtffgmpkcfohhgaaMapL
set_option linter.unusedVariables false
set_option linter.unusedSimpArgs false
namespace Go.Proofs.YtffgmpkcfohhgaaD
open Go Go.RowKit

theorem Lf.int64 {x : CV} (h : (Ar.one i6).is x) : ∃ n, x = .int .i64 n ∧ w64 n := by
  obtain ⟨n, rfl, h1, h2⟩ := h
  exact ⟨n, rfl, h1, h2⟩
theorem Lf.ints {x : CV} (h : (Ar.one (.row .ints)).is x) : ∃ l : List Int, x = .pl .ints l ∧ wfInts l := by
  obtain ⟨l, rfl, h1⟩ := h
  exact ⟨l, rfl, h1⟩
theorem setP_length (l : List Int) (x y : Int) : (setP (dropP l x) x y).length ≤ l.length + 2 := by
  obtain ⟨m, hm⟩ := dropP_even x l
  rw [setP_same x y m _ hm]
  have h1 := dropP_length l x
  have h2 := rsP_le x (dropP l x)
  simp only [List.length_append, List.length_take, List.length_drop, List.length_cons, List.length_nil]; omega

set_option maxHeartbeats 4000000 in
theorem turns_all (xs : List CV) (h : ArsAll [.one (.row .ints), .one i6, .one i6, .one i6, .one i6] xs) : PureAt Try.prog 5 xs (.bool true) := by
  obtain ⟨_, _, rfl, h1, h2⟩ := h.cons_inv; obtain ⟨l, rfl, _⟩ := Lf.ints h1
  obtain ⟨_, _, rfl, h3, h4⟩ := h2.cons_inv; obtain ⟨x, rfl, _⟩ := Lf.int64 h3
  obtain ⟨_, _, rfl, h5, h6⟩ := h4.cons_inv; obtain ⟨o, rfl, _⟩ := Lf.int64 h5
  obtain ⟨_, _, rfl, h7, h8⟩ := h6.cons_inv; obtain ⟨y, rfl, _⟩ := Lf.int64 h7
  obtain ⟨_, _, rfl, h9, h10⟩ := h8.cons_inv; obtain ⟨z, rfl, _⟩ := Lf.int64 h9
  cases h10.nil_inv
  refine pureAt0 plainN mixedN lawE_ok noL (k := 30) ((turns_tree l x o y z).trans ?_) rfl
  clear h h1 h2 h3 h4 h5 h6 h7 h8 h9 h10
  by_cases hl : l.length ≤ 100
  · have s0 : small l.length = true := by rw [small_iff]; omega
    have s1 : small (l.length + 4) = true := by rw [small_iff]; omega
    by_cases hc : checkN 3 0 l = 0
    · obtain ⟨b, hb⟩ := (check3 l).1 hc
      obtain ⟨bs, hS⟩ := sb_put x y hb
      obtain ⟨bo, hO⟩ := sb_put o z hb
      have hD := sb_drop x hb
      have lS := setP_length l x y
      have lO := setP_length l o z
      have lD := dropP_length l x
      have kS := fun k => look_put x y k hb
      have kO := fun k => look_put o z k hb
      have kD := fun k => look_drop l x k
      generalize hSe : setP (dropP l x) x y = S at *
      generalize hOe : setP (dropP l o) o z = O at *
      generalize hDe : dropP l x = D at *
      have cS : checkN 3 0 S = 0 := (check3 S).2 ⟨_, hS⟩
      have cO : checkN 3 0 O = 0 := (check3 O).2 ⟨_, hO⟩
      have cD : checkN 3 0 D = 0 := (check3 D).2 ⟨_, hD⟩
      have p1 : mapA 3 0 l 7 x y = ⟨⟨3, 0, S⟩, hadP l x, 0⟩ := by rw [map_put x y hc, hDe, hSe]
      have p2 : mapA 3 0 l 8 x 0 = ⟨⟨3, 0, l⟩, hadP l x, 0⟩ := map_get x hc
      have p3 : mapA 3 0 l 9 x 0 = ⟨⟨3, 0, D⟩, hadP l x, 0⟩ := by rw [map_del x hc, hDe]
      have q1 : setP (dropP S x) x y = S := by
        obtain ⟨b2, h2⟩ := sb_put x y hS
        refine look_ext h2 hS fun k => ?_
        rw [look_put x y k hS, kS]; split <;> rfl
      have p4 : mapA 3 0 S 7 x y = ⟨⟨3, 0, S⟩, ⟨2, y⟩, 0⟩ := by
        rw [map_put x y cS, q1, look_find, kS]; simp
      have q2 : dropP D x = D := by
        refine look_ext (sb_drop x hD) hD fun k => ?_
        rw [look_drop, kD]; split <;> rfl
      have p5 : mapA 3 0 D 9 x 0 = ⟨⟨3, 0, D⟩, ⟨1, 0⟩, 0⟩ := by
        rw [map_del x cD, q2, look_find, kD]; simp
      have p6 : (hadP l x).kind = 2 → mapA 3 0 S 7 x (hadP l x).n = ⟨⟨3, 0, l⟩, ⟨2, y⟩, 0⟩ := by
        intro h2
        have e : setP (dropP S x) x (hadP l x).n = l := by
          obtain ⟨b2, h3⟩ := sb_put x (hadP l x).n hS
          refine look_ext h3 hb fun k => ?_
          rw [look_put x _ k hS, kS]
          rw [look_find] at h2 ⊢
          by_cases hk : k = x
          · subst hk
            cases hv : look l k with
            | none => rw [hv] at h2; simp at h2
            | some v => simp
          · simp [hk]
        rw [map_put x _ cS, e, look_find S, kS]; simp
      have p7 : (hadP l x).kind ≠ 2 → mapA 3 0 S 9 x 0 = ⟨⟨3, 0, l⟩, ⟨2, y⟩, 0⟩ := by
        intro h2
        have e : dropP S x = l := by
          refine look_ext (sb_drop x hS) hb fun k => ?_
          rw [look_drop, kS]
          rw [look_find] at h2
          by_cases hk : k = x
          · subst hk
            cases hv : look l k with
            | none => simp
            | some v => rw [hv] at h2; simp at h2
          · simp [hk]
        rw [map_del x cS, e, look_find S, kS]; simp
      have p8 : mapA 3 0 l 7 o z = ⟨⟨3, 0, O⟩, hadP l o, 0⟩ := by rw [map_put o z hc, hOe]
      have p9 : o ≠ x → mapA 3 0 S 7 o z = ⟨⟨3, 0, setP (dropP S o) o z⟩, hadP l o, 0⟩ := fun hox => by
        rw [map_put o z cS, had_of (l' := l) (by rw [kS]; simp [hox])]
      have p10 : o ≠ x → mapA 3 0 O 7 x y = ⟨⟨3, 0, setP (dropP S o) o z⟩, hadP l x, 0⟩ := fun hox => by
        have e : setP (dropP O x) x y = setP (dropP S o) o z := by
          obtain ⟨b2, h2⟩ := sb_put x y hO
          obtain ⟨b3, h3⟩ := sb_put o z hS
          refine look_ext h2 h3 fun k => ?_
          rw [look_put x y k hO, look_put o z k hS, kS, kO]
          by_cases h4 : k = x
          · subst h4; simp [show ¬ k = o from fun e => hox e.symm]
          · simp [h4]
        rw [map_put x y cO, e, had_of (l' := l) (by rw [kO]; simp [show ¬ x = o from fun e => hox e.symm])]
      have sS : small (S.length + 4) = true := by rw [small_iff]; omega
      have sO : small (O.length + 4) = true := by rw [small_iff]; omega
      have sD : small (D.length + 4) = true := by rw [small_iff]; omega
      have sS' : small S.length = true := by rw [small_iff]; omega
      have sD' : small D.length = true := by rw [small_iff]; omega
      have sT : small (setP (dropP S o) o z).length = true := by
        have := setP_length S o z
        rw [small_iff]; omega
      by_cases h2 : (hadP l x).kind = 2
      · by_cases hox : o = x
        · simp [T.ev_ite, T.ev_ret, hl, s0, s1, hc, p1, p2, p3, p4, p5, p6 h2, h2, hox, sS, sD, sS', sD', show ¬ (100 : Int) < l.length by omega]
        · simp [T.ev_ite, T.ev_ret, hl, s0, s1, hc, p1, p2, p3, p4, p5, p6 h2, p8, p9 hox, p10 hox, h2, hox, sS, sD, sO, sT, sS', sD', show ¬ (100 : Int) < l.length by omega]
      · by_cases hox : o = x
        · simp [T.ev_ite, T.ev_ret, hl, s0, s1, hc, p1, p2, p3, p4, p5, p7 h2, h2, hox, sS, sD, sS', sD', show ¬ (100 : Int) < l.length by omega]
        · simp [T.ev_ite, T.ev_ret, hl, s0, s1, hc, p1, p2, p3, p4, p5, p7 h2, p8, p9 hox, p10 hox, h2, hox, sS, sD, sO, sT, sS', sD', show ¬ (100 : Int) < l.length by omega]
    · simp [T.ev_ite, T.ev_ret, s0, hc, show (l.length : Int) ≤ 100 by omega]
  · simp [T.ev_ite, T.ev_ret, show ¬ (l.length : Int) ≤ 100 by omega]

end Go.Proofs.YtffgmpkcfohhgaaD
