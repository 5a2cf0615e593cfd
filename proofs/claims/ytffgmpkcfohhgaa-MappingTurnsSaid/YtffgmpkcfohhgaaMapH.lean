/-
  Chapter 08: setting: contracts; what a map answers.
-/
import Derived.Test.YtffgmpkcfohhgaaMapG
set_option linter.unusedVariables false
set_option linter.unusedSimpArgs false
namespace Go.Proofs.YtffgmpkcfohhgaaD
open Go Go.RowKit

def setG : List CV → T CV
  | [.pl .ints l, .int .i64 x, .int .i64 y] => T.when (small (l.length + 4)) (.ret (.pl .ints (setP (dropP l x) x y)))
  | _ => .fail
def setSG : NSt → T NSt
  | ⟨[.pl .ints l, .int .i64 x, .int .i64 y], [], [], 0⟩ => T.when (small (l.length + 4)) (.ret ⟨[.row 0 1 0], [], [(0, .rows .ints (setP (dropP l x) x y))], 1⟩)
  | _ => .fail
theorem small_le {a b : Nat} (h : small b = true) (hab : a ≤ b) : small a = true := by rw [small_iff] at h ⊢; omega
theorem setS_fn : StFn Try.prog 14 setSG :=
  ⟨bodied_ex (by kernel_rfl), fun n0 n h => by
    unfold setSG at h
    split at h
    · rename_i l x y
      obtain ⟨hc, h1⟩ := ev_when h
      have hd := dropP_length l x
      have hp := (seP_length x y (dropP l x)).1
      have e1 : small l.length = true := small_le hc (by omega)
      have e2 : small ((dropP l x).length + 2) = true := small_le hc (by omega)
      have e3 : roomB ((seP (dropP l x) x y).2.length + [x, y].length) 8 = true := roomB_small (small_le hc (by simp; omega)) (by decide)
      refine st_cut plainN mixedN drpE_ok setL_ok ((set_tree l x y).trans ?_)
      rw [← h1]
      simp only [T.ev_ite, e1, e2, e3, if_true]
      cases hq : (seP (dropP l x) x y).1
      · simp only [setP, hq]; rfl
      · simp only [setP, hq]; rfl
    · exact (ev_fail h).elim⟩
theorem set_fn : PureFn Try.prog 14 (sigExt [.l .ints] setG) :=
  pureFn_mk (bodied_ex (by kernel_rfl)) fun args d h => by
    refine (pure_of_st setS_fn).2 args d ?_
    unfold setG at h
    split at h
    · rename_i l x y
      obtain ⟨hc, h1⟩ := ev_when h
      cases ev_ret h1
      simp only [pureOfSt, setSG, T.when, hc]
      rfl
    · exact (ev_fail h).elim
theorem rset_fn : PureFn Try.prog 27 (sigExt [.l .ints] setG) :=
  pureFn_mk (bodied_ex (by kernel_rfl)) fun args d h => by
    unfold setG at h
    split at h
    · rename_i l x y
      obtain ⟨hc, h1⟩ := ev_when h
      cases ev_ret h1
      have hd := dropP_length l x
      have hr := rsP_le x (dropP l x)
      have e1 : small l.length = true := small_le hc (by omega)
      have e2 : small (dropP l x).length = true := small_le hc (by omega)
      refine pureAt0 plainN mixedN drpE_ok setL_ok (k := 30) ((rset_tree l x y).trans ?_) rfl
      obtain ⟨m, hm⟩ := dropP_even x l
      rw [setP_same x y m _ hm]
      generalize dropP l x = D at *
      generalize rsP D x = p at *
      have e3 : roomB ((List.take p D).length + [x, y].length) 8 = true := roomB_small (small_le hc (by simp; omega)) (by decide)
      have e4 : roomB ((List.take p D).length + [x, y].length + (List.drop p D).length) 8 = true := roomB_small (small_le hc (by simp; omega)) (by decide)
      have e5 : (decide ((0 : Int) ≤ (p : Int)) && decide ((p : Int) ≤ ((hi0 D.length none : Nat) : Int))) = true := by
        rw [Bool.and_eq_true]; exact ⟨by rw [decide_eq_true_eq]; omega, by rw [decide_eq_true_eq]; show (p : Int) ≤ (D.length : Int); omega⟩
      simp only [T.ev_ite, lpart, Int.toNat_natCast, e1, e2, e3, e4, e5, beq_self_eq_true, Bool.and_self, if_true, decide_true]
      rfl
    · exact (ev_fail h).elim

/-- What an operation answers: a state, what is returned, and 0 or why not. -/
structure Ans where
  s : DState
  r : DRet
  e : Int
def Ans.cv (x : Ans) : CV := .tuple #[.agg #[.int .i64 x.s.type, .int .i64 x.s.n, .pl .ints x.s.l], .agg #[.int .i64 x.r.kind, .int .i64 x.r.n], .int .i64 x.e]
def bad (e : Int) : Ans := ⟨⟨0, 0, []⟩, ⟨0, 0⟩, e⟩
def sgA : Sg := .tup [.agg [.any, .any, .l .ints], .any, .any]
def hadP (l : List Int) (x : Int) : DRet := if (findP l x).2.1 then ⟨2, (findP l x).1⟩ else ⟨1, 0⟩
def mapA (t n : Int) (l : List Int) (k a b : Int) : Ans :=
  if t ≠ 3 ∨ checkN t n l ≠ 0 then bad 12
  else if k < 7 ∨ 9 < k then bad 6
  else if k ≠ 7 ∧ b ≠ 0 then bad 2
  else ⟨⟨3, 0, if k = 7 then setP (dropP l a) a b else if k = 8 then l else dropP l a⟩, hadP l a, 0⟩
def mapG : List CV → T CV
  | [.agg ⟨[.int .i64 t, .int .i64 n, .pl .ints l]⟩, .int .i64 k, .int .i64 a, .int .i64 b] => T.when (small (l.length + 4)) (.ret (mapA t n l k a b).cv)
  | _ => .fail
def mpE : List (Nat × ExtFn) := [(12, pureExt (sigExt [.l .ints] findG)), (15, stExt dropSG), (14, stExt setSG),
  (36, pureExt (sigExt [.l .ints] findG)), (28, pureExt (sigExt [.l .ints] dropG)), (27, pureExt (sigExt [.l .ints] setG))] ++ kitE
theorem mpE_ok (N : Nat) : ExtsOk Try.prog N mpE :=
  extsOk_cons (extOk_pure find_fn) (extsOk_cons (extOk_st dropS_fn) (extsOk_cons (extOk_st setS_fn) (extsOk_cons (extOk_pure rfind_fn) (extsOk_cons (extOk_pure rdrop_fn) (extsOk_cons (extOk_pure rset_fn) (kitE_ok N))))))

end Go.Proofs.YtffgmpkcfohhgaaD
