/-
  Chapter 07: slices.Clone of a set's list; what a set answers.
-/
import Derived.Test.YtdefopkieleojaaSetH
set_option linter.unusedVariables false
set_option linter.unusedSimpArgs false
namespace Go.Proofs.YtdefopkieleojaaD
open Go Go.RowKit

/- List (RC.den .ints) -/
def clone2A0 : NSt := ⟨[.row 0 1 (0)], [], [(0, .rows .ints [])], 1⟩
set_option maxRecDepth 100000 in
theorem clone2_nil : ((stRunV Try.prog [] [] [(0, .ints)] 30 44 ⟨[.slice none 0 0], [], [], 0⟩).cut
    (.yes (.all))).ev = T.ev (α := NSt) (
     stAt clone2A0 [.l .ints ([])]) := by kernel_rfl
/- List (RC.den .ints) -/
def clone2B0 : NSt := ⟨[.row 0 1 (0)], [], [(0, .rows .ints [])], 1⟩
set_option maxRecDepth 100000 in
theorem clone2_nn : ((stRunV Try.prog [] [] [] 30 44 ⟨[.nnil], [], [], 0⟩).cut
    (.no (.yes (.all)))).ev = T.ev (α := NSt) (
     stAt clone2B0 [.l .ints ([])]) := by kernel_rfl
/- List (RC.den .ints) -/
def clone2C0 : NSt := ⟨[.row 0 1 (0)], [], [(0, .rows .ints [])], 1⟩
set_option maxRecDepth 100000 in
theorem clone2_pl (l : List Int) : ((stRunV Try.prog [] [] [] 30 44 ⟨[.pl .ints l], [], [], 0⟩).cut
    (.ite (.no (.ite (.all) (.all))) (.all))).ev = T.ev (α := NSt) (
     .ite (!l.isEmpty)
      (.ite (roomB l.length (8 : Nat))
       (stAt clone2C0 [.l .ints (l)])
       (.fail))
      (.fail)) := by kernel_rfl

theorem clone2_fn : StFn Try.prog 44 cloneG :=
  ⟨bodied_ex (by kernel_rfl), fun n0 n h => by
    unfold cloneG at h
    split at h
    · rename_i l
      obtain ⟨hc, h1⟩ := ev_when h
      cases ev_ret h1
      refine ⟨Nat.zero_le _, ?_⟩
      cases l with
      | nil => exact .nil2 (st_cut plainN mixedN noE noL (clone2_nil.trans rfl)).2 (st_cut plainN mixedN noE noL (clone2_nn.trans rfl)).2
      | cons x l =>
        refine (st_cut plainN mixedN noE noL ((clone2_pl (x :: l)).trans ?_)).2
        have hr := roomB_small hc (b := 8) (by decide)
        rw [T.ev_ite, T.ev_ite, hr]; rfl
    · exact (ev_fail h).elim⟩

/-- What an operation answers: a state, what is returned, and 0 or why not. -/
structure Ans where
  s : DState
  r : DRet
  e : Int
def Ans.cv (x : Ans) : CV := .tuple #[.agg #[.int .i64 x.s.type, .int .i64 x.s.n, .pl .ints x.s.l], .agg #[.int .i64 x.r.kind, .int .i64 x.r.n], .int .i64 x.e]
def bad (e : Int) : Ans := ⟨⟨0, 0, []⟩, ⟨0, 0⟩, e⟩
def sgA : Sg := .tup [.agg [.any, .any, .l .ints], .any, .any]
def setA (t n : Int) (l : List Int) (k a b : Int) : Ans :=
  if t ≠ 2 ∨ checkN t n l ≠ 0 then bad 12
  else if k < 3 ∨ 6 < k then bad 6
  else if b ≠ 0 ∨ (k = 6 ∧ a ≠ 0) then bad 2
  else if k = 3 then ⟨⟨2, 0, withN l a⟩, ⟨2, if hasN l a then 0 else 1⟩, 0⟩
  else if k = 4 then ⟨⟨2, 0, lessN l a⟩, ⟨2, if hasN l a then 1 else 0⟩, 0⟩
  else if k = 5 then ⟨⟨2, 0, l⟩, ⟨2, if hasN l a then 1 else 0⟩, 0⟩
  else ⟨⟨2, 0, l⟩, ⟨2, l.length⟩, 0⟩
def setG : List CV → T CV
  | [.agg ⟨[.int .i64 t, .int .i64 n, .pl .ints l]⟩, .int .i64 k, .int .i64 a, .int .i64 b] => T.when (midB l) (.ret (setA t n l k a b).cv)
  | _ => .fail
def stE : List (Nat × ExtFn) := [(16, pureExt (sigExt [.l .ints] findG)), (18, stExt withSG), (19, stExt lessSG), (44, stExt cloneG),
  (17, pureExt (sigExt [.l .ints] rfindG)), (21, pureExt (sigExt [.l .ints] rwithG)), (22, pureExt (sigExt [.l .ints] rlessG))] ++ kitE
theorem stE_ok (N : Nat) : ExtsOk Try.prog N stE :=
  extsOk_cons (extOk_pure find_fn) (extsOk_cons (extOk_st withS_fn) (extsOk_cons (extOk_st lessS_fn) (extsOk_cons (extOk_st clone2_fn) (extsOk_cons (extOk_pure rfind_fn) (extsOk_cons (extOk_pure rwith_fn) (extsOk_cons (extOk_pure rless_fn) (kitE_ok N)))))))

end Go.Proofs.YtdefopkieleojaaD
