/-
  Chapter 08: finding, dropping: trees, contracts.
-/
import Derived.Test.YtffgmpkcfohhgaaMapB
set_option linter.unusedVariables false
set_option linter.unusedSimpArgs false
namespace Go.Proofs.YtffgmpkcfohhgaaD
open Go Go.RowKit

set_option maxRecDepth 100000 in
theorem find_tree (l : List Int) (x : Int) : (((tden Try.prog [] fiL 30).call 0 12 [.pl .ints l, .int .i64 x] ⟨.nil, 0⟩).pure.cut
    (.ite (.ite (.yes (.yes (.all))) (.yes (.yes (.all)))) (.all))).ev = T.ev (α := CV) (
     .ite ((0 : Int) == (0 : Int) && small l.length)
      (.ite ((findP l x).snd.fst)
       (.ret (.tuple #[.int .i64 ((findP l x).fst), .bool true]))
       (.ret (.tuple #[.int .i64 (0), .bool false])))
      (.fail)) := by kernel_rfl
set_option maxRecDepth 100000 in
theorem rfind_tree (l : List Int) (x : Int) : (((tden Try.prog [] refL 30).call 0 36 [.pl .ints l, .int .i64 x] ⟨.nil, 0⟩).pure.cut
    (.ite (.ite (.all) (.all)) (.all))).ev = T.ev (α := CV) (
     .ite ((0 : Int) == (0 : Int) && small l.length)
      (.ite ((findP l x).snd.fst)
       (.ret (.tuple #[.int .i64 ((findP l x).fst), .bool true]))
       (.ret (.tuple #[.int .i64 (0), .bool false])))
      (.fail)) := by kernel_rfl
set_option maxRecDepth 100000 in
theorem rdrop_tree (l : List Int) (x : Int) : (((tden Try.prog [] refL 30).call 0 28 [.pl .ints l, .int .i64 x] ⟨.nil, 0⟩).pure.cut
    (.ite (.all) (.all))).ev = T.ev (α := CV) (
     .ite ((0 : Int) == (0 : Int) && small l.length)
      (.ret (.pl .ints (dropP l x)))
      (.fail)) := by kernel_rfl
/- List (RC.den .ints) -/
def dropEnd0 : NSt := ⟨[.row 0 1 (0)], [], [(0, .rows .ints [])], 1⟩
set_option maxRecDepth 100000 in
theorem drop_tree (l : List Int) (x : Int) : ((stRunV Try.prog [] drL [] 30 15 ⟨[.pl .ints l, .int .i64 x], [], [], 0⟩).cut
    (.ite (.yes (.all)) (.all))).ev = T.ev (α := NSt) (
     .ite (small l.length)
      (stAt dropEnd0 [.l .ints (dropP l x)])
      (.fail)) := by kernel_rfl

def findG : List CV → T CV
  | [.pl .ints l, .int .i64 x] => T.when (small l.length) (.ret (.tuple #[.int .i64 (findP l x).1, .bool (findP l x).2.1]))
  | _ => .fail
def dropG : List CV → T CV
  | [.pl .ints l, .int .i64 x] => T.when (small l.length) (.ret (.pl .ints (dropP l x)))
  | _ => .fail
def dropSG : NSt → T NSt
  | ⟨[.pl .ints l, .int .i64 x], [], [], 0⟩ => T.when (small l.length) (.ret ⟨[.row 0 1 0], [], [(0, .rows .ints (dropP l x))], 1⟩)
  | _ => .fail
theorem findP_no {l : List Int} {x : Int} : (findP l x).2.1 = false → (findP l x).1 = 0 := by
  intro h
  have : ∀ (m : Nat) (l : List Int), l.length ≤ m → (findP l x).2.1 = false → (findP l x).1 = 0 := by
    intro m
    induction m using Nat.strongRecOn with
    | ind m ih =>
      intro l hl hf
      rcases len_gt1 l with ⟨k, v, r, rfl⟩ | ⟨_, h2, _⟩
      · by_cases hk : k = x
        · simp [findP, hk] at hf
        · simp only [findP, hk, if_false] at hf ⊢
          exact ih r.length (by simp at hl; omega) r (Nat.le_refl _) hf
      · rw [h2]
  exact this l.length l (Nat.le_refl _) h
theorem find_fn : PureFn Try.prog 12 (sigExt [.l .ints] findG) :=
  pureFn_mk (bodied_ex (by kernel_rfl)) fun args d h => by
    unfold findG at h
    split at h
    · rename_i l x
      obtain ⟨hc, h1⟩ := ev_when h
      cases ev_ret h1
      refine pureAt0 plainN mixedN noE fiL_ok (k := 30) ((find_tree l x).trans ?_) rfl
      cases hf : (findP l x).2.1 <;> simp [T.ev_ite, T.ev_ret, hc, hf, findP_no]
    · exact (ev_fail h).elim
theorem rfind_fn : PureFn Try.prog 36 (sigExt [.l .ints] findG) :=
  pureFn_mk (bodied_ex (by kernel_rfl)) fun args d h => by
    unfold findG at h
    split at h
    · rename_i l x
      obtain ⟨hc, h1⟩ := ev_when h
      cases ev_ret h1
      refine pureAt0 plainN mixedN noE refL_ok (k := 30) ((rfind_tree l x).trans ?_) rfl
      cases hf : (findP l x).2.1 <;> simp [T.ev_ite, T.ev_ret, hc, hf, findP_no]
    · exact (ev_fail h).elim
theorem rdrop_fn : PureFn Try.prog 28 (sigExt [.l .ints] dropG) :=
  pureFn_mk (bodied_ex (by kernel_rfl)) fun args d h => by
    unfold dropG at h
    split at h
    · rename_i l x
      obtain ⟨hc, h1⟩ := ev_when h
      cases ev_ret h1
      refine pureAt0 plainN mixedN noE refL_ok (k := 30) ((rdrop_tree l x).trans ?_) rfl
      simp [T.ev_ite, T.ev_ret, hc]
    · exact (ev_fail h).elim
theorem dropS_fn : StFn Try.prog 15 dropSG :=
  ⟨bodied_ex (by kernel_rfl), fun n0 n h => by
    unfold dropSG at h
    split at h
    · rename_i l x
      obtain ⟨hc, h1⟩ := ev_when h
      refine st_cut plainN mixedN noE drL_ok ((drop_tree l x).trans ?_)
      simp only [T.ev_ite, hc, if_true]
      exact h1
    · exact (ev_fail h).elim⟩
theorem drop_fn : PureFn Try.prog 15 (sigExt [.l .ints] dropG) :=
  pureFn_mk (bodied_ex (by kernel_rfl)) fun args d h => by
    refine (pure_of_st dropS_fn).2 args d ?_
    unfold dropG at h
    split at h
    · rename_i l x
      obtain ⟨hc, h1⟩ := ev_when h
      cases ev_ret h1
      simp only [pureOfSt, dropSG, T.when, hc]
      rfl
    · exact (ev_fail h).elim
def drpE : List (Nat × ExtFn) := [(15, pureExt (sigExt [.l .ints] dropG)), (28, pureExt (sigExt [.l .ints] dropG))]
theorem drpE_ok (N : Nat) : ExtsOk Try.prog N drpE := extsOk_cons (extOk_pure drop_fn) (extsOk_cons (extOk_pure rdrop_fn) extsOk_nil)

end Go.Proofs.YtffgmpkcfohhgaaD
