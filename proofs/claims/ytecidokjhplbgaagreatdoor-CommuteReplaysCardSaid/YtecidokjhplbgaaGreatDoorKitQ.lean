/-
  slices.Clone of whole numbers.
-/
import Derived.Test.YtecidokjhplbgaaGreatDoorKitD
import Derived.Test.YtecidokjhplbgaaGreatDoorStA
set_option linter.unusedVariables false
set_option linter.unusedSimpArgs false
namespace Go.Proofs.YtecidokjhplbgaaGreatDoorD
open Go Go.RowKit

def cloneEnd0 : NSt := ⟨[.row 0 1 (0)], [], [(0, .rows .ints [])], 1⟩
set_option maxRecDepth 100000 in
theorem clone_nil : ((stRunV Tryz.prog [] [] [(0, .ints)] 30 69 ⟨[.slice none 0 0], [], [], 0⟩).cut
    (.yes (.all))).ev = T.ev (α := NSt) (
     stAt cloneEnd0 [.l .ints ([])]) := by kernel_rfl
def cloneEndB0 : NSt := ⟨[.row 0 1 (0)], [], [(0, .rows .ints [])], 1⟩
set_option maxRecDepth 100000 in
theorem clone_nn : ((stRunV Tryz.prog [] [] [] 30 69 ⟨[.nnil], [], [], 0⟩).cut
    (.no (.yes (.all)))).ev = T.ev (α := NSt) (
     stAt cloneEndB0 [.l .ints ([])]) := by kernel_rfl
def cloneEndC0 : NSt := ⟨[.row 0 1 (0)], [], [(0, .rows .ints [])], 1⟩
set_option maxRecDepth 100000 in
theorem clone_pl (l : List Int) : ((stRunV Tryz.prog [] [] [] 30 69 ⟨[.pl .ints l], [], [], 0⟩).cut
    (.ite (.no (.ite (.all) (.all))) (.all))).ev = T.ev (α := NSt) (
     .ite (!l.isEmpty)
      (.ite (roomB l.length (8 : Nat))
       (stAt cloneEndC0 [.l .ints (l)])
       (.fail))
      (.fail)) := by kernel_rfl

def cloneG : NSt → T NSt
  | ⟨[.pl .ints l], [], [], 0⟩ => T.when (small l.length) (.ret ⟨[.row 0 1 0], [], [(0, .rows .ints l)], 1⟩)
  | _ => .fail
theorem clone_fn : StFn Tryz.prog 69 cloneG :=
  ⟨bodied_ex (by kernel_rfl), fun n0 n h => by
    unfold cloneG at h
    split at h
    · rename_i l
      obtain ⟨hc, h1⟩ := ev_when h
      cases ev_ret h1
      refine ⟨Nat.zero_le _, ?_⟩
      cases l with
      | nil => exact .nil2 (st_cut plainN mixedN noE noL (clone_nil.trans rfl)).2 (st_cut plainN mixedN noE noL (clone_nn.trans rfl)).2
      | cons x l =>
        refine (st_cut plainN mixedN noE noL ((clone_pl (x :: l)).trans ?_)).2
        have hr := roomB_small hc (b := 8) (by decide)
        rw [T.ev_ite, T.ev_ite, hr]; rfl
    · exact (ev_fail h).elim⟩

end Go.Proofs.YtecidokjhplbgaaGreatDoorD
