/-
  Lists written over: contracts.
-/
import Derived.Test.YtknijbcmhjgllaaGreatKitO3
set_option linter.unusedVariables false
set_option linter.unusedSimpArgs false
namespace Go.Proofs.YtknijbcmhjgllaaGreatD
open Go Go.RowKit

def overG : NSt → T NSt
  | ⟨[.row 0 1 0], [], [(0, .rows .ints l)], 1⟩ => T.when (small l.length) (.ret ⟨[.tuple #[]], [], [(0, .rows .ints (overAt l 0 l.length))], 1⟩)
  | ⟨[.win 0 1 s n c], [], [(0, .rows .ints l)], 1⟩ => T.when (small n && Nat.ble (s + n) l.length) (.ret ⟨[.tuple #[]], [], [(0, .rows .ints (overAt l s n))], 1⟩)
  | ⟨[.slice none 0 0], [], [], 0⟩ => .ret ⟨[.tuple #[]], [], [], 0⟩
  | ⟨[.empty], [], [], 0⟩ => .ret ⟨[.tuple #[]], [], [], 0⟩
  | _ => .fail
theorem over_fn : StFn Tryz.prog 55 overG :=
  ⟨bodied_ex (by kernel_rfl), fun n0 n h => by
    unfold overG at h
    split at h
    · rename_i l
      obtain ⟨hc, h1⟩ := ev_when h
      refine st_cut plainN mixedN noE ovL_ok ((or_tree l).trans ?_)
      simp only [T.ev_ite, hc, beq_self_eq_true, Bool.and_self, if_true]
      exact h1
    · rename_i s m c l
      obtain ⟨hc, h1⟩ := ev_when h
      refine st_cut plainN mixedN noE ovL_ok ((ow_tree s m c l).trans ?_)
      simp only [Bool.and_eq_true] at hc
      simp only [T.ev_ite, hc, beq_self_eq_true, Bool.and_self, if_true]
      exact h1
    · exact st_cut plainN mixedN noE ovL_ok (on_tree.trans h)
    · exact st_cut plainN mixedN noE ovL_ok (oe_tree.trans h)
    · exact (ev_fail h).elim⟩
def overE : List (Nat × ExtFn) := [(55, stExt overG)]
theorem overE_ok (N : Nat) : ExtsOk Tryz.prog N overE := extsOk_cons (extOk_st over_fn) extsOk_nil

end Go.Proofs.YtknijbcmhjgllaaGreatD
