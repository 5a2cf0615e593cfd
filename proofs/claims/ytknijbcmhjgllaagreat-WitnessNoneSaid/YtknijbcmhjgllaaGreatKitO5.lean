/-
  States written over: trees, contract.
-/
import Derived.Test.YtknijbcmhjgllaaGreatKitO4
set_option linter.unusedVariables false
set_option linter.unusedSimpArgs false
namespace Go.Proofs.YtknijbcmhjgllaaGreatD
open Go Go.RowKit

/- List (RC.den .ints) -/
def osrEnd0 : NSt := ⟨[.tuple #[]], [], [(0, .rows .ints [])], 1⟩
set_option maxRecDepth 100000 in
theorem osr_tree (t n : Int) (l : List Int) : ((stRun Tryz.prog overE [] 30 27 ⟨[.agg #[.int .i64 t, .int .i64 n, .row 0 1 0]], [], [(0, .rows .ints l)], 1⟩).cut
    (.ite (.all) (.all))).ev = T.ev (α := NSt) (
     .ite (small l.length)
      (stAt osrEnd0 [.l .ints (overAt l (0 : Nat) l.length)])
      (.fail)) := by kernel_rfl
/- List (RC.den .ints) -/
def oswEnd0 : NSt := ⟨[.tuple #[]], [], [(0, .rows .ints [])], 1⟩
set_option maxRecDepth 100000 in
theorem osw_tree (t n : Int) (s m c : Nat) (l : List Int) : ((stRun Tryz.prog overE [] 30 27 ⟨[.agg #[.int .i64 t, .int .i64 n, .win 0 1 s m c]], [], [(0, .rows .ints l)], 1⟩).cut
    (.ite (.all) (.all))).ev = T.ev (α := NSt) (
     .ite (small m && (s + m).ble l.length)
      (stAt oswEnd0 [.l .ints (overAt l s m)])
      (.fail)) := by kernel_rfl
/-  -/
def osnEnd0 : NSt := ⟨[.tuple #[]], [], [], 0⟩
set_option maxRecDepth 100000 in
theorem osn_tree (t n : Int) : ((stRun Tryz.prog overE [] 30 27 ⟨[.agg #[.int .i64 t, .int .i64 n, .slice none 0 0]], [], [], 0⟩).cut
    (.all)).ev = T.ev (α := NSt) (
     stAt osnEnd0 []) := by kernel_rfl
/-  -/
def oseEnd0 : NSt := ⟨[.tuple #[]], [], [], 0⟩
set_option maxRecDepth 100000 in
theorem ose_tree (t n : Int) : ((stRun Tryz.prog overE [] 30 27 ⟨[.agg #[.int .i64 t, .int .i64 n, .empty]], [], [], 0⟩).cut
    (.all)).ev = T.ev (α := NSt) (
     stAt oseEnd0 []) := by kernel_rfl

def overSG : NSt → T NSt
  | ⟨[.agg ⟨[.int .i64 t, .int .i64 n, .row 0 1 0]⟩], [], [(0, .rows .ints l)], 1⟩ => T.when (small l.length) (.ret ⟨[.tuple #[]], [], [(0, .rows .ints (overAt l 0 l.length))], 1⟩)
  | ⟨[.agg ⟨[.int .i64 t, .int .i64 n, .win 0 1 s m c]⟩], [], [(0, .rows .ints l)], 1⟩ => T.when (small m && Nat.ble (s + m) l.length) (.ret ⟨[.tuple #[]], [], [(0, .rows .ints (overAt l s m))], 1⟩)
  | ⟨[.agg ⟨[.int .i64 t, .int .i64 n, .slice none 0 0]⟩], [], [], 0⟩ => .ret ⟨[.tuple #[]], [], [], 0⟩
  | ⟨[.agg ⟨[.int .i64 t, .int .i64 n, .empty]⟩], [], [], 0⟩ => .ret ⟨[.tuple #[]], [], [], 0⟩
  | _ => .fail
theorem overS_fn : StFn Tryz.prog 27 overSG :=
  ⟨bodied_ex (by kernel_rfl), fun n0 n h => by
    unfold overSG at h
    split at h
    · rename_i t m l
      obtain ⟨hc, h1⟩ := ev_when h
      refine st_cut plainN mixedN overE_ok noL ((osr_tree t m l).trans ?_)
      simp only [T.ev_ite, hc, if_true]
      exact h1
    · rename_i t m s q c l
      obtain ⟨hc, h1⟩ := ev_when h
      refine st_cut plainN mixedN overE_ok noL ((osw_tree t m s q c l).trans ?_)
      simp only [T.ev_ite, hc, if_true]
      exact h1
    · exact st_cut plainN mixedN overE_ok noL ((osn_tree _ _).trans h)
    · exact st_cut plainN mixedN overE_ok noL ((ose_tree _ _).trans h)
    · exact (ev_fail h).elim⟩
def kitO : List (Nat × ExtFn) := (27, stExt overSG) :: overE
theorem kitO_ok (N : Nat) : ExtsOk Tryz.prog N kitO := extsOk_cons (extOk_st overS_fn) (overE_ok N)

end Go.Proofs.YtknijbcmhjgllaaGreatD
