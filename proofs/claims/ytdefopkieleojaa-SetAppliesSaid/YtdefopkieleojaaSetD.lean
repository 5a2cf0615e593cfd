/-
  Chapter 07: the loops, told apart; trees.
-/
import Derived.Test.YtdefopkieleojaaSetC
set_option linter.unusedVariables false
set_option linter.unusedSimpArgs false
namespace Go.Proofs.YtdefopkieleojaaD
open Go Go.RowKit

def rfG : List Leaf → T (CEx × NSt)
  | [.l .ints l, .i x, .i u, .b v, .i n, .b is, .i i] => T.when (i == 0 && n == 0 && small l.length) (outAt (.exit 0) rfOut0 [.i u, .b v, .i (cntN l x), .b (is || hasN l x)])
  | _ => .fail
def rmG : List Leaf → T (CEx × NSt)
  | [.l .ints l, .i x, .i i, .l .ints []] => T.when (i == 0 && small l.length) (outAt (.exit 0) rmOut0 [.l .ints (lessN l x)])
  | _ => .fail
def rwG : List Leaf → T (CEx × NSt)
  | [.l .ints l, .i x, .b put, .i i, .l .ints []] => T.when (i == 0 && Nat.ble l.length 400000000) (outAt (.exit 0) rwOut0 [.i x, .b (withR put l x).1, .l .ints (withR put l x).2])
  | _ => .fail
def sfG : List Leaf → T (CEx × NSt)
  | [.i a, .i b, .l .ints l, .i x, .i c, .i m] => T.when (a == 0 && b == l.length && c == 0 && small l.length && riseB l) (outAt (.exit 0) sfOut0 [.l .ints l, .i x, .i (cntN l x), .i m])
  | _ => .fail
theorem rf_shape : ShapeOk Try.prog [] [] rfId ⟨5, none, rfSk, rfG⟩ := by
  refine shapeOk_mk fun ls r h => ?_
  unfold rfG at h
  split at h
  · rename_i l x u v n is i
    obtain ⟨hc, h1⟩ := ev_when h
    simp only [Bool.and_eq_true, beq_iff_eq, small_iff] at hc
    obtain ⟨⟨rfl, rfl⟩, hs⟩ := hc
    obtain ⟨k, hk⟩ := rf_rounds l hs x u v r l.length 0 0 is (by omega) (by omega) (by simpa using h1)
    exact ⟨30, k, hk⟩
  · exact (ev_fail h).elim
theorem rm_shape : ShapeOk Try.prog [] [] rmId ⟨3, none, rmSk, rmG⟩ := by
  refine shapeOk_mk fun ls r h => ?_
  unfold rmG at h
  split at h
  · rename_i l x i
    obtain ⟨hc, h1⟩ := ev_when h
    simp only [Bool.and_eq_true, beq_iff_eq, small_iff] at hc
    obtain ⟨rfl, hs⟩ := hc
    obtain ⟨k, hk⟩ := rm_rounds l hs x r l.length 0 [] (by omega) (by simp) h1
    exact ⟨30, k, hk⟩
  · exact (ev_fail h).elim
theorem rw_shape : ShapeOk Try.prog [] [] rwId ⟨4, none, rwSk, rwG⟩ := by
  refine shapeOk_mk fun ls r h => ?_
  unfold rwG at h
  split at h
  · rename_i l x put i
    obtain ⟨hc, h1⟩ := ev_when h
    simp only [Bool.and_eq_true, beq_iff_eq, Nat.ble_eq] at hc
    obtain ⟨rfl, hs⟩ := hc
    obtain ⟨k, hk⟩ := rw_rounds l hs x r l.length 0 put [] (by omega) (by simp) h1
    exact ⟨30, k, hk⟩
  · exact (ev_fail h).elim
theorem sf_shape : ShapeOk Try.prog [] [] sfId ⟨20, none, sfSk, sfG⟩ := by
  refine shapeOk_mk fun ls r h => ?_
  unfold sfG at h
  split at h
  · rename_i a b l x c m
    obtain ⟨hc, h1⟩ := ev_when h
    simp only [Bool.and_eq_true, beq_iff_eq, small_iff] at hc
    obtain ⟨⟨⟨⟨rfl, rfl⟩, rfl⟩, hs⟩, hr⟩ := hc
    obtain ⟨k, hk⟩ := sf_rounds l hs hr x m r l.length 0 l.length (by omega) (by omega) (cntN_le l x) (Nat.le_refl _) h1
    exact ⟨30, k, hk⟩
  · exact (ev_fail h).elim
def setL : List (Nat × List Nat × LoopFn) := [(17, [0, 1, 0, 1, 1], loopExt rfId [⟨5, none, rfSk, rfG⟩]), (21, [0, 1, 0, 1, 1, 1], loopExt rwId [⟨4, none, rwSk, rwG⟩]),
  (22, [0, 1, 0, 1, 1], loopExt rmId [⟨3, none, rmSk, rmG⟩]), (46, [0, 1], loopExt sfId [⟨20, none, sfSk, sfG⟩])]
theorem setL_ok (N : Nat) : LoopsOk Try.prog N setL :=
  loopsOk_cons (loopExt_ok plainN mixedN (fun _ => extsOk_nil) (fun _ => loopsOk_nil) (all1 rf_shape all0) N)
    (loopsOk_cons (loopExt_ok plainN mixedN (fun _ => extsOk_nil) (fun _ => loopsOk_nil) (all1 rw_shape all0) N)
      (loopsOk_cons (loopExt_ok plainN mixedN (fun _ => extsOk_nil) (fun _ => loopsOk_nil) (all1 rm_shape all0) N)
        (loopsOk_cons (loopExt_ok plainN mixedN (fun _ => extsOk_nil) (fun _ => loopsOk_nil) (all1 sf_shape all0) N) loopsOk_nil)))

end Go.Proofs.YtdefopkieleojaaD
