/-
  Chapter 06: sums: what the law's loop comes to.
-/
import Derived.Test.YtncbiabbkgkdiaaCtrJ
set_option linter.unusedVariables false
set_option linter.unusedSimpArgs false
namespace Go.Proofs.YtncbiabbkgkdiaaD
open Go Go.RowKit

def wfB (l : List Int) : Bool := l.all inI64
theorem wfB_get {l : List Int} (h : wfB l = true) {i : Nat} (hi : i < l.length) : inI64 (l.getD i 0) = true := by
  rw [wfB, List.all_eq_true] at h
  have : l.getD i 0 = l[i] := by simp [List.getD, hi]
  rw [this]; exact h _ (List.getElem_mem hi)
theorem wfB_of {l : List Int} (h : wfInts l) : wfB l = true := by
  rw [wfB, List.all_eq_true]; exact fun x hx => inI64_iff.2 (h x hx)

theorem cs_rounds (n : Int) (l : List Int) (c : Int) (b ok : Bool) (hs : l.length ≤ 1000000000) (hw : wfB l = true) (r : CEx × NSt) : ∀ (d i : Nat) (a : Int), i + d = l.length →
    (outAt (.exit 0) csOut0 [.i n, .l .ints l, .i c, .b b, .b ok, .i (total a (l.drop i))]).ev = some r →
    ∃ k, (rounds Try.prog numE [] 30 csId 9 none csSk k [.i n, .l .ints l, .i c, .b b, .b ok, .i a, .i i]).ev = some r
  | 0, i, a, h, hr => by
    refine ⟨1, cut_ev _ _ ((cs_round 0 n l c b ok a i).trans ?_)⟩
    rw [List.drop_eq_nil_of_le (by omega)] at hr
    rw [T.ev_ite, show decide ((i : Int) < ↑l.length) = false by simp; omega]
    exact hr
  | d + 1, i, a, h, hr => by
    rw [getD_cons (l := l) (by omega) 0] at hr
    obtain ⟨k, ih⟩ := cs_rounds n l c b ok hs hw r d (i + 1) (add64 a (l.getD i 0)) (by omega) hr
    refine ⟨k + 1, cut_ev _ _ ((cs_round k n l c b ok a i).trans ?_)⟩
    have h1 : (i : Int) < ↑l.length := by omega
    have h2 : inRange (i : Int) l.length = true := by rw [inRange_iff]; omega
    have h3 : inI64 (l.getD i RC.ints.zero) = true := wfB_get hw (by omega)
    simp only [T.ev_ite, h1, h2, h3, decide_true, if_true, Int.toNat_natCast]
    rw [wrap64 (by omega) (by omega), show ((i : Int) + 1) = ((i + 1 : Nat) : Int) by omega]
    exact ih

def csG : List Leaf → T (CEx × NSt)
  | [.i n, .l .ints l, .i c, .b b, .b ok, .i a, .i i] => T.when (i == 0 && wfB l && small l.length) (outAt (.exit 0) csOut0 [.i n, .l .ints l, .i c, .b b, .b ok, .i (total a l)])
  | _ => .fail
theorem cs_shape : ShapeOk Try.prog numE [] csId ⟨9, none, csSk, csG⟩ := by
  refine shapeOk_mk fun ls r h => ?_
  unfold csG at h
  split at h
  · rename_i n l c b ok a i
    obtain ⟨hc, h1⟩ := ev_when h
    simp only [Bool.and_eq_true, beq_iff_eq, small_iff] at hc
    obtain ⟨⟨rfl, hw⟩, hs⟩ := hc
    obtain ⟨k, hk⟩ := cs_rounds n l c b ok hs hw r l.length 0 a (by omega) h1
    exact ⟨30, k, hk⟩
  · exact (ev_fail h).elim
def csL : List (Nat × List Nat × LoopFn) := [(7, [0, 1, 0, 1, 1, 1, 1], loopExt csId [⟨9, none, csSk, csG⟩])]
theorem csL_ok (N : Nat) : LoopsOk Try.prog N csL :=
  loopsOk_cons (loopExt_ok plainN mixedN numE_ok (fun _ => loopsOk_nil) (all1 cs_shape all0) N) loopsOk_nil

end Go.Proofs.YtncbiabbkgkdiaaD
