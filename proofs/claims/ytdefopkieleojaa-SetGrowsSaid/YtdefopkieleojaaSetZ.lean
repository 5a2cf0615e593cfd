/-
  Chapter 07: SetGrows' second loop.
-/
import Derived.Test.YtdefopkieleojaaSetX
set_option linter.unusedVariables false
set_option linter.unusedSimpArgs false
namespace Go.Proofs.YtdefopkieleojaaD
open Go Go.RowKit

theorem gb_rounds (l : List Int) (hl : l.length ≤ 1000000) (s : List Int) (hs : s.length ≤ 1000000) (h1 : riseB s = true) (hin : ∀ y ∈ l, hasN s y = true) (b ok : Bool) (f t n t2 n2 : Int) (s2 : List Int) (t3 n3 t4 n4 : Int) (r : CEx × NSt) : ∀ (d i : Nat), i + d = l.length →
    (outAt (.exit 2) gbOut0 [.l .ints l, .b b, .b ok, .i f, .i t, .i n, .l .ints s, .i t2, .i n2, .l .ints s2, .i t3, .i n3, .i t4, .i n4]).ev = some r →
    ∃ k, (rounds Try.prog lawE [] 30 gbId 23 none gbSk k [.l .ints l, .b b, .b ok, .i f, .i i, .i t, .i n, .l .ints s, .i t2, .i n2, .l .ints s2, .i t3, .i n3, .i t4, .i n4]).ev = some r
  | 0, i, h, hr => by
    refine ⟨1, cut_ev _ _ ((gb_round 0 l b ok f i t n s t2 n2 s2 t3 n3 t4 n4).trans ?_)⟩
    rw [T.ev_ite, show decide ((i : Int) < ↑l.length) = false by simp; omega]
    exact hr
  | d + 1, i, h, hr => by
    have hi : decide ((i : Int) < ↑l.length) = true := by rw [decide_eq_true_eq]; omega
    have hr1 : inRange (i : Int) l.length = true := by rw [inRange_iff]; omega
    have wi : IntKind.i64.wrap ((i : Int) + 1) = ((i + 1 : Nat) : Int) := by rw [wrap64 (by omega) (by omega)]; omega
    have hm1 : midB s = true := by rw [midB, Nat.ble_eq]; omega
    have hh : hasN s (l.getD i RC.ints.zero) = true := hin _ (by rw [List.getD_eq_getElem?_getD, List.getElem?_eq_getElem (by omega)]; exact List.getElem_mem _)
    have hlt := has_lt h1 hh
    have hg := has_get (x := l.getD i RC.ints.zero) h1
    rw [hh, if_pos hlt] at hg
    have hg2 : s.getD (cntN s (l.getD i RC.ints.zero)) RC.ints.zero = l.getD i RC.ints.zero := by
      have := hg.symm; rw [beq_iff_eq] at this; exact this
    have hr2 : inRange (cntN s (l.getD i RC.ints.zero) : Int) s.length = true := by rw [inRange_iff]; omega
    have hd : decide ((cntN s (l.getD i RC.ints.zero) : Int) ≥ (s.length : Int)) = false := by rw [decide_eq_false_iff_not]; omega
    obtain ⟨k, ih⟩ := gb_rounds l hl s hs h1 hin b ok f t n t2 n2 s2 t3 n3 t4 n4 r d (i + 1) (by omega) hr
    refine ⟨k + 1, cut_ev _ _ ((gb_round k l b ok f i t n s t2 n2 s2 t3 n3 t4 n4).trans ?_)⟩
    simp only [T.ev_ite, hi, hr1, hr2, hm1, h1, hh, hg2, hd, Int.toNat_natCast, bne_self_eq_false, Bool.and_self, Bool.not_true, if_true, Bool.false_eq_true, if_false, wi]
    exact ih
def allHas (s l : List Int) : Bool := l.all fun y => hasN s y
def gbG : List Leaf → T (CEx × NSt)
  | [.l .ints l, .b b, .b ok, .i f, .i i, .i t, .i n, .l .ints s, .i t2, .i n2, .l .ints s2, .i t3, .i n3, .i t4, .i n4] =>
    T.when (i == 0 && riseB s && allHas s l && Nat.ble l.length 1000000 && Nat.ble s.length 1000000)
      (outAt (.exit 2) gbOut0 [.l .ints l, .b b, .b ok, .i f, .i t, .i n, .l .ints s, .i t2, .i n2, .l .ints s2, .i t3, .i n3, .i t4, .i n4])
  | _ => .fail
theorem gb_shape : ShapeOk Try.prog lawE [] gbId ⟨23, none, gbSk, gbG⟩ := by
  refine shapeOk_mk fun ls r h => ?_
  unfold gbG at h
  split at h
  · rename_i l b ok f i t n s t2 n2 s2 t3 n3 t4 n4
    obtain ⟨hc, h1⟩ := ev_when h
    simp only [Bool.and_eq_true, beq_iff_eq, Nat.ble_eq, allHas, List.all_eq_true] at hc
    obtain ⟨⟨⟨⟨rfl, h2⟩, h3⟩, h4⟩, h5⟩ := hc
    obtain ⟨k, hk⟩ := gb_rounds l h4 s h5 h2 h3 b ok f t n t2 n2 s2 t3 n3 t4 n4 r l.length 0 (by omega) h1
    exact ⟨30, k, hk⟩
  · exact (ev_fail h).elim
def gbL : List (Nat × List Nat × LoopFn) := (7, [0, 1, 0, 1, 1, 1, 1, 1], loopExt gbId [⟨23, none, gbSk, gbG⟩]) :: gaL
theorem gbL_ok (N : Nat) : LoopsOk Try.prog N gbL :=
  loopsOk_cons (loopExt_ok plainN mixedN lawE_ok (fun _ => loopsOk_nil) (all1 gb_shape all0) N) (gaL_ok N)

end Go.Proofs.YtdefopkieleojaaD
