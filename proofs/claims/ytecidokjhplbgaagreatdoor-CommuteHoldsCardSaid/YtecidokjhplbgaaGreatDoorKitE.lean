/-
  slices.Equal at whole numbers: contract.
-/
import Derived.Test.YtecidokjhplbgaaGreatDoorKitQ
set_option linter.unusedVariables false
set_option linter.unusedSimpArgs false
namespace Go.Proofs.YtecidokjhplbgaaGreatDoorD.Equ
open Go Go.RowKit

def eqSk : NSt := ⟨[.pl .ints [], .pl .ints [], .junk, .junk, .bool false, .junk, .junk, .junk, .junk, .junk, .junk, .junk, .int .i64 (0), .int .i64 (0), .junk, .junk, .junk, .junk, .junk, .junk, .junk, .junk, .junk, .junk, .junk, .junk], [], [], 9⟩
def eqId : LoopId := ⟨49, [0, 1, 0, 1, 1], []⟩
def eqOut0 : NSt := ⟨[.junk, .junk, .junk, .junk, .bool false, .junk, .junk, .junk, .junk, .junk, .junk, .junk, .junk, .junk, .junk, .junk, .junk, .junk, .junk, .junk, .junk, .junk, .junk, .junk, .junk, .junk], [], [], 9⟩
set_option maxRecDepth 100000 in
theorem eq_round (k : Nat) (l m : List Int) (b : Bool) (n i : Int) : (rounds Tryz.prog [] [] 30 eqId 9 none eqSk (k + 1) [.l .ints l, .l .ints m, .b b, .i n, .i i]).ev = T.ev (
     .ite (decide (i < n))
      (.ite (inRange i l.length)
       (.ite (inRange i m.length)
        (.ite (l.getD i.toNat RC.ints.zero != m.getD i.toNat RC.ints.zero)
         (outAt .ret eqOut0 [.b false])
         (rounds Tryz.prog [] [] 30 eqId 9 none eqSk k [.l .ints (l), .l .ints (m), .b (b), .i (n), .i (IntKind.i64.wrap (i + (1 : Int)))]))
        (.fail))
       (.fail))
      (outAt (.exit 0) eqOut0 [.b (b)])) := by kernel_rfl
theorem eq_rounds (l m : List Int) (b : Bool) (hm : l.length = m.length) (hs : l.length ≤ 1000000000) (r : CEx × NSt) : ∀ (d i : Nat), i + d = l.length →
    (if l.drop i = m.drop i then outAt (.exit 0) eqOut0 [.b b] else outAt .ret eqOut0 [.b false]).ev = some r →
    ∃ k, (rounds Tryz.prog [] [] 30 eqId 9 none eqSk k [.l .ints l, .l .ints m, .b b, .i l.length, .i i]).ev = some r
  | 0, i, h, hr => ⟨1, by
    rw [eq_round, T.ev_ite, show decide ((i : Int) < ↑l.length) = false by simp; omega]
    rw [List.drop_eq_nil_of_le (by omega), List.drop_eq_nil_of_le (by omega), if_pos rfl] at hr
    exact hr⟩
  | d + 1, i, h, hr => by
    have h1 : (i : Int) < ↑l.length := by omega
    have h2 : inRange (i : Int) l.length = true := by rw [inRange_iff]; omega
    have h3 : inRange (i : Int) m.length = true := by rw [inRange_iff]; omega
    rw [getD_cons (l := l) (by omega) 0, getD_cons (l := m) (by omega) 0] at hr
    by_cases he : l.getD i 0 = m.getD i 0
    · obtain ⟨k, ih⟩ := eq_rounds l m b hm hs r d (i + 1) (by omega) (by rw [he] at hr; simpa only [List.cons.injEq, true_and] using hr)
      refine ⟨k + 1, ?_⟩
      rw [eq_round]
      have hq : (l.getD i RC.ints.zero != m.getD i RC.ints.zero) = false := by simpa [RC.zero] using he
      simp only [T.ev_ite, h1, h2, h3, hq, decide_true, if_true, Int.toNat_natCast, Bool.false_eq_true, if_false]
      rw [wrap64 (by omega) (by omega), show ((i : Int) + 1) = ((i + 1 : Nat) : Int) by omega]
      exact ih
    · refine ⟨1, ?_⟩
      rw [eq_round]
      have hq : (l.getD i RC.ints.zero != m.getD i RC.ints.zero) = true := by simpa [RC.zero] using he
      simp only [T.ev_ite, h1, h2, h3, hq, decide_true, if_true, Int.toNat_natCast]
      rw [if_neg (by intro hh; exact he (List.cons.inj hh).1)] at hr
      exact hr

def eqG : List Leaf → T (CEx × NSt)
  | [.l .ints l, .l .ints m, .b b, .i n, .i i] => T.when (i == 0 && n == l.length && l.length == m.length && small l.length) (.ite (decide (l = m)) (outAt (.exit 0) eqOut0 [.b b]) (outAt .ret eqOut0 [.b false]))
  | _ => .fail
theorem eq_shape : ShapeOk Tryz.prog [] [] eqId ⟨9, none, eqSk, eqG⟩ := by
  refine shapeOk_mk fun ls r h => ?_
  unfold eqG at h
  split at h
  · rename_i l m b n i
    obtain ⟨hc, h1⟩ := ev_when h
    simp only [Bool.and_eq_true, beq_iff_eq, small_iff] at hc
    obtain ⟨⟨⟨rfl, rfl⟩, hm⟩, hs⟩ := hc
    obtain ⟨k, hk⟩ := eq_rounds l m b hm hs r l.length 0 (by omega) (by
      rw [T.ev_ite] at h1; simp only [List.drop_zero]; by_cases e : l = m <;> simpa [e] using h1)
    exact ⟨30, k, hk⟩
  · exact (ev_fail h).elim
def equL : List (Nat × List Nat × LoopFn) := [(49, [0, 1, 0, 1, 1], loopExt eqId [⟨9, none, eqSk, eqG⟩])]
theorem equL_ok (N : Nat) : LoopsOk Tryz.prog N equL := loopsOk_cons (loopExt_ok plainN mixedN (fun _ => extsOk_nil) (fun _ => loopsOk_nil) (all1 eq_shape all0) N) loopsOk_nil
set_option maxRecDepth 100000 in
theorem equal_tree (l m : List Int) : (((tden Tryz.prog [] equL 30).call 0 49 [.pl .ints l, .pl .ints m] ⟨.nil, 0⟩).pure.cut
    (.ite (.all) (.ite (.ite (.all) (.all)) (.all)))).ev = T.ev (α := CV) (
     .ite ((↑l.length : Int) != (↑m.length : Int))
      (.ret (.bool false))
      (.ite ((0 : Int) == (0 : Int) && (↑l.length : Int) == (↑l.length : Int) && l.length == m.length && small l.length)
       (.ite (decide (l = m))
        (.ret (.bool true))
        (.ret (.bool false)))
       (.fail))) := by kernel_rfl
def equalG : List CV → T CV
  | [.pl .ints l, .pl .ints m] => T.when (small l.length) (.ret (.bool (decide (l = m))))
  | _ => .fail
theorem equal_fn : PureFn Tryz.prog 49 (sigExt [.l .ints, .l .ints] equalG) :=
  pureFn_mk (bodied_ex (by kernel_rfl)) fun args d h => by
    unfold equalG at h
    split at h
    · rename_i l m
      obtain ⟨hc, h1⟩ := ev_when h
      cases ev_ret h1
      refine pureAt0 plainN mixedN noE equL_ok (k := 30) ((equal_tree l m).trans ?_) rfl
      by_cases hl : l.length = m.length
      · by_cases e : l = m <;> simp [T.ev_ite, T.ev_ret, hc, hl, e, hl ▸ hc]
      · have e : l ≠ m := fun e => hl (by rw [e])
        simp [T.ev_ite, T.ev_ret, e, show ¬ ((l.length : Int) = m.length) by omega]
    · exact (ev_fail h).elim
def eqE : List (Nat × ExtFn) := [(49, pureExt (sigExt [.l .ints, .l .ints] equalG))]
theorem eqE_ok (N : Nat) : ExtsOk Tryz.prog N eqE := extsOk_cons (extOk_pure equal_fn) extsOk_nil

end Go.Proofs.YtecidokjhplbgaaGreatDoorD.Equ
