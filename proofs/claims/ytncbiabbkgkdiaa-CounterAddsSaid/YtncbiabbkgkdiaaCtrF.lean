/-
  Chapter 06: sums: what the loops come to.
-/
import Derived.Test.YtncbiabbkgkdiaaCtrE
set_option linter.unusedVariables false
set_option linter.unusedSimpArgs false
namespace Go.Proofs.YtncbiabbkgkdiaaD
open Go Go.RowKit

theorem rt_rounds (l : List Int) (hs : l.length ≤ 1000000000) (a : Int) : ∀ (d i : Nat) (n : Int), i + d = l.length →
    ∃ k, (rounds Try.prog [] [] 30 rtId 2 none rtSk k [.i n, .l .ints l, .i a, .i i]).ev = (outAt (.exit 0) rtOut0 [.i (total n (l.drop i)), .i a]).ev
  | 0, i, n, h => ⟨1, by
    rw [rt_round, List.drop_eq_nil_of_le (by omega)]
    simp [T.ev_ite, show ¬ ((i : Int) < ↑l.length) by omega, total]⟩
  | d + 1, i, n, h => by
    obtain ⟨k, ih⟩ := rt_rounds l hs a d (i + 1) (add64 n (l.getD i 0)) (by omega)
    refine ⟨k + 1, ?_⟩
    have h1 : (i : Int) < ↑l.length := by omega
    have h2 : inRange (i : Int) l.length = true := by rw [inRange_iff]; omega
    rw [rt_round]
    simp only [T.ev_ite, h1, h2, decide_true, if_true, Int.toNat_natCast, ← add64_def]
    rw [wrap64 (by omega) (by omega), getD_cons (l := l) (by omega) 0, show ((i : Int) + 1) = ((i + 1 : Nat) : Int) by omega]
    exact ih
theorem cb_rounds (l : List Int) (hs : l.length ≤ 1000000000) (a : Int) : ∀ (d i : Nat) (n : Int), i + d = l.length →
    ∃ k, (rounds Try.prog [] [] 30 cbId 4 none cbSk k [.i n, .i a, .l .ints l, .i l.length, .i i]).ev = (outAt (.exit 0) cbOut0 [.i (backs n (l.drop i)), .i a]).ev
  | 0, i, n, h => ⟨1, by
    rw [cb_round, List.drop_eq_nil_of_le (by omega)]
    simp [T.ev_ite, show ¬ ((i : Int) < ↑l.length) by omega, backs]⟩
  | d + 1, i, n, h => by
    obtain ⟨k, ih⟩ := cb_rounds l hs a d (i + 1) (add64 n (IntKind.i64.wrap (0 - l.getD i 0))) (by omega)
    refine ⟨k + 1, ?_⟩
    have h1 : (i : Int) < ↑l.length := by omega
    have h2 : inRange (i : Int) l.length = true := by rw [inRange_iff]; omega
    rw [cb_round]
    simp only [T.ev_ite, h1, h2, decide_true, if_true, Int.toNat_natCast, ← add64_def]
    rw [wrap64 (n := (i : Int) + 1) (by omega) (by omega), getD_cons (l := l) (by omega) 0, show ((i : Int) + 1) = ((i + 1 : Nat) : Int) by omega]
    exact ih
theorem ct_rounds (l : List Int) (hs : l.length ≤ 1000000000) (l2 : List Int) (r : CEx × NSt) : ∀ (d i : Nat) (a n : Int), i + d = l.length → (i < l.length ∨ a = n) →
    (outAt (.exit 0) ctOut0 [.i (total n (l.drop i)), .i (total n (l.drop i)), .l .ints l2]).ev = some r →
    ∃ k, (rounds Try.prog [] [] 30 ctId 15 none ctSk k [.l .ints l, .i l.length, .i i, .i a, .i n, .l .ints l2]).ev = some r
  | 0, i, a, n, h, h0, hr => by
    have e : a = n := by omega
    subst e
    refine ⟨1, cut_ev _ _ ((ct_round 0 l l.length i a a l2).trans ?_)⟩
    rw [List.drop_eq_nil_of_le (by omega)] at hr
    rw [T.ev_ite, show decide ((i : Int) < ↑l.length) = false by simp; omega]
    exact hr
  | d + 1, i, a, n, h, h0, hr => by
    rw [getD_cons (l := l) (by omega) 0] at hr
    obtain ⟨k, ih⟩ := ct_rounds l hs l2 r d (i + 1) (add64 n (l.getD i 0)) (add64 n (l.getD i 0)) (by omega) (.inr rfl) hr
    refine ⟨k + 1, cut_ev _ _ ((ct_round k l l.length i a n l2).trans ?_)⟩
    have h1 : (i : Int) < ↑l.length := by omega
    have h2 : inRange (i : Int) l.length = true := by rw [inRange_iff]; omega
    simp only [T.ev_ite, h1, h2, decide_true, if_true, Int.toNat_natCast, ← add64_def]
    rw [wrap64 (by omega) (by omega), show ((i : Int) + 1) = ((i + 1 : Nat) : Int) by omega]
    exact ih

def rtG : List Leaf → T (CEx × NSt)
  | [.i n, .l .ints l, .i a, .i i] => T.when (i == 0 && small l.length) (outAt (.exit 0) rtOut0 [.i (total n l), .i a])
  | _ => .fail
def cbG : List Leaf → T (CEx × NSt)
  | [.i n, .i a, .l .ints l, .i m, .i i] => T.when (i == 0 && m == l.length && small l.length) (outAt (.exit 0) cbOut0 [.i (backs n l), .i a])
  | _ => .fail
def ctG : List Leaf → T (CEx × NSt)
  | [.l .ints l, .i m, .i i, .i a, .i n, .l .ints l2] => T.when (i == 0 && m == l.length && a == n && small l.length) (outAt (.exit 0) ctOut0 [.i (total n l), .i (total n l), .l .ints l2])
  | _ => .fail
theorem rt_shape : ShapeOk Try.prog [] [] rtId ⟨2, none, rtSk, rtG⟩ := by
  refine shapeOk_mk fun ls r h => ?_
  unfold rtG at h
  split at h
  · rename_i n l a i
    obtain ⟨hc, h1⟩ := ev_when h
    simp only [Bool.and_eq_true, beq_iff_eq, small_iff] at hc
    obtain ⟨rfl, hs⟩ := hc
    obtain ⟨k, hk⟩ := rt_rounds l hs a l.length 0 n (by omega)
    exact ⟨30, k, hk.trans h1⟩
  · exact (ev_fail h).elim
theorem cb_shape : ShapeOk Try.prog [] [] cbId ⟨4, none, cbSk, cbG⟩ := by
  refine shapeOk_mk fun ls r h => ?_
  unfold cbG at h
  split at h
  · rename_i n a l m i
    obtain ⟨hc, h1⟩ := ev_when h
    simp only [Bool.and_eq_true, beq_iff_eq, small_iff] at hc
    obtain ⟨⟨rfl, rfl⟩, hs⟩ := hc
    obtain ⟨k, hk⟩ := cb_rounds l hs a l.length 0 n (by omega)
    exact ⟨30, k, hk.trans h1⟩
  · exact (ev_fail h).elim
theorem ct_shape : ShapeOk Try.prog [] [] ctId ⟨15, none, ctSk, ctG⟩ := by
  refine shapeOk_mk fun ls r h => ?_
  unfold ctG at h
  split at h
  · rename_i l m i a n l2
    obtain ⟨hc, h1⟩ := ev_when h
    simp only [Bool.and_eq_true, beq_iff_eq, small_iff] at hc
    obtain ⟨⟨⟨rfl, rfl⟩, rfl⟩, hs⟩ := hc
    obtain ⟨k, hk⟩ := ct_rounds l hs l2 r l.length 0 a a (by omega) (.inr rfl) h1
    exact ⟨30, k, hk⟩
  · exact (ev_fail h).elim
def ctrL : List (Nat × List Nat × LoopFn) := [(15, [0, 1, 0, 1], loopExt rtId [⟨2, none, rtSk, rtG⟩]), (16, [0, 1, 0, 1], loopExt cbId [⟨4, none, cbSk, cbG⟩]), (35, [0, 1], loopExt ctId [⟨15, none, ctSk, ctG⟩])]
theorem ctrL_ok (N : Nat) : LoopsOk Try.prog N ctrL :=
  loopsOk_cons (loopExt_ok plainN mixedN (fun _ => extsOk_nil) (fun _ => loopsOk_nil) (all1 rt_shape all0) N)
    (loopsOk_cons (loopExt_ok plainN mixedN (fun _ => extsOk_nil) (fun _ => loopsOk_nil) (all1 cb_shape all0) N)
      (loopsOk_cons (loopExt_ok plainN mixedN (fun _ => extsOk_nil) (fun _ => loopsOk_nil) (all1 ct_shape all0) N) loopsOk_nil))

/-! ### Contracts -/
def totalG : List CV → T CV
  | [.int .i64 n, .pl .ints l] => T.when (small l.length) (.ret (.int .i64 (total n l)))
  | _ => .fail
def backG : List CV → T CV
  | [.int .i64 n, .pl .ints l] => T.when (small l.length) (.ret (.int .i64 (backs n l)))
  | _ => .fail
def rbackG : List CV → T CV
  | [.int .i64 n, .pl .ints l] => T.when (small l.length) (.ret (.int .i64 (rbacks n l)))
  | _ => .fail
def appliedG : List CV → T CV
  | [.int .i64 n, .int .i64 a] => T.when (inI64 a) (.ret (.tuple #[.int .i64 (add64 n a), .bool true]))
  | _ => .fail
def wrapG : List CV → T CV
  | [.int .i64 n, .int .i64 a] => .ret (.int .i64 (add64 n a))
  | _ => .fail
def doesReadG : List CV → T CV
  | [.int .i64 n, .int .i64 2, .int .i64 0, .int .i64 t, .agg ⟨[.int .i64 2, .int .i64 r]⟩] => .ret (.bool (n == t && n == r))
  | _ => .fail

end Go.Proofs.YtncbiabbkgkdiaaD
