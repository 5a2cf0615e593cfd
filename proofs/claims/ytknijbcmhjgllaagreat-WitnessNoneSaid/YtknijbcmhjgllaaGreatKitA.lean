/-
  armisticekit.SameInts tells whether two lists are equal.
-/
import Derived.Test.YtknijbcmhjgllaaGreatTac
import Derived.Test.YtknijbcmhjgllaaGreatProg
set_option linter.unusedVariables false
set_option linter.unusedSimpArgs false
namespace Go.Proofs.YtknijbcmhjgllaaGreatD
open Go Go.RowKit

theorem plainN : plainNames Tryz.prog = true := by kernel_rfl
theorem mixedN : Tryz.prog.follows .mixedOrders = true := by kernel_rfl

def sameSk : NSt := ⟨[.pl .ints [], .pl .ints [], .junk, .junk, .bool false, .int .i64 (0), .junk, .junk, .junk, .junk, .junk, .junk, .junk, .junk, .junk, .junk, .junk, .junk, .junk, .junk, .junk, .junk, .junk, .junk, .junk, .junk], [], [], 7⟩
def sameOut : NSt := ⟨[.junk, .junk, .junk, .junk, .bool false, .junk, .junk, .junk, .junk, .junk, .junk, .junk, .junk, .junk, .junk, .junk, .junk, .junk, .junk, .junk, .junk, .junk, .junk, .junk, .junk, .junk], [], [], 7⟩
def sameId : LoopId := ⟨39, [0, 1, 0, 1, 1], []⟩

set_option maxRecDepth 100000 in
theorem same_round (k : Nat) (l m : List Int) (b : Bool) (i : Int) : (rounds Tryz.prog [] [] 30 sameId 7 none sameSk (k + 1) [.l .ints l, .l .ints m, .b b, .i i]).ev = T.ev (
    .ite (decide (i < ↑l.length))
     (.ite (inRange i l.length)
      (.ite (inRange i m.length)
       (.ite (l.getD i.toNat RC.ints.zero != m.getD i.toNat RC.ints.zero)
        (outAt .ret sameOut [.b false])
        (rounds Tryz.prog [] [] 30 sameId 7 none sameSk k [.l .ints (l), .l .ints (m), .b (b), .i (IntKind.i64.wrap (i + 1))]))
       (.fail))
      (.fail))
     (outAt (.exit 0) sameOut [.b b])) := by kernel_rfl

theorem same_rounds (l m : List Int) (b : Bool) (hm : l.length = m.length) (hs : l.length ≤ 1000000000) : ∀ (d i : Nat), i + d = l.length →
    ∃ k, (rounds Tryz.prog [] [] 30 sameId 7 none sameSk k [.l .ints l, .l .ints m, .b b, .i i]).ev = (if l.drop i = m.drop i then outAt (.exit 0) sameOut [.b b] else outAt .ret sameOut [.b false]).ev
  | 0, i, h => ⟨1, by
    have h1 : ¬ ((i : Int) < ↑l.length) := by omega
    rw [same_round]
    simp [T.ev_ite, h1]
    rw [List.drop_eq_nil_of_le (by omega), List.drop_eq_nil_of_le (by omega)]; simp⟩
  | d + 1, i, h => by
    obtain ⟨k, ih⟩ := same_rounds l m b hm hs d (i + 1) (by omega)
    refine ⟨k + 1, ?_⟩
    have h1 : (i : Int) < ↑l.length := by omega
    have h2 : inRange (i : Int) l.length = true := by rw [inRange_iff]; omega
    have h3 : inRange (i : Int) m.length = true := by rw [inRange_iff]; omega
    rw [same_round]
    simp only [T.ev_ite, h1, h2, h3, decide_true, if_true, Int.toNat_natCast]
    rw [wrap64 (by omega) (by omega), getD_cons (l := l) (by omega) 0, getD_cons (l := m) (by omega) 0]
    by_cases he : l.getD i 0 = m.getD i 0
    · have : (l.getD i RC.ints.zero != m.getD i RC.ints.zero) = false := by simpa [RC.zero] using he
      rw [this]
      simp only [Bool.false_eq_true, if_false]
      rw [show ((i : Int) + 1) = ((i + 1 : Nat) : Int) by omega, ih, he]
      simp
    · have : (l.getD i RC.ints.zero != m.getD i RC.ints.zero) = true := by simpa [RC.zero] using he
      rw [this]
      simp only [if_true]
      rw [if_neg (by intro hh; exact he (List.cons.inj hh).1)]

def sameG : List Leaf → T (CEx × NSt)
  | [.l .ints l, .l .ints m, .b b, .i i] => T.when (i == 0 && l.length == m.length && small l.length) (.ite (l == m) (outAt (.exit 0) sameOut [.b b]) (outAt .ret sameOut [.b false]))
  | _ => .fail

theorem same_shape : ShapeOk Tryz.prog [] [] sameId ⟨7, none, sameSk, sameG⟩ := by
  refine shapeOk_mk fun ls r h => ?_
  unfold sameG at h
  split at h
  · rename_i l m b i
    obtain ⟨hc, h1⟩ := ev_when h
    clear h
    simp only [Bool.and_eq_true, beq_iff_eq, small_iff] at hc
    obtain ⟨⟨rfl, hm⟩, hs⟩ := hc
    obtain ⟨k, hk⟩ := same_rounds l m b hm hs l.length 0 (by omega)
    refine ⟨30, k, ?_⟩
    simp only [List.drop_zero, Int.natCast_zero] at hk
    rw [hk, ← h1, T.ev_ite]
    by_cases he : l = m <;> simp [he]
  · exact (ev_fail h).elim

def sameL : List (Nat × List Nat × LoopFn) := [(39, [0, 1, 0, 1, 1], loopExt sameId [⟨7, none, sameSk, sameG⟩])]
theorem sameL_ok (N : Nat) : LoopsOk Tryz.prog N sameL :=
  loopsOk_cons (loopExt_ok plainN mixedN (fun _ => extsOk_nil) (fun _ => loopsOk_nil) (all1 same_shape all0) N) loopsOk_nil

end Go.Proofs.YtknijbcmhjgllaaGreatD
