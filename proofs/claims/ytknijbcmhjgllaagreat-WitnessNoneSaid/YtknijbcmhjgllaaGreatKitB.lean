/-
  Shared small functions: whether numbers rise.
-/
import Derived.Test.YtknijbcmhjgllaaGreatKitA
set_option linter.unusedVariables false
set_option linter.unusedSimpArgs false
namespace Go.Proofs.YtknijbcmhjgllaaGreatD
open Go Go.RowKit

/-- Whether numbers rise, so many apart, from a place on. -/
def risesAt (l : List Int) (st : Nat) : Nat → Nat → Bool
  | 0, _ => true
  | d + 1, i => if i < l.length then (if l.getD i 0 ≤ l.getD (i - st) 0 then false else risesAt l st d (i + st)) else true
def rises (l : List Int) (st : Nat) : Bool := risesAt l st (l.length + 1) st

def rrSk : NSt := ⟨[.pl .ints [], .int .i64 (0), .junk, .junk, .bool false, .int .i64 (0), .junk, .junk, .junk, .junk, .junk, .junk, .junk, .junk, .junk, .junk, .junk, .junk, .junk, .junk, .junk, .junk, .junk, .junk, .junk], [], [], 3⟩
def rrOut : NSt := ⟨[.junk, .junk, .junk, .junk, .bool false, .junk, .junk, .junk, .junk, .junk, .junk, .junk, .junk, .junk, .junk, .junk, .junk, .junk, .junk, .junk, .junk, .junk, .junk, .junk, .junk], [], [], 3⟩
def rrId : LoopId := ⟨219, [0, 1, 0, 1], []⟩
def frSk : NSt := ⟨[.junk, .int .i64 (0), .pointer (some ⟨0, 0, none⟩), .junk, .bool false, .int .i64 (0), .junk, .junk, .junk, .junk, .junk, .junk, .junk, .junk, .junk, .junk, .junk, .junk, .junk, .junk, .junk, .junk, .junk, .junk, .junk, .junk, .junk, .junk], [], [(0, .cells [.int .i64 (0), .int .i64 (0), .pl .ints []] 1 0)], 4⟩
def frOut : NSt := ⟨[.junk, .junk, .junk, .junk, .bool false, .junk, .junk, .junk, .junk, .junk, .junk, .junk, .junk, .junk, .junk, .junk, .junk, .junk, .junk, .junk, .junk, .junk, .junk, .junk, .junk, .junk, .junk, .junk], [], [(0, .cells [.int .i64 (0), .int .i64 (0), .pl .ints []] 1 0)], 4⟩
def frId : LoopId := ⟨124, [0, 1, 0, 1], []⟩

set_option maxRecDepth 100000 in
theorem rr_round (k : Nat) (l : List Int) (st : Int) (b : Bool) (i : Int) : (rounds Tryz.prog [] [] 30 rrId 3 none rrSk (k + 1) [.l .ints l, .i st, .b b, .i i]).ev = T.ev (
     .ite (decide (i < ↑l.length))
      (.ite (inRange i l.length)
       (.ite (inRange (IntKind.i64.wrap (i - st)) l.length)
        (.ite (decide (l.getD i.toNat RC.ints.zero ≤ l.getD (IntKind.i64.wrap (i - st)).toNat RC.ints.zero))
         (outAt .ret rrOut [.b false])
         (rounds Tryz.prog [] [] 30 rrId 3 none rrSk k [.l .ints (l), .i (st), .b (b), .i (IntKind.i64.wrap (i + st))]))
        (.fail))
       (.fail))
      (outAt (.exit 0) rrOut [.b (b)])) := by kernel_rfl

set_option maxRecDepth 100000 in
theorem fr_round (k : Nat) (st : Int) (b : Bool) (i t n : Int) (l : List Int) : (rounds Tryz.prog [] [] 30 frId 4 none frSk (k + 1) [.i st, .b b, .i i, .i t, .i n, .l .ints l]).ev = T.ev (
     .ite (decide (i < ↑l.length))
      (.ite (inRange i l.length)
       (.ite (inRange (IntKind.i64.wrap (i - st)) l.length)
        (.ite (decide (l.getD i.toNat RC.ints.zero ≤ l.getD (IntKind.i64.wrap (i - st)).toNat RC.ints.zero))
         (outAt .ret frOut [.b false, .i (t), .i (n), .l .ints (l)])
         (rounds Tryz.prog [] [] 30 frId 4 none frSk k [.i (st), .b (b), .i (IntKind.i64.wrap (i + st)), .i (t), .i (n), .l .ints (l)]))
        (.fail))
       (.fail))
      (outAt (.exit 0) frOut [.b (b), .i (t), .i (n), .l .ints (l)])) := by kernel_rfl

theorem rr_rounds (l : List Int) (st : Nat) (b : Bool) (h1 : 1 ≤ st) (h2 : st ≤ 1000) (hs : l.length ≤ 1000000000) : ∀ (d i : Nat), st ≤ i → l.length < i + d →
    ∃ k, (rounds Tryz.prog [] [] 30 rrId 3 none rrSk k [.l .ints l, .i st, .b b, .i i]).ev = (if risesAt l st d i then outAt (.exit 0) rrOut [.b b] else outAt .ret rrOut [.b false]).ev
  | 0, i, h, hd => ⟨1, by
    rw [rr_round]
    simp [T.ev_ite, show ¬ ((i : Int) < ↑l.length) by omega, risesAt]⟩
  | d + 1, i, h, hd => by
    obtain ⟨k, ih⟩ := rr_rounds l st b h1 h2 hs d (i + st) (by omega) (by omega)
    refine ⟨k + 1, ?_⟩
    rw [rr_round]
    by_cases hi : i < l.length
    · have q1 : (i : Int) < ↑l.length := by omega
      have q2 : inRange (i : Int) l.length = true := by rw [inRange_iff]; omega
      have q3 : IntKind.i64.wrap ((i : Int) - st) = ((i - st : Nat) : Int) := by rw [wrap64 (by omega) (by omega)]; omega
      have q4 : inRange ((i - st : Nat) : Int) l.length = true := by rw [inRange_iff]; omega
      rw [q3, wrap64 (n := (i : Int) + st) (by omega) (by omega), show ((i : Int) + st) = ((i + st : Nat) : Int) by omega]
      simp only [T.ev_ite, q1, q2, q4, decide_true, if_true, Int.toNat_natCast, ih, risesAt, hi]
      have hz : RC.ints.zero = (0 : Int) := rfl
      rw [hz]
      by_cases hle : l.getD i 0 ≤ l.getD (i - st) 0
      · simp only [hle, decide_true, if_true, Bool.false_eq_true, if_false]
      · simp only [hle, decide_false, Bool.false_eq_true, if_false]
    · have q1 : ¬ ((i : Int) < ↑l.length) := by omega
      simp [T.ev_ite, q1, risesAt, hi]

theorem fr_rounds (t n : Int) (l : List Int) (st : Nat) (b : Bool) (h1 : 1 ≤ st) (h2 : st ≤ 1000) (hs : l.length ≤ 1000000000) : ∀ (d i : Nat), st ≤ i → l.length < i + d →
    ∃ k, (rounds Tryz.prog [] [] 30 frId 4 none frSk k [.i st, .b b, .i i, .i t, .i n, .l .ints l]).ev = (if risesAt l st d i then outAt (.exit 0) frOut [.b b, .i t, .i n, .l .ints l] else outAt .ret frOut [.b false, .i t, .i n, .l .ints l]).ev
  | 0, i, h, hd => ⟨1, by
    rw [fr_round]
    simp [T.ev_ite, show ¬ ((i : Int) < ↑l.length) by omega, risesAt]⟩
  | d + 1, i, h, hd => by
    obtain ⟨k, ih⟩ := fr_rounds t n l st b h1 h2 hs d (i + st) (by omega) (by omega)
    refine ⟨k + 1, ?_⟩
    rw [fr_round]
    by_cases hi : i < l.length
    · have q1 : (i : Int) < ↑l.length := by omega
      have q2 : inRange (i : Int) l.length = true := by rw [inRange_iff]; omega
      have q3 : IntKind.i64.wrap ((i : Int) - st) = ((i - st : Nat) : Int) := by rw [wrap64 (by omega) (by omega)]; omega
      have q4 : inRange ((i - st : Nat) : Int) l.length = true := by rw [inRange_iff]; omega
      rw [q3, wrap64 (n := (i : Int) + st) (by omega) (by omega), show ((i : Int) + st) = ((i + st : Nat) : Int) by omega]
      simp only [T.ev_ite, q1, q2, q4, decide_true, if_true, Int.toNat_natCast, ih, risesAt, hi]
      have hz : RC.ints.zero = (0 : Int) := rfl
      rw [hz]
      by_cases hle : l.getD i 0 ≤ l.getD (i - st) 0
      · simp only [hle, decide_true, if_true, Bool.false_eq_true, if_false]
      · simp only [hle, decide_false, Bool.false_eq_true, if_false]
    · have q1 : ¬ ((i : Int) < ↑l.length) := by omega
      simp [T.ev_ite, q1, risesAt, hi]

def stepOk (st i : Int) : Bool := st == i && decide (1 ≤ st) && decide (st ≤ 1000)
def rrG : List Leaf → T (CEx × NSt)
  | [.l .ints l, .i st, .b b, .i i] => T.when (stepOk st i && small l.length) (.ite (rises l st.toNat) (outAt (.exit 0) rrOut [.b b]) (outAt .ret rrOut [.b false]))
  | _ => .fail
def frG : List Leaf → T (CEx × NSt)
  | [.i st, .b b, .i i, .i t, .i n, .l .ints l] => T.when (stepOk st i && small l.length) (.ite (rises l st.toNat) (outAt (.exit 0) frOut [.b b, .i t, .i n, .l .ints l]) (outAt .ret frOut [.b false, .i t, .i n, .l .ints l]))
  | _ => .fail

theorem stepOk_inv {st i : Int} (h : stepOk st i = true) : ∃ s : Nat, st = s ∧ i = s ∧ 1 ≤ s ∧ s ≤ 1000 := by
  simp only [stepOk, Bool.and_eq_true, beq_iff_eq, decide_eq_true_eq] at h
  exact ⟨st.toNat, by omega, by omega, by omega, by omega⟩

theorem rr_shape : ShapeOk Tryz.prog [] [] rrId ⟨3, none, rrSk, rrG⟩ := by
  refine shapeOk_mk fun ls r h => ?_
  unfold rrG at h
  split at h
  · rename_i l st b i
    obtain ⟨hc, h1⟩ := ev_when h
    clear h
    simp only [Bool.and_eq_true, small_iff] at hc
    obtain ⟨s, rfl, rfl, h2, h3⟩ := stepOk_inv hc.1
    obtain ⟨k, hk⟩ := rr_rounds l s b h2 h3 hc.2 (l.length + 1) s (Nat.le_refl _) (by omega)
    refine ⟨30, k, ?_⟩
    rw [hk, ← h1, T.ev_ite, Int.toNat_natCast]
    rw [show risesAt l s (l.length + 1) s = rises l s from rfl]
    cases rises l s <;> rfl
  · exact (ev_fail h).elim
theorem fr_shape : ShapeOk Tryz.prog [] [] frId ⟨4, none, frSk, frG⟩ := by
  refine shapeOk_mk fun ls r h => ?_
  unfold frG at h
  split at h
  · rename_i st b i t n l
    obtain ⟨hc, h1⟩ := ev_when h
    clear h
    simp only [Bool.and_eq_true, small_iff] at hc
    obtain ⟨s, rfl, rfl, h2, h3⟩ := stepOk_inv hc.1
    obtain ⟨k, hk⟩ := fr_rounds t n l s b h2 h3 hc.2 (l.length + 1) s (Nat.le_refl _) (by omega)
    refine ⟨30, k, ?_⟩
    rw [hk, ← h1, T.ev_ite, Int.toNat_natCast]
    rw [show risesAt l s (l.length + 1) s = rises l s from rfl]
    cases rises l s <;> rfl
  · exact (ev_fail h).elim

def kitL : List (Nat × List Nat × LoopFn) :=
  [(39, [0, 1, 0, 1, 1], loopExt sameId [⟨7, none, sameSk, sameG⟩]), (219, [0, 1, 0, 1], loopExt rrId [⟨3, none, rrSk, rrG⟩]), (124, [0, 1, 0, 1], loopExt frId [⟨4, none, frSk, frG⟩])]
theorem kitL_ok (N : Nat) : LoopsOk Tryz.prog N kitL :=
  loopsOk_cons (loopExt_ok plainN mixedN (fun _ => extsOk_nil) (fun _ => loopsOk_nil) (all1 same_shape all0) N)
    (loopsOk_cons (loopExt_ok plainN mixedN (fun _ => extsOk_nil) (fun _ => loopsOk_nil) (all1 rr_shape all0) N)
      (loopsOk_cons (loopExt_ok plainN mixedN (fun _ => extsOk_nil) (fun _ => loopsOk_nil) (all1 fr_shape all0) N) loopsOk_nil))

end Go.Proofs.YtknijbcmhjgllaaGreatD
