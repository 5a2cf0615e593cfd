/-
  Shared small functions: contracts
-/
import Derived.Test.YtecidokjhplbgaaGreatDoorTac
import Derived.Test.YtecidokjhplbgaaGreatDoorProg
set_option linter.unusedVariables false
set_option linter.unusedSimpArgs false
namespace Go.Proofs.YtecidokjhplbgaaGreatDoorD
open Go Go.RowKit

theorem plainN : plainNames Tryz.prog = true := by kernel_rfl
theorem mixedN : Tryz.prog.follows .mixedOrders = true := by kernel_rfl

def sameSk : NSt := ⟨[.pl .ints [], .pl .ints [], .junk, .junk, .bool false, .int .i64 (0), .junk, .junk, .junk, .junk, .junk, .junk, .junk, .junk, .junk, .junk, .junk, .junk, .junk, .junk, .junk, .junk, .junk, .junk, .junk, .junk], [], [], 7⟩
def sameOut : NSt := ⟨[.junk, .junk, .junk, .junk, .bool false, .junk, .junk, .junk, .junk, .junk, .junk, .junk, .junk, .junk, .junk, .junk, .junk, .junk, .junk, .junk, .junk, .junk, .junk, .junk, .junk, .junk], [], [], 7⟩
def sameId : LoopId := ⟨42, [0, 1, 0, 1, 1], []⟩

set_option maxRecDepth 100000 in
theorem same_round (k : Nat) (l m : List Int) (b : Bool) (i : Int) : (rounds Tryz.prog [] [] 30 sameId 7 none sameSk (k + 1) [.l .ints l, .l .ints m, .b b, .i i]).ev = T.ev (
    .ite (decide (i < ↑l.length))
     (.ite (inRange i l.length)
      (.ite (inRange i m.length)
       (.ite (l.getD i.toNat RC.ints.zero != m.getD i.toNat RC.ints.zero)
        (outAt .ret sameOut [.b false])
        (rounds Tryz.prog [] [] 30 sameId 7 none sameSk k [.l .ints (l), .l .ints (m), .b (b), .i (IntKind.i64.wrap (i + 1))]))
       (.fail))
      (.fail))
     (outAt (.exit 0) sameOut [.b b])) := by kernel_rfl

theorem same_rounds (l m : List Int) (b : Bool) (hm : l.length = m.length) (hs : l.length ≤ 1000000000) : ∀ (d i : Nat), i + d = l.length →
    ∃ k, (rounds Tryz.prog [] [] 30 sameId 7 none sameSk k [.l .ints l, .l .ints m, .b b, .i i]).ev = (if l.drop i = m.drop i then outAt (.exit 0) sameOut [.b b] else outAt .ret sameOut [.b false]).ev
  | 0, i, h => ⟨1, by
    have h1 : ¬ ((i : Int) < ↑l.length) := by omega
    rw [same_round]
    simp [T.ev_ite, h1]
    rw [List.drop_eq_nil_of_le (by omega), List.drop_eq_nil_of_le (by omega)]; simp⟩
  | d + 1, i, h => by
    obtain ⟨k, ih⟩ := same_rounds l m b hm hs d (i + 1) (by omega)
    refine ⟨k + 1, ?_⟩
    have h1 : (i : Int) < ↑l.length := by omega
    have h2 : inRange (i : Int) l.length = true := by rw [inRange_iff]; omega
    have h3 : inRange (i : Int) m.length = true := by rw [inRange_iff]; omega
    rw [same_round]
    simp only [T.ev_ite, h1, h2, h3, decide_true, if_true, Int.toNat_natCast]
    rw [wrap64 (by omega) (by omega), getD_cons (l := l) (by omega) 0, getD_cons (l := m) (by omega) 0]
    by_cases he : l.getD i 0 = m.getD i 0
    · have : (l.getD i RC.ints.zero != m.getD i RC.ints.zero) = false := by simpa [RC.zero] using he
      rw [this]
      simp only [Bool.false_eq_true, if_false]
      rw [show ((i : Int) + 1) = ((i + 1 : Nat) : Int) by omega, ih, he]
      simp
    · have : (l.getD i RC.ints.zero != m.getD i RC.ints.zero) = true := by simpa [RC.zero] using he
      rw [this]
      simp only [if_true]
      rw [if_neg (by intro hh; exact he (List.cons.inj hh).1)]

def sameG : List Leaf → T (CEx × NSt)
  | [.l .ints l, .l .ints m, .b b, .i i] => T.when (i == 0 && l.length == m.length && small l.length) (.ite (l == m) (outAt (.exit 0) sameOut [.b b]) (outAt .ret sameOut [.b false]))
  | _ => .fail

theorem same_shape : ShapeOk Tryz.prog [] [] sameId ⟨7, none, sameSk, sameG⟩ := by
  refine shapeOk_mk fun ls r h => ?_
  unfold sameG at h
  split at h
  · rename_i l m b i
    obtain ⟨hc, h1⟩ := ev_when h
    clear h
    simp only [Bool.and_eq_true, beq_iff_eq, small_iff] at hc
    obtain ⟨⟨rfl, hm⟩, hs⟩ := hc
    obtain ⟨k, hk⟩ := same_rounds l m b hm hs l.length 0 (by omega)
    refine ⟨30, k, ?_⟩
    simp only [List.drop_zero, Int.natCast_zero] at hk
    rw [hk, ← h1, T.ev_ite]
    by_cases he : l = m <;> simp [he]
  · exact (ev_fail h).elim

def risesAt (l : List Int) (st : Nat) : Nat → Nat → Bool
  | 0, _ => true
  | d + 1, i => if i < l.length then (if l.getD i 0 ≤ l.getD (i - st) 0 then false else risesAt l st d (i + st)) else true
def rises (l : List Int) (st : Nat) : Bool := risesAt l st (l.length + 1) st

def frSk : NSt := ⟨[.junk, .int .i64 (0), .pointer (some ⟨0, 0, none⟩), .junk, .bool false, .int .i64 (0), .junk, .junk, .junk, .junk, .junk, .junk, .junk, .junk, .junk, .junk, .junk, .junk, .junk, .junk, .junk, .junk, .junk, .junk, .junk, .junk, .junk, .junk], [], [(0, .cells [.int .i64 (0), .int .i64 (0), .pl .ints []] 1 0)], 4⟩
def frOut : NSt := ⟨[.junk, .junk, .junk, .junk, .bool false, .junk, .junk, .junk, .junk, .junk, .junk, .junk, .junk, .junk, .junk, .junk, .junk, .junk, .junk, .junk, .junk, .junk, .junk, .junk, .junk, .junk, .junk, .junk], [], [(0, .cells [.int .i64 (0), .int .i64 (0), .pl .ints []] 1 0)], 4⟩
def frId : LoopId := ⟨167, [0, 1, 0, 1], []⟩

set_option maxRecDepth 100000 in
theorem fr_round (k : Nat) (st : Int) (b : Bool) (i t n : Int) (l : List Int) : (rounds Tryz.prog [] [] 30 frId 4 none frSk (k + 1) [.i st, .b b, .i i, .i t, .i n, .l .ints l]).ev = T.ev (
     .ite (decide (i < ↑l.length))
      (.ite (inRange i l.length)
       (.ite (inRange (IntKind.i64.wrap (i - st)) l.length)
        (.ite (decide (l.getD i.toNat RC.ints.zero ≤ l.getD (IntKind.i64.wrap (i - st)).toNat RC.ints.zero))
         (outAt .ret frOut [.b false, .i (t), .i (n), .l .ints (l)])
         (rounds Tryz.prog [] [] 30 frId 4 none frSk k [.i (st), .b (b), .i (IntKind.i64.wrap (i + st)), .i (t), .i (n), .l .ints (l)]))
        (.fail))
       (.fail))
      (outAt (.exit 0) frOut [.b (b), .i (t), .i (n), .l .ints (l)])) := by kernel_rfl

theorem fr_rounds (t n : Int) (l : List Int) (st : Nat) (b : Bool) (h1 : 1 ≤ st) (h2 : st ≤ 1000) (hs : l.length ≤ 1000000000) : ∀ (d i : Nat), st ≤ i → l.length < i + d →
    ∃ k, (rounds Tryz.prog [] [] 30 frId 4 none frSk k [.i st, .b b, .i i, .i t, .i n, .l .ints l]).ev = (if risesAt l st d i then outAt (.exit 0) frOut [.b b, .i t, .i n, .l .ints l] else outAt .ret frOut [.b false, .i t, .i n, .l .ints l]).ev
  | 0, i, h, hd => ⟨1, by
    rw [fr_round]
    simp [T.ev_ite, show ¬ ((i : Int) < ↑l.length) by omega, risesAt]⟩
  | d + 1, i, h, hd => by
    obtain ⟨k, ih⟩ := fr_rounds t n l st b h1 h2 hs d (i + st) (by omega) (by omega)
    refine ⟨k + 1, ?_⟩
    rw [fr_round]
    by_cases hi : i < l.length
    · have q1 : (i : Int) < ↑l.length := by omega
      have q2 : inRange (i : Int) l.length = true := by rw [inRange_iff]; omega
      have q3 : IntKind.i64.wrap ((i : Int) - st) = ((i - st : Nat) : Int) := by rw [wrap64 (by omega) (by omega)]; omega
      have q4 : inRange ((i - st : Nat) : Int) l.length = true := by rw [inRange_iff]; omega
      rw [q3, wrap64 (n := (i : Int) + st) (by omega) (by omega), show ((i : Int) + st) = ((i + st : Nat) : Int) by omega]
      simp only [T.ev_ite, q1, q2, q4, decide_true, if_true, Int.toNat_natCast, ih, risesAt, hi]
      have hz : RC.ints.zero = (0 : Int) := rfl
      rw [hz]
      by_cases hle : l.getD i 0 ≤ l.getD (i - st) 0
      · simp only [hle, decide_true, if_true, Bool.false_eq_true, if_false]
      · simp only [hle, decide_false, Bool.false_eq_true, if_false]
    · have q1 : ¬ ((i : Int) < ↑l.length) := by omega
      simp [T.ev_ite, q1, risesAt, hi]

def stepOk (st i : Int) : Bool := st == i && decide (1 ≤ st) && decide (st ≤ 1000)
def frG : List Leaf → T (CEx × NSt)
  | [.i st, .b b, .i i, .i t, .i n, .l .ints l] => T.when (stepOk st i && small l.length) (.ite (rises l st.toNat) (outAt (.exit 0) frOut [.b b, .i t, .i n, .l .ints l]) (outAt .ret frOut [.b false, .i t, .i n, .l .ints l]))
  | _ => .fail

theorem stepOk_inv {st i : Int} (h : stepOk st i = true) : ∃ s : Nat, st = s ∧ i = s ∧ 1 ≤ s ∧ s ≤ 1000 := by
  simp only [stepOk, Bool.and_eq_true, beq_iff_eq, decide_eq_true_eq] at h
  exact ⟨st.toNat, by omega, by omega, by omega, by omega⟩

theorem fr_shape : ShapeOk Tryz.prog [] [] frId ⟨4, none, frSk, frG⟩ := by
  refine shapeOk_mk fun ls r h => ?_
  unfold frG at h
  split at h
  · rename_i st b i t n l
    obtain ⟨hc, h1⟩ := ev_when h
    clear h
    simp only [Bool.and_eq_true, small_iff] at hc
    obtain ⟨s, rfl, rfl, h2, h3⟩ := stepOk_inv hc.1
    obtain ⟨k, hk⟩ := fr_rounds t n l s b h2 h3 hc.2 (l.length + 1) s (Nat.le_refl _) (by omega)
    refine ⟨30, k, ?_⟩
    rw [hk, ← h1, T.ev_ite, Int.toNat_natCast]
    rw [show risesAt l s (l.length + 1) s = rises l s from rfl]
    cases rises l s <;> rfl
  · exact (ev_fail h).elim

def kitL : List (Nat × List Nat × LoopFn) :=
  [(42, [0, 1, 0, 1, 1], loopExt sameId [⟨7, none, sameSk, sameG⟩]), (167, [0, 1, 0, 1], loopExt frId [⟨4, none, frSk, frG⟩])]
theorem kitL_ok (N : Nat) : LoopsOk Tryz.prog N kitL :=
  loopsOk_cons (loopExt_ok plainN mixedN (fun _ => extsOk_nil) (fun _ => loopsOk_nil) (all1 same_shape all0) N)
    (loopsOk_cons (loopExt_ok plainN mixedN (fun _ => extsOk_nil) (fun _ => loopsOk_nil) (all1 fr_shape all0) N) loopsOk_nil)

def cap62 : Int := 4611686018427387904
def checkN (t n : Int) (l : List Int) : Int :=
  if t < 1 ∨ 5 < t then 8
  else if t = 1 then (if l = [] then 0 else 5)
  else if t = 2 then (if n = 0 ∧ rises l 1 = true then 0 else 5)
  else if t = 3 then (if n = 0 ∧ l.length % 2 = 0 ∧ rises l 2 = true then 0 else 5)
  else if t = 4 then (if n = 0 then 0 else 5)
  else (if l = [] ∧ 0 ≤ n ∧ n ≤ cap62 then 0 else 5)
def pick (x n : Int) : Int := if n ≤ 0 then 0 else x % n

def sameIntsG : List CV → T CV
  | [.pl .ints l, .pl .ints m] => T.when (small l.length) (.ret (.bool (l == m)))
  | _ => .fail
def frisesG : List CV → T CV
  | [.agg ⟨[.int .i64 t, .int .i64 n, .pl .ints l]⟩, .int .i64 st] => T.when (decide (1 ≤ st) && decide (st ≤ 1000) && small l.length) (.ret (.bool (rises l st.toNat)))
  | _ => .fail
def copyIntsG : List CV → T CV
  | [.pl .ints l] => T.when (small l.length) (.ret (.pl .ints l))
  | _ => .fail
def sameStateG : List CV → T CV
  | [.agg ⟨[.int .i64 t, .int .i64 n, .pl .ints l]⟩, .agg ⟨[.int .i64 t', .int .i64 n', .pl .ints l']⟩] => T.when (small l.length) (.ret (.bool (t == t' && n == n' && l == l')))
  | _ => .fail
def checkG : List CV → T CV
  | [.agg ⟨[.int .i64 t, .int .i64 n, .pl .ints l]⟩] => T.when (small l.length) (.ret (.int .i64 (checkN t n l)))
  | _ => .fail
def sgS : Sg := .agg [.any, .any, .l .ints]
def kitE1 : List (Nat × ExtFn) := [(42, pureExt (sigExt [.l .ints, .l .ints] sameIntsG)), (41, pureExt (sigExt [.l .ints] copyIntsG)),
  (167, pureExt (sigExt [sgS] frisesG))]
def kitE : List (Nat × ExtFn) := [(54, pureExt (sigExt [sgS, sgS] sameStateG)), (109, pureExt (sigExt [sgS] checkG))] ++ kitE1

set_option maxRecDepth 100000 in
theorem sameInts_tree (l m : List Int) : (((tden Tryz.prog [] kitL 30).call 0 42 [.pl .ints l, .pl .ints m] ⟨.nil, 0⟩).pure.cut
    (.ite (.all) (.ite (.ite (.all) (.all)) (.all)))).ev = T.ev (α := CV) (
     .ite ((↑l.length : Int) != (↑m.length : Int))
      (.ret (.bool false))
      (.ite ((0 : Int) == (0 : Int) && l.length == m.length && small l.length)
       (.ite (l == m)
        (.ret (.bool true))
        (.ret (.bool false)))
       (.fail))) := by kernel_rfl
set_option maxRecDepth 100000 in
theorem frises_tree (t n : Int) (l : List Int) (st : Int) : (((tden Tryz.prog [] kitL 30).call 0 167 [.agg #[.int .i64 t, .int .i64 n, .pl .ints l], .int .i64 st] ⟨.nil, 0⟩).pure.cut
    (.ite (.ite (.all) (.all)) (.all))).ev = T.ev (α := CV) (
     .ite (stepOk st st && small l.length)
      (.ite (rises l st.toNat)
       (.ret (.bool true))
       (.ret (.bool false)))
      (.fail)) := by kernel_rfl
set_option maxRecDepth 100000 in
theorem copyInts_tree (l : List Int) : (((tden Tryz.prog [] [] 30).call 0 41 [.pl .ints l] ⟨.nil, 0⟩).pure.cut
    (.ite (.all) (.all))).ev = T.ev (α := CV) (
     .ite (roomB l.length (8 : Nat))
      (.ret (.pl .ints (l)))
      (.fail)) := by kernel_rfl
set_option maxRecDepth 100000 in
theorem sameState_tree (t n : Int) (l : List Int) (t2 n2 : Int) (l2 : List Int) : (((tden Tryz.prog kitE1 [] 30).call 0 54 [.agg #[.int .i64 t, .int .i64 n, .pl .ints l], .agg #[.int .i64 t2, .int .i64 n2, .pl .ints l2]] ⟨.nil, 0⟩).pure.cut
    (.ite (.yes (.yes (.yes (.yes (.ite (.yes (.yes (.yes (.yes (.ite (.all) (.all)))))) (.no (.no (.no (.no (.no (.all))))))))))) (.no (.no (.no (.no (.no (.no (.no (.no (.no (.no (.no (.all)))))))))))))).ev = T.ev (α := CV) (
     .ite (t == t2)
      (.ite (n == n2)
       (.ite (small l.length)
        (.ret (.bool (l == l2)))
        (.fail))
       (.ret (.bool false)))
      (.ret (.bool false))) := by kernel_rfl
set_option maxRecDepth 100000 in
theorem check_tree (t n : Int) (l : List Int) : (((tden Tryz.prog kitE1 [] 30).call 0 109 [.agg #[.int .i64 t, .int .i64 n, .pl .ints l]] ⟨.nil, 0⟩).pure.cut
    (.ite (.yes (.yes (.yes (.ite (.all) (.yes (.ite (.yes (.yes (.yes (.ite (.yes (.yes (.ite (.yes (.yes (.ite (.all) (.all)))) (.no (.no (.no (.yes (.all)))))))) (.no (.no (.no (.no (.no (.no (.no (.yes (.all))))))))))))) (.ite (.yes (.yes (.yes (.ite (.all) (.all))))) (.ite (.yes (.yes (.yes (.ite (.yes (.yes (.yes (.yes (.yes (.ite (.yes (.ite (.ite (.all) (.all)) (.all))) (.no (.no (.yes (.all)))))))))) (.no (.no (.no (.no (.no (.no (.no (.no (.yes (.all)))))))))))))) (.ite (.yes (.yes (.yes (.ite (.yes (.ite (.ite (.all) (.all)) (.all))) (.no (.no (.yes (.all)))))))) (.ite (.yes (.yes (.yes (.ite (.all) (.all))))) (.all))))))))))) (.no (.no (.no (.no (.yes (.all)))))))).ev = T.ev (α := CV) (
     .ite (decide (t ≥ (1 : Int)))
      (.ite (!decide (t ≤ (5 : Int)))
       (.ret (.int .i64 (nat_lit 8)))
       (.ite (decide (t = t))
        (.ite (decide (IntKind.i64.wrap (t - (1 : Int)) = (↑(nat_lit 4) : Int)))
         (.ite (decide (t = t))
          (.ite (decide (n = n))
           (.ite (decide (l = l))
            (.ite ((↑l.length : Int) == (0 : Int))
             (.ite (decide (n ≥ (0 : Int)))
              (.ite (!decide (n ≤ (4611686018427387904 : Int)))
               (.ret (.int .i64 (nat_lit 5)))
               (.ret (.int .i64 (nat_lit 0))))
              (.ret (.int .i64 (nat_lit 5))))
             (.ret (.int .i64 (nat_lit 5))))
            .fail)
           .fail)
          .fail)
         (.ite (decide (IntKind.i64.wrap (t - (1 : Int)) = (↑(nat_lit 3) : Int)))
          (.ite (decide (t = t))
           (.ite (decide (n = n))
            (.ite (decide (l = l))
             (.ite (!n == (0 : Int))
              (.ret (.int .i64 (nat_lit 5)))
              (.ret (.int .i64 (nat_lit 0))))
             .fail)
            .fail)
           .fail)
          (.ite (decide (IntKind.i64.wrap (t - (1 : Int)) = (↑(nat_lit 2) : Int)))
           (.ite (decide (t = t))
            (.ite (decide (n = n))
             (.ite (decide (l = l))
              (.ite (n == (0 : Int))
               (.ite ((↑l.length : Int).tmod (2 : Int) == (0 : Int))
                (.ite (decide ((1 : Int) ≤ (2 : Int)) && decide ((2 : Int) ≤ (1000 : Int)) && small l.length)
                 (.ite (!rises l (Int.toNat (2 : Int)))
                  (.ret (.int .i64 (nat_lit 5)))
                  (.ret (.int .i64 (nat_lit 0))))
                 (.fail))
                (.ret (.int .i64 (nat_lit 5))))
               (.ret (.int .i64 (nat_lit 5))))
              .fail)
             .fail)
            .fail)
           (.ite (decide (IntKind.i64.wrap (t - (1 : Int)) = (↑(nat_lit 1) : Int)))
            (.ite (decide (t = t))
             (.ite (decide (n = n))
              (.ite (decide (l = l))
               (.ite (n == (0 : Int))
                (.ite (decide ((1 : Int) ≤ (1 : Int)) && decide ((1 : Int) ≤ (1000 : Int)) && small l.length)
                 (.ite (!rises l (Int.toNat (1 : Int)))
                  (.ret (.int .i64 (nat_lit 5)))
                  (.ret (.int .i64 (nat_lit 0))))
                 (.fail))
                (.ret (.int .i64 (nat_lit 5))))
               .fail)
              .fail)
             .fail)
            (.ite (decide (IntKind.i64.wrap (t - (1 : Int)) = (↑(nat_lit 0) : Int)))
             (.ite (decide (t = t))
              (.ite (decide (n = n))
               (.ite (decide (l = l))
                (.ite (!(↑l.length : Int) == (0 : Int))
                 (.ret (.int .i64 (nat_lit 5)))
                 (.ret (.int .i64 (nat_lit 0))))
                .fail)
               .fail)
              .fail)
             (.fail))))))
        .fail))
      (.ret (.int .i64 (nat_lit 8)))) := by kernel_rfl

theorem noE : ∀ N, ExtsOk Tryz.prog N [] := fun _ => extsOk_nil
theorem noL : ∀ N, LoopsOk Tryz.prog N [] := fun _ => loopsOk_nil

theorem sameInts_fn : PureFn Tryz.prog 42 (sigExt [.l .ints, .l .ints] sameIntsG) :=
  pureFn_mk (bodied_ex (by kernel_rfl)) fun args d h => by
    unfold sameIntsG at h
    split at h
    · rename_i l m
      obtain ⟨hc, h1⟩ := ev_when h
      cases ev_ret h1
      refine pureAt0 plainN mixedN noE kitL_ok (k := 30) ((sameInts_tree l m).trans ?_) rfl
      simp only [T.ev_ite, T.ev_ret, T.ev_fail, hc]
      by_cases e : l = m
      · subst e; simp
      · by_cases e2 : l.length = m.length
        · simp [e, e2]
        · have : ¬ ((l.length : Int) = m.length) := by omega
          simp [e, this]
    · exact (ev_fail h).elim
theorem frises_fn : PureFn Tryz.prog 167 (sigExt [sgS] frisesG) :=
  pureFn_mk (bodied_ex (by kernel_rfl)) fun args d h => by
    unfold frisesG at h
    split at h
    · rename_i t n l st
      obtain ⟨hc, h1⟩ := ev_when h
      cases ev_ret h1
      refine pureAt0 plainN mixedN noE kitL_ok (k := 30) ((frises_tree t n l st).trans ?_) rfl
      have : (stepOk st st && small l.length) = true := by simpa [stepOk] using hc
      simp only [T.ev_ite, T.ev_ret, T.ev_fail, this, if_true]
      cases rises l st.toNat <;> rfl
    · exact (ev_fail h).elim
theorem copyInts_fn : PureFn Tryz.prog 41 (sigExt [.l .ints] copyIntsG) :=
  pureFn_mk (bodied_ex (by kernel_rfl)) fun args d h => by
    unfold copyIntsG at h
    split at h
    · rename_i l
      obtain ⟨hc, h1⟩ := ev_when h
      cases ev_ret h1
      refine pureAt0 plainN mixedN noE noL (k := 30) ((copyInts_tree l).trans ?_) rfl
      simp [T.ev_ite, T.ev_ret, T.ev_fail, roomB_small hc (b := 8) (by decide)]
    · exact (ev_fail h).elim
theorem kitE1_ok (N : Nat) : ExtsOk Tryz.prog N kitE1 :=
  extsOk_cons (extOk_pure sameInts_fn) (extsOk_cons (extOk_pure copyInts_fn) (extsOk_cons (extOk_pure frises_fn) extsOk_nil))

theorem sameState_fn : PureFn Tryz.prog 54 (sigExt [sgS, sgS] sameStateG) :=
  pureFn_mk (bodied_ex (by kernel_rfl)) fun args d h => by
    unfold sameStateG at h
    split at h
    · rename_i t n l t2 n2 l2
      obtain ⟨hc, h1⟩ := ev_when h
      cases ev_ret h1
      refine pureAt0 plainN mixedN kitE1_ok noL (k := 30) ((sameState_tree t n l t2 n2 l2).trans ?_) rfl
      simp only [T.ev_ite, T.ev_ret, T.ev_fail, hc, if_true]
      by_cases e : t = t2 <;> by_cases e2 : n = n2 <;> simp [e, e2]
    · exact (ev_fail h).elim
theorem len0 {α : Type} (l : List α) : ((l.length : Int) = 0) ↔ l = [] := by cases l <;> simp; omega

theorem tmod2 (n : Nat) : ((n : Int).tmod 2 = 0) ↔ n % 2 = 0 := by rw [Int.tmod_eq_emod_of_nonneg (by omega)]; omega

theorem check_fn : PureFn Tryz.prog 109 (sigExt [sgS] checkG) :=
  pureFn_mk (bodied_ex (by kernel_rfl)) fun args d h => by
    unfold checkG at h
    split at h
    · rename_i t n l
      obtain ⟨hc, h1⟩ := ev_when h
      cases ev_ret h1
      refine pureAt0 plainN mixedN kitE1_ok noL (k := 30) ((check_tree t n l).trans ?_) rfl
      simp only [T.ev_ite, T.ev_ret, T.ev_fail, hc, Bool.and_true, checkN, cap62]
      by_cases h0 : t < 1 ∨ 5 < t
      · rcases h0 with h0 | h0
        · simp [h0, show ¬ 1 ≤ t by omega]
        · simp [h0, show 1 ≤ t by omega, show ¬ t ≤ 5 by omega]
      · rw [if_neg h0]
        have w : ∀ k : Int, k ∈ [0, 1, 2, 3, 4] → IntKind.i64.wrap k = k := by decide
        obtain rfl | rfl | rfl | rfl | rfl : t = 1 ∨ t = 2 ∨ t = 3 ∨ t = 4 ∨ t = 5 := by omega
        · by_cases e : l = [] <;> simp [len0, e, w]
        · by_cases e : n = 0 <;> by_cases e3 : rises l 1 = true <;> simp [e, e3, w]
        · by_cases e : n = 0 <;> by_cases e2 : l.length % 2 = 0 <;> by_cases e3 : rises l 2 = true <;> simp [e, tmod2, e2, e3, w]
        · by_cases e : n = 0 <;> simp [e, w]
        · by_cases e : l = [] <;> by_cases e1 : 0 ≤ n <;> by_cases e2 : n ≤ 4611686018427387904 <;> simp [len0, e, e1, e2, w]
    · exact (ev_fail h).elim

theorem kitE_ok (N : Nat) : ExtsOk Tryz.prog N kitE :=
  extsOk_cons (extOk_pure sameState_fn) (extsOk_cons (extOk_pure check_fn) (kitE1_ok N))

end Go.Proofs.YtecidokjhplbgaaGreatDoorD

