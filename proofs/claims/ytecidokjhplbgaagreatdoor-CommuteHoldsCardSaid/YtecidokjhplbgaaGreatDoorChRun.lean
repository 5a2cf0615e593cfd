/-
  Chapter 11: how far operations are legal: Run, the document's too.
-/
import Derived.Test.YtecidokjhplbgaaGreatDoorChMch
import Derived.Test.YtecidokjhplbgaaGreatDoorKitQ
import Derived.Test.YtecidokjhplbgaaGreatDoorChSetP
import Derived.Test.YtecidokjhplbgaaGreatDoorChMapP
set_option linter.unusedVariables false
set_option linter.unusedSimpArgs false
namespace Go.Proofs.YtecidokjhplbgaaGreatDoorD
open Go Go.RowKit

theorem mach_len (t n : Int) (l : List Int) (k a b : Int) : (machA t n l k a b).s.l.length ≤ l.length + 2 := by
  unfold machA
  split
  · unfold Ctr.ctrA; repeat' split
    all_goals simp [bad]
  · split
    · unfold Set.setA
      split
      · simp [bad]
      · rename_i h
        have hc : checkN 2 n l = 0 := by
          rename_i h2; subst h2; simpa using h
        have hr := (Set.check2.1 hc).2
        have hw := Set.with_length a hr
        have hl := Set.less_length l a
        repeat' split
        all_goals first
          | (simp [bad]; done)
          | (simp only []; split at hw <;> omega)
          | (simp only []; omega)
    · split
      · unfold Map.mapA
        have l1 : (Map.setP (Map.dropP l a) a b).length ≤ l.length + 2 := by
          obtain ⟨m, hm⟩ := Map.dropP_even a l
          rw [Map.setP_same a b m _ hm]
          have h1 := Map.dropP_length l a
          have h2 := Map.rsP_le a (Map.dropP l a)
          simp only [List.length_append, List.length_take, List.length_drop, List.length_cons, List.length_nil]; omega
        have l2 := Map.dropP_length l a
        repeat' split
        all_goals first
          | (simp [bad]; done)
          | (simp only []; omega)
      · split
        · unfold Fif.fifoA
          have h1 : ∀ (c : Prop) [Decidable c] (x y : Ans), x.s.l.length ≤ l.length + 2 → y.s.l.length ≤ l.length + 2 → (if c then x else y).s.l.length ≤ l.length + 2 := fun c _ x y h1 h2 => by split <;> assumption
          refine h1 _ _ _ (by simp [bad]) (h1 _ _ _ (by simp [bad]) (h1 _ _ _ (by simp [bad]) (h1 _ _ _ (by simp) (h1 _ _ _ (by simp) ?_))))
          cases l
          · simp
          · simp; omega
        · split
          · unfold Esc.escA; repeat' split
            all_goals simp [bad]
          · simp [bad]

/- MchQ0 -/
structure Ran where
  s : DState
  n : Int
  e : Int
def stepA (s : DState) (o : DOp) : Ans := machA s.type s.n s.l o.kind o.a o.b
def runA (s : DState) : List DOp → Ran
  | [] => ⟨s, 0, 0⟩
  | o :: r => if (stepA s o).e ≠ 0 then ⟨s, 0, (stepA s o).e⟩ else if (stepA s o).r ≠ o.ret then ⟨s, 0, 9⟩ else ⟨(runA (stepA s o).s r).s, (runA (stepA s o).s r).n + 1, (runA (stepA s o).s r).e⟩
def opB (o : DOp) : Bool := Ctr.inI64 o.a && Ctr.inI64 o.b
def opsB (l : List DOp) : Bool := l.all opB
def runE : List (Nat × ExtFn) := machNE ++ [(69, stExt cloneG)]
theorem runE_ok (N : Nat) : ExtsOk Tryz.prog N runE := exts_append (machNE_ok N) (extsOk_cons (extOk_st clone_fn) extsOk_nil)

/- MchQ1 -/
/- base 26 round none: List (RC.den .ops), Int, Int, Int, Int, List (RC.den .ints), List (RC.den .ops), Int, Int, Int, Int, List (RC.den .ints), Int, Int, List (RC.den .ints), List (RC.den .ops): [.l .ops (ops), .i ((↑ops.length : Int)), .i (nat_lit 0), .i (t), .i (n), .l .ints (l), .l .ops (ops), .i (t), .i (n), .i (nat_lit 0), .i (nat_lit 0), .l .ints (l), .i (t), .i (n), .l .ints (l), .l .ops (ops)] -/
def ruSk : NSt := ⟨[.func (.yield 22) #[] #[], .junk, .pointer (some ⟨16, 0, none⟩), .junk, .junk, .junk, .junk, .junk, .junk, .pl .ops [], .int .i64 (0), .int .i64 (0), .junk, .junk, .junk, .junk, .junk, .junk, .junk, .junk, .junk, .junk, .junk, .junk, .junk, .junk, .junk, .junk, .junk, .junk, .junk, .junk, .junk, .junk, .junk, .junk, .junk, .junk, .junk, .junk, .junk, .junk], [], [(0, .cells [.int .i64 (0), .int .i64 (0), .pl .ints []] 1 0), (1, .cells [.pl .ops []] 1 0), (2, .cells [.int .i64 (0), .int .i64 (0), .row 12 1 (0)] 1 0), (3, .cells [.int .i64 (0)] 1 0), (4, .cells [.int .i64 (0)] 1 0), (12, .rows .ints []), (16, .cells [.int .i64 (0), .int .i64 (0), .pl .ints []] 1 0), (17, .cells [.pl .ops []] 1 0), (21, .defs), (22, .loop .ready none 47 [.junk, .junk, .junk, .pointer (some ⟨1, 0, none⟩), .pointer (some ⟨2, 0, none⟩), .pointer (some ⟨3, 0, none⟩), .pointer (some ⟨4, 0, none⟩), .junk, .junk, .junk, .junk, .junk, .junk, .junk, .junk, .junk, .junk, .tuple #[], .tuple #[], .junk, .junk, .junk, .junk, .junk, .junk, .junk, .junk, .junk, .junk, .junk, .junk, .junk, .junk, .junk, .junk, .junk, .junk, .junk, .junk, .junk, .junk] [0, 1, 0, 1, 1, 1, 0, 1] 21)], 26⟩

/- MchQ2 -/
def ruId : LoopId := ⟨84, [0, 1], []⟩
/- Int, Int, List (RC.den .ints), List (RC.den .ops), Int, Int, Int, Int, List (RC.den .ints), Int, Int, List (RC.den .ints), List (RC.den .ops) -/
def ruS0 : NSt := ⟨[.junk, .junk, .junk, .junk, .junk, .junk, .junk, .junk, .junk, .junk, .junk, .junk, .junk, .junk, .junk, .junk, .junk, .junk, .junk, .junk, .junk, .junk, .junk, .junk, .junk, .junk, .junk, .junk, .junk, .junk, .junk, .junk, .junk, .junk, .junk, .junk, .junk, .junk, .junk, .junk, .junk, .junk], [], [(0, .cells [.int .i64 (0), .int .i64 (0), .pl .ints []] 1 0), (1, .cells [.pl .ops []] 1 0), (2, .cells [.int .i64 (0), .int .i64 (0), .row 12 1 (0)] 1 0), (3, .cells [.int .i64 (0)] 1 0), (4, .cells [.int .i64 (0)] 1 0), (12, .rows .ints []), (16, .cells [.int .i64 (0), .int .i64 (0), .pl .ints []] 1 0), (17, .cells [.pl .ops []] 1 0), (21, .defs), (22, .loop .done (some (.exit 0)) 47 [.junk, .junk, .junk, .pointer (some ⟨1, 0, none⟩), .pointer (some ⟨2, 0, none⟩), .pointer (some ⟨3, 0, none⟩), .pointer (some ⟨4, 0, none⟩), .junk, .junk, .junk, .junk, .junk, .junk, .junk, .junk, .junk, .junk, .tuple #[], .tuple #[], .junk, .junk, .junk, .junk, .junk, .junk, .junk, .junk, .junk, .junk, .junk, .junk, .junk, .junk, .junk, .junk, .junk, .junk, .junk, .junk, .junk, .junk] [0, 1, 0, 1, 1, 1, 0, 1] 21)], 26⟩
/- List (RC.den .ops), Int, Int, Int, Int, List (RC.den .ints), List (RC.den .ops), Int, Int, Int, Int, List (RC.den .ints), Int, Int, List (RC.den .ops), List (RC.den .ints) -/
def ruS1 : NSt := ⟨[.func (.yield 22) #[] #[], .junk, .pointer (some ⟨16, 0, none⟩), .junk, .junk, .junk, .junk, .junk, .junk, .pl .ops [], .int .i64 (0), .int .i64 (0), .junk, .junk, .junk, .junk, .junk, .junk, .junk, .junk, .junk, .junk, .junk, .junk, .junk, .junk, .junk, .junk, .junk, .junk, .junk, .junk, .junk, .junk, .junk, .junk, .junk, .junk, .junk, .junk, .junk, .junk], [], [(0, .cells [.int .i64 (0), .int .i64 (0), .pl .ints []] 1 0), (1, .cells [.pl .ops []] 1 0), (2, .cells [.int .i64 (0), .int .i64 (0), .row 26 1 (0)] 1 0), (3, .cells [.int .i64 (0)] 1 0), (4, .cells [.int .i64 (0)] 1 0), (12, .rows .ints []), (16, .cells [.int .i64 (0), .int .i64 (0), .row 26 1 (0)] 1 0), (17, .cells [.pl .ops []] 1 0), (21, .defs), (22, .loop .ready none 47 [.junk, .junk, .junk, .pointer (some ⟨1, 0, none⟩), .pointer (some ⟨2, 0, none⟩), .pointer (some ⟨3, 0, none⟩), .pointer (some ⟨4, 0, none⟩), .junk, .junk, .junk, .junk, .junk, .junk, .junk, .junk, .junk, .junk, .tuple #[], .tuple #[], .junk, .junk, .junk, .junk, .junk, .junk, .junk, .junk, .junk, .junk, .junk, .junk, .junk, .junk, .junk, .junk, .junk, .junk, .junk, .junk, .junk, .junk] [0, 1, 0, 1, 1, 1, 0, 1] 21), (26, .rows .ints [])], 27⟩
/- Int, Int, List (RC.den .ints), List (RC.den .ops), Int, Int, Int, Int, List (RC.den .ints), Int, Int, List (RC.den .ints), List (RC.den .ops) -/
def ruS2 : NSt := ⟨[.junk, .junk, .junk, .junk, .junk, .junk, .junk, .junk, .junk, .junk, .junk, .junk, .junk, .junk, .junk, .junk, .junk, .junk, .junk, .junk, .junk, .junk, .junk, .junk, .junk, .junk, .junk, .junk, .junk, .junk, .junk, .junk, .junk, .junk, .junk, .junk, .junk, .junk, .junk, .junk, .junk, .junk], [], [(0, .cells [.int .i64 (0), .int .i64 (0), .pl .ints []] 1 0), (1, .cells [.pl .ops []] 1 0), (2, .cells [.int .i64 (0), .int .i64 (0), .row 12 1 (0)] 1 0), (3, .cells [.int .i64 (0)] 1 0), (4, .cells [.int .i64 (0)] 1 0), (12, .rows .ints []), (16, .cells [.int .i64 (0), .int .i64 (0), .pl .ints []] 1 0), (17, .cells [.pl .ops []] 1 0), (21, .defs), (22, .loop .ready none 47 [.junk, .junk, .junk, .pointer (some ⟨1, 0, none⟩), .pointer (some ⟨2, 0, none⟩), .pointer (some ⟨3, 0, none⟩), .pointer (some ⟨4, 0, none⟩), .junk, .junk, .junk, .junk, .junk, .junk, .junk, .junk, .junk, .junk, .tuple #[], .tuple #[], .junk, .junk, .junk, .junk, .junk, .junk, .junk, .junk, .junk, .junk, .junk, .junk, .junk, .junk, .junk, .junk, .junk, .junk, .junk, .junk, .junk, .junk] [0, 1, 0, 1, 1, 1, 0, 1] 21)], 26⟩
set_option maxRecDepth 100000 in
theorem ru_round1 (k : Nat) (t n : Int) (l : List Int) (ops : List DOp) : ((rounds Tryz.prog runE [] 30 ruId 26 none ruSk (k + 1) [.l .ops ops, .i ops.length, .i 0, .i t, .i n, .l .ints l, .l .ops ops, .i t, .i n, .i 0, .i 0, .l .ints l, .i t, .i n, .l .ints l, .l .ops ops]).cut
    (.ite (.ite (.ite (.yes (.ite (.yes (.yes (.yes (.yes (.all))))) (.yes (.ite (.yes (.yes (.yes (.yes (.all))))) (.no (.no (.no (.all)))))))) (.all)) (.all)) (.all))).ev = T.ev (
     .ite (decide ((0 : Int) < (↑ops.length : Int)))
      (.ite (inRange (0 : Int) ops.length)
       (.ite (machB l (ops.getD (Int.toNat (0 : Int)) RC.ops.zero).a (ops.getD (Int.toNat (0 : Int)) RC.ops.zero).b)
        (.ite ((machA t n l (ops.getD (Int.toNat (0 : Int)) RC.ops.zero).kind (ops.getD (Int.toNat (0 : Int)) RC.ops.zero).a (ops.getD (Int.toNat (0 : Int)) RC.ops.zero).b).e != (0 : Int))
         (outAt .ret ruS0 [.i (t), .i (n), .l .ints (l), .l .ops (ops), .i (t), .i (n), .i (0), .i ((machA t n l (ops.getD (Int.toNat (0 : Int)) RC.ops.zero).kind (ops.getD (Int.toNat (0 : Int)) RC.ops.zero).a (ops.getD (Int.toNat (0 : Int)) RC.ops.zero).b).e), .l .ints (l), .i (t), .i (n), .l .ints (l), .l .ops (ops)])
         (.ite (inRange (0 : Int) ops.length)
          (.ite (!((machA t n l (ops.getD (Int.toNat (0 : Int)) RC.ops.zero).kind (ops.getD (Int.toNat (0 : Int)) RC.ops.zero).a (ops.getD (Int.toNat (0 : Int)) RC.ops.zero).b).r.kind == (ops.getD (Int.toNat (0 : Int)) RC.ops.zero).ret.kind && ((machA t n l (ops.getD (Int.toNat (0 : Int)) RC.ops.zero).kind (ops.getD (Int.toNat (0 : Int)) RC.ops.zero).a (ops.getD (Int.toNat (0 : Int)) RC.ops.zero).b).r.n == (ops.getD (Int.toNat (0 : Int)) RC.ops.zero).ret.n && true)))
           (outAt .ret ruS0 [.i (t), .i (n), .l .ints (l), .l .ops (ops), .i (t), .i (n), .i (0), .i (9), .l .ints (l), .i (t), .i (n), .l .ints (l), .l .ops (ops)])
           (.ite ((machA t n l (ops.getD (Int.toNat (0 : Int)) RC.ops.zero).kind (ops.getD (Int.toNat (0 : Int)) RC.ops.zero).a (ops.getD (Int.toNat (0 : Int)) RC.ops.zero).b).e != (0 : Int)) .fail
            (rounds Tryz.prog runE [] 30 ruId 26 none ruS1 k [.l .ops (ops), .i ((↑ops.length : Int)), .i (1), .i (t), .i (n), .l .ints (l), .l .ops (ops), .i ((machA t n l (ops.getD (Int.toNat (0 : Int)) RC.ops.zero).kind (ops.getD (Int.toNat (0 : Int)) RC.ops.zero).a (ops.getD (Int.toNat (0 : Int)) RC.ops.zero).b).s.type), .i ((machA t n l (ops.getD (Int.toNat (0 : Int)) RC.ops.zero).kind (ops.getD (Int.toNat (0 : Int)) RC.ops.zero).a (ops.getD (Int.toNat (0 : Int)) RC.ops.zero).b).s.n), .i (1), .i (0), .l .ints (l), .i ((machA t n l (ops.getD (Int.toNat (0 : Int)) RC.ops.zero).kind (ops.getD (Int.toNat (0 : Int)) RC.ops.zero).a (ops.getD (Int.toNat (0 : Int)) RC.ops.zero).b).s.type), .i ((machA t n l (ops.getD (Int.toNat (0 : Int)) RC.ops.zero).kind (ops.getD (Int.toNat (0 : Int)) RC.ops.zero).a (ops.getD (Int.toNat (0 : Int)) RC.ops.zero).b).s.n), .l .ops (ops), .l .ints ((machA t n l (ops.getD (Int.toNat (0 : Int)) RC.ops.zero).kind (ops.getD (Int.toNat (0 : Int)) RC.ops.zero).a (ops.getD (Int.toNat (0 : Int)) RC.ops.zero).b).s.l)])))
          .fail))
        (.fail))
       (.fail))
      (outAt (.exit 0) ruS2 [.i (t), .i (n), .l .ints (l), .l .ops (ops), .i (t), .i (n), .i (0), .i (0), .l .ints (l), .i (t), .i (n), .l .ints (l), .l .ops (ops)])) := by kernel_rfl

/- MchQ3 -/
/- Int, Int, List (RC.den .ints), List (RC.den .ops), Int, Int, Int, Int, List (RC.den .ints), Int, Int, List (RC.den .ops), List (RC.den .ints) -/
def ruT0 : NSt := ⟨[.junk, .junk, .junk, .junk, .junk, .junk, .junk, .junk, .junk, .junk, .junk, .junk, .junk, .junk, .junk, .junk, .junk, .junk, .junk, .junk, .junk, .junk, .junk, .junk, .junk, .junk, .junk, .junk, .junk, .junk, .junk, .junk, .junk, .junk, .junk, .junk, .junk, .junk, .junk, .junk, .junk, .junk], [], [(0, .cells [.int .i64 (0), .int .i64 (0), .pl .ints []] 1 0), (1, .cells [.pl .ops []] 1 0), (2, .cells [.int .i64 (0), .int .i64 (0), .row 26 1 (0)] 1 0), (3, .cells [.int .i64 (0)] 1 0), (4, .cells [.int .i64 (0)] 1 0), (12, .rows .ints []), (16, .cells [.int .i64 (0), .int .i64 (0), .row 26 1 (0)] 1 0), (17, .cells [.pl .ops []] 1 0), (21, .defs), (22, .loop .done (some (.exit 0)) 47 [.junk, .junk, .junk, .pointer (some ⟨1, 0, none⟩), .pointer (some ⟨2, 0, none⟩), .pointer (some ⟨3, 0, none⟩), .pointer (some ⟨4, 0, none⟩), .junk, .junk, .junk, .junk, .junk, .junk, .junk, .junk, .junk, .junk, .tuple #[], .tuple #[], .junk, .junk, .junk, .junk, .junk, .junk, .junk, .junk, .junk, .junk, .junk, .junk, .junk, .junk, .junk, .junk, .junk, .junk, .junk, .junk, .junk, .junk] [0, 1, 0, 1, 1, 1, 0, 1] 21), (26, .rows .ints [])], 27⟩
/- Int, Int, List (RC.den .ints), List (RC.den .ops), Int, Int, Int, Int, List (RC.den .ints), Int, Int, List (RC.den .ops), List (RC.den .ints) -/
def ruT1 : NSt := ⟨[.junk, .junk, .junk, .junk, .junk, .junk, .junk, .junk, .junk, .junk, .junk, .junk, .junk, .junk, .junk, .junk, .junk, .junk, .junk, .junk, .junk, .junk, .junk, .junk, .junk, .junk, .junk, .junk, .junk, .junk, .junk, .junk, .junk, .junk, .junk, .junk, .junk, .junk, .junk, .junk, .junk, .junk], [], [(0, .cells [.int .i64 (0), .int .i64 (0), .pl .ints []] 1 0), (1, .cells [.pl .ops []] 1 0), (2, .cells [.int .i64 (0), .int .i64 (0), .row 26 1 (0)] 1 0), (3, .cells [.int .i64 (0)] 1 0), (4, .cells [.int .i64 (0)] 1 0), (12, .rows .ints []), (16, .cells [.int .i64 (0), .int .i64 (0), .row 26 1 (0)] 1 0), (17, .cells [.pl .ops []] 1 0), (21, .defs), (22, .loop .ready none 47 [.junk, .junk, .junk, .pointer (some ⟨1, 0, none⟩), .pointer (some ⟨2, 0, none⟩), .pointer (some ⟨3, 0, none⟩), .pointer (some ⟨4, 0, none⟩), .junk, .junk, .junk, .junk, .junk, .junk, .junk, .junk, .junk, .junk, .tuple #[], .tuple #[], .junk, .junk, .junk, .junk, .junk, .junk, .junk, .junk, .junk, .junk, .junk, .junk, .junk, .junk, .junk, .junk, .junk, .junk, .junk, .junk, .junk, .junk] [0, 1, 0, 1, 1, 1, 0, 1] 21), (26, .rows .ints [])], 27⟩
set_option maxRecDepth 100000 in
theorem ru_round2 (k : Nat) (i t0 n0 : Int) (l0 : List Int) (t n m : Int) (lx : List Int) (ops : List DOp) (l : List Int) : ((rounds Tryz.prog runE [] 30 ruId 26 none ruS1 (k + 1) [.l .ops ops, .i ops.length, .i i, .i t0, .i n0, .l .ints l0, .l .ops ops, .i t, .i n, .i m, .i 0, .l .ints lx, .i t, .i n, .l .ops ops, .l .ints l]).cut
    (.ite (.ite (.ite (.yes (.ite (.yes (.yes (.yes (.yes (.all))))) (.yes (.ite (.yes (.yes (.yes (.yes (.all))))) (.no (.no (.no (.all)))))))) (.all)) (.all)) (.all))).ev = T.ev (
     .ite (decide (i < (↑ops.length : Int)))
      (.ite (inRange i ops.length)
       (.ite (machB l (ops.getD i.toNat RC.ops.zero).a (ops.getD i.toNat RC.ops.zero).b)
        (.ite ((machA t n l (ops.getD i.toNat RC.ops.zero).kind (ops.getD i.toNat RC.ops.zero).a (ops.getD i.toNat RC.ops.zero).b).e != (0 : Int))
         (outAt .ret ruT0 [.i (t0), .i (n0), .l .ints (l0), .l .ops (ops), .i (t), .i (n), .i (m), .i ((machA t n l (ops.getD i.toNat RC.ops.zero).kind (ops.getD i.toNat RC.ops.zero).a (ops.getD i.toNat RC.ops.zero).b).e), .l .ints (lx), .i (t), .i (n), .l .ops (ops), .l .ints (l)])
         (.ite (inRange i ops.length)
          (.ite (!((machA t n l (ops.getD i.toNat RC.ops.zero).kind (ops.getD i.toNat RC.ops.zero).a (ops.getD i.toNat RC.ops.zero).b).r.kind == (ops.getD i.toNat RC.ops.zero).ret.kind && ((machA t n l (ops.getD i.toNat RC.ops.zero).kind (ops.getD i.toNat RC.ops.zero).a (ops.getD i.toNat RC.ops.zero).b).r.n == (ops.getD i.toNat RC.ops.zero).ret.n && true)))
           (outAt .ret ruT0 [.i (t0), .i (n0), .l .ints (l0), .l .ops (ops), .i (t), .i (n), .i (m), .i (9), .l .ints (lx), .i (t), .i (n), .l .ops (ops), .l .ints (l)])
           (.ite ((machA t n l (ops.getD i.toNat RC.ops.zero).kind (ops.getD i.toNat RC.ops.zero).a (ops.getD i.toNat RC.ops.zero).b).e != (0 : Int)) .fail
            (rounds Tryz.prog runE [] 30 ruId 26 none ruS1 k [.l .ops (ops), .i ((↑ops.length : Int)), .i (IntKind.i64.wrap (i + (1 : Int))), .i (t0), .i (n0), .l .ints (l0), .l .ops (ops), .i ((machA t n l (ops.getD i.toNat RC.ops.zero).kind (ops.getD i.toNat RC.ops.zero).a (ops.getD i.toNat RC.ops.zero).b).s.type), .i ((machA t n l (ops.getD i.toNat RC.ops.zero).kind (ops.getD i.toNat RC.ops.zero).a (ops.getD i.toNat RC.ops.zero).b).s.n), .i (IntKind.i64.wrap (m + (1 : Int))), .i (0), .l .ints (lx), .i ((machA t n l (ops.getD i.toNat RC.ops.zero).kind (ops.getD i.toNat RC.ops.zero).a (ops.getD i.toNat RC.ops.zero).b).s.type), .i ((machA t n l (ops.getD i.toNat RC.ops.zero).kind (ops.getD i.toNat RC.ops.zero).a (ops.getD i.toNat RC.ops.zero).b).s.n), .l .ops (ops), .l .ints ((machA t n l (ops.getD i.toNat RC.ops.zero).kind (ops.getD i.toNat RC.ops.zero).a (ops.getD i.toNat RC.ops.zero).b).s.l)])))
          .fail))
        (.fail))
       (.fail))
      (outAt (.exit 0) ruT1 [.i (t0), .i (n0), .l .ints (l0), .l .ops (ops), .i (t), .i (n), .i (m), .i (0), .l .ints (lx), .i (t), .i (n), .l .ops (ops), .l .ints (l)])) := by kernel_rfl

/- MchQ4 -/
theorem runA_cons (s : DState) (o : DOp) (r : List DOp) : runA s (o :: r) = if (stepA s o).e ≠ 0 then ⟨s, 0, (stepA s o).e⟩ else if (stepA s o).r ≠ o.ret then ⟨s, 0, 9⟩ else ⟨(runA (stepA s o).s r).s, (runA (stepA s o).s r).n + 1, (runA (stepA s o).s r).e⟩ := rfl
theorem opsB_get {ops : List DOp} (h : opsB ops = true) {i : Nat} (hi : i < ops.length) : opB (ops.getD i RC.ops.zero) = true := by
  rw [opsB, List.all_eq_true] at h
  refine h _ ?_
  rw [List.getD_eq_getElem?_getD, List.getElem?_eq_getElem hi]; exact List.getElem_mem _
theorem machB_of {l : List Int} {o : DOp} (h1 : l.length ≤ 1000000) (h2 : opB o = true) : machB l o.a o.b = true := by
  rw [machB, Set.midB, Bool.and_eq_true, Nat.ble_eq]; exact ⟨by omega, h2⟩
theorem ret_beq (x : DRet) (k n : Int) : (x.kind == k && (x.n == n && true)) = decide (x = ⟨k, n⟩) := by
  cases x; rw [Bool.eq_iff_iff]; simp

def ruEnd (ops : List DOp) (t0 n0 : Int) (l0 lx : List Int) (m : Int) (r : Ran) : T (CEx × NSt) :=
  .ite (r.e != 0)
    (outAt .ret ruT0 [.i t0, .i n0, .l .ints l0, .l .ops ops, .i r.s.type, .i r.s.n, .i (m + r.n), .i r.e, .l .ints lx, .i r.s.type, .i r.s.n, .l .ops ops, .l .ints r.s.l])
    (outAt (.exit 0) ruT1 [.i t0, .i n0, .l .ints l0, .l .ops ops, .i r.s.type, .i r.s.n, .i (m + r.n), .i 0, .l .ints lx, .i r.s.type, .i r.s.n, .l .ops ops, .l .ints r.s.l])

set_option maxHeartbeats 1000000 in
theorem ru_rounds (ops : List DOp) (hb : opsB ops = true) (hs : ops.length ≤ 1000000) (t0 n0 : Int) (l0 lx : List Int) (x : CEx × NSt) : ∀ (d i : Nat), i + d = ops.length → ∀ (t n : Int) (l : List Int), l.length + 2 * d ≤ 1000000 →
    (ruEnd ops t0 n0 l0 lx i (runA ⟨t, n, l⟩ (ops.drop i))).ev = some x →
    ∃ k, (rounds Tryz.prog runE [] 30 ruId 26 none ruS1 k [.l .ops ops, .i ops.length, .i i, .i t0, .i n0, .l .ints l0, .l .ops ops, .i t, .i n, .i i, .i 0, .l .ints lx, .i t, .i n, .l .ops ops, .l .ints l]).ev = some x
  | 0, i, h, t, n, l, hl, hx => by
    refine ⟨1, cut_ev _ _ ((ru_round2 0 i t0 n0 l0 t n i lx ops l).trans ?_)⟩
    rw [T.ev_ite, show decide ((i : Int) < ↑ops.length) = false by simp; omega]
    rw [List.drop_eq_nil_of_le (by omega)] at hx
    simpa [ruEnd, runA, T.ev_ite] using hx
  | d + 1, i, h, t, n, l, hl, hx => by
    have hi : decide ((i : Int) < ↑ops.length) = true := by rw [decide_eq_true_eq]; omega
    have hr1 : inRange (i : Int) ops.length = true := by rw [inRange_iff]; omega
    have wi : IntKind.i64.wrap ((i : Int) + 1) = ((i + 1 : Nat) : Int) := by rw [wrap64 (by omega) (by omega)]; omega
    have ho := opsB_get hb (i := i) (by omega)
    rw [getD_cons (l := ops) (i := i) (by omega) RC.ops.zero, runA_cons] at hx
    generalize hod : ops.getD i RC.ops.zero = o at *
    have hm := machB_of (l := l) (by omega) ho
    have hlen := mach_len t n l o.kind o.a o.b
    have hst : stepA ⟨t, n, l⟩ o = machA t n l o.kind o.a o.b := rfl
    rw [hst] at hx
    by_cases h1 : (machA t n l o.kind o.a o.b).e = 0
    · by_cases h2 : (machA t n l o.kind o.a o.b).r = o.ret
      · obtain ⟨k, ih⟩ := ru_rounds ops hb hs t0 n0 l0 lx x d (i + 1) (by omega) (machA t n l o.kind o.a o.b).s.type (machA t n l o.kind o.a o.b).s.n (machA t n l o.kind o.a o.b).s.l (by omega) (by
          simp only [h1, h2, ne_eq, not_true_eq_false, if_false, ruEnd] at hx ⊢
          rw [show ((i + 1 : Nat) : Int) + (runA (machA t n l o.kind o.a o.b).s (ops.drop (i + 1))).n = (i : Int) + ((runA (machA t n l o.kind o.a o.b).s (ops.drop (i + 1))).n + 1) by omega]
          exact hx)
        refine ⟨k + 1, cut_ev _ _ ((ru_round2 k i t0 n0 l0 t n i lx ops l).trans ?_)⟩
        simp only [Int.toNat_natCast, hod]
        simp only [T.ev_ite, hi, hr1, hm, h1, bne_self_eq_false, ret_beq, h2, decide_true, Bool.not_true, if_true, Bool.false_eq_true, if_false, wi]
        exact ih
      · refine ⟨1, cut_ev _ _ ((ru_round2 0 i t0 n0 l0 t n i lx ops l).trans ?_)⟩
        simp only [Int.toNat_natCast, hod]
        have h2' : decide ((machA t n l o.kind o.a o.b).r = ⟨o.ret.kind, o.ret.n⟩) = false := by rw [decide_eq_false_iff_not]; exact h2
        simp only [T.ev_ite, hi, hr1, hm, h1, bne_self_eq_false, ret_beq, h2', Bool.not_false, if_true, Bool.false_eq_true, if_false]
        simpa [ruEnd, h1, h2, T.ev_ite] using hx
    · refine ⟨1, cut_ev _ _ ((ru_round2 0 i t0 n0 l0 t n i lx ops l).trans ?_)⟩
      simp only [Int.toNat_natCast, hod]
      have h1' : ((machA t n l o.kind o.a o.b).e != 0) = true := by rw [bne_iff_ne]; exact h1
      simp only [T.ev_ite, hi, hr1, hm, h1', if_true]
      simpa [ruEnd, h1, T.ev_ite] using hx

/-- What the loop comes to from its start. -/
def ruG : List Leaf → T (CEx × NSt)
  | [.l .ops ops, .i nn, .i i, .i t, .i n, .l .ints l, .l .ops ops2, .i t2, .i n2, .i m, .i e, .l .ints l2, .i t3, .i n3, .l .ints l3, .l .ops ops3] =>
    T.when (nn == (ops.length : Int) && (i == 0 && (m == 0 && (e == 0 && (t == t2 && (t == t3 && (n == n2 && (n == n3 && (decide (l = l2) && (decide (l = l3) && (decide (ops = ops2) && (decide (ops = ops3) && (opsB ops && Nat.ble (l.length + 2 * ops.length) 1000000)))))))))))))
      (.ite (ops.isEmpty)
        (outAt (.exit 0) ruS2 [.i t, .i n, .l .ints l, .l .ops ops, .i t, .i n, .i 0, .i 0, .l .ints l, .i t, .i n, .l .ints l, .l .ops ops])
        (.ite ((runA ⟨t, n, l⟩ ops).e != 0 && (runA ⟨t, n, l⟩ ops).n == 0)
          (outAt .ret ruS0 [.i t, .i n, .l .ints l, .l .ops ops, .i t, .i n, .i 0, .i (runA ⟨t, n, l⟩ ops).e, .l .ints l, .i t, .i n, .l .ints l, .l .ops ops])
          (ruEnd ops t n l l 0 (runA ⟨t, n, l⟩ ops))))
  | _ => .fail

theorem runA_n (s : DState) (ops : List DOp) : 0 ≤ (runA s ops).n := by
  induction ops generalizing s with
  | nil => exact Int.le_refl _
  | cons o r ih =>
    rw [runA_cons]
    split
    · exact Int.le_refl _
    · split
      · exact Int.le_refl _
      · have := ih (stepA s o).s; show 0 ≤ _ + 1; omega

set_option maxHeartbeats 1000000 in
theorem ru_shape : ShapeOk Tryz.prog runE [] ruId ⟨26, none, ruSk, ruG⟩ := by
  refine shapeOk_mk fun ls r h => ?_
  unfold ruG at h
  split at h
  · rename_i ops nn i t n l ops2 t2 n2 m e l2 t3 n3 l3 ops3
    obtain ⟨hc, h1⟩ := ev_when h
    clear h
    simp only [Bool.and_eq_true, beq_iff_eq, decide_eq_true_eq, Nat.ble_eq] at hc
    obtain ⟨rfl, rfl, rfl, rfl, rfl, rfl, rfl, rfl, rfl, rfl, rfl, rfl, hb, hl⟩ := hc
    cases ops with
    | nil =>
      refine ⟨30, 1, cut_ev _ _ ((ru_round1 0 t n l []).trans ?_)⟩
      simpa [T.ev_ite] using h1
    | cons o rest =>
      have ho : opB o = true := by simp [opsB] at hb; exact hb.1
      have hm := machB_of (l := l) (by omega) ho
      have hlen := mach_len t n l o.kind o.a o.b
      have hr1 : inRange 0 (o :: rest).length = true := by rw [inRange_iff]; simp
      have hi : decide ((0 : Int) < ((o :: rest).length : Nat)) = true := by simp
      have hst : stepA ⟨t, n, l⟩ o = machA t n l o.kind o.a o.b := rfl
      have hg : (o :: rest).getD (Int.toNat 0) RC.ops.zero = o := rfl
      simp only [T.ev_ite, List.isEmpty_cons, Bool.false_eq_true, if_false] at h1
      have key : ∀ k, (rounds Tryz.prog runE [] 30 ruId 26 none ruSk (k + 1) [.l .ops (o :: rest), .i (o :: rest).length, .i 0, .i t, .i n, .l .ints l, .l .ops (o :: rest), .i t, .i n, .i 0, .i 0, .l .ints l, .i t, .i n, .l .ints l, .l .ops (o :: rest)]).ev = some r ↔ _ := fun k => Iff.rfl
      by_cases e1 : (machA t n l o.kind o.a o.b).e = 0
      · by_cases e2 : (machA t n l o.kind o.a o.b).r = o.ret
        · have e3 : runA ⟨t, n, l⟩ (o :: rest) = ⟨(runA (machA t n l o.kind o.a o.b).s rest).s, (runA (machA t n l o.kind o.a o.b).s rest).n + 1, (runA (machA t n l o.kind o.a o.b).s rest).e⟩ := by
            rw [runA_cons, hst, if_neg (by simpa using e1), if_neg (by simpa using e2)]
          have hn := runA_n (machA t n l o.kind o.a o.b).s rest
          rw [e3] at h1
          have e4 : ((runA (machA t n l o.kind o.a o.b).s rest).n + 1 == 0) = false := by rw [beq_eq_false_iff_ne]; omega
          simp only [e4, Bool.and_false, Bool.false_eq_true, if_false] at h1
          obtain ⟨k, hk⟩ := ru_rounds (o :: rest) hb (by simp only [List.length_cons] at *; omega) t n l l r rest.length 1 (by simp; omega) (machA t n l o.kind o.a o.b).s.type (machA t n l o.kind o.a o.b).s.n (machA t n l o.kind o.a o.b).s.l (by simp only [List.length_cons] at *; omega) (by
            rw [← h1]
            simp only [List.drop_succ_cons, List.drop_zero, ruEnd]
            rw [show ((1 : Nat) : Int) + (runA (machA t n l o.kind o.a o.b).s rest).n = 0 + ((runA (machA t n l o.kind o.a o.b).s rest).n + 1) by omega])
          refine ⟨30, k + 1, cut_ev _ _ ((ru_round1 k t n l (o :: rest)).trans ?_)⟩
          simp only [hg]
          simp only [T.ev_ite, hi, hr1, hm, e1, bne_self_eq_false, ret_beq, e2, decide_true, Bool.not_true, if_true, Bool.false_eq_true, if_false]
          exact hk
        · have e3 : runA ⟨t, n, l⟩ (o :: rest) = ⟨⟨t, n, l⟩, 0, 9⟩ := by
            rw [runA_cons, hst, if_neg (by simpa using e1), if_pos e2]
          rw [e3] at h1
          refine ⟨30, 1, cut_ev _ _ ((ru_round1 0 t n l (o :: rest)).trans ?_)⟩
          have e2' : decide ((machA t n l o.kind o.a o.b).r = ⟨o.ret.kind, o.ret.n⟩) = false := by rw [decide_eq_false_iff_not]; exact e2
          simp only [hg]
          simp only [T.ev_ite, hi, hr1, hm, e1, bne_self_eq_false, ret_beq, e2', Bool.not_false, if_true, Bool.false_eq_true, if_false]
          simpa using h1
      · have e3 : runA ⟨t, n, l⟩ (o :: rest) = ⟨⟨t, n, l⟩, 0, (machA t n l o.kind o.a o.b).e⟩ := by
          rw [runA_cons, hst, if_pos e1]
        rw [e3] at h1
        refine ⟨30, 1, cut_ev _ _ ((ru_round1 0 t n l (o :: rest)).trans ?_)⟩
        have e1' : ((machA t n l o.kind o.a o.b).e != 0) = true := by rw [bne_iff_ne]; exact e1
        simp only [hg]
        simp only [T.ev_ite, hi, hr1, hm, e1', if_true]
        simpa [e1'] using h1
  · exact (ev_fail h).elim
def ruL : List (Nat × List Nat × LoopFn) := [(84, [0, 1], loopExt ruId [⟨26, none, ruSk, ruG⟩])]
theorem ruL_ok (N : Nat) : LoopsOk Tryz.prog N ruL :=
  loopsOk_cons (loopExt_ok plainN mixedN runE_ok (fun _ => loopsOk_nil) (all1 ru_shape all0) N) loopsOk_nil

/- MchQ5 -/
set_option maxRecDepth 100000 in
theorem run_tree (t n : Int) (l : List Int) (ops : List DOp) : ((((tden Tryz.prog runE ruL 30).call 0 47 [.agg #[.int .i64 t, .int .i64 n, .pl .ints l], .pl .ops ops] ⟨.nil, 0⟩).fresh (sgA)).cut
    (.ite (.ite (.ite (.yes (.yes (.yes (.yes (.all))))) (.ite (.yes (.yes (.yes (.yes (.all))))) (.ite (.yes (.yes (.yes (.yes (.all))))) (.yes (.yes (.yes (.yes (.all)))))))) (.all)) (.all))).ev = T.ev (α := CV) (
     .ite (small l.length)
      (.ite ((↑ops.length : Int) == (↑ops.length : Int) && ((0 : Int) == (0 : Int) && ((0 : Int) == (0 : Int) && ((0 : Int) == (0 : Int) && (t == t && (t == t && (n == n && (n == n && (decide (l = l) && (decide (l = l) && (decide (ops = ops) && (decide (ops = ops) && (opsB ops && (l.length + (2 : Nat) * ops.length).ble (1000000 : Nat))))))))))))))
       (.ite (ops.isEmpty)
        (.ret (.tuple #[.agg #[.int .i64 (t), .int .i64 (n), .pl .ints (l)], .int .i64 (0), .int .i64 (0)]))
        (.ite ((runA { type := t, n := n, l := l } ops).e != (0 : Int) && (runA { type := t, n := n, l := l } ops).n == (0 : Int))
         (.ite (decide ((runA { type := t, n := n, l := l } ops).e = (runA { type := t, n := n, l := l } ops).e))
          (.ite (decide ((runA { type := t, n := n, l := l } ops).e = (runA { type := t, n := n, l := l } ops).e))
           (.ret (.tuple #[.agg #[.int .i64 (t), .int .i64 (n), .pl .ints (l)], .int .i64 (0), .int .i64 ((runA { type := t, n := n, l := l } ops).e)]))
           .fail)
          .fail)
         (.ite ((runA { type := t, n := n, l := l } ops).e != (0 : Int))
          (.ite (decide ((runA { type := t, n := n, l := l } ops).e = (runA { type := t, n := n, l := l } ops).e))
           (.ite (decide ((0 : Int) + (runA { type := t, n := n, l := l } ops).n = (0 : Int) + (runA { type := t, n := n, l := l } ops).n))
            (.ite (decide ((runA { type := t, n := n, l := l } ops).e = (runA { type := t, n := n, l := l } ops).e))
             (.ret (.tuple #[.agg #[.int .i64 ((runA { type := t, n := n, l := l } ops).s.type), .int .i64 ((runA { type := t, n := n, l := l } ops).s.n), .pl .ints ((runA { type := t, n := n, l := l } ops).s.l)], .int .i64 ((0 : Int) + (runA { type := t, n := n, l := l } ops).n), .int .i64 ((runA { type := t, n := n, l := l } ops).e)]))
             .fail)
            .fail)
           .fail)
          (.ite (decide ((0 : Int) + (runA { type := t, n := n, l := l } ops).n = (0 : Int) + (runA { type := t, n := n, l := l } ops).n))
           (.ret (.tuple #[.agg #[.int .i64 ((runA { type := t, n := n, l := l } ops).s.type), .int .i64 ((runA { type := t, n := n, l := l } ops).s.n), .pl .ints ((runA { type := t, n := n, l := l } ops).s.l)], .int .i64 ((0 : Int) + (runA { type := t, n := n, l := l } ops).n), .int .i64 (0)]))
           .fail))))
       (.fail))
      (.fail)) := by kernel_rfl
/- base 11 round none: List (RC.den .ops), Int, Int, Int, Int, Int, Int, Int, List (RC.den .ints): [.l .ops (ops), .i (nat_lit 0), .i (nat_lit 0), .i (nat_lit 0), .i (t), .i (n), .i (nat_lit 0), .i (nat_lit 0), .l .ints (l)] -/
def rruSk : NSt := ⟨[.junk, .pl .ops [], .pointer (some ⟨0, 0, none⟩), .junk, .pointer (some ⟨1, 0, none⟩), .int .i64 (0), .int .i64 (0), .int .i64 (0), .junk, .junk, .junk, .junk, .junk, .junk, .junk, .junk, .junk, .junk, .junk, .junk, .junk, .junk, .junk, .junk, .junk, .junk, .junk, .junk, .junk, .junk, .junk, .junk, .junk, .junk, .junk, .junk, .junk, .junk, .junk, .junk, .junk, .junk, .junk, .junk, .junk], [], [(0, .cells [.int .i64 (0), .int .i64 (0), .row 7 1 (0)] 1 0), (1, .cells [.int .i64 (0), .int .i64 (0), .slice none (0) (0)] 1 0), (4, .cells [] 1 0), (7, .rows .ints [])], 11⟩

/- List (RC.den .ops), Int, Int, Int, Int, Int, Int, List (RC.den .ints) -/
def rruS0 : NSt := ⟨[.junk, .pl .ops [], .pointer (some ⟨0, 0, none⟩), .junk, .pointer (some ⟨1, 0, none⟩), .int .i64 (0), .int .i64 (0), .junk, .junk, .junk, .junk, .junk, .junk, .junk, .junk, .junk, .junk, .junk, .junk, .junk, .junk, .junk, .junk, .junk, .junk, .junk, .junk, .junk, .junk, .junk, .junk, .junk, .junk, .junk, .junk, .junk, .junk, .junk, .junk, .junk, .junk, .junk, .junk, .junk, .junk], [], [(0, .cells [.int .i64 (0), .int .i64 (0), .row 7 1 (0)] 1 0), (1, .cells [.int .i64 (0), .int .i64 (0), .row 7 1 (0)] 1 0), (4, .cells [] 1 0), (7, .rows .ints [])], 11⟩
/- List (RC.den .ops), Int, Int, Int, Int, Int, Int, Int, List (RC.den .ints), List (RC.den .ints) -/
def rruS1 : NSt := ⟨[.junk, .pl .ops [], .pointer (some ⟨0, 0, none⟩), .junk, .pointer (some ⟨1, 0, none⟩), .int .i64 (0), .int .i64 (0), .int .i64 (0), .junk, .junk, .junk, .junk, .junk, .junk, .junk, .junk, .junk, .junk, .junk, .junk, .junk, .junk, .junk, .junk, .junk, .junk, .junk, .junk, .junk, .junk, .junk, .junk, .junk, .junk, .junk, .junk, .junk, .junk, .junk, .junk, .junk, .junk, .junk, .junk, .junk], [], [(0, .cells [.int .i64 (0), .int .i64 (0), .row 11 1 (0)] 1 0), (1, .cells [.int .i64 (0), .int .i64 (0), .slice none (0) (0)] 1 0), (4, .cells [] 1 0), (7, .rows .ints []), (11, .rows .ints [])], 12⟩
/- List (RC.den .ops), Int, Int, Int, Int, Int, Int, List (RC.den .ints) -/
def rruS2 : NSt := ⟨[.junk, .pl .ops [], .pointer (some ⟨0, 0, none⟩), .junk, .pointer (some ⟨1, 0, none⟩), .int .i64 (0), .int .i64 (0), .junk, .junk, .junk, .junk, .junk, .junk, .junk, .junk, .junk, .junk, .junk, .junk, .junk, .junk, .junk, .junk, .junk, .junk, .junk, .junk, .junk, .junk, .junk, .junk, .junk, .junk, .junk, .junk, .junk, .junk, .junk, .junk, .junk, .junk, .junk, .junk, .junk, .junk], [], [(0, .cells [.int .i64 (0), .int .i64 (0), .row 7 1 (0)] 1 0), (1, .cells [.int .i64 (0), .int .i64 (0), .slice none (0) (0)] 1 0), (4, .cells [] 1 0), (7, .rows .ints [])], 11⟩
/- MchQ7 -/
/- List (RC.den .ops), Int, Int, Int, Int, Int, Int, List (RC.den .ints), List (RC.den .ints) -/
def rruT0 : NSt := ⟨[.junk, .pl .ops [], .pointer (some ⟨0, 0, none⟩), .junk, .pointer (some ⟨1, 0, none⟩), .int .i64 (0), .int .i64 (0), .junk, .junk, .junk, .junk, .junk, .junk, .junk, .junk, .junk, .junk, .junk, .junk, .junk, .junk, .junk, .junk, .junk, .junk, .junk, .junk, .junk, .junk, .junk, .junk, .junk, .junk, .junk, .junk, .junk, .junk, .junk, .junk, .junk, .junk, .junk, .junk, .junk, .junk], [], [(0, .cells [.int .i64 (0), .int .i64 (0), .row 11 1 (0)] 1 0), (1, .cells [.int .i64 (0), .int .i64 (0), .row 11 1 (0)] 1 0), (4, .cells [] 1 0), (7, .rows .ints []), (11, .rows .ints [])], 12⟩
/- List (RC.den .ops), Int, Int, Int, Int, Int, Int, List (RC.den .ints), List (RC.den .ints) -/
def rruT1 : NSt := ⟨[.junk, .pl .ops [], .pointer (some ⟨0, 0, none⟩), .junk, .pointer (some ⟨1, 0, none⟩), .int .i64 (0), .int .i64 (0), .junk, .junk, .junk, .junk, .junk, .junk, .junk, .junk, .junk, .junk, .junk, .junk, .junk, .junk, .junk, .junk, .junk, .junk, .junk, .junk, .junk, .junk, .junk, .junk, .junk, .junk, .junk, .junk, .junk, .junk, .junk, .junk, .junk, .junk, .junk, .junk, .junk, .junk], [], [(0, .cells [.int .i64 (0), .int .i64 (0), .row 11 1 (0)] 1 0), (1, .cells [.int .i64 (0), .int .i64 (0), .slice none (0) (0)] 1 0), (4, .cells [] 1 0), (7, .rows .ints []), (11, .rows .ints [])], 12⟩
/- MchQ8 -/
theorem legB_dec (x : Ans) (o : DRet) (h : x.e = 0) : legB x o.kind o.n = decide (x.r = o) := by
  have := ret_beq x.r o.kind o.n
  simp only [Bool.and_true] at this
  rw [legB, h, this]; rfl

def rruEnd (ops : List DOp) (l0 : List Int) (m : Int) (r : Ran) : T (CEx × NSt) :=
  .ite (r.e != 0)
    (outAt .ret rruT0 [.l .ops ops, .i (m + r.n), .i r.e, .i r.s.type, .i r.s.n, .i r.s.type, .i r.s.n, .l .ints l0, .l .ints r.s.l])
    (outAt (.exit 0) rruT1 [.l .ops ops, .i 0, .i 0, .i r.s.type, .i r.s.n, .i 0, .i 0, .l .ints l0, .l .ints r.s.l])

def rruG : List Leaf → T (CEx × NSt)
  | [.l .ops ops, .i a, .i b, .i i, .i t, .i n, .i c, .i d, .l .ints l] =>
    T.when (a == 0 && (b == 0 && (i == 0 && (c == 0 && (d == 0 && (opsB ops && Nat.ble (l.length + 2 * ops.length) 1000000))))))
      (.ite (ops.isEmpty)
        (outAt (.exit 0) rruS2 [.l .ops ops, .i 0, .i 0, .i t, .i n, .i 0, .i 0, .l .ints l])
        (.ite ((runA ⟨t, n, l⟩ ops).e != 0 && (runA ⟨t, n, l⟩ ops).n == 0)
          (outAt .ret rruS0 [.l .ops ops, .i 0, .i (runA ⟨t, n, l⟩ ops).e, .i t, .i n, .i t, .i n, .l .ints l])
          (rruEnd ops l 0 (runA ⟨t, n, l⟩ ops))))
  | _ => .fail
theorem room16 {n : Nat} (h : n ≤ 10000000) : roomB n 16 = true := by rw [roomB_iff]; omega
def rruL : List (Nat × List Nat × LoopFn) := []
theorem rruL_ok (N : Nat) : LoopsOk Tryz.prog N rruL :=
  loopsOk_nil

/- MchR0 -/
def Ran.cv (r : Ran) : CV := .tuple #[.agg #[.int .i64 r.s.type, .int .i64 r.s.n, .pl .ints r.s.l], .int .i64 r.n, .int .i64 r.e]
def runB (l : List Int) (ops : List DOp) : Bool := opsB ops && Nat.ble (l.length + 2 * ops.length) 1000000
def runG : List CV → T CV
  | [.agg ⟨[.int .i64 t, .int .i64 n, .pl .ints l]⟩, .pl .ops ops] => T.when (runB l ops) (.ret (runA ⟨t, n, l⟩ ops).cv)
  | _ => .fail
theorem runA_all {s : DState} {ops : List DOp} (h : (runA s ops).e = 0) : (runA s ops).n = ops.length := by
  induction ops generalizing s with
  | nil => rfl
  | cons o r ih =>
    rw [runA_cons] at h ⊢
    split at h
    · rename_i h1; exact absurd h h1
    · rename_i h1
      rw [if_neg h1]
      split at h
      · cases h
      · rename_i h2
        rw [if_neg h2]
        have := ih h
        show _ + 1 = _
        rw [this]; simp
theorem runB_inv {l : List Int} {ops : List DOp} (h : runB l ops = true) : small l.length = true ∧ roomB l.length 8 = true ∧ opsB ops = true ∧ (l.length + 2 * ops.length).ble 1000000 = true := by
  simp only [runB, Bool.and_eq_true] at h
  have h2 := h.2
  rw [Nat.ble_eq] at h2
  have h3 : small l.length = true := by rw [small_iff]; omega
  exact ⟨h3, roomB_small h3 (by decide), h.1, h.2⟩
theorem run_fn : FreshFn Tryz.prog 47 (sigExt [sgS, .l .ops] runG) :=
  freshFn_mk (bodied_ex (by kernel_rfl)) fun args d h => by
    unfold runG at h
    split at h
    · rename_i t n l ops
      obtain ⟨hc, h1⟩ := ev_when h
      cases ev_ret h1
      refine freshAt0 plainN mixedN runE_ok ruL_ok (k := 30) ((run_tree t n l ops).trans ?_)
      obtain ⟨h2, _, h3, h4⟩ := runB_inv hc
      simp only [T.ev_ite, T.ev_ret, h2, h3, h4, beq_self_eq_true, decide_true, Bool.and_self, if_true]
      cases ops with
      | nil => rfl
      | cons o r =>
        simp only [List.isEmpty_cons, Bool.false_eq_true, if_false, Ran.cv]
        by_cases e : (runA ⟨t, n, l⟩ (o :: r)).e = 0
        · simp [e]
        · by_cases e2 : (runA ⟨t, n, l⟩ (o :: r)).n = 0
          · have e3 : (runA ⟨t, n, l⟩ (o :: r)).s = ⟨t, n, l⟩ := by
              have hn := runA_n (stepA ⟨t, n, l⟩ o).s r
              rw [runA_cons] at e2 ⊢
              split
              · rfl
              · rename_i q1
                rw [if_neg q1] at e2
                split
                · rfl
                · rename_i q2
                  rw [if_neg q2] at e2
                  have e2' : (runA (stepA ⟨t, n, l⟩ o).s r).n + 1 = 0 := e2
                  omega
            simp [e, e2, e3]
          · simp [e, e2]
    · exact (ev_fail h).elim
def runNE : List (Nat × ExtFn) := [(47, freshExt (sigExt [sgS, .l .ops] runG))]
theorem runNE_ok (N : Nat) : ExtsOk Tryz.prog N runNE := extsOk_cons (extOk_fresh run_fn) (extsOk_nil)

end Go.Proofs.YtecidokjhplbgaaGreatDoorD

