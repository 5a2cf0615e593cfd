/-
  Shared small functions: contracts
-/
import Derived.Test.YtecidokjhplbgaaDoorTac
import Derived.Test.YtecidokjhplbgaaDoorProg
set_option linter.unusedVariables false
set_option linter.unusedSimpArgs false
namespace Go.Proofs.YtecidokjhplbgaaDoorD
open Go Go.RowKit

/- KitA -/
theorem plainN : plainNames Tryd.prog = true := by kernel_rfl
theorem mixedN : Tryd.prog.follows .mixedOrders = true := by kernel_rfl

def sameSk : NSt := ⟨[.pl .ints [], .pl .ints [], .junk, .junk, .bool false, .int .i64 (0), .junk, .junk, .junk, .junk, .junk, .junk, .junk, .junk, .junk, .junk, .junk, .junk, .junk, .junk, .junk, .junk, .junk, .junk, .junk, .junk], [], [], 7⟩
def sameOut : NSt := ⟨[.junk, .junk, .junk, .junk, .bool false, .junk, .junk, .junk, .junk, .junk, .junk, .junk, .junk, .junk, .junk, .junk, .junk, .junk, .junk, .junk, .junk, .junk, .junk, .junk, .junk, .junk], [], [], 7⟩
def sameG : List Leaf → T (CEx × NSt)
  | [.l .ints l, .l .ints m, .b b, .i i] => T.when (i == 0 && l.length == m.length && small l.length) (.ite (l == m) (outAt (.exit 0) sameOut [.b b]) (outAt .ret sameOut [.b false]))
  | _ => .fail

def sameL : List (Nat × List Nat × LoopFn) := []
theorem sameL_ok (N : Nat) : LoopsOk Tryd.prog N sameL :=
  loopsOk_nil

/- KitB -/
/-- Whether numbers rise, so many apart, from a place on. -/
def risesAt (l : List Int) (st : Nat) : Nat → Nat → Bool
  | 0, _ => true
  | d + 1, i => if i < l.length then (if l.getD i 0 ≤ l.getD (i - st) 0 then false else risesAt l st d (i + st)) else true
def rises (l : List Int) (st : Nat) : Bool := risesAt l st (l.length + 1) st

def rrSk : NSt := ⟨[.pl .ints [], .int .i64 (0), .junk, .junk, .bool false, .int .i64 (0), .junk, .junk, .junk, .junk, .junk, .junk, .junk, .junk, .junk, .junk, .junk, .junk, .junk, .junk, .junk, .junk, .junk, .junk, .junk], [], [], 3⟩
def rrOut : NSt := ⟨[.junk, .junk, .junk, .junk, .bool false, .junk, .junk, .junk, .junk, .junk, .junk, .junk, .junk, .junk, .junk, .junk, .junk, .junk, .junk, .junk, .junk, .junk, .junk, .junk, .junk], [], [], 3⟩
def frSk : NSt := ⟨[.junk, .int .i64 (0), .pointer (some ⟨0, 0, none⟩), .junk, .bool false, .int .i64 (0), .junk, .junk, .junk, .junk, .junk, .junk, .junk, .junk, .junk, .junk, .junk, .junk, .junk, .junk, .junk, .junk, .junk, .junk, .junk, .junk, .junk, .junk], [], [(0, .cells [.int .i64 (0), .int .i64 (0), .pl .ints []] 1 0)], 4⟩
def frOut : NSt := ⟨[.junk, .junk, .junk, .junk, .bool false, .junk, .junk, .junk, .junk, .junk, .junk, .junk, .junk, .junk, .junk, .junk, .junk, .junk, .junk, .junk, .junk, .junk, .junk, .junk, .junk, .junk, .junk, .junk], [], [(0, .cells [.int .i64 (0), .int .i64 (0), .pl .ints []] 1 0)], 4⟩
def stepOk (st i : Int) : Bool := st == i && decide (1 ≤ st) && decide (st ≤ 1000)
def rrG : List Leaf → T (CEx × NSt)
  | [.l .ints l, .i st, .b b, .i i] => T.when (stepOk st i && small l.length) (.ite (rises l st.toNat) (outAt (.exit 0) rrOut [.b b]) (outAt .ret rrOut [.b false]))
  | _ => .fail
def frG : List Leaf → T (CEx × NSt)
  | [.i st, .b b, .i i, .i t, .i n, .l .ints l] => T.when (stepOk st i && small l.length) (.ite (rises l st.toNat) (outAt (.exit 0) frOut [.b b, .i t, .i n, .l .ints l]) (outAt .ret frOut [.b false, .i t, .i n, .l .ints l]))
  | _ => .fail

theorem stepOk_inv {st i : Int} (h : stepOk st i = true) : ∃ s : Nat, st = s ∧ i = s ∧ 1 ≤ s ∧ s ≤ 1000 := by
  simp only [stepOk, Bool.and_eq_true, beq_iff_eq, decide_eq_true_eq] at h
  exact ⟨st.toNat, by omega, by omega, by omega, by omega⟩

def kitL : List (Nat × List Nat × LoopFn) :=
  []
/- KitC0 -/
def cap62 : Int := 4611686018427387904
def cvState (s : DState) : CV := .agg #[.int .i64 s.type, .int .i64 s.n, .pl .ints s.l]
/-- Whether a state is in its form: 0, or why not. -/
def checkN (t n : Int) (l : List Int) : Int :=
  if t < 1 ∨ 5 < t then 8
  else if t = 1 then (if l = [] then 0 else 5)
  else if t = 2 then (if n = 0 ∧ rises l 1 = true then 0 else 5)
  else if t = 3 then (if n = 0 ∧ l.length % 2 = 0 ∧ rises l 2 = true then 0 else 5)
  else if t = 4 then (if n = 0 then 0 else 5)
  else (if l = [] ∧ 0 ≤ n ∧ n ≤ cap62 then 0 else 5)
def pick (x n : Int) : Int := if n ≤ 0 then 0 else x % n

def sameIntsG : List CV → T CV
  | [.pl .ints l, .pl .ints m] => T.when (small l.length) (.ret (.bool (l == m)))
  | _ => .fail
def rrisesG : List CV → T CV
  | [.pl .ints l, .int .i64 st] => T.when (decide (1 ≤ st) && decide (st ≤ 1000) && small l.length) (.ret (.bool (rises l st.toNat)))
  | _ => .fail
def frisesG : List CV → T CV
  | [.agg ⟨[.int .i64 t, .int .i64 n, .pl .ints l]⟩, .int .i64 st] => T.when (decide (1 ≤ st) && decide (st ≤ 1000) && small l.length) (.ret (.bool (rises l st.toNat)))
  | _ => .fail
def copyIntsG : List CV → T CV
  | [.pl .ints l] => T.when (small l.length) (.ret (.pl .ints l))
  | _ => .fail
def sameStateG : List CV → T CV
  | [.agg ⟨[.int .i64 t, .int .i64 n, .pl .ints l]⟩, .agg ⟨[.int .i64 t', .int .i64 n', .pl .ints l']⟩] => T.when (small l.length) (.ret (.bool (t == t' && n == n' && l == l')))
  | _ => .fail
def copyStateG : List CV → T CV
  | [.agg ⟨[.int .i64 t, .int .i64 n, .pl .ints l]⟩] => T.when (small l.length) (.ret (.agg #[.int .i64 t, .int .i64 n, .pl .ints l]))
  | _ => .fail
def checkG : List CV → T CV
  | [.agg ⟨[.int .i64 t, .int .i64 n, .pl .ints l]⟩] => T.when (small l.length) (.ret (.int .i64 (checkN t n l)))
  | _ => .fail
def pickG : List CV → T CV
  | [.int .i64 x, .int .i64 n] => T.when (decide (-9223372036854775808 ≤ x) && decide (x ≤ 9223372036854775807) && decide (n ≤ 9223372036854775807)) (.ret (.int .i64 (pick x n)))
  | _ => .fail

def sgS : Sg := .agg [.any, .any, .l .ints]
def kitE1 : List (Nat × ExtFn) := []
def kitE : List (Nat × ExtFn) := [] ++ kitE1

/- KitD0 -/
theorem noE : ∀ N, ExtsOk Tryd.prog N [] := fun _ => extsOk_nil
theorem noL : ∀ N, LoopsOk Tryd.prog N [] := fun _ => loopsOk_nil

theorem kitE1_ok (N : Nat) : ExtsOk Tryd.prog N kitE1 :=
  extsOk_nil

theorem ret_ite {α : Type} (c : Prop) [Decidable c] (x y : α) : (if c then some x else some y) = some (if c then x else y) := by split <;> rfl
theorem len0 {α : Type} (l : List α) : ((l.length : Int) = 0) ↔ l = [] := by cases l <;> simp; omega

theorem tmod2 (n : Nat) : ((n : Int).tmod 2 = 0) ↔ n % 2 = 0 := by rw [Int.tmod_eq_emod_of_nonneg (by omega)]; omega

theorem kitE_ok (N : Nat) : ExtsOk Tryd.prog N kitE :=
  kitE1_ok N

end Go.Proofs.YtecidokjhplbgaaDoorD

