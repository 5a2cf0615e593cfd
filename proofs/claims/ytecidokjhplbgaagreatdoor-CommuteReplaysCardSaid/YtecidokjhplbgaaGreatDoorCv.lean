/-
  The values of the reference run: plain values, places in its heap, and lists told as lists of Lean (immutable rows in memory).
-/
import Derived.RangeFuncLeaves
import Derived.RangeFuncIn
import Derived.Laws.Tables
import Derived.Laws.Build
import Derived.Below
import Derived.OrdersIn
import Derived.WalkKit
set_option linter.unusedVariables false
namespace Go.Proofs.YtecidokjhplbgaaGreatDoorD
open Go

structure DRet where
  kind : Int
  n : Int
deriving DecidableEq, Inhabited
structure DOp where
  kind : Int
  a : Int
  b : Int
  ret : DRet
deriving DecidableEq, Inhabited
structure DState where
  type : Int
  n : Int
  l : List Int
deriving DecidableEq, Inhabited
structure DAct where
  object : Int
  op : DOp
deriving DecidableEq, Inhabited
structure DTrans where
  name : ByteArray
  first : Int
  commit : Int
  acts : List DAct
  at_ : List Int
deriving DecidableEq, Inhabited
structure DEdge where
  from_ : Int
  to : Int
deriving DecidableEq, Inhabited
structure DStep where
  trans : Int
  object : Int
  at_ : Int
  op : DOp
  ahead : DState
  behind : DState
deriving DecidableEq, Inhabited
structure DNeed where
  type : Int
  none_ : Bool
  any_ : Bool
  from_ : Int
  to : Int
  in_ : List Int
  out : List Int
  least : Int
  size : Int
deriving DecidableEq, Inhabited

inductive RC where
  | ints | bytes | bools | strs | rets | ops | states | acts | trans | edges | steps | needs | intss | opss
deriving DecidableEq, Inhabited

@[reducible] def RC.den : RC → Type
  | .ints => Int
  | .bytes => UInt8
  | .bools => Bool
  | .strs => ByteArray
  | .rets => DRet
  | .ops => DOp
  | .states => DState
  | .acts => DAct
  | .trans => DTrans
  | .edges => DEdge
  | .steps => DStep
  | .needs => DNeed
  | .intss => List Int
  | .opss => List DOp

def RC.z : RC → Nat
  | .ints => 1
  | .bytes => 1
  | .bools => 1
  | .strs => 1
  | .rets => 2
  | .ops => 5
  | .states => 3
  | .acts => 6
  | .trans => 5
  | .edges => 2
  | .steps => 14
  | .needs => 9
  | .intss => 1
  | .opss => 1

inductive CV where
  | bool (b : Bool)
  | int (k : IntKind) (n : Int)
  | string (s : ByteArray)
  | pointer (a : Option Addr)
  | slice (a : Option Addr) (len cap : Nat)
  | map (r : Option Nat)
  | func (fn : Fn) (first captured : Array CV)
  | nilFunc
  | iface (t : TypeId) (v : CV)
  | nilIface
  | agg (cells : Array CV)
  | tuple (vs : Array CV)
    | junk
    | pl (r : RC) (l : List r.den)
    | kptr (cs : List CV)
    | rptr (b z i j : Nat)
    | row (b z n : Nat)
    | win (b z s n c : Nat)
    | empty
    | nnil
deriving Inhabited

def CV.cells : CV → Array CV
  | .agg cs => cs
  | v => #[v]

abbrev cundef : CV := .tuple #[]

def i64 (n : Int) : CV := .int .i64 n

def RC.cells : (r : RC) → r.den → List CV
  | .ints, x => [.int .i64 x]
  | .bytes, x => [.int .u8 x.toNat]
  | .bools, x => [.bool x]
  | .strs, x => [.string x]
  | .rets, x => [.int .i64 x.kind, .int .i64 x.n]
  | .ops, x => [.int .i64 x.kind, .int .i64 x.a, .int .i64 x.b, .int .i64 x.ret.kind, .int .i64 x.ret.n]
  | .states, x => [.int .i64 x.type, .int .i64 x.n, .pl .ints x.l]
  | .acts, x => [.int .i64 x.object, .int .i64 x.op.kind, .int .i64 x.op.a, .int .i64 x.op.b, .int .i64 x.op.ret.kind, .int .i64 x.op.ret.n]
  | .trans, x => [.string x.name, .int .i64 x.first, .int .i64 x.commit, .pl .acts x.acts, .pl .ints x.at_]
  | .edges, x => [.int .i64 x.from_, .int .i64 x.to]
  | .steps, x => [.int .i64 x.trans, .int .i64 x.object, .int .i64 x.at_, .int .i64 x.op.kind, .int .i64 x.op.a, .int .i64 x.op.b, .int .i64 x.op.ret.kind, .int .i64 x.op.ret.n,
      .int .i64 x.ahead.type, .int .i64 x.ahead.n, .pl .ints x.ahead.l, .int .i64 x.behind.type, .int .i64 x.behind.n, .pl .ints x.behind.l]
  | .needs, x => [.int .i64 x.type, .bool x.none_, .bool x.any_, .int .i64 x.from_, .int .i64 x.to, .pl .ints x.in_, .pl .ints x.out, .int .i64 x.least, .int .i64 x.size]
  | .intss, x => [.pl .ints x]
  | .opss, x => [.pl .ops x]

def RC.zero : (r : RC) → r.den
  | .ints => 0
  | .bytes => 0
  | .bools => false
  | .strs => ⟨#[]⟩
  | .rets => ⟨0, 0⟩
  | .ops => ⟨0, 0, 0, 0, 0⟩
  | .states => ⟨0, 0, []⟩
  | .acts => ⟨0, 0, 0, 0, 0, 0⟩
  | .trans => ⟨⟨#[]⟩, 0, 0, [], []⟩
  | .edges => ⟨0, 0⟩
  | .steps => ⟨0, 0, 0, ⟨0, 0, 0, 0, 0⟩, ⟨0, 0, []⟩, ⟨0, 0, []⟩⟩
  | .needs => ⟨0, false, false, 0, 0, [], [], 0, 0⟩
  | .intss => []
  | .opss => []

def toInts : CV → Option (List Int)
  | .pl .ints l => some l
  | .slice none 0 0 => some []
  | .empty => some []
  | _ => none
def toOps : CV → Option (List DOp)
  | .pl .ops l => some l
  | .slice none 0 0 => some []
  | .empty => some []
  | _ => none
def toActs : CV → Option (List DAct)
  | .pl .acts l => some l
  | .slice none 0 0 => some []
  | .empty => some []
  | _ => none
def ofInt : List CV → Option Int
  | [.int .i64 n] => some n
  | _ => none
def ofByte : List CV → Option UInt8
  | [.int .u8 n] => bif decide (0 ≤ n) && decide (n < 256) then some (UInt8.ofNat n.toNat) else none
  | _ => none
def ofBool : List CV → Option Bool
  | [.bool b] => some b
  | _ => none
def ofStr : List CV → Option ByteArray
  | [.string s] => some s
  | _ => none
def ofRet : List CV → Option DRet
  | [.int .i64 a, .int .i64 b] => some ⟨a, b⟩
  | _ => none
def ofOp : List CV → Option DOp
  | [.int .i64 a, .int .i64 b, .int .i64 c, .int .i64 d, .int .i64 e] => some ⟨a, b, c, d, e⟩
  | _ => none
def ofState : List CV → Option DState
  | [.int .i64 a, .int .i64 b, c] => match toInts c with
    | some l => some ⟨a, b, l⟩
    | none => none
  | _ => none
def ofAct : List CV → Option DAct
  | [.int .i64 x, .int .i64 a, .int .i64 b, .int .i64 c, .int .i64 d, .int .i64 e] => some ⟨x, a, b, c, d, e⟩
  | _ => none
def ofTrans : List CV → Option DTrans
  | [.string s, .int .i64 a, .int .i64 b, c, d] => match toActs c, toInts d with
    | some x, some y => some ⟨s, a, b, x, y⟩
    | _, _ => none
  | _ => none
def ofEdge : List CV → Option DEdge
  | [.int .i64 a, .int .i64 b] => some ⟨a, b⟩
  | _ => none
def ofStep : List CV → Option DStep
  | [.int .i64 a, .int .i64 b, .int .i64 c, .int .i64 d, .int .i64 e, .int .i64 f, .int .i64 g, .int .i64 h, .int .i64 i, .int .i64 j, k, .int .i64 l, .int .i64 m, n] => match toInts k, toInts n with
    | some x, some y => some ⟨a, b, c, ⟨d, e, f, g, h⟩, ⟨i, j, x⟩, ⟨l, m, y⟩⟩
    | _, _ => none
  | _ => none
def ofNeed : List CV → Option DNeed
  | [.int .i64 a, .bool b, .bool c, .int .i64 d, .int .i64 e, f, g, .int .i64 h, .int .i64 i] => match toInts f, toInts g with
    | some x, some y => some ⟨a, b, c, d, e, x, y, h, i⟩
    | _, _ => none
  | _ => none
def ofIntss : List CV → Option (List Int)
  | [c] => toInts c
  | _ => none
def ofOpss : List CV → Option (List DOp)
  | [c] => toOps c
  | _ => none
def RC.of : (r : RC) → List CV → Option r.den
  | .ints => ofInt
  | .bytes => ofByte
  | .bools => ofBool
  | .strs => ofStr
  | .rets => ofRet
  | .ops => ofOp
  | .states => ofState
  | .acts => ofAct
  | .trans => ofTrans
  | .edges => ofEdge
  | .steps => ofStep
  | .needs => ofNeed
  | .intss => ofIntss
  | .opss => ofOpss

def RC.all (r : RC) (l : List r.den) : List CV := l.flatMap r.cells

theorem RC.cells_length (r : RC) (x : r.den) : (r.cells x).length = r.z := by cases r <;> rfl
theorem RC.z_pos (r : RC) : 0 < r.z := by cases r <;> decide
theorem RC.all_length (r : RC) (l : List r.den) : (r.all l).length = l.length * r.z := by
  induction l with
  | nil => simp [RC.all]
  | cons x l ih => simp only [RC.all, List.flatMap_cons, List.length_append, r.cells_length, List.length_cons] at ih ⊢; rw [ih, Nat.add_mul]; omega
theorem RC.all_append (r : RC) (l m : List r.den) : r.all (l ++ m) = r.all l ++ r.all m := by simp [RC.all]
theorem RC.all_cons (r : RC) (x : r.den) (l : List r.den) : r.all (x :: l) = r.cells x ++ r.all l := by simp [RC.all]
theorem RC.all_drop (r : RC) (l : List r.den) : ∀ (n : Nat), (r.all l).drop (n * r.z) = r.all (l.drop n) := by
  induction l with
  | nil => intro n; simp [RC.all]
  | cons x l ih =>
    intro n
    cases n with
    | zero => simp
    | succ n => rw [RC.all_cons, List.drop_append, List.drop_eq_nil_of_le (by rw [r.cells_length, Nat.add_mul]; omega), r.cells_length, show (n + 1) * r.z - r.z = n * r.z by rw [Nat.add_mul]; omega]; simpa using ih n
theorem RC.all_take (r : RC) (l : List r.den) : ∀ (n : Nat), (r.all l).take (n * r.z) = r.all (l.take n) := by
  induction l with
  | nil => intro n; simp [RC.all]
  | cons x l ih =>
    intro n
    cases n with
    | zero => simp [RC.all]
    | succ n => rw [List.take_succ_cons, RC.all_cons, RC.all_cons, List.take_append, List.take_of_length_le (by rw [r.cells_length, Nat.add_mul]; omega), r.cells_length, show (n + 1) * r.z - r.z = n * r.z by rw [Nat.add_mul]; omega, ih n]

end Go.Proofs.YtecidokjhplbgaaGreatDoorD
