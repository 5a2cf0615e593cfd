/-
  A REFERENCE RUN of the loaded programs: deterministic, over a heap of its own numbering, in which 'append' always makes a new block.
  Definitions alone; what a run of it says of the model's runs is in the text Sound.
-/
import Derived.RangeFuncLeaves
import Derived.RangeFuncIn
import Derived.Laws.Tables
import Derived.Laws.Build
import Derived.Below
import Derived.OrdersIn
import Derived.WalkKit
set_option linter.unusedVariables false
namespace Go.Proofs.YtjbbhccoamhbgaaD
open Go

/-! ### A tree by numbers -/
inductive Tr (α : Type) where
  | nil
  | node (l : Tr α) (v : Option α) (r : Tr α)

def Tr.get {α : Type} : Tr α → Nat → Option α
  | .nil, _ => none
  | .node l v r, n => bif Nat.beq n 0 then v else bif Nat.beq (n % 2) 1 then l.get (n / 2) else r.get (n / 2 - 1)

def Tr.setAux {α : Type} (x : Option α) : Nat → Tr α → Nat → Tr α
  | 0, t, _ => t
  | k + 1, .nil, n =>
    bif Nat.beq n 0 then .node .nil x .nil
    else bif Nat.beq (n % 2) 1 then .node (setAux x k .nil (n / 2)) none .nil
    else .node .nil none (setAux x k .nil (n / 2 - 1))
  | k + 1, .node l v r, n =>
    bif Nat.beq n 0 then .node l x r
    else bif Nat.beq (n % 2) 1 then .node (setAux x k l (n / 2)) v r
    else .node l v (setAux x k r (n / 2 - 1))

def Tr.set {α : Type} (t : Tr α) (n : Nat) (x : α) : Tr α := t.setAux (some x) (n + 1) n

/-! ### Objects, states -/
inductive CObj where
  | cells (vs : List Value) (esz : Nat) (mode : Nat)
  | map (es : List (Value × Value))
  | loop (state : LoopState) (pending : Option Code) (fn : FuncId) (tmps : List Value) (params : Array Tmp) (assign body : Code) (defers : Nat)
  | defs
  | dead

structure CSt where
  heap : Tr CObj
  next : Nat

structure CAct where
  tmps : List Value
  marks : List Nat

inductive CEx where
  | normal
  | exit (id : Nat)
  | ret

mutual
def flat : Value → Bool
  | .bool _ => true
  | .int _ _ => true
  | .float _ _ => true
  | .complex _ _ _ => true
  | .string _ => true
  | .nilFunc => true
  | .nilIface => true
  | .pointer none => true
  | .slice none 0 0 => true
  | .map none => true
  | .iface _ v => flat v
  | .agg cs => flatA cs
  | .tuple cs => flatA cs
  | _ => false
def flatA : Array Value → Bool
  | ⟨l⟩ => flatL l
def flatL : List Value → Bool
  | [] => true
  | v :: r => flat v && flatL r
end

def ceval (ts : List Value) : Operand → Option Value
  | .tmp t => some (ts.getD t undef)
  | .const v => bif flat v then some v else none
  | .global _ => none
  | .func f => some (.func (.func f) #[] #[])

def evals (ρ : Operand → Option Value) : List Operand → Option (List Value)
  | [] => some []
  | x :: r => match ρ x with
    | none => none
    | some v => match evals ρ r with
      | none => none
      | some vs => some (v :: vs)

def evalsP (ρ : Operand → Option Value) : List (Nat × Operand) → Option (List (Nat × Value))
  | [] => some []
  | (i, x) :: r => match ρ x with
    | none => none
    | some v => match evalsP ρ r with
      | none => none
      | some vs => some ((i, v) :: vs)

/-- What an answer is that asks nothing of the world. -/
def still {α : Type} (P : Program) : Sem α → Option α
  | .pure a => some a
  | .program k => still P (k P)
  | .mark _ k => still P k
  | _ => none

/-- .. and has no address in it. -/
def stillF (P : Program) (s : Sem Value) : Option Value :=
  match still P s with
  | some v => bif flat v then some v else none
  | none => none

def pAgg (P : Program) (t : TypeId) : Option Bool :=
  match P.underlying t with
  | some (.struct _) => some true
  | some (.array _ _) => some true
  | some _ => some false
  | none => none
def pSize (P : Program) (t : TypeId) : Option Nat := match P.info? t with | some i => some i.size | none => none
def pZero (P : Program) (t : TypeId) : Option Value := match P.info? t with | some i => i.zero | none => none

def cellOk : Value → Bool
  | .agg _ => false
  | .tuple _ => false
  | _ => true

/-- A heap as it is asked. -/
abbrev HF := Nat → Option CObj

def cload (P : Program) (h : HF) (t : TypeId) (b o : Nat) : Option Value :=
  match h b with
  | some (.cells vs _ _) =>
    match pAgg P t with
    | some true => match pSize P t with
      | some n => bif Nat.ble (o + n) vs.length then some (.agg ((vs.drop o).take n).toArray) else none
      | none => none
    | some false => vs[o]?
    | none => none
  | _ => none

def setR : List Value → Nat → List Value → List Value
  | vs, _, [] => vs
  | vs, o, x :: r => setR (vs.set o x) (o + 1) r

/-- What is changed: numbers and their objects, one behind the other. -/
abbrev Eff := List (Nat × CObj)

def cstoreCells (ro : Nat) (h : HF) (b o : Nat) (xs : List Value) : Option Eff :=
  match h b with
  | some (.cells vs e m) =>
    bif Nat.ble ro b && !(Nat.beq m 2) && Nat.ble (o + xs.length) vs.length && xs.all cellOk then some [(b, .cells (setR vs o xs) e m)] else none
  | _ => none

def cint (P : Program) (t : TypeId) (op : BinOp) (k : IntKind) (a : Int) (k' : IntKind) (b : Int) : Option Value :=
  match op with
  | .add => if k = k' then some (.int k (k.wrap (a + b))) else none
  | .sub => if k = k' then some (.int k (k.wrap (a - b))) else none
  | .mul => if k = k' then some (.int k (k.wrap (a * b))) else none
  | .eql => if k = k' then some (.bool (a == b)) else none
  | .neq => if k = k' then some (.bool (a != b)) else none
  | .lss => if k = k' then some (.bool (decide (a < b))) else none
  | .leq => if k = k' then some (.bool (decide (a ≤ b))) else none
  | .gtr => if k = k' then some (.bool (decide (a > b))) else none
  | .geq => if k = k' then some (.bool (decide (a ≥ b))) else none
  | op => stillF P (binOp op t (.int k a) (.int k' b))

/-- A value that is surely not nil, beside nil. -/
def nilCmp (P : Program) (t : TypeId) (a b : Value) : Bool :=
  match P.underlying t, a, b with
  | some (.pointer _), .pointer (some _), .pointer none => true
  | some (.slice _), .slice (some _) _ _, .slice none 0 0 => true
  | some (.map _ _), .map (some _), .map none => true
  | some (.interface _), .iface _ _, .nilIface => true
  | some (.func _ _ _), .func _ _ _, .nilFunc => true
  | _, _, _ => false

def cbin (P : Program) (op : BinOp) (t : TypeId) (x y : Operand) (a b : Value) : Option Value :=
  match a, b with
  | .int k m, .int k' n => cint P t op k m k' n
  | a, b =>
    bif flat a && flat b then stillF P (do eqGuard op t x y a b; binOp op t a b)
    else bif nilCmp P t a b then
      match op with
      | .eql => some (.bool false)
      | .neq => some (.bool true)
      | _ => none
    else none

def fieldOf (P : Program) (t : TypeId) (i : Nat) : Option Field :=
  match P.underlying t with
  | some (.struct fs) => fs[i]?
  | _ => none

def cpart (P : Program) (t : TypeId) (cs : Array Value) (o : Nat) : Option Value :=
  match pAgg P t with
  | some true => match pSize P t with
    | some n => some (.agg (cs.extract o (o + n)))
    | none => none
  | some false => cs[o]?
  | none => none

def inRange (i : Int) (n : Nat) : Bool := decide (0 ≤ i) && decide (i < (n : Int))

/-- The bounds of a slice expression. -/
def cbd (v : Option Value) (y d : Nat) : Option Nat :=
  match v with
  | none => some d
  | some (.int _ i) => bif decide (0 ≤ i) && decide (i ≤ (y : Int)) then some i.toNat else none
  | some _ => none

def noHigh : Option Value → Option Value → Bool
  | none, some _ => true
  | _, _ => false

def cbounds (len cap : Nat) (lo hi mx : Option Value) : Option (Nat × Nat × Nat) :=
  match cbd mx cap cap with
  | none => none
  | some m => match cbd hi m len with
    | none => none
    | some h => match cbd lo h 0 with
      | none => none
      | some l => bif Nat.ble h m && Nat.ble l h && !(noHigh hi mx) then some (l, h, m) else none

/-- A slice of elements of z cells of a block. -/
def sliceOk (h : HF) (b z : Nat) : Bool :=
  match h b with
  | some (.cells _ ez md) => !(Nat.beq md 1) || Nat.beq ez z
  | _ => false

def optEval (ρ : Operand → Option Value) : Option Operand → Option (Option Value)
  | none => some none
  | some x => match ρ x with
    | some v => some (some v)
    | none => none

def cslice (P : Program) (hp : HF) (t : TypeId) (x : Value) (lo hi mx : Option Value) : Option Value :=
  match P.underlying t, x with
  | some .string, .string s => match mx with
    | some _ => none
    | none => match cbounds s.size s.size lo hi none with
      | some (l, h, _) => some (.string (s.extract l h))
      | none => none
  | some (.slice e), .slice none len cap => match cbounds len cap lo hi mx, pSize P e with
    | some (_, _, _), some _ => some (.slice none 0 0)
    | _, _ => none
  | some (.slice e), .slice (some ⟨b, o, none⟩) len cap => match cbounds len cap lo hi mx, pSize P e with
    | some (l, h, m), some z => bif sliceOk hp b z then some (.slice (some ⟨b, o + l * z, none⟩) (h - l) (m - l)) else none
    | _, _ => none
  | some (.pointer a), .pointer (some ⟨b, o, none⟩) => match P.underlying a with
    | some (.array n e) => match cbounds n n lo hi mx, pSize P e with
      | some (l, h, m), some z => some (.slice (some ⟨b, o + l * z, none⟩) (h - l) (m - l))
      | _, _ => none
    | _ => none
  | some (.array n e), .pointer (some ⟨b, o, none⟩) => match cbounds n n lo hi mx, pSize P e with
    | some (l, h, m), some z => some (.slice (some ⟨b, o + l * z, none⟩) (h - l) (m - l))
    | _, _ => none
  | _, _ => none

def clen (P : Program) (h : HF) (t : TypeId) (x : Value) : Option Value :=
  match P.underlying t, x with
  | some .string, .string s => some (.int .i64 s.size)
  | some (.slice _), .slice _ n _ => some (.int .i64 n)
  | some (.array n _), _ => some (.int .i64 n)
  | some (.map _ _), .map none => some (.int .i64 0)
  | some (.map _ _), .map (some r) => match h r with
    | some (.map es) => some (.int .i64 es.length)
    | _ => none
  | _, _ => none

/-- Operations that make and write nothing. -/
def cpure (P : Program) (ρ : Operand → Option Value) (h : HF) (o : Oper) : Option Value :=
  match o.op with
  | .move x => ρ x
  | .assign x => ρ x
  | .pick c a b => match ρ c with
    | some (.bool t) => bif t then ρ a else ρ b
    | _ => none
  | .build t parts => match evalsP ρ parts.toList, pZero P t with
    | some ps, some z => bif flat z then match P.built t ps with
      | some cs => some (.agg cs)
      | none => none
      else none
    | _, _ => none
  | .load t a => match ρ a with
    | some (.pointer (some ⟨b, o, none⟩)) => cload P h t b o
    | _ => none
  | .nilCheck x => match ρ x with
    | some (.pointer (some a)) => some (.pointer (some a))
    | some (.func (.func f) a b) => some (.func (.func f) a b)
    | some (.func (.yield f) a b) => some (.func (.yield f) a b)
    | _ => none
  | .binOp op t x y _ => match ρ x, ρ y with
    | some a, some b => cbin P op t x y a b
    | _, _ => none
  | .unOp op _ x => match ρ x with
    | some v => bif flat v then stillF P (Op.unary op v) else none
    | none => none
  | .convert src dst x => match ρ x with
    | some v => bif flat v then stillF P (convert src dst v) else none
    | none => none
  | .makeFunc fn first captured => match fn with
    | .func f => match evals ρ first.toList, evals ρ captured.toList with
      | some a, some b => some (.func (.func f) a.toArray b.toArray)
      | _, _ => none
    | _ => none
  | .makeInterface t x => match ρ x with
    | some v => bif P.concrete t then some (.iface t v) else none
    | none => none
  | .fieldAddr t x i => match ρ x with
    | some (.pointer (some ⟨b, o, none⟩)) => match fieldOf P t i with
      | some f => match pSize P f.type with
        | some (z + 1) => some (.pointer (some ⟨b, o + f.offset, none⟩))
        | _ => none
      | none => none
    | _ => none
  | .field t x i => match ρ x with
    | some (.agg cs) => match fieldOf P t i with
      | some f => cpart P f.type cs f.offset
      | none => none
    | _ => none
  | .indexAddr t x ix => match ρ x, ρ ix with
    | some (.slice (some ⟨b, o, none⟩) len _), some (.int _ i) => match P.underlying t with
      | some (.slice e) => match pSize P e with
        | some z => bif inRange i len then some (.pointer (some ⟨b, o + i.toNat * z, none⟩)) else none
        | none => none
      | _ => none
    | some (.pointer (some ⟨b, o, none⟩)), some (.int _ i) => match P.underlying t with
      | some (.array n e) => match pSize P e with
        | some z => bif inRange i n then some (.pointer (some ⟨b, o + i.toNat * z, none⟩)) else none
        | none => none
      | _ => none
    | _, _ => none
  | .index t x ix => match ρ x, ρ ix with
    | some (.agg cs), some (.int _ i) => match P.underlying t with
      | some (.array n e) => match pSize P e with
        | some z => bif inRange i n then cpart P e cs (i.toNat * z) else none
        | none => none
      | _ => none
    | some (.string s), some (.int _ i) => match P.underlying t with
      | some .string => bif decide (0 ≤ i) then (match s[i.toNat]? with | some b => some (.int .u8 b.toNat) | none => none) else none
      | _ => none
    | _, _ => none
  | .slice t x lo hi mx => match ρ x, optEval ρ lo, optEval ρ hi, optEval ρ mx with
    | some v, some l, some hh, some m => cslice P h t v l hh m
    | _, _, _, _ => none
  | .extract x i => match ρ x with
    | some (.tuple vs) => vs[i]?
    | _ => none
  | .call { callee := .builtin .len, args, argTypes } => match evals ρ args.toList, argTypes[0]? with
    | some [x], some t => clen P h t x
    | _, _ => none
  | .call { callee := .builtin .min, args, argTypes } => match evals ρ args.toList with
    | some vs => bif flatL vs then stillF P (Builtin.min_ argTypes o.type vs.toArray) else none
    | none => none
  | .call { callee := .builtin .max, args, argTypes } => match evals ρ args.toList with
    | some vs => bif flatL vs then stillF P (Builtin.max_ argTypes o.type vs.toArray) else none
    | none => none
  | _ => none

/-- A new object under the number 'id', and what is told of it. -/
def cnew (h : HF) (id : Nat) (ob : CObj) (v : Value) : Option (Value × Eff) :=
  match h id with
  | none => some (v, [(id, ob)])
  | some _ => none

def bytesVals (s : ByteArray) : List Value := s.data.toList.map fun b => .int .u8 b.toNat

/-- The cells of a slice or a string, the first n elements of z cells. -/
def csrc (h : HF) (z n : Nat) : Value → Option (List Value)
  | .slice none _ _ => bif Nat.beq n 0 then some [] else none
  | .slice (some ⟨b, o, none⟩) len _ => match h b with
    | some (.cells vs _ _) => bif Nat.ble n len && Nat.ble (o + n * z) vs.length then some ((vs.drop o).take (n * z)) else none
    | _ => none
  | .string s => bif Nat.beq z 1 && Nat.ble n s.size then some ((bytesVals s).take n) else none
  | _ => none

def clenOf : Value → Option Nat
  | .slice _ n _ => some n
  | .string s => some s.size
  | _ => none

def isIntT (P : Program) (t : TypeId) : Bool := match P.underlying t with | some (.int _) => true | none => true | _ => false

def cappend (P : Program) (ro id : Nat) (ts : Array TypeId) (x y : Value) (h : HF) : Option (Value × Eff) :=
  match ts[0]?, ts[1]?, x with
  | some t, some u, .slice base len cap =>
    match P.underlying t, isIntT P u with
    | some (.slice e), false =>
      match P.info? e, clenOf y with
      | some i, some n =>
        match csrc h i.size n y with
        | none => none
        | some new =>
          bif Nat.ble (len + n) cap then
            match base with
            | some ⟨b, o, none⟩ => bif Nat.beq n 0 then some (.slice base (len + n) cap, []) else
              match cstoreCells ro h b (o + len * i.size) new with
              | some ef => some (.slice base (len + n) cap, ef)
              | none => none
            | none => some (.slice base (len + n) cap, [])
            | _ => none
          else bif Nat.ble ((len + n) * i.bytes) (2 ^ 40) && Nat.ble 1 i.bytes && Nat.ble i.bytes (2 ^ 20) && Nat.ble 1 i.size && new.all cellOk then
            match i.zero, csrc h i.size len x with
            | some z, some old =>
              bif Nat.beq z.cells.size i.size then
                match base with
                | some ⟨b, o, none⟩ => match h b with
                  | some (.cells vs ez m) =>
                    bif Nat.beq m 1 && Nat.beq (o + cap * i.size) vs.length then
                      bif Nat.ble ro b && Nat.beq ez i.size && !(Nat.beq id b) && Nat.ble cap 4611686018427387904 then match h id with
                        | none => some (.slice (some ⟨id, 0, none⟩) (len + n) (len + n), [(b, .dead), (id, .cells (old ++ new) i.size 1)])
                        | some _ => none
                      else none
                    else bif Nat.beq m 1 && !(Nat.beq ez i.size) then none
                    else cnew h id (.cells (old ++ new) i.size 1) (.slice (some ⟨id, 0, none⟩) (len + n) (len + n))
                  | _ => none
                | none => cnew h id (.cells (old ++ new) i.size 1) (.slice (some ⟨id, 0, none⟩) (len + n) (len + n))
                | _ => none
              else none
            | _, _ => none
          else none
      | _, _ => none
    | _, _ => none
  | _, _, _ => none

def zeroRow (z : List Value) : Nat → List Value
  | 0 => []
  | n + 1 => z ++ zeroRow z n

/-- Operations that make or write memory, but calls. -/
def cmem (P : Program) (ρ : Operand → Option Value) (ro id : Nat) (o : Oper) (h : HF) : Option (Value × Eff) :=
  match o.op with
  | .alloc t => match pZero P t with
    | some z => bif flat z && z.cells.toList.all cellOk then cnew h id (.cells z.cells.toList 1 0) (.pointer (some ⟨id, 0, none⟩)) else none
    | none => none
  | .box _ x => match ρ x with
    | some v => bif v.cells.toList.all cellOk then cnew h id (.cells v.cells.toList 1 0) (.pointer (some ⟨id, 0, none⟩)) else none
    | none => none
  | .buildSlice t n parts => match P.underlying t with
    | some (.slice e) => match P.info? e, evalsP ρ parts.toList with
      | some i, some ps => match i.zero with
        | some z => bif Nat.ble (n * i.size) (2 ^ 24) && flat z && Nat.beq z.cells.size i.size then
            match Instr.fill (fun j => some (j * i.size, i.size)) (zeroRow z.cells.toList n).toArray ps with
            | some cs => bif cs.toList.all cellOk then cnew h id (.cells cs.toList i.size 0) (.slice (some ⟨id, 0, none⟩) n n) else none
            | none => none
          else none
        | none => none
      | _, _ => none
    | _ => none
  | .makeSlice t l c => match P.underlying t, ρ l, ρ c with
    | some (.slice e), some (.int _ n), some (.int _ m) => match P.info? e with
      | some i => match i.zero with
        | some z => bif decide (0 ≤ n) && decide (n ≤ m) && decide (m * i.bytes ≤ 2 ^ 40) && decide (m ≤ 2 ^ 40) && flat z && z.cells.toList.all cellOk && Nat.beq z.cells.size i.size then
            cnew h id (.cells (zeroRow z.cells.toList m.toNat) i.size 0) (.slice (some ⟨id, 0, none⟩) n.toNat m.toNat)
          else none
        | none => none
      | none => none
    | _, _, _ => none
  | .store t a x => match ρ a, ρ x with
    | some (.pointer (some ⟨b, o, none⟩)), some v => match pSize P t with
      | some n => bif Nat.beq v.cells.size n then
          match cstoreCells ro h b o v.cells.toList with
          | some ef => some (undef, ef)
          | none => none
        else none
      | none => none
    | _, _ => none
  | .call { callee := .builtin .append, args, argTypes } => match evals ρ args.toList with
    | some [x, y] => cappend P ro id argTypes x y h
    | _ => none
  | .call { callee := .builtin .copy, args, argTypes } => match evals ρ args.toList, argTypes[0]? with
    | some [.slice base n _, y], some t => match P.underlying t with
      | some (.slice e) => match pSize P e, clenOf y with
        | some z, some m => match csrc h z (Nat.min m n) y with
          | some xs => match base with
            | some ⟨b, o, none⟩ => match cstoreCells ro h b o xs with
              | some ef => some (.int .i64 (Nat.min m n), ef)
              | none => none
            | none => some (.int .i64 (Nat.min m n), [])
            | _ => none
          | none => none
        | _, _ => none
      | _ => none
    | _, _ => none
  | .call { callee := .builtin .clear, args, argTypes } => match evals ρ args.toList, argTypes[0]? with
    | some [.slice base n _], some t => match P.underlying t with
      | some (.slice e) => match pSize P e, pZero P e with
        | some z, some v => match base with
          | none => some (.tuple #[], [])
          | some ⟨b, o, none⟩ => bif Nat.beq n 0 then some (.tuple #[], []) else bif Nat.beq v.cells.size z && flat v then
              match cstoreCells ro h b o (zeroRow v.cells.toList n) with
              | some ef => some (.tuple #[], ef)
              | none => none
            else none
          | _ => none
        | _, _ => none
      | _ => none
    | _, _ => none
  | _ => match cpure P ρ h o with
    | some v => some (v, [])
    | none => none

/-! ### Calls, code -/
structure Self where
  call : Nat → FuncId → List Value → CSt → Option (Value × CSt)
  exec : Nat → Option Nat → FuncId → Code → CAct → CSt → Option (CEx × CAct × CSt)
  again : Nat → Option Nat → FuncId → Code → CAct → CSt → Option (CEx × CAct × CSt)

def CAct.put (a : CAct) (dst : Option Tmp) (v : Value) : CAct :=
  match dst with
  | some d => { a with tmps := a.tmps.set d v }
  | none => a

def setParams : List Tmp → List Value → List Value → List Value
  | p :: ps, v :: vs, ts => setParams ps vs (ts.set p v)
  | _, _, ts => ts

/-- One round of a loop over a function. -/
def cround (self : Self) (ro l : Nat) (args : List Value) (s : CSt) : Option (Value × CSt) :=
  match s.heap.get l with
  | some (.loop _ _ fn tmps params assign body _) =>
    bif Nat.beq args.length params.size && Nat.ble ro l then
      match self.exec ro (some l) fn assign { tmps := setParams params.toList args tmps, marks := [] } s with
      | some (.normal, a1, s1) =>
        match a1.marks, s1.heap.get l with
        | [], some (.loop .ready pe fn1 tm1 pa1 as1 bo1 de1) =>
          match self.exec ro (some l) fn body a1 { s1 with heap := s1.heap.set l (.loop .busy pe fn1 tm1 pa1 as1 bo1 de1) } with
          | some (e, a2, s2) =>
            match a2.marks, s2.heap.get l with
            | [], some (.loop _ _ fn2 tm2 pa2 as2 bo2 de2) =>
              match e with
              | .normal => some (.bool true, { s2 with heap := s2.heap.set l (.loop .ready none fn2 tm2 pa2 as2 bo2 de2) })
              | .ret => some (.bool false, { s2 with heap := s2.heap.set l (.loop .done (some .ret) fn2 tm2 pa2 as2 bo2 de2) })
              | .exit id => some (.bool false, { s2 with heap := s2.heap.set l (.loop .done (some (.exit id)) fn2 tm2 pa2 as2 bo2 de2) })
            | _, _ => none
          | none => none
        | _, _ => none
      | _ => none
    else none
  | _ => none

def ccallv (self : Self) (ro : Nat) (f : Value) (args : List Value) (s : CSt) : Option (Value × CSt) :=
  match f with
  | .func (.func g) first captured => self.call ro g (first.toList ++ args ++ captured.toList) s
  | .func (.yield l) first _ => cround self ro l (first.toList ++ args) s
  | _ => none

def setAll : Tr CObj → Eff → Tr CObj
  | t, [] => t
  | t, (b, o) :: r => setAll (t.set b o) r

def cOper (self : Self) (P : Program) (ro id : Nat) (a : CAct) (o : Oper) (s : CSt) : Option (Value × CSt) :=
  match o.op with
  | .call { callee := .value f, args, .. } => match ceval a.tmps f, evals (ceval a.tmps) args.toList with
    | some g, some vs => ccallv self ro g vs s
    | _, _ => none
  | _ => match cmem P (ceval a.tmps) ro id o s.heap.get with
    | some (v, ef) => some (v, { s with heap := setAll s.heap ef })
    | none => none

def cyielded (ops : Array Oper) (ts : List Value) (j : Nat) : Option Bool :=
  match ((ops[j]?).bind (·.dst)).bind (fun t => ts[t]?) with
  | some (.bool b) => some b
  | _ => none

def cOps (self : Self) (P : Program) (ro b : Nat) (ops : Array Oper) : List Oper → Nat → CAct → CSt → Option (CAct × CSt)
  | [], _, a, s => some (a, s)
  | o :: r, i, a, s =>
    bif Region.wanted o (cyielded ops a.tmps) then
      match cOper self P ro (b + i) a o s with
      | some (v, s') => cOps self P ro b ops r (i + 1) (a.put o.dst v) s'
      | none => none
    else cOps self P ro b ops r (i + 1) (a.put o.dst undef) s

/-! ### Regions that draw their order -/
def beqBytes : List UInt8 → List UInt8 → Bool
  | [], [] => true
  | a :: r, b :: s => Nat.beq a.toNat b.toNat && beqBytes r s
  | _, _ => false

def veqL (f : Value → Value → Bool) : List Value → List Value → Bool
  | [], [] => true
  | a :: r, b :: s => f a b && veqL f r s
  | _, _ => false

/-- Surely the same value. -/
def veq : Nat → Value → Value → Bool
  | 0, _, _ => false
  | k + 1, a, b => match a, b with
    | .bool x, .bool y => bif x then y else !y
    | .int j x, .int l y => decide (j = l) && decide (x = y)
    | .string x, .string y => beqBytes x.data.toList y.data.toList
    | .nilFunc, .nilFunc => true
    | .nilIface, .nilIface => true
    | .pointer none, .pointer none => true
    | .pointer (some ⟨b, o, none⟩), .pointer (some ⟨c, q, none⟩) => Nat.beq b c && Nat.beq o q
    | .map none, .map none => true
    | .map (some r), .map (some q) => Nat.beq r q
    | .slice none n c, .slice none m d => Nat.beq n m && Nat.beq c d
    | .slice (some ⟨b, o, none⟩) n c, .slice (some ⟨e, q, none⟩) m d => Nat.beq b e && Nat.beq o q && Nat.beq n m && Nat.beq c d
    | .func (.func f) as cs, .func (.func g) bs ds => Nat.beq f g && veqL (veq k) as.toList bs.toList && veqL (veq k) cs.toList ds.toList
    | .func (.yield f) as cs, .func (.yield g) bs ds => Nat.beq f g && veqL (veq k) as.toList bs.toList && veqL (veq k) cs.toList ds.toList
    | .iface t x, .iface u y => Nat.beq t u && veq k x y
    | .agg as, .agg bs => veqL (veq k) as.toList bs.toList
    | .tuple as, .tuple bs => veqL (veq k) as.toList bs.toList
    | _, _ => false

def tb (m i : Nat) : Bool := Nat.beq (Nat.land (Nat.shiftRight m i) 1) 1
def bit1 (i : Nat) : Nat := Nat.shiftLeft 1 i

/-- Operations that look at nothing but their operands. -/
def isPure : Op → Bool
  | .move _ | .assign _ | .pick .. | .build .. | .nilCheck _ | .binOp .. | .unOp .. | .convert .. | .makeFunc .. | .makeInterface .. | .fieldAddr .. | .field .. | .indexAddr .. | .index .. | .extract .. => true
  | _ => false
def allConst : List (Nat × Operand) → Bool
  | [] => true
  | (_, .const _) :: r => allConst r
  | _ => false
/-- Operations that make an object of which all is known ahead. -/
def isZ : Op → Bool
  | .alloc _ => true
  | .buildSlice _ _ ps => allConst ps.toList
  | _ => false
def isAct : Op → Bool
  | .load .. | .slice .. | .alloc _ => false
  | .buildSlice _ _ ps => !(allConst ps.toList)
  | .call { callee := .builtin .len, .. } => false
  | x => !(isPure x)

def zobj (P : Program) (id : Nat) (o : Oper) : Option (Value × CObj) :=
  match cmem P (ceval []) 0 id o (fun _ => none) with
  | some (v, [(_, ob)]) => some (v, ob)
  | _ => none

/-- What an operation that changes nothing answers; an object that is known ahead lies there from the region's start. -/
def cq (P : Program) (ρ : Operand → Option Value) (ro id : Nat) (o : Oper) (h : HF) : Option Value :=
  bif isZ o.op then
    match zobj P id o, h id with
    | some (v, .cells ws e' m'), some (.cells vs e m) => bif veqL (veq 8) vs ws && Nat.beq e e' && Nat.beq m m' then some v else none
    | _, _ => none
  else match cmem P ρ ro id o h with
    | some (v, []) => some v
    | _ => none

def preset (P : Program) : List Oper → Nat → Tr CObj → Option (Tr CObj)
  | [], _, h => some h
  | o :: r, id, h => bif isZ o.op then
      match zobj P id o, h.get id with
      | some (_, ob), none => preset P r (id + 1) (h.set id ob)
      | _, _ => none
    else preset P r (id + 1) h

def tmask : List Tmp → Nat
  | [] => 0
  | t :: r => Nat.lor (bit1 t) (tmask r)

def pmask (acc : List Nat) : List Edge → Nat
  | [] => 0
  | e :: r => bif Region.binds .any e then Nat.lor (Nat.lor (bit1 e.on) (acc.getD e.on 0)) (pmask acc r) else pmask acc r

structure Info where
  idx : Nat
  act : Bool
  wr : Nat
  nm : Nat
  bf : Nat

def infoOf (ops : Array Oper) (acc : List Nat) (i : Nat) (o : Oper) : Info :=
  { idx := i, act := isAct o.op, wr := tmask o.dst.toList, nm := tmask (o.dst.toList ++ o.looksAt ops), bf := pmask acc o.after.toList }

def infos (ops : Array Oper) : List Oper → Nat → List Nat → List Info
  | [], _, _ => []
  | o :: r, i, acc => let x := infoOf ops acc i o; x :: infos ops r (i + 1) (acc ++ [x.bf])

def fits (x y : Info) : Bool := tb y.bf x.idx || (Nat.beq (Nat.land x.wr y.nm) 0 && Nat.beq (Nat.land x.nm y.wr) 0 && !(x.act && y.act))

def allFit : List Info → Bool
  | [] => true
  | x :: r => r.all (fits x) && allFit r

def edgesOk : List Oper → Nat → Bool
  | [], _ => true
  | o :: r, i => o.after.toList.all (fun e => !(Region.binds .any e) || Nat.blt e.on i) && edgesOk r (i + 1)

structure Pend where
  i : Nat
  o : Oper
  ts : List Value
  v : Value

def okq (P : Program) (ro base : Nat) (p : Pend) (h : HF) : Bool :=
  match cq P (ceval p.ts) ro (base + p.i) p.o h with
  | some v => veq 8 v p.v
  | none => false

def dOps (self : Self) (P : Program) (ro base : Nat) (ops : Array Oper) (B : List Nat) : List Oper → Nat → List (Nat × Tr CObj) → List Pend → CAct → CSt → Option (CAct × CSt)
  | [], _, _, _, a, s => some (a, s)
  | o :: r, i, past, pend, a, s =>
    bif Region.wanted o (cyielded ops a.tmps) then
      bif isAct o.op then
        match cOper self P ro (base + i) a o s with
        | some (v, s') => bif pend.all (fun p => tb (B.getD i 0) p.i || okq P ro base p s'.heap.get) then
            dOps self P ro base ops B r (i + 1) ((i, s.heap) :: past) pend (a.put o.dst v) s'
          else none
        | none => none
      else match cq P (ceval a.tmps) ro (base + i) o s.heap.get with
        | none => none
        | some v => bif isPure o.op then dOps self P ro base ops B r (i + 1) past pend (a.put o.dst v) s
          else bif past.all (fun p => tb (B.getD i 0) p.1 || okq P ro base ⟨i, o, a.tmps, v⟩ p.2.get) then
            dOps self P ro base ops B r (i + 1) past (⟨i, o, a.tmps, v⟩ :: pend) (a.put o.dst v) s
          else none
    else dOps self P ro base ops B r (i + 1) past pend (a.put o.dst undef) s

def dRegion (self : Self) (P : Program) (ro : Nat) (ops : Array Oper) (a : CAct) (s : CSt) : Option (CAct × CSt) :=
  let fs := infos ops ops.toList 0 []
  bif edgesOk ops.toList 0 && allFit fs then
    match preset P ops.toList s.next s.heap with
    | some h => dOps self P ro s.next ops (fs.map (·.bf)) ops.toList 0 [] [] a { heap := h, next := s.next + ops.size }
    | none => none
  else none

/-- A region: its operations in the order of the text; in a region that draws its order, none may depend on it. -/
def cRegion (self : Self) (P : Program) (ro : Nat) (ops : Array Oper) (draw : Bool) (a : CAct) (s : CSt) : Option (CEx × CAct × CSt) :=
  bif draw then
    match dRegion self P ro ops a s with
    | some (a', s') => some (.normal, a', s')
    | none => none
  else
  match cOps self P ro s.next ops ops.toList 0 a { s with next := s.next + ops.size } with
  | some (a', s') => some (.normal, a', s')
  | none => none

def jumpOf : Option Code → Option CEx
  | none => some .normal
  | some .ret => some .ret
  | some (.exit id) => some (.exit id)
  | some _ => none

def isBusy : LoopState → Bool
  | .busy => true
  | _ => false

/-- A loop over a function, its record made. -/
def cRangeGo (self : Self) (ro : Nat) (a : CAct) (g : FuncId) (first captured : List Value) (l : Nat) (ms : List Nat) (s1 : CSt) : Option (CEx × CAct × CSt) :=
  match self.call ro g (first ++ [.func (.yield l) #[] #[]] ++ captured) s1 with
  | some (_, s2) => match s2.heap.get l with
    | some (.loop st pe fn2 tm2 pa2 as2 bo2 de2) =>
      bif !(isBusy st) && Nat.ble ro l then
        match jumpOf pe with
        | some ex => some (ex, { a with marks := ms ++ a.marks }, { s2 with heap := s2.heap.set l (.loop .exhausted pe fn2 tm2 pa2 as2 bo2 de2) })
        | none => none
      else none
    | _ => none
  | none => none

def cRange (self : Self) (P : Program) (ro : Nat) (round : Option Nat) (fn : FuncId) (f : Operand) (params : Array Tmp) (assign body : Code) (a : CAct) (s : CSt) : Option (CEx × CAct × CSt) :=
  match ceval a.tmps f with
  | some (.func (.func g) first captured) =>
    match round with
    | none => match s.heap.get s.next, s.heap.get (s.next + 1) with
      | none, none => cRangeGo self ro a g first.toList captured.toList (s.next + 1) [s.next]
          { heap := (s.heap.set s.next .defs).set (s.next + 1) (.loop .ready none fn a.tmps params assign body s.next), next := s.next + 2 }
      | _, _ => none
    | some l0 => match s.heap.get l0, s.heap.get s.next with
      | some (.loop _ _ _ _ _ _ _ de), none => cRangeGo self ro a g first.toList captured.toList s.next []
          { heap := s.heap.set s.next (.loop .ready none fn a.tmps params assign body de), next := s.next + 1 }
      | _, _ => none
  | _ => none

def cThen (r : Option (CEx × CAct × CSt)) (k : CAct → CSt → Option (CEx × CAct × CSt)) : Option (CEx × CAct × CSt) :=
  match r with
  | some (.normal, a, s) => k a s
  | r => r

def execC (self : Self) (P : Program) (ro : Nat) (round : Option Nat) (fn : FuncId) : Code → CAct → CSt → Option (CEx × CAct × CSt)
  | .skip, a, s => some (.normal, a, s)
  | .label _, a, s => some (.normal, a, s)
  | .region _ ops draw, a, s => cRegion self P ro ops draw a s
  | .seq x y, a, s => cThen (execC self P ro round fn x a s) (execC self P ro round fn y)
  | .cond c x y, a, s => match ceval a.tmps c with
    | some (.bool t) => bif t then execC self P ro round fn x a s else execC self P ro round fn y a s
    | _ => none
  | .scope x, a, s => execC self P ro round fn x a s
  | .block id x, a, s => match execC self P ro round fn x a s with
    | some (.exit j, a', s') => bif Nat.beq j id then some (.normal, a', s') else some (.exit j, a', s')
    | r => r
  | .loop x, a, s => cThen (execC self P ro round fn x a s) (self.again ro round fn x)
  | .rangeFunc f params assign body, a, s => cRange self P ro round fn f params assign body a s
  | .exit id, a, s => some (.exit id, a, s)
  | .ret, a, s => some (.ret, a, s)
  | _, _, _ => none

def cmarks (ro : Nat) : List Nat → Tr CObj → Option (Tr CObj)
  | [], h => some h
  | d :: r, h => match h.get d with
    | some .defs => bif Nat.ble ro d then cmarks ro r (h.set d .dead) else none
    | _ => none

def cresult (P : Program) (ts : List Value) (h : HF) : ResultVar → Option Value
  | .tmp t => some (ts.getD t undef)
  | .cell t ty => match ts.getD t undef with
    | .pointer (some ⟨b, o, none⟩) => cload P h ty b o
    | _ => none

def cresults (P : Program) (ts : List Value) (h : HF) : List ResultVar → Option (List Value)
  | [] => some []
  | r :: rs => match cresult P ts h r with
    | none => none
    | some v => match cresults P ts h rs with
      | none => none
      | some vs => some (v :: vs)

def single : List Value → Value
  | [v] => v
  | vs => .tuple vs.toArray

/-! ### Functions whose answer is told apart -/
/-- A decision tree. -/
inductive T (α : Type) where
  | fail
  | ret (a : α)
  | ite (c : Bool) (x y : T α)

def T.ev {α : Type} : T α → Option α
  | .fail => none
  | .ret a => some a
  | .ite c x y => bif c then x.ev else y.ev

def T.of {α : Type} : Option α → T α
  | some a => .ret a
  | none => .fail

abbrev ExtFn := Nat → List Value → CSt → T (Value × CSt)

def findExt : List (Nat × ExtFn) → Nat → Option ExtFn
  | [], _ => none
  | (g, x) :: r, f => bif Nat.beq g f then some x else findExt r f

def notRead (h : HF) (b : Nat) : Bool :=
  match h b with
  | some (.cells _ _ m) => !(Nat.beq m 2)
  | _ => false

/-- slices.Insert at whole numbers: always a new row; a row that 'append' had grown is gone. -/
def cinsert (ro : Nat) (base : Option Addr) (n c i : Nat) (vb m : Nat) (vs : List Value) (s : CSt) : Option (Value × CSt) :=
  bif Nat.ble 1 m && Nat.ble i n && Nat.ble ((n + m) * 8) 140737488355328 && Nat.ble c 4611686018427387904 && vs.all cellOk && notRead s.heap.get vb then
    match base, s.heap.get s.next with
    | none, none => bif Nat.beq n 0 && Nat.beq c 0 then some (.slice (some ⟨s.next, 0, none⟩) m m, { heap := s.heap.set s.next (.cells vs 1 1), next := s.next + 1 }) else none
    | some ⟨b, o, none⟩, none => match csrc s.heap.get 1 n (.slice (some ⟨b, o, none⟩) n c), s.heap.get b with
      | some cs, some (.cells os ez md) => bif cs.all cellOk then
          bif Nat.beq md 1 then
            bif Nat.ble ro b && Nat.beq ez 1 && Nat.beq (o + c) os.length && !(Nat.beq vb b) then
              some (.slice (some ⟨s.next, 0, none⟩) (n + m) (n + m), { heap := (s.heap.set b .dead).set s.next (.cells (cs.take i ++ vs ++ cs.drop i) 1 1), next := s.next + 1 })
            else none
          else bif Nat.ble (n + m) c then none
          else some (.slice (some ⟨s.next, 0, none⟩) (n + m) (n + m), { heap := s.heap.set s.next (.cells (cs.take i ++ vs ++ cs.drop i) 1 1), next := s.next + 1 })
        else none
      | _, _ => none
    | _, _ => none
  else none

def insertRun (ro : Nat) (args : List Value) (s : CSt) : Option (Value × CSt) :=
  match args with
  | [.slice base n c, .int .i64 i, .slice (some ⟨vb, vo, none⟩) m vc] =>
    match csrc s.heap.get 1 m (.slice (some ⟨vb, vo, none⟩) m vc) with
    | some vs => bif decide (0 ≤ i) then cinsert ro base n c i.toNat vb m vs s else none
    | none => none
  | _ => none

def insertExt : ExtFn := fun ro args s => .of (insertRun ro args s)

def callC (self : Self) (P : Program) (ro : Nat) (f : FuncId) (args : List Value) (s : CSt) : Option (Value × CSt) :=
  match P.funcs[f]? with
  | some fn => match fn.body with
    | some c =>
      let fin (a : CAct) (s' : CSt) : Option (Value × CSt) :=
        match cmarks ro a.marks s'.heap with
        | some h => match cresults P a.tmps h.get fn.results.toList with
          | some vs => some (single vs, { s' with heap := h })
          | none => none
        | none => none
      match execC self P ro none f c { tmps := args ++ List.replicate (fn.ntmps - args.length) undef, marks := [] } s with
      | some (.normal, a, s') => fin a s'
      | some (.ret, a, s') => fin a s'
      | _ => none
    | none => none
  | none => none

/-- A call of whatever function. -/
def callE (E : List (Nat × ExtFn)) (self : Self) (P : Program) (ro : Nat) (f : FuncId) (args : List Value) (s : CSt) : Option (Value × CSt) :=
  match findExt E f with
  | some x => (x ro args s).ev
  | none => callC self P ro f args s

def den (P : Program) (E : List (Nat × ExtFn)) : Nat → Self
  | 0 => { call := fun _ _ _ _ => none, exec := fun _ _ _ _ _ _ => none, again := fun _ _ _ _ _ _ => none }
  | k + 1 => { call := callE E (den P E k) P, exec := execC (den P E k) P, again := fun ro round fn c a s => cThen (execC (den P E k) P ro round fn c a s) ((den P E k).again ro round fn c) }

end Go.Proofs.YtjbbhccoamhbgaaD
