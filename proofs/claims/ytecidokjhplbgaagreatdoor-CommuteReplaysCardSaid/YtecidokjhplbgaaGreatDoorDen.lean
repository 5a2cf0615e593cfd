/-
  A REFERENCE RUN of the loaded programs: deterministic, over a heap of its own numbering, in which 'append' always makes a new block; rows that nobody writes are lists of Lean.
  Definitions alone; what a run of it says of the model's runs is in the text Sound.
-/
import Derived.Test.YtecidokjhplbgaaGreatDoorKinds
set_option linter.unusedVariables false
namespace Go.Proofs.YtecidokjhplbgaaGreatDoorD
open Go

inductive Tr (α : Type) where
  | nil
  | node (l : Tr α) (v : Option α) (r : Tr α)

def Tr.get {α : Type} : Tr α → Nat → Option α
  | .nil, _ => none
  | .node l v r, n => bif Nat.beq n 0 then v else bif Nat.beq (n % 2) 1 then l.get (n / 2) else r.get (n / 2 - 1)

def Tr.setAux {α : Type} (x : Option α) : Nat → Tr α → Nat → Tr α
  | 0, t, _ => t
  | k + 1, .nil, n =>
    bif Nat.beq n 0 then .node .nil x .nil
    else bif Nat.beq (n % 2) 1 then .node (setAux x k .nil (n / 2)) none .nil
    else .node .nil none (setAux x k .nil (n / 2 - 1))
  | k + 1, .node l v r, n =>
    bif Nat.beq n 0 then .node l x r
    else bif Nat.beq (n % 2) 1 then .node (setAux x k l (n / 2)) v r
    else .node l v (setAux x k r (n / 2 - 1))

def Tr.set {α : Type} (t : Tr α) (n : Nat) (x : α) : Tr α := t.setAux (some x) (n + 1) n

inductive CObj where
  | cells (vs : List CV) (esz : Nat) (mode : Nat)
  | rows (r : RC) (l : List r.den)
  | map (es : List (Value × CV))
    | keys (l : List ByteArray)
  | loop (state : LoopState) (pending : Option Code) (fn : FuncId) (tmps : List CV) (pos : List Nat) (defers : Nat)
  | defs
  | dead

structure CSt where
  heap : Tr CObj
  next : Nat

structure CAct where
  tmps : List CV
  marks : List Nat

inductive CEx where
  | normal
  | exit (id : Nat)
  | ret

mutual
def vflat : Value → Bool
  | .bool _ => true
  | .int _ _ => true
  | .string _ => true
  | .nilFunc => true
  | .nilIface => true
  | .pointer none => true
  | .slice none 0 0 => true
  | .map none => true
  | .iface _ v => vflat v
  | .agg cs => vflatA cs
  | .tuple cs => vflatA cs
  | _ => false
def vflatA : Array Value → Bool
  | ⟨l⟩ => vflatL l
def vflatL : List Value → Bool
  | [] => true
  | v :: r => vflat v && vflatL r
end

mutual
def CV.ofV : Value → CV
  | .bool b => .bool b
  | .int k n => .int k n
  | .string s => .string s
  | .nilFunc => .nilFunc
  | .nilIface => .nilIface
  | .pointer none => .pointer none
  | .slice none 0 0 => .slice none 0 0
  | .map none => .map none
  | .iface t v => .iface t (CV.ofV v)
  | .agg cs => .agg (ofVA cs)
  | .tuple cs => .tuple (ofVA cs)
  | _ => .junk
def ofVA : Array Value → Array CV
  | ⟨l⟩ => ⟨ofVL l⟩
def ofVL : List Value → List CV
  | [] => []
  | v :: r => CV.ofV v :: ofVL r
end

mutual
def flat : CV → Bool
  | .bool _ => true
  | .int _ _ => true
  | .string _ => true
  | .nilFunc => true
  | .nilIface => true
  | .pointer none => true
  | .slice none 0 0 => true
  | .map none => true
  | .iface _ v => flat v
  | .agg cs => flatA cs
  | .tuple cs => flatA cs
  | _ => false
def flatA : Array CV → Bool
  | ⟨l⟩ => flatL l
def flatL : List CV → Bool
  | [] => true
  | v :: r => flat v && flatL r
end

mutual
def CV.toV : CV → Value
  | .bool b => .bool b
  | .int k n => .int k n
  | .string s => .string s
  | .nilFunc => .nilFunc
  | .nilIface => .nilIface
  | .pointer none => .pointer none
  | .slice none 0 0 => .slice none 0 0
  | .map none => .map none
  | .iface t v => .iface t (CV.toV v)
  | .agg cs => .agg (toVA cs)
  | .tuple cs => .tuple (toVA cs)
  | _ => .nilFunc
def toVA : Array CV → Array Value
  | ⟨l⟩ => ⟨toVL l⟩
def toVL : List CV → List Value
  | [] => []
  | v :: r => CV.toV v :: toVL r
end

def kid : Nat → Code → Option Code
  | 0, .seq x _ => some x
  | 1, .seq _ y => some y
  | 0, .cond _ x _ => some x
  | 1, .cond _ _ y => some y
  | 0, .block _ x => some x
  | 0, .loop x => some x
  | 0, .scope x => some x
  | 0, .rangeFunc _ _ x _ => some x
  | 1, .rangeFunc _ _ _ y => some y
  | _, _ => none
def codeIn : List Nat → Code → Option Code
  | [], c => some c
  | d :: p, c => match codeIn p c with
    | some x => kid d x
    | none => none
def codeAt (P : Program) (f : FuncId) (p : List Nat) : Option Code :=
  match P.funcs[f]? with
  | some fn => match fn.body with
    | some c => codeIn p c
    | none => none
  | none => none

def ceval (ts : List CV) : Operand → Option CV
  | .tmp t => some (ts.getD t cundef)
  | .const v => bif vflat v then some (.ofV v) else none
  | .global _ => none
  | .func f => some (.func (.func f) #[] #[])

def evals (ρ : Operand → Option CV) : List Operand → Option (List CV)
  | [] => some []
  | x :: r => match ρ x with
    | none => none
    | some v => match evals ρ r with
      | none => none
      | some vs => some (v :: vs)

def evalsP (ρ : Operand → Option CV) : List (Nat × Operand) → Option (List (Nat × CV))
  | [] => some []
  | (i, x) :: r => match ρ x with
    | none => none
    | some v => match evalsP ρ r with
      | none => none
      | some vs => some ((i, v) :: vs)

def still {α : Type} (P : Program) : Sem α → Option α
  | .pure a => some a
  | .program k => still P (k P)
  | .mark _ k => still P k
  | _ => none

def stillF (P : Program) (s : Sem Value) : Option CV :=
  match still P s with
  | some v => bif vflat v then some (.ofV v) else none
  | none => none

def pAgg (P : Program) (t : TypeId) : Option Bool :=
  match P.underlying t with
  | some (.struct _) => some true
  | some (.array _ _) => some true
  | some _ => some false
  | none => none
def pSize (P : Program) (t : TypeId) : Option Nat := match P.info? t with | some i => some i.size | none => none
def zeroOf (i : TypeInfo) : Option CV :=
  match i.zero with
  | some z => bif vflat z then some (.ofV z) else none
  | none => none
def pZero (P : Program) (t : TypeId) : Option CV := match P.info? t with | some i => zeroOf i | none => none

def sure : List (Nat × CV) → Bool
  | [] => true
  | (_, .junk) :: _ => false
  | _ :: r => sure r

def cfill (place : Nat → Option (Nat × Nat)) (cells : Array CV) : List (Nat × CV) → Option (Array CV)
  | [] => some cells
  | (i, v) :: rest =>
    match place i with
    | none => none
    | some (off, size) =>
      bif !(Nat.beq v.cells.size size) || !(Nat.ble (off + v.cells.size) cells.size) then none
      else cfill place (v.cells.zipIdx.foldl (fun cs (c, j) => cs.setIfInBounds (off + j) c) cells) rest
def cbuilt (P : Program) (t : TypeId) (parts : List (Nat × CV)) : Option (Array CV) :=
  match P.info? t, P.underlying t with
  | some it, some (.array _ e) =>
    match zeroOf it, P.info? e with
    | some z, some ie => cfill (fun i => some (i * ie.size, ie.size)) z.cells parts
    | _, _ => none
  | some it, some (.struct fields) =>
    match zeroOf it, fields.toList.mapM (fun f => (P.info? f.type).map fun i => (f.offset, i.size)) with
    | some z, some places => cfill (places.toArray[·]?) z.cells parts
    | _, _ => none
  | _, _ => none

def cellOk : CV → Bool
  | .agg _ => false
  | .tuple _ => false
  | .junk => false
  | _ => true

abbrev HF := Nat → Option CObj

def cload (P : Program) (h : HF) (t : TypeId) (b o : Nat) : Option CV :=
  match h b with
  | some (.cells vs _ _) =>
    match pAgg P t with
    | some true => match pSize P t with
      | some n => bif Nat.ble (o + n) vs.length then some (.agg ((vs.drop o).take n).toArray) else none
      | none => none
    | some false => vs[o]?
    | none => none
  | _ => none

def setR : List CV → Nat → List CV → List CV
  | vs, _, [] => vs
  | vs, o, x :: r => setR (vs.set o x) (o + 1) r

abbrev Eff := List (Nat × CObj)

def cstoreCells (ro : Nat) (h : HF) (b o : Nat) (xs : List CV) : Option Eff :=
  match h b with
  | some (.cells vs e m) =>
    bif Nat.ble ro b && !(Nat.beq m 2) && Nat.ble (o + xs.length) vs.length && xs.all cellOk then some [(b, .cells (setR vs o xs) e m)] else none
  | _ => none

def cint (P : Program) (t : TypeId) (op : BinOp) (k : IntKind) (a : Int) (k' : IntKind) (b : Int) : Option CV :=
  match op with
  | .add => if k = k' then some (.int k (k.wrap (a + b))) else none
  | .sub => if k = k' then some (.int k (k.wrap (a - b))) else none
  | .mul => if k = k' then some (.int k (k.wrap (a * b))) else none
  | .eql => if k = k' then some (.bool (a == b)) else none
  | .neq => if k = k' then some (.bool (a != b)) else none
  | .lss => if k = k' then some (.bool (decide (a < b))) else none
  | .leq => if k = k' then some (.bool (decide (a ≤ b))) else none
  | .gtr => if k = k' then some (.bool (decide (a > b))) else none
  | .geq => if k = k' then some (.bool (decide (a ≥ b))) else none
  | op => stillF P (binOp op t (.int k a) (.int k' b))

def nilCmp (P : Program) (t : TypeId) (a b : CV) : Bool :=
  match P.underlying t, a, b with
  | some (.pointer _), .pointer (some _), .pointer none => true
  | some (.slice _), .slice (some _) _ _, .slice none 0 0 => true
  | some (.slice _), .nnil, .slice none 0 0 => true
  | some (.map _ _), .map (some _), .map none => true
  | some (.interface _), .iface _ _, .nilIface => true
  | some (.func _ _ _), .func _ _ _, .nilFunc => true
  | _, _, _ => false

def eqInts (P : Program) (xs ys : Array CV) : List Field → Option Bool
  | [] => some true
  | f :: r => bif f.name == "_" then none else match P.underlying f.type, xs[f.offset]?, ys[f.offset]? with
    | some (.int _), some (.int k a), some (.int l b) => bif decide (k = l) then
        match eqInts P xs ys r with
        | some c => some (a == b && c)
        | none => none
      else none
    | _, _, _ => none

def fieldOf (P : Program) (t : TypeId) (i : Nat) : Option Field :=
  match P.underlying t with
  | some (.struct fs) => fs[i]?
  | _ => none

def cpart (P : Program) (t : TypeId) (cs : Array CV) (o : Nat) : Option CV :=
  match pAgg P t with
  | some true => match pSize P t with
    | some n => some (.agg (cs.extract o (o + n)))
    | none => none
  | some false => cs[o]?
  | none => none

def eqParts (P : Program) (xs ys : Array CV) : List Field → Option Bool
  | [] => some true
  | f :: r => bif f.name == "_" then none else match P.underlying f.type with
    | some (.int _) => match xs[f.offset]?, ys[f.offset]? with
      | some (.int k a), some (.int l b) => bif decide (k = l) then
          match eqParts P xs ys r with
          | some c => some (a == b && c)
          | none => none
        else none
      | _, _ => none
    | some .bool => match xs[f.offset]?, ys[f.offset]? with
      | some (.bool a), some (.bool b) =>
          match eqParts P xs ys r with
          | some c => some (a == b && c)
          | none => none
      | _, _ => none
    | some (.struct gs) => bif !(P.stoodInHeld f.type) then
        match cpart P f.type xs f.offset, cpart P f.type ys f.offset with
        | some (.agg x2), some (.agg y2) => match eqInts P x2 y2 gs.toList, eqParts P xs ys r with
          | some c1, some c => some (c1 && c)
          | _, _ => none
        | _, _ => none
      else none
    | _ => none

def eqParts2 (P : Program) (xs ys : Array CV) : List Field → Option Bool
  | [] => some true
  | f :: r => bif f.name == "_" then none else match P.underlying f.type with
    | some (.int _) => match xs[f.offset]?, ys[f.offset]? with
      | some (.int k a), some (.int l b) => bif decide (k = l) then
          match eqParts2 P xs ys r with
          | some c => some (a == b && c)
          | none => none
        else none
      | _, _ => none
    | some .bool => match xs[f.offset]?, ys[f.offset]? with
      | some (.bool a), some (.bool b) =>
          match eqParts2 P xs ys r with
          | some c => some (a == b && c)
          | none => none
      | _, _ => none
    | some (.struct gs) => bif !(P.stoodInHeld f.type) then
        match cpart P f.type xs f.offset, cpart P f.type ys f.offset with
        | some (.agg x2), some (.agg y2) => match eqParts P x2 y2 gs.toList, eqParts2 P xs ys r with
          | some c1, some c => some (c1 && c)
          | _, _ => none
        | _, _ => none
      else none
    | _ => none

def structEq (P : Program) (t : TypeId) (xs ys : Array CV) : Option Bool :=
  match P.underlying t with
  | some (.struct fs) => bif !(P.stoodInHeld t) && !(P.eqGuardType P.depth t) then eqParts2 P xs ys fs.toList else none
  | _ => none

def cbinF (P : Program) (op : BinOp) (t : TypeId) (x y : Operand) (a b : CV) : Option CV :=
  bif flat a && flat b then stillF P (do eqGuard op t x y a.toV b.toV; binOp op t a.toV b.toV)
  else bif nilCmp P t a b then
    match op with
    | .eql => some (.bool false)
    | .neq => some (.bool true)
    | _ => none
  else none

def cbin (P : Program) (op : BinOp) (t : TypeId) (x y : Operand) (a b : CV) : Option CV :=
  match a, b with
  | .int k m, .int k' n => cint P t op k m k' n
  | .agg xs, .agg ys => match op, structEq P t xs ys with
    | .eql, some c => some (.bool c)
    | .neq, some c => some (.bool (!c))
    | op, _ => cbinF P op t x y (.agg xs) (.agg ys)
  | a, b => cbinF P op t x y a b

def inRange (i : Int) (n : Nat) : Bool := decide (0 ≤ i) && decide (i < (n : Int))

def cbd (v : Option CV) (y d : Nat) : Option Nat :=
  match v with
  | none => some d
  | some (.int _ i) => bif decide (0 ≤ i) && decide (i ≤ (y : Int)) then some i.toNat else none
  | some _ => none

def noHigh : Option CV → Option CV → Bool
  | none, some _ => true
  | _, _ => false

def cbounds (len cap : Nat) (lo hi mx : Option CV) : Option (Nat × Nat × Nat) :=
  match cbd mx cap cap with
  | none => none
  | some m => match cbd hi m len with
    | none => none
    | some h => match cbd lo h 0 with
      | none => none
      | some l => bif Nat.ble h m && Nat.ble l h && !(noHigh hi mx) then some (l, h, m) else none

def sliceOk (h : HF) (b z : Nat) : Bool :=
  match h b with
  | some (.cells _ ez md) => !(Nat.beq md 1) || Nat.beq ez z
  | _ => false

def optEval (ρ : Operand → Option CV) : Option Operand → Option (Option CV)
  | none => some none
  | some x => match ρ x with
    | some v => some (some v)
    | none => none

def cslice (P : Program) (hp : HF) (t : TypeId) (x : CV) (lo hi mx : Option CV) : Option CV :=
  match P.underlying t, x with
  | some .string, .string s => match mx with
    | some _ => none
    | none => match cbounds s.size s.size lo hi none with
      | some (l, h, _) => some (.string (s.extract l h))
      | none => none
  | some (.slice e), .slice none len cap => match cbounds len cap lo hi mx, pSize P e with
    | some (_, _, _), some _ => some (.slice none 0 0)
    | _, _ => none
  | some (.slice e), .slice (some ⟨b, o, none⟩) len cap => match cbounds len cap lo hi mx, pSize P e with
    | some (l, h, m), some z => bif sliceOk hp b z then some (.slice (some ⟨b, o + l * z, none⟩) (h - l) (m - l)) else none
    | _, _ => none
  | some (.pointer a), .pointer (some ⟨b, o, none⟩) => match P.underlying a with
    | some (.array n e) => match cbounds n n lo hi mx, pSize P e with
      | some (l, h, m), some z => some (.slice (some ⟨b, o + l * z, none⟩) (h - l) (m - l))
      | _, _ => none
    | _ => none
  | some (.array n e), .pointer (some ⟨b, o, none⟩) => match cbounds n n lo hi mx, pSize P e with
    | some (l, h, m), some z => some (.slice (some ⟨b, o + l * z, none⟩) (h - l) (m - l))
    | _, _ => none
  | _, _ => none

def clen (P : Program) (h : HF) (t : TypeId) (x : CV) : Option CV :=
  match P.underlying t, x with
  | some .string, .string s => some (.int .i64 s.size)
  | some (.slice _), .slice _ n _ => some (.int .i64 n)
  | some (.array n _), _ => some (.int .i64 n)
  | some (.map _ _), .map none => some (.int .i64 0)
  | some (.map _ _), .map (some r) => match h r with
    | some (.map es) => some (.int .i64 es.length)
    | _ => none
  | _, _ => none

def cpure0 (P : Program) (ρ : Operand → Option CV) (h : HF) (o : Oper) : Option CV :=
  match o.op with
  | .move x => ρ x
  | .assign x => ρ x
  | .pick c a b => match ρ c with
    | some (.bool t) => bif t then ρ a else ρ b
    | _ => none
  | .build t parts => match evalsP ρ parts.toList, pZero P t with
    | some ps, some z => bif sure ps then match cbuilt P t ps with
      | some cs => some (.agg cs)
      | none => none
      else none
    | _, _ => none
  | .load t a => match ρ a with
    | some (.pointer (some ⟨b, o, none⟩)) => cload P h t b o
    | _ => none
  | .nilCheck x => match ρ x with
    | some (.pointer (some a)) => some (.pointer (some a))
    | some (.func (.func f) a b) => some (.func (.func f) a b)
    | some (.func (.yield f) a b) => some (.func (.yield f) a b)
    | _ => none
  | .binOp op t x y _ => match ρ x, ρ y with
    | some a, some b => cbin P op t x y a b
    | _, _ => none
  | .unOp op _ x => match ρ x with
    | some v => bif flat v then stillF P (Op.unary op v.toV) else none
    | none => none
  | .convert src dst x => match ρ x with
    | some v => bif flat v then stillF P (convert src dst v.toV) else none
    | none => none
  | .makeFunc fn first captured => match fn with
    | .func f => match evals ρ first.toList, evals ρ captured.toList with
      | some a, some b => some (.func (.func f) a.toArray b.toArray)
      | _, _ => none
    | _ => none
  | .makeInterface t x => match ρ x with
    | some v => bif P.concrete t then some (.iface t v) else none
    | none => none
  | .fieldAddr t x i => match ρ x with
    | some (.pointer (some ⟨b, o, none⟩)) => match fieldOf P t i with
      | some f => match pSize P f.type with
        | some (z + 1) => some (.pointer (some ⟨b, o + f.offset, none⟩))
        | _ => none
      | none => none
    | _ => none
  | .field t x i => match ρ x with
    | some (.agg cs) => match fieldOf P t i with
      | some f => cpart P f.type cs f.offset
      | none => none
    | _ => none
  | .indexAddr t x ix => match ρ x, ρ ix with
    | some (.slice (some ⟨b, o, none⟩) len _), some (.int _ i) => match P.underlying t with
      | some (.slice e) => match pSize P e with
        | some z => bif inRange i len then some (.pointer (some ⟨b, o + i.toNat * z, none⟩)) else none
        | none => none
      | _ => none
    | some (.pointer (some ⟨b, o, none⟩)), some (.int _ i) => match P.underlying t with
      | some (.array n e) => match pSize P e with
        | some z => bif inRange i n then some (.pointer (some ⟨b, o + i.toNat * z, none⟩)) else none
        | none => none
      | _ => none
    | _, _ => none
  | .index t x ix => match ρ x, ρ ix with
    | some (.agg cs), some (.int _ i) => match P.underlying t with
      | some (.array n e) => match pSize P e with
        | some z => bif inRange i n then cpart P e cs (i.toNat * z) else none
        | none => none
      | _ => none
    | some (.string s), some (.int _ i) => match P.underlying t with
      | some .string => bif decide (0 ≤ i) then (match s[i.toNat]? with | some b => some (.int .u8 b.toNat) | none => none) else none
      | _ => none
    | _, _ => none
  | .slice t x lo hi mx => match ρ x, optEval ρ lo, optEval ρ hi, optEval ρ mx with
    | some v, some l, some hh, some m => cslice P h t v l hh m
    | _, _, _, _ => none
  | .extract x i => match ρ x with
    | some (.tuple vs) => vs[i]?
    | _ => none
  | .call { callee := .builtin .len, args, argTypes } => match evals ρ args.toList, argTypes[0]? with
    | some [x], some t => clen P h t x
    | _, _ => none
  | .call { callee := .builtin .min, args, argTypes } => match evals ρ args.toList with
    | some vs => bif flatL vs then stillF P (Builtin.min_ argTypes o.type (toVL vs).toArray) else none
    | none => none
  | .call { callee := .builtin .max, args, argTypes } => match evals ρ args.toList with
    | some vs => bif flatL vs then stillF P (Builtin.max_ argTypes o.type (toVL vs).toArray) else none
    | none => none
  | _ => none

def cpure_2 (P : Program) (ρ : Operand → Option CV) (h : HF) (o : Oper) (c : Operand) (a : Operand) (b : Operand) : Option CV := match ρ c with
    | some (.bool t) => bif t then ρ a else ρ b
    | _ => none
def cpure_3 (P : Program) (ρ : Operand → Option CV) (h : HF) (o : Oper) (t : TypeId) (parts : Array (Nat × Operand)) : Option CV := match evalsP ρ parts.toList, pZero P t with
    | some ps, some z => bif sure ps then match cbuilt P t ps with
      | some cs => some (.agg cs)
      | none => none
      else none
    | _, _ => none
def cpure_4 (P : Program) (ρ : Operand → Option CV) (h : HF) (o : Oper) (t : TypeId) (a : Operand) : Option CV := match ρ a with
    | some (.pointer (some ⟨b, o, none⟩)) => cload P h t b o
    | _ => none
def cpure_5 (P : Program) (ρ : Operand → Option CV) (h : HF) (o : Oper) (x : Operand) : Option CV := match ρ x with
    | some (.pointer (some a)) => some (.pointer (some a))
    | some (.func (.func f) a b) => some (.func (.func f) a b)
    | some (.func (.yield f) a b) => some (.func (.yield f) a b)
    | _ => none
def cpure_6 (P : Program) (ρ : Operand → Option CV) (h : HF) (o : Oper) (op : BinOp) (t : TypeId) (x : Operand) (y : Operand) : Option CV := match ρ x, ρ y with
    | some a, some b => cbin P op t x y a b
    | _, _ => none
def cpure_7 (P : Program) (ρ : Operand → Option CV) (h : HF) (o : Oper) (op : UnOp) (x : Operand) : Option CV := match ρ x with
    | some v => bif flat v then stillF P (Op.unary op v.toV) else none
    | none => none
def cpure_8 (P : Program) (ρ : Operand → Option CV) (h : HF) (o : Oper) (src : TypeId) (dst : TypeId) (x : Operand) : Option CV := match ρ x with
    | some v => bif flat v then stillF P (convert src dst v.toV) else none
    | none => none
def cpure_9 (P : Program) (ρ : Operand → Option CV) (h : HF) (o : Oper) (fn : Fn) (first : Array Operand) (captured : Array Operand) : Option CV := match fn with
    | .func f => match evals ρ first.toList, evals ρ captured.toList with
      | some a, some b => some (.func (.func f) a.toArray b.toArray)
      | _, _ => none
    | _ => none
def cpure_10 (P : Program) (ρ : Operand → Option CV) (h : HF) (o : Oper) (t : TypeId) (x : Operand) : Option CV := match ρ x with
    | some v => bif P.concrete t then some (.iface t v) else none
    | none => none
def cpure_11 (P : Program) (ρ : Operand → Option CV) (h : HF) (o : Oper) (t : TypeId) (x : Operand) (i : Nat) : Option CV := match ρ x with
    | some (.pointer (some ⟨b, o, none⟩)) => match fieldOf P t i with
      | some f => match pSize P f.type with
        | some (z + 1) => some (.pointer (some ⟨b, o + f.offset, none⟩))
        | _ => none
      | none => none
    | _ => none
def cpure_12 (P : Program) (ρ : Operand → Option CV) (h : HF) (o : Oper) (t : TypeId) (x : Operand) (i : Nat) : Option CV := match ρ x with
    | some (.agg cs) => match fieldOf P t i with
      | some f => cpart P f.type cs f.offset
      | none => none
    | _ => none
def cpure_13 (P : Program) (ρ : Operand → Option CV) (h : HF) (o : Oper) (t : TypeId) (x : Operand) (ix : Operand) : Option CV := match ρ x, ρ ix with
    | some (.slice (some ⟨b, o, none⟩) len _), some (.int _ i) => match P.underlying t with
      | some (.slice e) => match pSize P e with
        | some z => bif inRange i len then some (.pointer (some ⟨b, o + i.toNat * z, none⟩)) else none
        | none => none
      | _ => none
    | some (.pointer (some ⟨b, o, none⟩)), some (.int _ i) => match P.underlying t with
      | some (.array n e) => match pSize P e with
        | some z => bif inRange i n then some (.pointer (some ⟨b, o + i.toNat * z, none⟩)) else none
        | none => none
      | _ => none
    | _, _ => none
def cpure_14 (P : Program) (ρ : Operand → Option CV) (h : HF) (o : Oper) (t : TypeId) (x : Operand) (ix : Operand) : Option CV := match ρ x, ρ ix with
    | some (.agg cs), some (.int _ i) => match P.underlying t with
      | some (.array n e) => match pSize P e with
        | some z => bif inRange i n then cpart P e cs (i.toNat * z) else none
        | none => none
      | _ => none
    | some (.string s), some (.int _ i) => match P.underlying t with
      | some .string => bif decide (0 ≤ i) then (match s[i.toNat]? with | some b => some (.int .u8 b.toNat) | none => none) else none
      | _ => none
    | _, _ => none
def cpure_15 (P : Program) (ρ : Operand → Option CV) (h : HF) (o : Oper) (t : TypeId) (x : Operand) (lo : Option Operand) (hi : Option Operand) (mx : Option Operand) : Option CV := match ρ x, optEval ρ lo, optEval ρ hi, optEval ρ mx with
    | some v, some l, some hh, some m => cslice P h t v l hh m
    | _, _, _, _ => none
def cpure_16 (P : Program) (ρ : Operand → Option CV) (h : HF) (o : Oper) (x : Operand) (i : Nat) : Option CV := match ρ x with
    | some (.tuple vs) => vs[i]?
    | _ => none
def cpure_17 (P : Program) (ρ : Operand → Option CV) (h : HF) (o : Oper) (args : Array Operand) (argTypes : Array TypeId) : Option CV := match evals ρ args.toList, argTypes[0]? with
    | some [x], some t => clen P h t x
    | _, _ => none
def cpure_18 (P : Program) (ρ : Operand → Option CV) (h : HF) (o : Oper) (args : Array Operand) (argTypes : Array TypeId) : Option CV := match evals ρ args.toList with
    | some vs => bif flatL vs then stillF P (Builtin.min_ argTypes o.type (toVL vs).toArray) else none
    | none => none
def cpure_19 (P : Program) (ρ : Operand → Option CV) (h : HF) (o : Oper) (args : Array Operand) (argTypes : Array TypeId) : Option CV := match evals ρ args.toList with
    | some vs => bif flatL vs then stillF P (Builtin.max_ argTypes o.type (toVL vs).toArray) else none
    | none => none
def cpure (P : Program) (ρ : Operand → Option CV) (h : HF) (o : Oper) : Option CV :=
  match o.op with
  | .move x => ρ x
  | .assign x => ρ x
  | .pick c a b => cpure_2 P ρ h o c a b
  | .build t parts => cpure_3 P ρ h o t parts
  | .load t a => cpure_4 P ρ h o t a
  | .nilCheck x => cpure_5 P ρ h o x
  | .binOp op t x y _ => cpure_6 P ρ h o op t x y
  | .unOp op _ x => cpure_7 P ρ h o op x
  | .convert src dst x => cpure_8 P ρ h o src dst x
  | .makeFunc fn first captured => cpure_9 P ρ h o fn first captured
  | .makeInterface t x => cpure_10 P ρ h o t x
  | .fieldAddr t x i => cpure_11 P ρ h o t x i
  | .field t x i => cpure_12 P ρ h o t x i
  | .indexAddr t x ix => cpure_13 P ρ h o t x ix
  | .index t x ix => cpure_14 P ρ h o t x ix
  | .slice t x lo hi mx => cpure_15 P ρ h o t x lo hi mx
  | .extract x i => cpure_16 P ρ h o x i
  | .call { callee := .builtin .len, args, argTypes } => cpure_17 P ρ h o args argTypes
  | .call { callee := .builtin .min, args, argTypes } => cpure_18 P ρ h o args argTypes
  | .call { callee := .builtin .max, args, argTypes } => cpure_19 P ρ h o args argTypes
  | _ => none
theorem cpure_eq (P : Program) (ρ : Operand → Option CV) (h : HF) (o : Oper) : cpure P ρ h o = cpure0 P ρ h o := rfl

def cnew (h : HF) (id : Nat) (ob : CObj) (v : CV) : Option (CV × Eff) :=
  match h id with
  | none => some (v, [(id, ob)])
  | some _ => none

def bytesVals (s : ByteArray) : List CV := s.data.toList.map fun b => .int .u8 b.toNat

def csrc (h : HF) (z n : Nat) : CV → Option (List CV)
  | .slice none _ _ => bif Nat.beq n 0 then some [] else none
  | .slice (some ⟨b, o, none⟩) len _ => match h b with
    | some (.cells vs _ _) => bif Nat.ble n len && Nat.ble (o + n * z) vs.length then some ((vs.drop o).take (n * z)) else none
    | _ => none
  | .string s => bif Nat.beq z 1 && Nat.ble n s.size then some ((bytesVals s).take n) else none
  | _ => none

def clenOf : CV → Option Nat
  | .slice _ n _ => some n
  | .string s => some s.size
  | _ => none

def isIntT (P : Program) (t : TypeId) : Bool := match P.underlying t with | some (.int _) => true | none => true | _ => false

def cappend (P : Program) (ro id : Nat) (ts : Array TypeId) (x y : CV) (h : HF) : Option (CV × Eff) :=
  match ts[0]?, ts[1]?, x with
  | some t, some u, .slice base len cap =>
    match P.underlying t, isIntT P u with
    | some (.slice e), false =>
      match P.info? e, clenOf y with
      | some i, some n =>
        match csrc h i.size n y with
        | none => none
        | some new =>
          bif Nat.ble (len + n) cap then
            match base with
            | some ⟨b, o, none⟩ => bif Nat.beq n 0 then some (.slice base (len + n) cap, []) else
              match cstoreCells ro h b (o + len * i.size) new with
              | some ef => some (.slice base (len + n) cap, ef)
              | none => none
            | none => some (.slice base (len + n) cap, [])
            | _ => none
          else bif Nat.ble ((len + n) * i.bytes) (2 ^ 40) && Nat.ble 1 i.bytes && Nat.ble i.bytes (2 ^ 20) && Nat.ble 1 i.size && new.all cellOk then
            match zeroOf i, csrc h i.size len x with
            | some z, some old =>
              bif Nat.beq z.cells.size i.size then
                match base with
                | some ⟨b, o, none⟩ => match h b with
                  | some (.cells vs ez m) =>
                    bif Nat.beq m 1 && Nat.beq (o + cap * i.size) vs.length then
                      bif Nat.ble ro b && Nat.beq ez i.size && !(Nat.beq id b) && Nat.ble cap 4611686018427387904 then match h id with
                        | none => some (.slice (some ⟨id, 0, none⟩) (len + n) (len + n), [(b, .dead), (id, .cells (old ++ new) i.size 1)])
                        | some _ => none
                      else none
                    else bif Nat.beq m 1 && !(Nat.beq ez i.size) then none
                    else cnew h id (.cells (old ++ new) i.size 1) (.slice (some ⟨id, 0, none⟩) (len + n) (len + n))
                  | _ => none
                | none => cnew h id (.cells (old ++ new) i.size 1) (.slice (some ⟨id, 0, none⟩) (len + n) (len + n))
                | _ => none
              else none
            | _, _ => none
          else none
      | _, _ => none
    | _, _ => none
  | _, _, _ => none

def zeroRow (z : List CV) : Nat → List CV
  | 0 => []
  | n + 1 => z ++ zeroRow z n

def cmem0 (P : Program) (ρ : Operand → Option CV) (ro id : Nat) (o : Oper) (h : HF) : Option (CV × Eff) :=
  match o.op with
  | .alloc t => match pZero P t with
    | some z => bif flat z && z.cells.toList.all cellOk then cnew h id (.cells z.cells.toList 1 0) (.pointer (some ⟨id, 0, none⟩)) else none
    | none => none
  | .box _ x => match ρ x with
    | some v => bif v.cells.toList.all cellOk then cnew h id (.cells v.cells.toList 1 0) (.pointer (some ⟨id, 0, none⟩)) else none
    | none => none
  | .buildSlice t n parts => match P.underlying t with
    | some (.slice e) => match P.info? e, evalsP ρ parts.toList with
      | some i, some ps => match zeroOf i with
        | some z => bif Nat.ble (n * i.size) (2 ^ 24) && sure ps && Nat.beq z.cells.size i.size then
            match cfill (fun j => some (j * i.size, i.size)) (zeroRow z.cells.toList n).toArray ps with
            | some cs => bif cs.toList.all cellOk then cnew h id (.cells cs.toList i.size 0) (.slice (some ⟨id, 0, none⟩) n n) else none
            | none => none
          else none
        | none => none
      | _, _ => none
    | _ => none
  | .makeSlice t l c => match P.underlying t, ρ l, ρ c with
    | some (.slice e), some (.int _ n), some (.int _ m) => match P.info? e with
      | some i => match zeroOf i with
        | some z => bif decide (0 ≤ n) && decide (n ≤ m) && decide (m * i.bytes ≤ 2 ^ 40) && decide (m ≤ 2 ^ 40) && flat z && z.cells.toList.all cellOk && Nat.beq z.cells.size i.size then
            cnew h id (.cells (zeroRow z.cells.toList m.toNat) i.size 0) (.slice (some ⟨id, 0, none⟩) n.toNat m.toNat)
          else none
        | none => none
      | none => none
    | _, _, _ => none
  | .store t a x => match ρ a, ρ x with
    | some (.pointer (some ⟨b, o, none⟩)), some v => match pSize P t with
      | some n => bif Nat.beq v.cells.size n then
          match cstoreCells ro h b o v.cells.toList with
          | some ef => some (cundef, ef)
          | none => none
        else none
      | none => none
    | _, _ => none
  | .call { callee := .builtin .append, args, argTypes } => match evals ρ args.toList with
    | some [x, y] => cappend P ro id argTypes x y h
    | _ => none
  | .call { callee := .builtin .copy, args, argTypes } => match evals ρ args.toList, argTypes[0]? with
    | some [.slice base n _, y], some t => match P.underlying t with
      | some (.slice e) => match pSize P e, clenOf y with
        | some z, some m => match csrc h z (Nat.min m n) y with
          | some xs => match base with
            | some ⟨b, o, none⟩ => match cstoreCells ro h b o xs with
              | some ef => some (.int .i64 (Nat.min m n), ef)
              | none => none
            | none => some (.int .i64 (Nat.min m n), [])
            | _ => none
          | none => none
        | _, _ => none
      | _ => none
    | _, _ => none
  | .call { callee := .builtin .clear, args, argTypes } => match evals ρ args.toList, argTypes[0]? with
    | some [.slice base n _], some t => match P.underlying t with
      | some (.slice e) => match pSize P e, pZero P e with
        | some z, some v => match base with
          | none => some (.tuple #[], [])
          | some ⟨b, o, none⟩ => bif Nat.beq n 0 then some (.tuple #[], []) else bif Nat.beq v.cells.size z && flat v then
              match cstoreCells ro h b o (zeroRow v.cells.toList n) with
              | some ef => some (.tuple #[], ef)
              | none => none
            else none
          | _ => none
        | _, _ => none
      | _ => none
    | _, _ => none
  | _ => match cpure P ρ h o with
    | some v => some (v, [])
    | none => none

def cmem_0 (P : Program) (ρ : Operand → Option CV) (ro id : Nat) (o : Oper) (h : HF) (t : TypeId) : Option (CV × Eff) := match pZero P t with
    | some z => bif flat z && z.cells.toList.all cellOk then cnew h id (.cells z.cells.toList 1 0) (.pointer (some ⟨id, 0, none⟩)) else none
    | none => none
def cmem_1 (P : Program) (ρ : Operand → Option CV) (ro id : Nat) (o : Oper) (h : HF) (x : Operand) : Option (CV × Eff) := match ρ x with
    | some v => bif v.cells.toList.all cellOk then cnew h id (.cells v.cells.toList 1 0) (.pointer (some ⟨id, 0, none⟩)) else none
    | none => none
def cmem_2 (P : Program) (ρ : Operand → Option CV) (ro id : Nat) (o : Oper) (h : HF) (t : TypeId) (n : Nat) (parts : Array (Nat × Operand)) : Option (CV × Eff) := match P.underlying t with
    | some (.slice e) => match P.info? e, evalsP ρ parts.toList with
      | some i, some ps => match zeroOf i with
        | some z => bif Nat.ble (n * i.size) (2 ^ 24) && sure ps && Nat.beq z.cells.size i.size then
            match cfill (fun j => some (j * i.size, i.size)) (zeroRow z.cells.toList n).toArray ps with
            | some cs => bif cs.toList.all cellOk then cnew h id (.cells cs.toList i.size 0) (.slice (some ⟨id, 0, none⟩) n n) else none
            | none => none
          else none
        | none => none
      | _, _ => none
    | _ => none
def cmem_3 (P : Program) (ρ : Operand → Option CV) (ro id : Nat) (o : Oper) (h : HF) (t : TypeId) (l : Operand) (c : Operand) : Option (CV × Eff) := match P.underlying t, ρ l, ρ c with
    | some (.slice e), some (.int _ n), some (.int _ m) => match P.info? e with
      | some i => match zeroOf i with
        | some z => bif decide (0 ≤ n) && decide (n ≤ m) && decide (m * i.bytes ≤ 2 ^ 40) && decide (m ≤ 2 ^ 40) && flat z && z.cells.toList.all cellOk && Nat.beq z.cells.size i.size then
            cnew h id (.cells (zeroRow z.cells.toList m.toNat) i.size 0) (.slice (some ⟨id, 0, none⟩) n.toNat m.toNat)
          else none
        | none => none
      | none => none
    | _, _, _ => none
def cmem_4 (P : Program) (ρ : Operand → Option CV) (ro id : Nat) (o : Oper) (h : HF) (t : TypeId) (a : Operand) (x : Operand) : Option (CV × Eff) := match ρ a, ρ x with
    | some (.pointer (some ⟨b, o, none⟩)), some v => match pSize P t with
      | some n => bif Nat.beq v.cells.size n then
          match cstoreCells ro h b o v.cells.toList with
          | some ef => some (cundef, ef)
          | none => none
        else none
      | none => none
    | _, _ => none
def cmem_5 (P : Program) (ρ : Operand → Option CV) (ro id : Nat) (o : Oper) (h : HF) (args : Array Operand) (argTypes : Array TypeId) : Option (CV × Eff) := match evals ρ args.toList with
    | some [x, y] => cappend P ro id argTypes x y h
    | _ => none
def cmem_6 (P : Program) (ρ : Operand → Option CV) (ro id : Nat) (o : Oper) (h : HF) (args : Array Operand) (argTypes : Array TypeId) : Option (CV × Eff) := match evals ρ args.toList, argTypes[0]? with
    | some [.slice base n _, y], some t => match P.underlying t with
      | some (.slice e) => match pSize P e, clenOf y with
        | some z, some m => match csrc h z (Nat.min m n) y with
          | some xs => match base with
            | some ⟨b, o, none⟩ => match cstoreCells ro h b o xs with
              | some ef => some (.int .i64 (Nat.min m n), ef)
              | none => none
            | none => some (.int .i64 (Nat.min m n), [])
            | _ => none
          | none => none
        | _, _ => none
      | _ => none
    | _, _ => none
def cmem_7 (P : Program) (ρ : Operand → Option CV) (ro id : Nat) (o : Oper) (h : HF) (args : Array Operand) (argTypes : Array TypeId) : Option (CV × Eff) := match evals ρ args.toList, argTypes[0]? with
    | some [.slice base n _], some t => match P.underlying t with
      | some (.slice e) => match pSize P e, pZero P e with
        | some z, some v => match base with
          | none => some (.tuple #[], [])
          | some ⟨b, o, none⟩ => bif Nat.beq n 0 then some (.tuple #[], []) else bif Nat.beq v.cells.size z && flat v then
              match cstoreCells ro h b o (zeroRow v.cells.toList n) with
              | some ef => some (.tuple #[], ef)
              | none => none
            else none
          | _ => none
        | _, _ => none
      | _ => none
    | _, _ => none
def cmem (P : Program) (ρ : Operand → Option CV) (ro id : Nat) (o : Oper) (h : HF) : Option (CV × Eff) :=
  match o.op with
  | .alloc t => cmem_0 P ρ ro id o h t
  | .box _ x => cmem_1 P ρ ro id o h x
  | .buildSlice t n parts => cmem_2 P ρ ro id o h t n parts
  | .makeSlice t l c => cmem_3 P ρ ro id o h t l c
  | .store t a x => cmem_4 P ρ ro id o h t a x
  | .call { callee := .builtin .append, args, argTypes } => cmem_5 P ρ ro id o h args argTypes
  | .call { callee := .builtin .copy, args, argTypes } => cmem_6 P ρ ro id o h args argTypes
  | .call { callee := .builtin .clear, args, argTypes } => cmem_7 P ρ ro id o h args argTypes
  | _ => match cpure P ρ h o with
    | some v => some (v, [])
    | none => none
theorem cmem_eq (P : Program) (ρ : Operand → Option CV) (ro id : Nat) (o : Oper) (h : HF) : cmem P ρ ro id o h = cmem0 P ρ ro id o h := rfl

inductive T (α : Type) where
  | fail
  | ret (a : α)
  | ite (c : Bool) (x y : T α)

def T.ev {α : Type} : T α → Option α
  | .fail => none
  | .ret a => some a
  | .ite c x y => bif c then x.ev else y.ev

def T.of {α : Type} : Option α → T α
  | some a => .ret a
  | none => .fail

def T.bind {α β : Type} : T α → (α → T β) → T β
  | .fail, _ => .fail
  | .ret a, f => f a
  | .ite c x y, f => .ite c (x.bind f) (y.bind f)

def T.when {α : Type} (c : Bool) (x : T α) : T α := .ite c x .fail

def tpick (c : Bool) (x y : CV) : T CV :=
  match x, y with
  | .bool a, .bool b => .ret (.bool (bif c then a else b))
  | .int j a, .int k b => bif decide (j = k) then .ret (.int j (bif c then a else b)) else .ite c (.ret (.int j a)) (.ret (.int k b))
  | x, y => .ite c (.ret x) (.ret y)

def tidx (P : Program) (e : TypeId) (z : Nat) (cs : Array CV) (i : Int) : Nat → T CV
  | 0 => .fail
  | j + 1 => .ite (decide (i = (j : Int))) (.of (cpart P e cs (j * z))) (tidx P e z cs i j)

def tptr (b o z : Nat) (i : Int) : Nat → T CV
  | 0 => .fail
  | j + 1 => .ite (decide (i = (j : Int))) (.ret (.pointer (some ⟨b, o + j * z, none⟩))) (tptr b o z i j)

def RC.cast : (a b : RC) → List a.den → Option (List b.den)
  | .ints, .ints, l => some l
  | .bytes, .bytes, l => some l
  | .bools, .bools, l => some l
  | .strs, .strs, l => some l
  | .rets, .rets, l => some l
  | .ops, .ops, l => some l
  | .states, .states, l => some l
  | .acts, .acts, l => some l
  | .trans, .trans, l => some l
  | .edges, .edges, l => some l
  | .steps, .steps, l => some l
  | .needs, .needs, l => some l
  | .intss, .intss, l => some l
  | .opss, .opss, l => some l
  | _, _, _ => none
def fupd (h : HF) : Eff → HF
  | [] => h
  | (b, o) :: r => fupd (fun k => bif Nat.beq k b then some o else h k) r

def lpart {α : Type} (l : List α) : Option Nat → Option Nat → List α
  | none, none => l
  | some a, none => l.drop a
  | none, some b => l.take b
  | some a, some b => (l.take b).drop a

def frz1 (ro : Nat) (h : HF) : CV → Option (CV × Eff)
  | .row b z n => match h b with
    | some (.rows r l) => bif Nat.ble ro b && Nat.beq z r.z then some (.pl r l, [(b, .dead)]) else none
    | _ => none
  | .win b z s n c => match h b with
    | some (.rows r l) => bif Nat.ble ro b && Nat.beq z r.z then some (.pl r ((l.drop s).take n), [(b, .dead)]) else none
    | _ => none
  | .bool b => some (.bool b, [])
  | .int k n => some (.int k n, [])
  | .string s => some (.string s, [])
  | .pl r l => some (.pl r l, [])
  | .slice none n c => some (.slice none n c, [])
  | .empty => some (.empty, [])
  | .nnil => some (.nnil, [])
  | _ => none
def frzL (ro : Nat) (h : HF) : List CV → Option (List CV × Eff)
  | [] => some ([], [])
  | v :: r => match frz1 ro h v with
    | some (v', e) => match frzL ro (fupd h e) r with
      | some (vs, es) => some (v' :: vs, e ++ es)
      | none => none
    | none => none

def parseR (r : RC) : Nat → List CV → Option (List r.den)
  | 0, _ => some []
  | n + 1, cs => match r.of (cs.take r.z), parseR r n (cs.drop r.z) with
    | some x, some l => some (x :: l)
    | _, _ => none

def srcR (ro : Nat) (h : HF) (r : RC) : CV → T (List r.den × Eff)
  | .slice none 0 0 => .ret ([], [])
  | .nnil => .ret ([], [])
  | .empty => .ret ([], [])
  | .pl r' l => match r'.cast r l with
    | some l => .ret (l, [])
    | none => .fail
  | .row b z n => match h b with
    | some (.rows r' l) => match r'.cast r l with
      | some l => bif Nat.beq z r.z then .ret (l, []) else .fail
      | none => .fail
    | _ => .fail
  | .win b z s n c => match h b with
    | some (.rows r' l) => match r'.cast r l with
      | some l => bif Nat.beq z r.z then T.when (Nat.ble (s + n) l.length) (.ret ((l.drop s).take n, [])) else .fail
      | none => .fail
    | _ => .fail
  | .slice (some ⟨b, o, none⟩) len _ => match h b with
    | some (.cells vs _ _) => bif Nat.ble (o + len * r.z) vs.length then match frzL ro h ((vs.drop o).take (len * r.z)) with
      | some (cs, ef) => match parseR r len cs with
        | some l => .ret (l, ef)
        | none => .fail
      | none => .fail
      else .fail
    | _ => .fail
  | _ => .fail

def mkRow (h : HF) (id : Nat) (r : RC) (l : List r.den) (n : Nat) (ef : Eff) : T (CV × Eff) :=
  match h id with
  | none => .ret (.row id r.z n, ef ++ [(id, .rows r l)])
  | some _ => .fail

def roomOk (i : TypeInfo) (n : Nat) : Bool := Nat.ble (n * i.bytes) (2 ^ 40)

def zeroOk (i : TypeInfo) (z : Nat) : Bool :=
  match i.zero with
  | some v => Nat.beq v.cells.size z
  | none => false

def tappend (ro id : Nat) (r : RC) (i : TypeInfo) (x y : CV) (h : HF) : T (CV × Eff) :=
  bif Nat.ble 1 i.bytes && Nat.ble i.bytes (2 ^ 20) && Nat.beq i.size r.z && zeroOk i r.z then
    (srcR ro h r y).bind fun p => let ys := p.1; let ef := p.2
      match x with
      | .slice none 0 0 => T.when (roomOk i ys.length) (mkRow (fupd h ef) id r ys ys.length ef)
      | .empty => T.when (roomOk i ys.length) (mkRow (fupd h ef) id r ys ys.length ef)
      | .row b z n => match fupd h ef b with
        | some (.rows r' l) => match r'.cast r l with
          | some l => bif Nat.ble ro b && Nat.beq z r.z then
              T.when (roomOk i (n + ys.length)) (mkRow (fupd h ef) id r (l ++ ys) (n + ys.length) (ef ++ [(b, .dead)])) else .fail
          | none => .fail
        | _ => .fail
      | .win b z s n c => match fupd h ef b with
        | some (.rows r' l) => match r'.cast r l with
          | some l => bif Nat.ble ro b && Nat.beq z r.z then
              .ite (Nat.ble (n + ys.length) c)
                (T.when (Nat.ble (s + c) l.length) (.ret (.win b z s (n + ys.length) c, ef ++ [(b, .rows r (l.take (s + n) ++ ys ++ l.drop (s + n + ys.length)))])))
                (T.when (roomOk i (n + ys.length) && Nat.beq (s + c) l.length) (mkRow (fupd h ef) id r ((l.drop s).take n ++ ys) (n + ys.length) (ef ++ [(b, .dead)])))
            else .fail
          | none => .fail
        | _ => .fail
      | .slice (some ⟨b, o, none⟩) 0 0 => match fupd h ef b with
        | some (.cells vs ez 0) => T.when (roomOk i ys.length) (mkRow (fupd h ef) id r ys ys.length ef)
        | _ => .fail
      | .slice (some ⟨b, o, none⟩) len cap => match fupd h ef b with
        | some (.cells vs ez 0) => (srcR ro (fupd h ef) r x).bind fun q => T.when (roomOk i (q.1.length + ys.length) && Nat.blt cap (len + ys.length)) (mkRow (fupd h (ef ++ q.2)) id r (q.1 ++ ys) (q.1.length + ys.length) (ef ++ q.2))
        | _ => .fail
      | _ => .fail
  else .fail

def tbnd (v : Option CV) (y : Nat) : T (Option Nat) :=
  match v with
  | none => .ret none
  | some (.int _ i) => T.when (decide (0 ≤ i) && decide (i ≤ (y : Int))) (.ret (some i.toNat))
  | some _ => .fail

def lo0 : Option Nat → Nat
  | none => 0
  | some a => a
def hi0 (n : Nat) : Option Nat → Nat
  | none => n
  | some m => m
def noLow : Option CV → Bool
  | none => true
  | some _ => false

def isZero : Option CV → Bool
  | some (.int _ 0) => true
  | _ => false

def trange (lo hi : Option CV) (n : Nat) (k : Option Nat → Option Nat → T CV) : T CV :=
  (tbnd hi n).bind fun b => (tbnd lo (hi0 n b)).bind fun a => k a b

def trangeC (lo hi : Option CV) (n c : Nat) (k : Option Nat → Option Nat → T CV) : T CV :=
  (tbnd hi c).bind fun b => (tbnd lo (hi0 n b)).bind fun a => k a b
def tr3 (lo hi : Option CV) (mv : CV) (n : Nat) (k : Nat → Nat → Nat → T CV) : T CV :=
  (tbnd (some mv) n).bind fun m => match hi with
    | none => .fail
    | some hv => (tbnd (some hv) (lo0 m)).bind fun b => (tbnd lo (lo0 b)).bind fun a => k (lo0 a) (lo0 b) (lo0 m)

def tslice (P : Program) (t : TypeId) (x : CV) (lo hi mx : Option CV) (old : T CV) : T CV :=
  match x with
  | .pl r l => match P.underlying t with
    | some (.slice e) => match pSize P e with
      | some z => bif Nat.beq z r.z then
          bif noLow lo && (isZero mx && isZero hi) then .ret .empty
          else match mx with
            | none => trange lo hi l.length fun a b => .ret (.pl r (lpart l a b))
            | some _ => .fail
        else .fail
      | none => .fail
    | _ => .fail
  | .row b z n => match P.underlying t with
    | some (.slice e) => match pSize P e with
      | some z' => bif Nat.beq z' z then
          bif noLow lo && (isZero mx && isZero hi) then .ret .empty
          else match mx with
            | none => trange lo hi n fun a c => .ret (.win b z (lo0 a) (hi0 n c - lo0 a) (n - lo0 a))
            | some mv => tr3 lo hi mv n fun a c m => .ret (.win b z a (c - a) (m - a))
        else .fail
      | none => .fail
    | _ => .fail
  | .win b z s n c => match P.underlying t with
    | some (.slice e) => match pSize P e with
      | some z' => bif Nat.beq z' z then match mx with
          | none => trangeC lo hi n c fun a d => .ret (.win b z (s + lo0 a) (hi0 n d - lo0 a) (c - lo0 a))
          | some _ => .fail
        else .fail
      | none => .fail
    | _ => .fail
  | _ => old

def loadL (P : Program) (t : TypeId) (cs : List CV) : Option CV :=
  match pAgg P t with
  | some true => match pSize P t with
    | some n => bif Nat.ble n cs.length then some (.agg (cs.take n).toArray) else none
    | none => none
  | some false => cs[0]?
  | none => none

def opSame : Operand → Operand → Bool
  | .tmp a, .tmp b => Nat.beq a b
  | _, _ => false

def isVoid : CV → Bool
  | .slice none 0 0 => true
  | .empty => true
  | _ => false
def nested : RC → Bool
  | .intss => true
  | .opss => true
  | _ => false
def onCells : CV → Bool
  | .slice (some _) _ _ => true
  | _ => false
def tzeros (P : Program) (ro id : Nat) (e u : TypeId) (x y : CV) (h : HF) : T (CV × Eff) :=
  match P.underlying u, y, kindOf e, P.info? e with
  | some (.int _), .int .i64 n, some r, some i => match zeroOf i with
    | some z => match r.of z.cells.toList with
      | some x0 => bif Nat.ble 1 i.bytes && Nat.ble i.bytes (2 ^ 20) && Nat.beq i.size r.z && Nat.beq z.cells.size r.z then
          bif isVoid x then .ite (n == 0) (.ret (x, [])) (T.when (decide (1 ≤ n) && decide (n ≤ 2 ^ 40) && roomOk i n.toNat) (mkRow h id r (List.replicate n.toNat x0) n.toNat []))
          else match x with
            | .row b zz m => match h b with
              | some (.rows r' l) => match r'.cast r l with
                | some l => bif Nat.ble ro b && Nat.beq zz r.z then
                    T.when (decide (0 ≤ n) && decide (n ≤ 2 ^ 40) && roomOk i (m + n.toNat)) (mkRow h id r (l ++ List.replicate n.toNat x0) (m + n.toNat) [(b, .dead)]) else .fail
                | none => .fail
              | _ => .fail
            | _ => .fail
          else .fail
      | none => .fail
    | none => .fail
  | _, _, _, _ => .fail

def keyOf : CV → Option Value
  | .int k n => some (.int k n)
  | .string s => some (.string s)
  | _ => none
def keyEq : Value → Value → Option Bool
  | .int k a, .int k' b => if k = k' then some (a == b) else none
  | .string a, .string b => some (a == b)
  | _, _ => none
def keyKind (P : Program) (t : TypeId) (k : Value) : Bool :=
  match P.underlying t, k with
  | some (.int _), .int _ _ => true
  | some .string, .string _ => true
  | _, _ => false
def tfind (k : Value) : List (Value × CV) → Nat → T (Option (Nat × CV))
  | [], _ => .ret none
  | e :: r, i => match keyEq k e.1 with
    | some c => .ite c (.ret (some (i, e.2))) (tfind k r (i + 1))
    | none => .fail
def entriesOf (h : HF) : CV → Option (List (Value × CV))
  | .map none => some []
  | .map (some b) => match h b with
    | some (.map es) => some es
    | _ => none
  | _ => none
def tlookup0 (P : Program) (t : TypeId) (x ix : CV) (ok : Bool) (h : HF) : T (CV × Eff) :=
  match P.underlying t, keyOf ix, entriesOf h x with
  | some (.map kt et), some k, some es => bif keyKind P kt k then (tfind k es 0).bind fun r => match r with
      | some (_, v) => .ret (bif ok then .tuple #[v, .bool true] else v, [])
      | none => match pZero P et with
        | some z => .ret (bif ok then .tuple #[z, .bool false] else z, [])
        | none => .fail
      else .fail
  | _, _, _ => .fail
def tmapSet0 (P : Program) (ro : Nat) (t : TypeId) (m ix x : CV) (h : HF) : T (CV × Eff) :=
  match P.underlying t, keyOf ix, m with
  | some (.map kt _), some k, .map (some b) => match h b with
    | some (.map es) => bif keyKind P kt k && Nat.ble ro b then (tfind k es 0).bind fun r => match r with
        | some (i, _) => .ret (cundef, [(b, .map (es.set i (k, x)))])
        | none => .ret (cundef, [(b, .map (es ++ [(k, x)]))])
      else .fail
    | _ => .fail
  | _, _, _ => .fail

def hasK : List ByteArray → ByteArray → Bool
  | [], _ => false
  | x :: r, s => (s == x) || hasK r s
def putK (l : List ByteArray) (s : ByteArray) : List ByteArray := bif hasK l s then l else l ++ [s]
def strKey (P : Program) (kt : TypeId) : Bool := match P.underlying kt with | some .string => true | _ => false
def isMarks (P : Program) (t : TypeId) : Bool := match P.underlying t with
  | some (.map kt et) => strKey P kt && (match P.underlying et with
    | some (.pointer s) => (match P.underlying s with | some (.struct fs) => fs.isEmpty | _ => false)
    | _ => false)
  | _ => false
def tlookK (P : Program) (t : TypeId) (l : List ByteArray) (ix : CV) (ok : Bool) : T (CV × Eff) :=
  match P.underlying t, ix with
  | some (.map kt et), .string s => bif strKey P kt then match pZero P et with
    | some z => .ite (hasK l s) (.ret (bif ok then .tuple #[.junk, .bool true] else .junk, [])) (.ret (bif ok then .tuple #[z, .bool false] else z, []))
    | none => .fail
    else .fail
  | _, _ => .fail
def tsetK (P : Program) (ro : Nat) (t : TypeId) (b : Nat) (l : List ByteArray) (ix : CV) : T (CV × Eff) :=
  match P.underlying t, ix with
  | some (.map kt _), .string s => bif strKey P kt && Nat.ble ro b then .ret (cundef, [(b, .keys (putK l s))]) else .fail
  | _, _ => .fail
def keysAt (h : HF) : CV → Option (Nat × List ByteArray)
  | .map (some b) => match h b with
    | some (.keys l) => some (b, l)
    | _ => none
  | _ => none
def tlookup (P : Program) (t : TypeId) (x ix : CV) (ok : Bool) (h : HF) : T (CV × Eff) :=
  match keysAt h x with
  | some (_, l) => tlookK P t l ix ok
  | none => tlookup0 P t x ix ok h
def tmapSet (P : Program) (ro : Nat) (t : TypeId) (m ix x : CV) (h : HF) : T (CV × Eff) :=
  match keysAt h m with
  | some (b, l) => tsetK P ro t b l ix
  | none => tmapSet0 P ro t m ix x h
def tstr (P : Program) (src dst : TypeId) (b z n : Nat) (h : HF) : T (CV × Eff) :=
  match P.underlying src, P.underlying dst, h b with
  | some (.slice e), some .string, some (.rows .bytes l) => match P.underlying e with
    | some (.int .u8) => bif Nat.beq z 1 && Nat.beq n l.length then .ret (.string ⟨l.toArray⟩, []) else .fail
    | _ => .fail
  | _, _, _ => .fail

def tmem0 (P : Program) (ρ : Operand → Option CV) (ro id : Nat) (o : Oper) (h : HF) : T (CV × Eff) :=
  match o.op with
  | .pick c a b => match ρ c, ρ a, ρ b with
    | some (.bool t), some x, some y => (tpick t x y).bind fun v => .ret (v, [])
    | _, _, _ => .fail
  | .index t x ix => match ρ x, ρ ix with
    | some (.agg cs), some (.int _ i) => match P.underlying t with
      | some (.array n e) => match pSize P e with
        | some z => (tidx P e z cs i n).bind fun v => .ret (v, [])
        | none => .fail
      | _ => .fail
    | some (.string s), some (.int _ i) => match P.underlying t with
      | some .string => T.when (inRange i s.size) (.ret (.int .u8 (s.data.toList.getD i.toNat 0).toNat, []))
      | _ => .fail
    | _, _ => .of (cmem P ρ ro id o h)
  | .binOp .eql t x y u => match ρ x, ρ y with
    | some (.pl r l), some (.slice none 0 0) => match P.underlying t with
      | some (.slice _) => T.when (!l.isEmpty) (.ret (.bool false, []))
      | _ => .fail
    | _, _ => .of (cmem P ρ ro id o h)
  | .binOp .rem t x y u => match ρ x, ρ y with
    | some (.int .i64 a), some (.int .i64 b) => T.when (b != 0) (.ret (.int .i64 (a.tmod b), []))
    | _, _ => .of (cmem P ρ ro id o h)
  | .binOp .quo t x y u => match ρ x, ρ y with
    | some (.int .i64 a), some (.int .i64 b) => T.when (b != 0) (.ret (.int .i64 (IntKind.i64.wrap (a.tdiv b)), []))
    | _, _ => .of (cmem P ρ ro id o h)
  | .load t a => match ρ a with
    | some (.kptr cs) => (T.of (loadL P t cs)).bind fun v => .ret (v, [])
    | some (.rptr b z i j) => match h b with
      | some (.rows r l) => bif Nat.beq z r.z then T.when (Nat.blt i l.length) ((T.of (loadL P t ((r.cells (l.getD i r.zero)).drop j))).bind fun v => .ret (v, [])) else .fail
      | _ => .fail
    | _ => .of (cmem P ρ ro id o h)
  | .store t a x => match ρ a, ρ x with
    | some (.rptr b z i j), some v => match pSize P t with
      | some n => bif Nat.beq v.cells.size n then match frzL ro h v.cells.toList with
        | some (cs, ef) => match fupd h ef b with
          | some (.rows r l) => bif Nat.beq z r.z && Nat.ble ro b && Nat.ble (j + n) r.z then
              T.when (Nat.blt i l.length) (match r.of (setR (r.cells (l.getD i r.zero)) j cs) with
                | some y => .ret (cundef, ef ++ [(b, .rows r (l.set i y))])
                | none => .fail)
            else .fail
          | _ => .fail
        | none => .fail
        else .fail
      | none => .fail
    | _, _ => .of (cmem P ρ ro id o h)
  | .nilCheck x => match ρ x with
    | some (.kptr cs) => .ret (.kptr cs, [])
    | some (.rptr b z i j) => .ret (.rptr b z i j, [])
    | _ => .of (cmem P ρ ro id o h)
  | .fieldAddr t x i => match ρ x with
    | some (.kptr cs) => match fieldOf P t i with
      | some f => match pSize P f.type with
        | some (z + 1) => bif Nat.ble (f.offset + (z + 1)) cs.length then .ret (.kptr (cs.drop f.offset), []) else .fail
        | _ => .fail
      | none => .fail
    | some (.rptr b z k j) => match fieldOf P t i with
      | some f => match pSize P f.type with
        | some (_ + 1) => .ret (.rptr b z k (j + f.offset), [])
        | _ => .fail
      | none => .fail
    | _ => .of (cmem P ρ ro id o h)
  | .indexAddr t x ix => match ρ x, ρ ix with
    | some (.pl r l), some (.int _ i) => match P.underlying t with
      | some (.slice e) => match pSize P e with
        | some z => bif Nat.beq z r.z then T.when (inRange i l.length) (.ret (.kptr (r.cells (l.getD i.toNat r.zero)), [])) else .fail
        | none => .fail
      | _ => .fail
    | some (.row b z n), some (.int _ i) => match P.underlying t with
      | some (.slice e) => match pSize P e with
        | some z' => bif Nat.beq z' z then T.when (inRange i n) (.ret (.rptr b z i.toNat 0, [])) else .fail
        | none => .fail
      | _ => .fail
    | some (.win b z s n c), some (.int _ i) => match P.underlying t with
      | some (.slice e) => match pSize P e with
        | some z' => bif Nat.beq z' z then T.when (inRange i n) (.ret (.rptr b z (s + i.toNat) 0, [])) else .fail
        | none => .fail
      | _ => .fail
    | some (.slice (some ⟨b, o, none⟩) len _), some (.int _ i) => match P.underlying t with
      | some (.slice e) => match pSize P e with
        | some z => (tptr b o z i len).bind fun v => .ret (v, [])
        | none => .fail
      | _ => .fail
    | some (.pointer (some ⟨b, o, none⟩)), some (.int _ i) => match P.underlying t with
      | some (.array n e) => match pSize P e with
        | some z => (tptr b o z i n).bind fun v => .ret (v, [])
        | none => .fail
      | _ => .fail
    | _, _ => .of (cmem P ρ ro id o h)
  | .slice t x lo hi mx => match ρ x, optEval ρ lo, optEval ρ hi, optEval ρ mx with
    | some v, some l, some hh, some m => (tslice P t v l hh m (.of (cslice P h t v l hh m))).bind fun v => .ret (v, [])
    | _, _, _, _ => .fail
  | .makeSlice t l c => match P.underlying t, ρ l with
    | some (.slice e), some (.int _ n) => match kindOf e, P.info? e with
      | some r, some i => match zeroOf i with
        | some z => match r.of z.cells.toList with
          | some x0 => bif opSame l c && Nat.beq i.size r.z && Nat.beq z.cells.size r.z then
              T.when (decide (0 ≤ n) && decide (n * i.bytes ≤ 2 ^ 40) && decide (n ≤ 2 ^ 40)) (mkRow h id r (List.replicate n.toNat x0) n.toNat []) else .of (cmem P ρ ro id o h)
          | none => .of (cmem P ρ ro id o h)
        | none => .fail
      | _, _ => .of (cmem P ρ ro id o h)
    | _, _ => .of (cmem P ρ ro id o h)
  | .call { callee := .builtin .len, args, argTypes } => match evals ρ args.toList, argTypes[0]? with
    | some [.pl r l], some t => match P.underlying t with
      | some (.slice _) => .ret (.int .i64 l.length, [])
      | _ => .fail
    | some [.row b z n], some t => match P.underlying t with
      | some (.slice _) => .ret (.int .i64 n, [])
      | _ => .fail
    | some [.win b z s n c], some t => match P.underlying t with
      | some (.slice _) => .ret (.int .i64 n, [])
      | _ => .fail
    | some [.empty], some t => match P.underlying t with
      | some (.slice _) => .ret (.int .i64 0, [])
      | _ => .fail
    | _, _ => .of (cmem P ρ ro id o h)
  | .call { callee := .builtin .append, args, argTypes } => match evals ρ args.toList, argTypes[0]?, argTypes[1]? with
    | some [x, y], some t, some u => match P.underlying t, isIntT P u with
      | some (.slice e), false => match kindOf e, P.info? e with
        | some r, some i => bif nested r && onCells x then .of (cmem P ρ ro id o h) else tappend ro id r i x y h
        | _, _ => .of (cmem P ρ ro id o h)
      | some (.slice e), true => tzeros P ro id e u x y h
      | _, _ => .fail
    | _, _, _ => .fail
  | .call { callee := .builtin .clear, args, argTypes } => match evals ρ args.toList, argTypes[0]? with
    | some [.win b z s n c], some t => match P.underlying t with
      | some (.slice e) => match pSize P e, pZero P e, h b with
        | some 1, some (.int .i64 0), some (.rows .ints l) => bif Nat.ble ro b && Nat.beq z 1 then .ret (.tuple #[], [(b, .rows .ints (l.take s ++ List.replicate n 0 ++ l.drop (s + n)))]) else .fail
        | _, _, _ => .fail
      | _ => .fail
    | _, _ => .of (cmem P ρ ro id o h)
  | .call { callee := .builtin .cap, args, argTypes } => match evals ρ args.toList, argTypes[0]? with
    | some [.slice none 0 0], some t => match P.underlying t with
      | some (.slice _) => .ret (.int .i64 0, [])
      | _ => .fail
    | some [.empty], some t => match P.underlying t with
      | some (.slice _) => .ret (.int .i64 0, [])
      | _ => .fail
    | _, _ => .of (cmem P ρ ro id o h)
  | .makeMap t none => .of (cnew h id (bif isMarks P t then .keys [] else .map []) (.map (some id)))
  | .lookup t x ix ok => match ρ x, ρ ix with
    | some m, some k => tlookup P t m k ok h
    | _, _ => .fail
  | .mapUpdate t m k x => match ρ m, ρ k, ρ x with
    | some m, some k, some x => tmapSet P ro t m k x h
    | _, _, _ => .fail
  | .insert t m k x => match ρ m, ρ k, ρ x with
    | some m, some k, some x => tmapSet P ro t m k x h
    | _, _, _ => .fail
  | .convert src dst x => match ρ x with
    | some (.row b z n) => tstr P src dst b z n h
    | _ => .of (cmem P ρ ro id o h)
  | _ => .of (cmem P ρ ro id o h)

def tmem_0 (P : Program) (ρ : Operand → Option CV) (ro id : Nat) (o : Oper) (h : HF) (c : Operand) (a : Operand) (b : Operand) : T (CV × Eff) := match ρ c, ρ a, ρ b with
    | some (.bool t), some x, some y => (tpick t x y).bind fun v => .ret (v, [])
    | _, _, _ => .fail
def tmem_1 (P : Program) (ρ : Operand → Option CV) (ro id : Nat) (o : Oper) (h : HF) (t : TypeId) (x : Operand) (ix : Operand) : T (CV × Eff) := match ρ x, ρ ix with
    | some (.agg cs), some (.int _ i) => match P.underlying t with
      | some (.array n e) => match pSize P e with
        | some z => (tidx P e z cs i n).bind fun v => .ret (v, [])
        | none => .fail
      | _ => .fail
    | some (.string s), some (.int _ i) => match P.underlying t with
      | some .string => T.when (inRange i s.size) (.ret (.int .u8 (s.data.toList.getD i.toNat 0).toNat, []))
      | _ => .fail
    | _, _ => .of (cmem P ρ ro id o h)
def tmem_2 (P : Program) (ρ : Operand → Option CV) (ro id : Nat) (o : Oper) (h : HF) (t : TypeId) (x : Operand) (y : Operand) (u : TypeId) : T (CV × Eff) := match ρ x, ρ y with
    | some (.pl r l), some (.slice none 0 0) => match P.underlying t with
      | some (.slice _) => T.when (!l.isEmpty) (.ret (.bool false, []))
      | _ => .fail
    | _, _ => .of (cmem P ρ ro id o h)
def tmem_3 (P : Program) (ρ : Operand → Option CV) (ro id : Nat) (o : Oper) (h : HF) (t : TypeId) (x : Operand) (y : Operand) (u : TypeId) : T (CV × Eff) := match ρ x, ρ y with
    | some (.int .i64 a), some (.int .i64 b) => T.when (b != 0) (.ret (.int .i64 (a.tmod b), []))
    | _, _ => .of (cmem P ρ ro id o h)
def tmem_4 (P : Program) (ρ : Operand → Option CV) (ro id : Nat) (o : Oper) (h : HF) (t : TypeId) (x : Operand) (y : Operand) (u : TypeId) : T (CV × Eff) := match ρ x, ρ y with
    | some (.int .i64 a), some (.int .i64 b) => T.when (b != 0) (.ret (.int .i64 (IntKind.i64.wrap (a.tdiv b)), []))
    | _, _ => .of (cmem P ρ ro id o h)
def tmem_5 (P : Program) (ρ : Operand → Option CV) (ro id : Nat) (o : Oper) (h : HF) (t : TypeId) (a : Operand) : T (CV × Eff) := match ρ a with
    | some (.kptr cs) => (T.of (loadL P t cs)).bind fun v => .ret (v, [])
    | some (.rptr b z i j) => match h b with
      | some (.rows r l) => bif Nat.beq z r.z then T.when (Nat.blt i l.length) ((T.of (loadL P t ((r.cells (l.getD i r.zero)).drop j))).bind fun v => .ret (v, [])) else .fail
      | _ => .fail
    | _ => .of (cmem P ρ ro id o h)
def tmem_6 (P : Program) (ρ : Operand → Option CV) (ro id : Nat) (o : Oper) (h : HF) (t : TypeId) (a : Operand) (x : Operand) : T (CV × Eff) := match ρ a, ρ x with
    | some (.rptr b z i j), some v => match pSize P t with
      | some n => bif Nat.beq v.cells.size n then match frzL ro h v.cells.toList with
        | some (cs, ef) => match fupd h ef b with
          | some (.rows r l) => bif Nat.beq z r.z && Nat.ble ro b && Nat.ble (j + n) r.z then
              T.when (Nat.blt i l.length) (match r.of (setR (r.cells (l.getD i r.zero)) j cs) with
                | some y => .ret (cundef, ef ++ [(b, .rows r (l.set i y))])
                | none => .fail)
            else .fail
          | _ => .fail
        | none => .fail
        else .fail
      | none => .fail
    | _, _ => .of (cmem P ρ ro id o h)
def tmem_7 (P : Program) (ρ : Operand → Option CV) (ro id : Nat) (o : Oper) (h : HF) (x : Operand) : T (CV × Eff) := match ρ x with
    | some (.kptr cs) => .ret (.kptr cs, [])
    | some (.rptr b z i j) => .ret (.rptr b z i j, [])
    | _ => .of (cmem P ρ ro id o h)
def tmem_8 (P : Program) (ρ : Operand → Option CV) (ro id : Nat) (o : Oper) (h : HF) (t : TypeId) (x : Operand) (i : Nat) : T (CV × Eff) := match ρ x with
    | some (.kptr cs) => match fieldOf P t i with
      | some f => match pSize P f.type with
        | some (z + 1) => bif Nat.ble (f.offset + (z + 1)) cs.length then .ret (.kptr (cs.drop f.offset), []) else .fail
        | _ => .fail
      | none => .fail
    | some (.rptr b z k j) => match fieldOf P t i with
      | some f => match pSize P f.type with
        | some (_ + 1) => .ret (.rptr b z k (j + f.offset), [])
        | _ => .fail
      | none => .fail
    | _ => .of (cmem P ρ ro id o h)
def tmem_9 (P : Program) (ρ : Operand → Option CV) (ro id : Nat) (o : Oper) (h : HF) (t : TypeId) (x : Operand) (ix : Operand) : T (CV × Eff) := match ρ x, ρ ix with
    | some (.pl r l), some (.int _ i) => match P.underlying t with
      | some (.slice e) => match pSize P e with
        | some z => bif Nat.beq z r.z then T.when (inRange i l.length) (.ret (.kptr (r.cells (l.getD i.toNat r.zero)), [])) else .fail
        | none => .fail
      | _ => .fail
    | some (.row b z n), some (.int _ i) => match P.underlying t with
      | some (.slice e) => match pSize P e with
        | some z' => bif Nat.beq z' z then T.when (inRange i n) (.ret (.rptr b z i.toNat 0, [])) else .fail
        | none => .fail
      | _ => .fail
    | some (.win b z s n c), some (.int _ i) => match P.underlying t with
      | some (.slice e) => match pSize P e with
        | some z' => bif Nat.beq z' z then T.when (inRange i n) (.ret (.rptr b z (s + i.toNat) 0, [])) else .fail
        | none => .fail
      | _ => .fail
    | some (.slice (some ⟨b, o, none⟩) len _), some (.int _ i) => match P.underlying t with
      | some (.slice e) => match pSize P e with
        | some z => (tptr b o z i len).bind fun v => .ret (v, [])
        | none => .fail
      | _ => .fail
    | some (.pointer (some ⟨b, o, none⟩)), some (.int _ i) => match P.underlying t with
      | some (.array n e) => match pSize P e with
        | some z => (tptr b o z i n).bind fun v => .ret (v, [])
        | none => .fail
      | _ => .fail
    | _, _ => .of (cmem P ρ ro id o h)
def tmem_10 (P : Program) (ρ : Operand → Option CV) (ro id : Nat) (o : Oper) (h : HF) (t : TypeId) (x : Operand) (lo : Option Operand) (hi : Option Operand) (mx : Option Operand) : T (CV × Eff) := match ρ x, optEval ρ lo, optEval ρ hi, optEval ρ mx with
    | some v, some l, some hh, some m => (tslice P t v l hh m (.of (cslice P h t v l hh m))).bind fun v => .ret (v, [])
    | _, _, _, _ => .fail
def tmem_11 (P : Program) (ρ : Operand → Option CV) (ro id : Nat) (o : Oper) (h : HF) (t : TypeId) (l : Operand) (c : Operand) : T (CV × Eff) := match P.underlying t, ρ l with
    | some (.slice e), some (.int _ n) => match kindOf e, P.info? e with
      | some r, some i => match zeroOf i with
        | some z => match r.of z.cells.toList with
          | some x0 => bif opSame l c && Nat.beq i.size r.z && Nat.beq z.cells.size r.z then
              T.when (decide (0 ≤ n) && decide (n * i.bytes ≤ 2 ^ 40) && decide (n ≤ 2 ^ 40)) (mkRow h id r (List.replicate n.toNat x0) n.toNat []) else .of (cmem P ρ ro id o h)
          | none => .of (cmem P ρ ro id o h)
        | none => .fail
      | _, _ => .of (cmem P ρ ro id o h)
    | _, _ => .of (cmem P ρ ro id o h)
def tmem_12 (P : Program) (ρ : Operand → Option CV) (ro id : Nat) (o : Oper) (h : HF) (args : Array Operand) (argTypes : Array TypeId) : T (CV × Eff) := match evals ρ args.toList, argTypes[0]? with
    | some [.pl r l], some t => match P.underlying t with
      | some (.slice _) => .ret (.int .i64 l.length, [])
      | _ => .fail
    | some [.row b z n], some t => match P.underlying t with
      | some (.slice _) => .ret (.int .i64 n, [])
      | _ => .fail
    | some [.win b z s n c], some t => match P.underlying t with
      | some (.slice _) => .ret (.int .i64 n, [])
      | _ => .fail
    | some [.empty], some t => match P.underlying t with
      | some (.slice _) => .ret (.int .i64 0, [])
      | _ => .fail
    | _, _ => .of (cmem P ρ ro id o h)
def tmem_13 (P : Program) (ρ : Operand → Option CV) (ro id : Nat) (o : Oper) (h : HF) (args : Array Operand) (argTypes : Array TypeId) : T (CV × Eff) := match evals ρ args.toList, argTypes[0]?, argTypes[1]? with
    | some [x, y], some t, some u => match P.underlying t, isIntT P u with
      | some (.slice e), false => match kindOf e, P.info? e with
        | some r, some i => bif nested r && onCells x then .of (cmem P ρ ro id o h) else tappend ro id r i x y h
        | _, _ => .of (cmem P ρ ro id o h)
      | some (.slice e), true => tzeros P ro id e u x y h
      | _, _ => .fail
    | _, _, _ => .fail
def tmem_14 (P : Program) (ρ : Operand → Option CV) (ro id : Nat) (o : Oper) (h : HF) (args : Array Operand) (argTypes : Array TypeId) : T (CV × Eff) := match evals ρ args.toList, argTypes[0]? with
    | some [.win b z s n c], some t => match P.underlying t with
      | some (.slice e) => match pSize P e, pZero P e, h b with
        | some 1, some (.int .i64 0), some (.rows .ints l) => bif Nat.ble ro b && Nat.beq z 1 then .ret (.tuple #[], [(b, .rows .ints (l.take s ++ List.replicate n 0 ++ l.drop (s + n)))]) else .fail
        | _, _, _ => .fail
      | _ => .fail
    | _, _ => .of (cmem P ρ ro id o h)
def tmem_15 (P : Program) (ρ : Operand → Option CV) (ro id : Nat) (o : Oper) (h : HF) (args : Array Operand) (argTypes : Array TypeId) : T (CV × Eff) := match evals ρ args.toList, argTypes[0]? with
    | some [.slice none 0 0], some t => match P.underlying t with
      | some (.slice _) => .ret (.int .i64 0, [])
      | _ => .fail
    | some [.empty], some t => match P.underlying t with
      | some (.slice _) => .ret (.int .i64 0, [])
      | _ => .fail
    | _, _ => .of (cmem P ρ ro id o h)
def tmem_17 (P : Program) (ρ : Operand → Option CV) (ro id : Nat) (o : Oper) (h : HF) (t : TypeId) (x : Operand) (ix : Operand) (ok : Bool) : T (CV × Eff) := match ρ x, ρ ix with
    | some m, some k => tlookup P t m k ok h
    | _, _ => .fail
def tmem_18 (P : Program) (ρ : Operand → Option CV) (ro id : Nat) (o : Oper) (h : HF) (t : TypeId) (m : Operand) (k : Operand) (x : Operand) : T (CV × Eff) := match ρ m, ρ k, ρ x with
    | some m, some k, some x => tmapSet P ro t m k x h
    | _, _, _ => .fail
def tmem_19 (P : Program) (ρ : Operand → Option CV) (ro id : Nat) (o : Oper) (h : HF) (src dst : TypeId) (x : Operand) : T (CV × Eff) := match ρ x with
    | some (.row b z n) => tstr P src dst b z n h
    | _ => .of (cmem P ρ ro id o h)
def tmem (P : Program) (ρ : Operand → Option CV) (ro id : Nat) (o : Oper) (h : HF) : T (CV × Eff) :=
  match o.op with
  | .pick c a b => tmem_0 P ρ ro id o h c a b
  | .index t x ix => tmem_1 P ρ ro id o h t x ix
  | .binOp .eql t x y u => tmem_2 P ρ ro id o h t x y u
  | .binOp .rem t x y u => tmem_3 P ρ ro id o h t x y u
  | .binOp .quo t x y u => tmem_4 P ρ ro id o h t x y u
  | .load t a => tmem_5 P ρ ro id o h t a
  | .store t a x => tmem_6 P ρ ro id o h t a x
  | .nilCheck x => tmem_7 P ρ ro id o h x
  | .fieldAddr t x i => tmem_8 P ρ ro id o h t x i
  | .indexAddr t x ix => tmem_9 P ρ ro id o h t x ix
  | .slice t x lo hi mx => tmem_10 P ρ ro id o h t x lo hi mx
  | .makeSlice t l c => tmem_11 P ρ ro id o h t l c
  | .call { callee := .builtin .len, args, argTypes } => tmem_12 P ρ ro id o h args argTypes
  | .call { callee := .builtin .append, args, argTypes } => tmem_13 P ρ ro id o h args argTypes
  | .call { callee := .builtin .clear, args, argTypes } => tmem_14 P ρ ro id o h args argTypes
  | .call { callee := .builtin .cap, args, argTypes } => tmem_15 P ρ ro id o h args argTypes
  | .makeMap t none => .of (cnew h id (bif isMarks P t then .keys [] else .map []) (.map (some id)))
  | .lookup t x ix ok => tmem_17 P ρ ro id o h t x ix ok
  | .mapUpdate t m k x => tmem_18 P ρ ro id o h t m k x
  | .insert t m k x => tmem_18 P ρ ro id o h t m k x
  | .convert src dst x => tmem_19 P ρ ro id o h src dst x
  | _ => .of (cmem P ρ ro id o h)
theorem tmem_eq (P : Program) (ρ : Operand → Option CV) (ro id : Nat) (o : Oper) (h : HF) : tmem P ρ ro id o h = tmem0 P ρ ro id o h := rfl

end Go.Proofs.YtecidokjhplbgaaGreatDoorD
