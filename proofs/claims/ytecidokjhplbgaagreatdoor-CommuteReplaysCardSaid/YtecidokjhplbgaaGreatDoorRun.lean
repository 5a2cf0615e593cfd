/-
  The reference run: calls, code.
-/
import Derived.Test.YtecidokjhplbgaaGreatDoorDen
set_option linter.unusedVariables false
namespace Go.Proofs.YtecidokjhplbgaaGreatDoorD
open Go

structure Self where
  call : Nat → FuncId → List CV → CSt → Option (CV × CSt)
  exec : Nat → Option Nat → FuncId → List Nat → Code → CAct → CSt → Option (CEx × CAct × CSt)
  again : Nat → Option Nat → FuncId → List Nat → Code → CAct → CSt → Option (CEx × CAct × CSt)

def CAct.put (a : CAct) (dst : Option Tmp) (v : CV) : CAct :=
  match dst with
  | some d => { a with tmps := a.tmps.set d v }
  | none => a

def setParams : List Tmp → List CV → List CV → List CV
  | p :: ps, v :: vs, ts => setParams ps vs (ts.set p v)
  | _, _, ts => ts

def cround (self : Self) (P : Program) (ro l : Nat) (args : List CV) (s : CSt) : Option (CV × CSt) :=
  match s.heap.get l with
  | some (.loop _ _ fn tmps pos _) => match codeAt P fn pos with
    | some (.rangeFunc _ params assign body) =>
      bif Nat.beq args.length params.size && Nat.ble ro l then
        match self.exec ro (some l) fn (0 :: pos) assign { tmps := setParams params.toList args tmps, marks := [] } s with
        | some (.normal, a1, s1) =>
          match a1.marks, s1.heap.get l with
          | [], some (.loop .ready pe fn1 tm1 po1 de1) =>
            match self.exec ro (some l) fn (1 :: pos) body a1 { s1 with heap := s1.heap.set l (.loop .busy pe fn1 tm1 po1 de1) } with
            | some (e, a2, s2) =>
              match a2.marks, s2.heap.get l with
              | [], some (.loop _ _ fn2 tm2 po2 de2) =>
                match e with
                | .normal => some (.bool true, { s2 with heap := s2.heap.set l (.loop .ready none fn2 tm2 po2 de2) })
                | .ret => some (.bool false, { s2 with heap := s2.heap.set l (.loop .done (some .ret) fn2 tm2 po2 de2) })
                | .exit id => some (.bool false, { s2 with heap := s2.heap.set l (.loop .done (some (.exit id)) fn2 tm2 po2 de2) })
              | _, _ => none
            | none => none
          | _, _ => none
        | _ => none
      else none
    | _ => none
  | _ => none

def ccallv (self : Self) (P : Program) (ro : Nat) (f : CV) (args : List CV) (s : CSt) : Option (CV × CSt) :=
  match f with
  | .func (.func g) first captured => self.call ro g (first.toList ++ args ++ captured.toList) s
  | .func (.yield l) first _ => cround self P ro l (first.toList ++ args) s
  | _ => none

def setAll : Tr CObj → Eff → Tr CObj
  | t, [] => t
  | t, (b, o) :: r => setAll (t.set b o) r

def idxByte (c : UInt8) : List UInt8 → Nat → Int
  | [], _ => -1
  | b :: l, k => if b == c then (k : Int) else idxByte c l (k + 1)
def isCountS (fn : Func) : Bool := fn.body.isNone && (fn.name == "internal/bytealg.CountString" && fn.origin == "")
def isIndexS (fn : Func) : Bool := fn.body.isNone && (fn.name == "internal/bytealg.IndexByteString" && fn.origin == "")
def isAdd64 (fn : Func) : Bool := fn.body.isNone && (fn.name == "math/bits.Add64" && fn.origin == "")
def tintr (P : Program) (vs : List CV) (g : CV) : Option (T CV) :=
  match vs, g with
  | [.int .u64 x, .int .u64 y, .int .u64 c], .func (.func f) ⟨[]⟩ ⟨[]⟩ => match P.funcs[f]? with
    | some fn => bif isAdd64 fn then some (T.when (decide (0 ≤ x) && decide (0 ≤ y) && (decide (0 ≤ c) && decide (c ≤ 1))) (.ret (.tuple #[.int .u64 ((x + y + c) % 18446744073709551616), .int .u64 ((x + y + c) / 18446744073709551616)]))) else none
    | none => none
  | [.string s, .int .u8 c], .func (.func f) ⟨[]⟩ ⟨[]⟩ => match P.funcs[f]? with
    | some fn => bif isCountS fn then some (.ret (.int .i64 (s.data.toList.count c.toNat.toUInt8 : Nat))) else bif isIndexS fn then some (.ret (.int .i64 (idxByte c.toNat.toUInt8 s.data.toList 0))) else none
    | none => none
  | _, _ => none

def cOper (self : Self) (P : Program) (ro id : Nat) (a : CAct) (o : Oper) (s : CSt) : Option (CV × CSt) :=
  match o.op with
  | .call { callee := .value f, args, .. } => match ceval a.tmps f, evals (ceval a.tmps) args.toList with
    | some g, some vs => match tintr P vs g with
      | some t => match t.ev with
        | some v => some (v, s)
        | none => none
      | none => ccallv self P ro g vs s
    | _, _ => none
  | _ => match (tmem P (ceval a.tmps) ro id o s.heap.get).ev with
    | some (v, ef) => some (v, { s with heap := setAll s.heap ef })
    | none => none

def cyielded (ops : Array Oper) (ts : List CV) (j : Nat) : Option Bool :=
  match ((ops[j]?).bind (·.dst)).bind (fun t => ts[t]?) with
  | some (.bool b) => some b
  | _ => none

def gfine (ops : Array Oper) (o : Oper) (ts : List CV) : Bool :=
  match o.guard with
  | none => true
  | some (j, _) => match ((ops[j]?).bind (·.dst)).bind (fun t => ts[t]?) with
    | some .junk => false
    | _ => true

def cOps (self : Self) (P : Program) (ro b : Nat) (ops : Array Oper) : List Oper → Nat → CAct → CSt → Option (CAct × CSt)
  | [], _, a, s => some (a, s)
  | o :: r, i, a, s =>
    bif gfine ops o a.tmps then
      bif Region.wanted o (cyielded ops a.tmps) then
        match cOper self P ro (b + i) a o s with
        | some (v, s') => cOps self P ro b ops r (i + 1) (a.put o.dst v) s'
        | none => none
      else cOps self P ro b ops r (i + 1) (a.put o.dst cundef) s
    else none

def beqBytes : List UInt8 → List UInt8 → Bool
  | [], [] => true
  | a :: r, b :: s => Nat.beq a.toNat b.toNat && beqBytes r s
  | _, _ => false

def veqL (f : CV → CV → Bool) : List CV → List CV → Bool
  | [], [] => true
  | a :: r, b :: s => f a b && veqL f r s
  | _, _ => false

instance : (r : RC) → DecidableEq r.den
  | .ints => inferInstanceAs (DecidableEq Int)
  | .bytes => inferInstanceAs (DecidableEq UInt8)
  | .bools => inferInstanceAs (DecidableEq Bool)
  | .strs => inferInstanceAs (DecidableEq ByteArray)
  | .rets => inferInstanceAs (DecidableEq DRet)
  | .ops => inferInstanceAs (DecidableEq DOp)
  | .states => inferInstanceAs (DecidableEq DState)
  | .acts => inferInstanceAs (DecidableEq DAct)
  | .trans => inferInstanceAs (DecidableEq DTrans)
  | .edges => inferInstanceAs (DecidableEq DEdge)
  | .steps => inferInstanceAs (DecidableEq DStep)
  | .needs => inferInstanceAs (DecidableEq DNeed)
  | .intss => inferInstanceAs (DecidableEq (List Int))
  | .opss => inferInstanceAs (DecidableEq (List DOp))
def plEq (r : RC) (l m : List r.den) : Bool := decide (l = m)

def veq : Nat → CV → CV → Bool
  | 0, _, _ => false
  | k + 1, a, b => match a, b with
    | .bool x, .bool y => bif x then y else !y
    | .int j x, .int l y => decide (j = l) && decide (x = y)
    | .string x, .string y => beqBytes x.data.toList y.data.toList
    | .nilFunc, .nilFunc => true
    | .nilIface, .nilIface => true
    | .pointer none, .pointer none => true
    | .pointer (some ⟨b, o, none⟩), .pointer (some ⟨c, q, none⟩) => Nat.beq b c && Nat.beq o q
    | .map none, .map none => true
    | .map (some r), .map (some q) => Nat.beq r q
    | .slice none n c, .slice none m d => Nat.beq n m && Nat.beq c d
    | .slice (some ⟨b, o, none⟩) n c, .slice (some ⟨e, q, none⟩) m d => Nat.beq b e && Nat.beq o q && Nat.beq n m && Nat.beq c d
    | .func (.func f) as cs, .func (.func g) bs ds => Nat.beq f g && veqL (veq k) as.toList bs.toList && veqL (veq k) cs.toList ds.toList
    | .empty, .empty => true
    | .rptr b z i j, .rptr c y k l => Nat.beq b c && Nat.beq z y && Nat.beq i k && Nat.beq j l
    | .row b z n, .row c y m => Nat.beq b c && Nat.beq z y && Nat.beq n m
    | .win b z s n m, .win c y t k l => Nat.beq b c && Nat.beq z y && Nat.beq s t && Nat.beq n k && Nat.beq m l
    | .kptr as, .kptr bs => veqL (veq k) as bs
    | .pl r l, .pl q m => match r.cast q l with
      | some l => plEq q l m
      | none => false
    | .func (.yield f) as cs, .func (.yield g) bs ds => Nat.beq f g && veqL (veq k) as.toList bs.toList && veqL (veq k) cs.toList ds.toList
    | .iface t x, .iface u y => Nat.beq t u && veq k x y
    | .agg as, .agg bs => veqL (veq k) as.toList bs.toList
    | .tuple as, .tuple bs => veqL (veq k) as.toList bs.toList
    | _, _ => false

def tb (m i : Nat) : Bool := Nat.beq (Nat.land (Nat.shiftRight m i) 1) 1
def bit1 (i : Nat) : Nat := Nat.shiftLeft 1 i

def isPure : Op → Bool
  | .move _ | .assign _ | .pick .. | .build .. | .nilCheck _ | .binOp .. | .unOp .. | .makeFunc .. | .makeInterface .. | .fieldAddr .. | .field .. | .indexAddr .. | .index .. | .extract .. => true
  | _ => false
def allConst : List (Nat × Operand) → Bool
  | [] => true
  | (_, .const _) :: r => allConst r
  | _ => false
def isZ (z : Bool) : Op → Bool
  | .alloc _ => true
  | .buildSlice _ _ ps => z || allConst ps.toList
  | _ => false
def isAct (z : Bool) : Op → Bool
  | .load .. | .slice .. | .alloc _ | .convert .. => false
  | .buildSlice _ _ ps => !(z || allConst ps.toList)
  | .call { callee := .builtin .len, .. } => false
  | .call { callee := .builtin .max, .. } => false
  | .call { callee := .builtin .min, .. } => false
  | x => !(isPure x)

def zobj (P : Program) (ρ : Operand → Option CV) (id : Nat) (o : Oper) : Option (CV × CObj) :=
  match cmem P ρ 0 id o (fun _ => none) with
  | some (v, [(_, ob)]) => some (v, ob)
  | _ => none

def cq (z : Bool) (P : Program) (ρ : Operand → Option CV) (ro id : Nat) (o : Oper) (h : HF) : Option CV :=
  bif isZ z o.op then
    match zobj P ρ id o, h id with
    | some (v, .cells ws e' m'), some (.cells vs e m) => bif veqL (veq 8) vs ws && Nat.beq e e' && Nat.beq m m' then some v else none
    | _, _ => none
  else match (tmem P ρ ro id o h).ev with
    | some (v, []) => some v
    | _ => none

def preset (P : Program) : List Oper → Nat → Tr CObj → Option (Tr CObj)
  | [], _, h => some h
  | o :: r, id, h => bif isZ false o.op then
      match zobj P (ceval []) id o, h.get id with
      | some (_, ob), none => preset P r (id + 1) (h.set id ob)
      | _, _ => none
    else preset P r (id + 1) h

def tmask : List Tmp → Nat
  | [] => 0
  | t :: r => Nat.lor (bit1 t) (tmask r)

def pmask (acc : List Nat) : List Edge → Nat
  | [] => 0
  | e :: r => bif Region.binds .any e then Nat.lor (Nat.lor (bit1 e.on) (acc.getD e.on 0)) (pmask acc r) else pmask acc r

structure Info where
  idx : Nat
  act : Bool
  wr : Nat
  nm : Nat
  bf : Nat

def infoOf (z : Bool) (ops : Array Oper) (acc : List Nat) (i : Nat) (o : Oper) : Info :=
  { idx := i, act := isAct z o.op, wr := tmask o.dst.toList, nm := tmask (o.dst.toList ++ o.looksAt ops), bf := pmask acc o.after.toList }

def infos (z : Bool) (ops : Array Oper) : List Oper → Nat → List Nat → List Info
  | [], _, _ => []
  | o :: r, i, acc => let x := infoOf z ops acc i o; x :: infos z ops r (i + 1) (acc ++ [x.bf])

def fits (x y : Info) : Bool := tb y.bf x.idx || (Nat.beq (Nat.land x.wr y.nm) 0 && Nat.beq (Nat.land x.nm y.wr) 0 && !(x.act && y.act))

def allFit : List Info → Bool
  | [] => true
  | x :: r => r.all (fits x) && allFit r

def edgesOk : List Oper → Nat → Bool
  | [], _ => true
  | o :: r, i => o.after.toList.all (fun e => !(Region.binds .any e) || Nat.blt e.on i) && edgesOk r (i + 1)

structure Pend where
  i : Nat
  o : Oper
  ts : List CV
  v : CV

def okq (z : Bool) (P : Program) (ro base : Nat) (p : Pend) (h : HF) : Bool :=
  match cq z P (ceval p.ts) ro (base + p.i) p.o h with
  | some v => veq 8 v p.v
  | none => false

def dOps (z : Bool) (self : Self) (P : Program) (ro base : Nat) (ops : Array Oper) (B : List Nat) : List Oper → Nat → List (Nat × Tr CObj) → List Pend → CAct → CSt → Option (CAct × CSt)
  | [], _, _, _, a, s => some (a, s)
  | o :: r, i, past, pend, a, s =>
    bif gfine ops o a.tmps then
    bif Region.wanted o (cyielded ops a.tmps) then
      bif isAct z o.op then
        match cOper self P ro (base + i) a o s with
        | some (v, s') => bif pend.all (fun p => tb (B.getD i 0) p.i || okq z P ro base p s'.heap.get) then
            dOps z self P ro base ops B r (i + 1) ((i, s.heap) :: past) pend (a.put o.dst v) s'
          else none
        | none => none
      else match cq z P (ceval a.tmps) ro (base + i) o s.heap.get with
        | none => none
        | some v => bif isPure o.op then dOps z self P ro base ops B r (i + 1) past pend (a.put o.dst v) s
          else bif past.all (fun p => tb (B.getD i 0) p.1 || okq z P ro base ⟨i, o, a.tmps, v⟩ p.2.get) then
            dOps z self P ro base ops B r (i + 1) past (⟨i, o, a.tmps, v⟩ :: pend) (a.put o.dst v) s
          else none
    else dOps z self P ro base ops B r (i + 1) past pend (a.put o.dst cundef) s
    else none

def openZ : List Oper → Bool
  | [] => false
  | o :: r => (isZ true o.op && !(isZ false o.op)) || openZ r
def oneZ (id : Nat) (o : Oper) (s : CSt) : List (Nat × CObj) := bif isZ true o.op then (match s.heap.get id with | some ob => [(id, ob)] | none => []) else []
def pOps (self : Self) (P : Program) (ro b : Nat) (ops : Array Oper) : List Oper → Nat → CAct → CSt → Option (List (Nat × CObj))
  | [], _, a, s => some []
  | o :: r, i, a, s =>
    bif gfine ops o a.tmps then
      bif Region.wanted o (cyielded ops a.tmps) then
        match cOper self P ro (b + i) a o s with
        | some (v, s') => bif openZ r then
            match pOps self P ro b ops r (i + 1) (a.put o.dst v) s' with
            | some l => some (oneZ (b + i) o s' ++ l)
            | none => none
          else some (oneZ (b + i) o s')
        | none => none
      else pOps self P ro b ops r (i + 1) (a.put o.dst cundef) s
    else none
def lay (P : Program) (l : List (Nat × CObj)) : List Oper → Nat → Tr CObj → Option (Tr CObj)
  | [], _, h => some h
  | o :: r, id, h => bif isZ true o.op then
      match h.get id with
      | some _ => none
      | none => match l.lookup id with
        | some ob => lay P l r (id + 1) (h.set id ob)
        | none => match zobj P (ceval []) id o with
          | some (_, ob) => lay P l r (id + 1) (h.set id ob)
          | none => lay P l r (id + 1) h
    else lay P l r (id + 1) h

def dRegion (self : Self) (P : Program) (ro : Nat) (ops : Array Oper) (a : CAct) (s : CSt) : Option (CAct × CSt) :=
  let fs := infos false ops ops.toList 0 []
  bif edgesOk ops.toList 0 && allFit fs then
    match preset P ops.toList s.next s.heap with
    | some h => dOps false self P ro s.next ops (fs.map (·.bf)) ops.toList 0 [] [] a { heap := h, next := s.next + ops.size }
    | none => none
  else
    let fs := infos true ops ops.toList 0 []
    bif edgesOk ops.toList 0 && allFit fs then
      match pOps self P ro s.next ops ops.toList 0 a { s with next := s.next + ops.size } with
      | some l => match lay P l ops.toList s.next s.heap with
        | some h => dOps true self P ro s.next ops (fs.map (·.bf)) ops.toList 0 [] [] a { heap := h, next := s.next + ops.size }
        | none => none
      | none => none
    else none

def cRegion (self : Self) (P : Program) (ro : Nat) (ops : Array Oper) (draw : Bool) (a : CAct) (s : CSt) : Option (CEx × CAct × CSt) :=
  bif draw then
    match dRegion self P ro ops a s with
    | some (a', s') => some (.normal, a', s')
    | none => none
  else
  match cOps self P ro s.next ops ops.toList 0 a { s with next := s.next + ops.size } with
  | some (a', s') => some (.normal, a', s')
  | none => none

def jumpOf : Option Code → Option CEx
  | none => some .normal
  | some .ret => some .ret
  | some (.exit id) => some (.exit id)
  | some _ => none

def isBusy : LoopState → Bool
  | .busy => true
  | _ => false

def cRangeGo (self : Self) (ro : Nat) (a : CAct) (g : FuncId) (first captured : List CV) (l : Nat) (ms : List Nat) (s1 : CSt) : Option (CEx × CAct × CSt) :=
  match self.call ro g (first ++ [.func (.yield l) #[] #[]] ++ captured) s1 with
  | some (_, s2) => match s2.heap.get l with
    | some (.loop st pe fn2 tm2 po2 de2) =>
      bif !(isBusy st) && Nat.ble ro l then
        match jumpOf pe with
        | some ex => some (ex, { a with marks := ms ++ a.marks }, { s2 with heap := s2.heap.set l (.loop .exhausted pe fn2 tm2 po2 de2) })
        | none => none
      else none
    | _ => none
  | none => none

def cRange (self : Self) (P : Program) (ro : Nat) (round : Option Nat) (fn : FuncId) (pos : List Nat) (f : Operand) (a : CAct) (s : CSt) : Option (CEx × CAct × CSt) :=
  match ceval a.tmps f with
  | some (.func (.func g) first captured) =>
    match round with
    | none => match s.heap.get s.next, s.heap.get (s.next + 1) with
      | none, none => cRangeGo self ro a g first.toList captured.toList (s.next + 1) [s.next]
          { heap := (s.heap.set s.next .defs).set (s.next + 1) (.loop .ready none fn a.tmps pos s.next), next := s.next + 2 }
      | _, _ => none
    | some l0 => match s.heap.get l0, s.heap.get s.next with
      | some (.loop _ _ _ _ _ de), none => cRangeGo self ro a g first.toList captured.toList s.next []
          { heap := s.heap.set s.next (.loop .ready none fn a.tmps pos de), next := s.next + 1 }
      | _, _ => none
  | _ => none

def cThen (r : Option (CEx × CAct × CSt)) (k : CAct → CSt → Option (CEx × CAct × CSt)) : Option (CEx × CAct × CSt) :=
  match r with
  | some (.normal, a, s) => k a s
  | r => r

abbrev LoopFn := Nat → Option Nat → CAct → CSt → T (CEx × CAct × CSt)
def beqPos : List Nat → List Nat → Bool
  | [], [] => true
  | a :: r, b :: s => Nat.beq a b && beqPos r s
  | _, _ => false
def findLoop : List (Nat × List Nat × LoopFn) → Nat → List Nat → Option LoopFn
  | [], _, _ => none
  | (g, q, x) :: r, f, p => bif Nat.beq g f && beqPos q p then some x else findLoop r f p

def execC (L : List (Nat × List Nat × LoopFn)) (self : Self) (P : Program) (ro : Nat) (round : Option Nat) (fn : FuncId) : List Nat → Code → CAct → CSt → Option (CEx × CAct × CSt)
  | _, .skip, a, s => some (.normal, a, s)
  | _, .label _, a, s => some (.normal, a, s)
  | _, .region _ ops draw, a, s => cRegion self P ro ops draw a s
  | p, .seq x y, a, s => cThen (execC L self P ro round fn (0 :: p) x a s) (execC L self P ro round fn (1 :: p) y)
  | p, .cond c x y, a, s => match ceval a.tmps c with
    | some (.bool t) => bif t then execC L self P ro round fn (0 :: p) x a s else execC L self P ro round fn (1 :: p) y a s
    | _ => none
  | p, .scope x, a, s => execC L self P ro round fn (0 :: p) x a s
  | p, .block id x, a, s => match execC L self P ro round fn (0 :: p) x a s with
    | some (.exit j, a', s') => bif Nat.beq j id then some (.normal, a', s') else some (.exit j, a', s')
    | r => r
  | p, .loop x, a, s => match findLoop L fn p with
    | some F => (F ro round a s).ev
    | none => cThen (execC L self P ro round fn (0 :: p) x a s) (self.again ro round fn (0 :: p) x)
  | p, .rangeFunc f params assign body, a, s => cRange self P ro round fn p f a s
  | _, .exit id, a, s => some (.exit id, a, s)
  | _, .ret, a, s => some (.ret, a, s)
  | _, _, _, _ => none

def cmarks (ro : Nat) : List Nat → Tr CObj → Option (Tr CObj)
  | [], h => some h
  | d :: r, h => match h.get d with
    | some .defs => bif Nat.ble ro d then cmarks ro r (h.set d .dead) else none
    | _ => none

def cresult (P : Program) (ts : List CV) (h : HF) : ResultVar → Option CV
  | .tmp t => some (ts.getD t cundef)
  | .cell t ty => match ts.getD t cundef with
    | .pointer (some ⟨b, o, none⟩) => cload P h ty b o
    | _ => none

def cresults (P : Program) (ts : List CV) (h : HF) : List ResultVar → Option (List CV)
  | [] => some []
  | r :: rs => match cresult P ts h r with
    | none => none
    | some v => match cresults P ts h rs with
      | none => none
      | some vs => some (v :: vs)

def single : List CV → CV
  | [v] => v
  | vs => .tuple vs.toArray

abbrev ExtFn := Nat → List CV → CSt → T (CV × CSt)

def findExt : List (Nat × ExtFn) → Nat → Option ExtFn
  | [], _ => none
  | (g, x) :: r, f => bif Nat.beq g f then some x else findExt r f

def callC (L : List (Nat × List Nat × LoopFn)) (self : Self) (P : Program) (ro : Nat) (f : FuncId) (args : List CV) (s : CSt) : Option (CV × CSt) :=
  match P.funcs[f]? with
  | some fn => match fn.body with
    | some c =>
      let fin (a : CAct) (s' : CSt) : Option (CV × CSt) :=
        match cmarks ro a.marks s'.heap with
        | some h => match cresults P a.tmps h.get fn.results.toList with
          | some vs => some (single vs, { s' with heap := h })
          | none => none
        | none => none
      match execC L self P ro none f [] c { tmps := args ++ List.replicate (fn.ntmps - args.length) cundef, marks := [] } s with
      | some (.normal, a, s') => fin a s'
      | some (.ret, a, s') => fin a s'
      | _ => none
    | none => none
  | none => none

def callE (E : List (Nat × ExtFn)) (L : List (Nat × List Nat × LoopFn)) (self : Self) (P : Program) (ro : Nat) (f : FuncId) (args : List CV) (s : CSt) : Option (CV × CSt) :=
  match findExt E f with
  | some x => (x ro args s).ev
  | none => callC L self P ro f args s

def den (P : Program) (E : List (Nat × ExtFn)) (L : List (Nat × List Nat × LoopFn)) : Nat → Self
  | 0 => { call := fun _ _ _ _ => none, exec := fun _ _ _ _ _ _ _ => none, again := fun _ _ _ _ _ _ _ => none }
  | k + 1 => { call := callE E L (den P E L k) P, exec := execC L (den P E L k) P, again := fun ro round fn p c a s => cThen (execC L (den P E L k) P ro round fn p c a s) ((den P E L k).again ro round fn p c) }

end Go.Proofs.YtecidokjhplbgaaGreatDoorD
