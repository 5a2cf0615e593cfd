/-
  The reference run as a decision tree: regions, code, calls.
-/
import Derived.Test.YtjbbhccoamhbgaaTree
set_option linter.unusedVariables false
set_option linter.unusedSimpArgs false
namespace Go.Proofs.YtjbbhccoamhbgaaD
open Go Go.RowKit

/-- Whether an operation is wanted; where that is open, both ways, in each of which its guard is known. -/
def tguard {β : Type} (ops : Array Oper) (o : Oper) (ts : List Value) (yes no : List Value → T β) : T β :=
  match o.guard with
  | none => yes ts
  | some (j, want) => match (ops[j]?).bind (·.dst) with
    | none => no ts
    | some t => match ts[t]? with
      | some (.bool c) => tsplit ts (.tmp t) c fun v ts' => bif (bif v then want else !want) then yes ts' else no ts'
      | _ => no ts

theorem tguard_ev {β : Type} {ops : Array Oper} {o : Oper} {ts : List Value} {yes no : List Value → T β} {b : β} (h : (tguard ops o ts yes no).ev = some b) :
    (Region.wanted o (cyielded ops ts) = true ∧ (yes ts).ev = some b) ∨ (Region.wanted o (cyielded ops ts) = false ∧ (no ts).ev = some b) := by
  unfold tguard at h
  unfold Region.wanted
  split at h
  · rename_i hg; rw [hg]; exact .inl ⟨rfl, h⟩
  · rename_i j want hg
    rw [hg]
    simp only []
    split at h
    · rename_i hd; refine .inr ⟨?_, h⟩; simp [cyielded, hd]
    · rename_i t hd
      split at h
      · rename_i c hc
        have hcy : cyielded ops ts j = some c := by simp [cyielded, hd, hc]
        rw [hcy]
        have hev : ceval ts (.tmp t) = some (.bool c) := by simp [ceval, List.getD_eq_getElem?_getD, hc]
        have h2 := tsplit_ev hev h
        cases c <;> cases want <;> simp_all
      · rename_i hno
        refine .inr ⟨?_, h⟩
        have : cyielded ops ts j = none := by
          cases hx : ts[t]? with
          | none => simp [cyielded, hd, hx]
          | some x => cases x <;> first | exact absurd hx (hno _) | simp [cyielded, hd, hx]
        rw [this]; rfl

def tOps (self : TSelf) (P : Program) (ro b : Nat) (ops : Array Oper) : List Oper → Nat → CAct → CSt → T (CAct × CSt)
  | [], _, a, s => .ret (a, s)
  | o :: r, i, a, s => tguard ops o a.tmps
    (fun ts => (tOper self P ro (b + i) { a with tmps := ts } o s).bind fun x => tOps self P ro b ops r (i + 1) (CAct.put { a with tmps := ts } o.dst x.1) x.2)
    (fun ts => tOps self P ro b ops r (i + 1) (CAct.put { a with tmps := ts } o.dst undef) s)

theorem tOps_ev {t : TSelf} {self : Self} (ht : TOk t self) {P : Program} {ro b : Nat} {ops : Array Oper} {x : CAct × CSt} : ∀ (l : List Oper) (i : Nat) (a : CAct) (s : CSt), (tOps t P ro b ops l i a s).ev = some x → cOps self P ro b ops l i a s = some x
  | [], i, a, s, h => by simpa [tOps, cOps, T.ev] using h
  | o :: r, i, a, s, h => by
    simp only [tOps] at h
    simp only [cOps]
    rcases tguard_ev h with ⟨hw, h⟩ | ⟨hw, h⟩
    · rw [hw]
      simp only [cond_true]
      obtain ⟨⟨v, s1⟩, h1, h2⟩ := ev_bind _ h
      rw [tOper_ev ht h1]
      exact tOps_ev ht r (i + 1) _ _ h2
    · rw [hw]
      simp only [cond_false]
      exact tOps_ev ht r (i + 1) _ _ h

def tq (P : Program) (ρ : Operand → Option Value) (ro id : Nat) (o : Oper) (h : HF) : T Value :=
  bif isZ o.op then .of (cq P ρ ro id o h)
  else (tmem P ρ ro id o h).bind fun r => match r with
    | (v, []) => .ret v
    | _ => .fail

theorem tq_ev {P : Program} {ρ : Operand → Option Value} {ro id : Nat} {o : Oper} {h : HF} {v : Value} (e : (tq P ρ ro id o h).ev = some v) : cq P ρ ro id o h = some v := by
  unfold tq at e
  cases hz : isZ o.op with
  | true => rw [hz] at e; exact ev_of' e
  | false =>
    rw [hz] at e
    simp only [cond_false] at e
    obtain ⟨⟨u, ef⟩, h1, h2⟩ := ev_bind _ e
    unfold cq
    rw [hz]
    simp only [cond_false]
    rw [tmem_ev h1]
    split at h2
    · rename_i heq; cases heq; simpa [T.ev] using h2
    · simp [T.ev] at h2

def tdOps (self : TSelf) (P : Program) (ro base : Nat) (ops : Array Oper) (B : List Nat) : List Oper → Nat → List (Nat × Tr CObj) → List Pend → CAct → CSt → T (CAct × CSt)
  | [], _, _, _, a, s => .ret (a, s)
  | o :: r, i, past, pend, a, s => tguard ops o a.tmps
    (fun ts => bif isAct o.op then
        (tOper self P ro (base + i) { a with tmps := ts } o s).bind fun x =>
          T.when (pend.all (fun p => tb (B.getD i 0) p.i || okq P ro base p x.2.heap.get)) (tdOps self P ro base ops B r (i + 1) ((i, s.heap) :: past) pend (CAct.put { a with tmps := ts } o.dst x.1) x.2)
      else (tq P (ceval ts) ro (base + i) o s.heap.get).bind fun v =>
        bif isPure o.op then tdOps self P ro base ops B r (i + 1) past pend (CAct.put { a with tmps := ts } o.dst v) s
        else T.when (past.all (fun p => tb (B.getD i 0) p.1 || okq P ro base ⟨i, o, ts, v⟩ p.2.get)) (tdOps self P ro base ops B r (i + 1) past (⟨i, o, ts, v⟩ :: pend) (CAct.put { a with tmps := ts } o.dst v) s))
    (fun ts => tdOps self P ro base ops B r (i + 1) past pend (CAct.put { a with tmps := ts } o.dst undef) s)

theorem tdOps_ev {t : TSelf} {self : Self} (ht : TOk t self) {P : Program} {ro base : Nat} {ops : Array Oper} {B : List Nat} {x : CAct × CSt} :
    ∀ (l : List Oper) (i : Nat) (past : List (Nat × Tr CObj)) (pend : List Pend) (a : CAct) (s : CSt), (tdOps t P ro base ops B l i past pend a s).ev = some x → dOps self P ro base ops B l i past pend a s = some x
  | [], i, past, pend, a, s, h => by simpa [tdOps, dOps, T.ev] using h
  | o :: r, i, past, pend, a, s, h => by
    simp only [tdOps] at h
    simp only [dOps]
    rcases tguard_ev h with ⟨hw, h⟩ | ⟨hw, h⟩
    · rw [hw]
      simp only [cond_true]
      cases ha : isAct o.op with
      | true =>
        rw [ha] at h
        simp only [cond_true] at h ⊢
        obtain ⟨⟨v, s1⟩, h1, h2⟩ := ev_bind _ h
        rw [tOper_ev ht h1]
        simp only [] at h2 ⊢
        obtain ⟨h3, h4⟩ := ev_when h2
        rw [h3]
        exact tdOps_ev ht r (i + 1) _ _ _ _ h4
      | false =>
        rw [ha] at h
        simp only [cond_false] at h ⊢
        obtain ⟨v, h1, h2⟩ := ev_bind _ h
        rw [tq_ev h1]
        simp only []
        cases hp : isPure o.op with
        | true => rw [hp] at h2; exact tdOps_ev ht r (i + 1) _ _ _ _ h2
        | false =>
          rw [hp] at h2
          simp only [cond_false] at h2 ⊢
          obtain ⟨h3, h4⟩ := ev_when h2
          rw [h3]
          exact tdOps_ev ht r (i + 1) _ _ _ _ h4
    · rw [hw]
      simp only [cond_false]
      exact tdOps_ev ht r (i + 1) _ _ _ _ h

def tRegion (self : TSelf) (P : Program) (ro : Nat) (ops : Array Oper) (draw : Bool) (a : CAct) (s : CSt) : T (CEx × CAct × CSt) :=
  bif draw then
    let fs := infos ops ops.toList 0 []
    bif edgesOk ops.toList 0 && allFit fs then
      match preset P ops.toList s.next s.heap with
      | some h => (tdOps self P ro s.next ops (fs.map (·.bf)) ops.toList 0 [] [] a { heap := h, next := s.next + ops.size }).bind fun x => .ret (.normal, x.1, x.2)
      | none => .fail
    else .fail
  else (tOps self P ro s.next ops ops.toList 0 a { s with next := s.next + ops.size }).bind fun x => .ret (.normal, x.1, x.2)

theorem tRegion_ev {t : TSelf} {self : Self} (ht : TOk t self) {P : Program} {ro : Nat} {ops : Array Oper} {draw : Bool} {a : CAct} {s : CSt} {r : CEx × CAct × CSt} (e : (tRegion t P ro ops draw a s).ev = some r) : cRegion self P ro ops draw a s = some r := by
  unfold tRegion at e
  unfold cRegion
  cases draw with
  | true =>
    simp only [cond_true] at e ⊢
    unfold dRegion
    simp only []
    cases hg : (edgesOk ops.toList 0 && allFit (infos ops ops.toList 0 [])) with
    | false => rw [hg] at e; simp [T.ev] at e
    | true =>
      rw [hg] at e
      simp only [cond_true] at e ⊢
      split at e
      · rename_i h hp
        rw [hp]
        obtain ⟨x, h1, h2⟩ := ev_bind _ e
        simp only [T.ev, Option.some.injEq] at h2
        simp only []
        rw [tdOps_ev ht _ _ _ _ _ _ h1, ← h2]
      · simp [T.ev] at e
  | false =>
    simp only [cond_false] at e ⊢
    obtain ⟨x, h1, h2⟩ := ev_bind _ e
    simp only [T.ev, Option.some.injEq] at h2
    rw [tOps_ev ht _ _ _ _ h1, ← h2]

def tRangeGo (self : TSelf) (ro : Nat) (a : CAct) (g : FuncId) (first captured : List Value) (l : Nat) (ms : List Nat) (s1 : CSt) : T (CEx × CAct × CSt) :=
  (self.call ro g (first ++ [.func (.yield l) #[] #[]] ++ captured) s1).bind fun r =>
    match r.2.heap.get l with
    | some (.loop st pe fn2 tm2 pa2 as2 bo2 de2) =>
      T.when (!(isBusy st) && Nat.ble ro l) (match jumpOf pe with
        | some ex => .ret (ex, { a with marks := ms ++ a.marks }, { r.2 with heap := r.2.heap.set l (.loop .exhausted pe fn2 tm2 pa2 as2 bo2 de2) })
        | none => .fail)
    | _ => .fail

theorem tRangeGo_ev {t : TSelf} {self : Self} (ht : TOk t self) {ro : Nat} {a : CAct} {g : FuncId} {first captured : List Value} {l : Nat} {ms : List Nat} {s1 : CSt} {r : CEx × CAct × CSt} (e : (tRangeGo t ro a g first captured l ms s1).ev = some r) :
    cRangeGo self ro a g first captured l ms s1 = some r := by
  unfold tRangeGo at e
  unfold cRangeGo
  obtain ⟨⟨v, s2⟩, h1, h2⟩ := ev_bind _ e
  rw [ht.call h1]
  simp only [] at h2 ⊢
  split at h2
  · rename_i hget
    rw [hget]
    simp only []
    obtain ⟨h3, h4⟩ := ev_when h2
    rw [h3]
    simp only [cond_true]
    split at h4
    · rename_i ex hj; rw [hj]; simpa [T.ev] using h4
    · simp [T.ev] at h4
  · simp [T.ev] at h2

def tRange (self : TSelf) (P : Program) (ro : Nat) (round : Option Nat) (fn : FuncId) (f : Operand) (params : Array Tmp) (assign body : Code) (a : CAct) (s : CSt) : T (CEx × CAct × CSt) :=
  match ceval a.tmps f with
  | some (.func (.func g) first captured) =>
    match round with
    | none => match s.heap.get s.next, s.heap.get (s.next + 1) with
      | none, none => tRangeGo self ro a g first.toList captured.toList (s.next + 1) [s.next]
          { heap := (s.heap.set s.next .defs).set (s.next + 1) (.loop .ready none fn a.tmps params assign body s.next), next := s.next + 2 }
      | _, _ => .fail
    | some l0 => match s.heap.get l0, s.heap.get s.next with
      | some (.loop _ _ _ _ _ _ _ de), none => tRangeGo self ro a g first.toList captured.toList s.next []
          { heap := s.heap.set s.next (.loop .ready none fn a.tmps params assign body de), next := s.next + 1 }
      | _, _ => .fail
  | _ => .fail

theorem tRange_ev {t : TSelf} {self : Self} (ht : TOk t self) {P : Program} {ro : Nat} {round : Option Nat} {fn : FuncId} {f : Operand} {params : Array Tmp} {assign body : Code} {a : CAct} {s : CSt} {r : CEx × CAct × CSt}
    (e : (tRange t P ro round fn f params assign body a s).ev = some r) : cRange self P ro round fn f params assign body a s = some r := by
  unfold tRange at e
  unfold cRange
  split at e
  · rename_i g first captured hf
    rw [hf]
    simp only []
    cases round with
    | none =>
      simp only [] at e ⊢
      split at e
      · rename_i h1 h2; rw [h1, h2]; exact tRangeGo_ev ht e
      · simp [T.ev] at e
    | some l0 =>
      simp only [] at e ⊢
      split at e
      · rename_i h1 h2; rw [h1, h2]; exact tRangeGo_ev ht e
      · simp [T.ev] at e
  · simp [T.ev] at e

def tThen (r : T (CEx × CAct × CSt)) (k : CAct → CSt → T (CEx × CAct × CSt)) : T (CEx × CAct × CSt) :=
  r.bind fun x => match x with
    | (.normal, a, s) => k a s
    | x => .ret x

theorem tThen_ev {x : T (CEx × CAct × CSt)} {y : Option (CEx × CAct × CSt)} {k : CAct → CSt → T (CEx × CAct × CSt)} {k' : CAct → CSt → Option (CEx × CAct × CSt)} (hx : ∀ r, x.ev = some r → y = some r)
    (hk : ∀ a s r, (k a s).ev = some r → k' a s = some r) {r : CEx × CAct × CSt} (e : (tThen x k).ev = some r) : cThen y k' = some r := by
  unfold tThen at e
  unfold cThen
  obtain ⟨z, h1, h2⟩ := ev_bind _ e
  rw [hx _ h1]
  split at h2
  · exact hk _ _ _ h2
  · rename_i hno
    simp only [T.ev, Option.some.injEq] at h2
    subst h2
    split
    · rename_i a s heq
      cases heq
      exact (hno _ _ rfl).elim
    · rfl

def texec (self : TSelf) (P : Program) (ro : Nat) (round : Option Nat) (fn : FuncId) : Code → CAct → CSt → T (CEx × CAct × CSt)
  | .skip, a, s => .ret (.normal, a, s)
  | .label _, a, s => .ret (.normal, a, s)
  | .region _ ops draw, a, s => tRegion self P ro ops draw a s
  | .seq x y, a, s => tThen (texec self P ro round fn x a s) (texec self P ro round fn y)
  | .cond c x y, a, s => match ceval a.tmps c with
    | some (.bool t) => tsplit a.tmps c t fun v ts => bif v then texec self P ro round fn x { a with tmps := ts } s else texec self P ro round fn y { a with tmps := ts } s
    | _ => .fail
  | .scope x, a, s => texec self P ro round fn x a s
  | .block id x, a, s => (texec self P ro round fn x a s).bind fun r => match r with
    | (.exit j, a', s') => bif Nat.beq j id then .ret (.normal, a', s') else .ret (.exit j, a', s')
    | r => .ret r
  | .loop x, a, s => tThen (texec self P ro round fn x a s) (self.again ro round fn x)
  | .rangeFunc f params assign body, a, s => tRange self P ro round fn f params assign body a s
  | .exit id, a, s => .ret (.exit id, a, s)
  | .ret, a, s => .ret (.ret, a, s)
  | _, _, _ => .fail

theorem texec_ev {t : TSelf} {self : Self} (ht : TOk t self) {P : Program} {ro : Nat} {round : Option Nat} {fn : FuncId} : ∀ (c : Code) (a : CAct) (s : CSt) (r : CEx × CAct × CSt), (texec t P ro round fn c a s).ev = some r → execC self P ro round fn c a s = some r := by
  intro c
  induction c with
  | skip => intro a s r h; simpa [texec, execC, T.ev] using h
  | label l => intro a s r h; simpa [texec, execC, T.ev] using h
  | region id ops draw => intro a s r h; exact tRegion_ev ht h
  | seq x y ihx ihy => intro a s r h; exact tThen_ev (fun r hr => ihx _ _ _ hr) (fun a s r hr => ihy _ _ _ hr) h
  | cond c x y ihx ihy =>
    intro a s r h
    simp only [texec] at h
    simp only [execC]
    split at h
    · rename_i b hc
      rw [hc]
      simp only []
      have h2 := tsplit_ev hc h
      cases b with
      | true => exact ihx _ _ _ h2
      | false => exact ihy _ _ _ h2
    · simp [T.ev] at h
  | block id x ih =>
    intro a s r h
    simp only [texec] at h
    simp only [execC]
    obtain ⟨z, h1, h2⟩ := ev_bind _ h
    rw [ih _ _ _ h1]
    split at h2
    · rename_i j a' s'
      simp only []
      cases hj : Nat.beq j id <;> rw [hj] at h2 <;> simpa [T.ev] using h2
    · rename_i hno
      simp only [T.ev, Option.some.injEq] at h2
      subst h2
      split
      · rename_i j a' s' heq
        cases heq
        exact (hno _ _ _ rfl).elim
      · rfl
  | loop x ih => intro a s r h; exact tThen_ev (fun r hr => ih _ _ _ hr) (fun a s r hr => ht.again hr) h
  | rangeFunc f ps asg bd _ _ => intro a s r h; exact tRange_ev ht h
  | exit id => intro a s r h; simpa [texec, execC, T.ev] using h
  | ret => intro a s r h; simpa [texec, execC, T.ev] using h
  | scope x ih => intro a s r h; exact ih _ _ _ h
  | goto l => intro a s r h; simp [texec, T.ev] at h
  | refuse r => intro a s r h; simp [texec, T.ev] at h

def tcall (self : TSelf) (P : Program) (ro : Nat) (f : FuncId) (args : List Value) (s : CSt) : T (Value × CSt) :=
  match P.funcs[f]? with
  | some fn => match fn.body with
    | some c =>
      (texec self P ro none f c { tmps := args ++ List.replicate (fn.ntmps - args.length) undef, marks := [] } s).bind fun r =>
        match r with
        | (.exit _, _, _) => .fail
        | (_, a, s') => match cmarks ro a.marks s'.heap with
          | some h => match cresults P a.tmps h.get fn.results.toList with
            | some vs => .ret (single vs, { s' with heap := h })
            | none => .fail
          | none => .fail
    | none => .fail
  | none => .fail

theorem tcall_ev {t : TSelf} {self : Self} (ht : TOk t self) {P : Program} {ro : Nat} {f : FuncId} {args : List Value} {s : CSt} {r : Value × CSt} (e : (tcall t P ro f args s).ev = some r) : callC self P ro f args s = some r := by
  unfold tcall at e
  unfold callC
  split at e
  · rename_i fn hfn
    rw [hfn]
    simp only []
    split at e
    · rename_i c hc
      rw [hc]
      simp only []
      obtain ⟨⟨ex, a, s1⟩, h1, h2⟩ := ev_bind _ e
      rw [texec_ev ht _ _ _ _ h1]
      cases ex with
      | exit id => simp [T.ev] at h2
      | normal =>
        simp only [] at h2 ⊢
        split at h2
        · rename_i h hm
          rw [hm]
          simp only []
          split at h2
          · rename_i vs hv; rw [hv]; simpa [T.ev] using h2
          · simp [T.ev] at h2
        · simp [T.ev] at h2
      | ret =>
        simp only [] at h2 ⊢
        split at h2
        · rename_i h hm
          rw [hm]
          simp only []
          split at h2
          · rename_i vs hv; rw [hv]; simpa [T.ev] using h2
          · simp [T.ev] at h2
        · simp [T.ev] at h2
    · simp [T.ev] at e
  · simp [T.ev] at e

def tcallE (E : List (Nat × ExtFn)) (self : TSelf) (P : Program) (ro : Nat) (f : FuncId) (args : List Value) (s : CSt) : T (Value × CSt) :=
  match findExt E f with
  | some x => x ro args s
  | none => tcall self P ro f args s

def tden (P : Program) (E : List (Nat × ExtFn)) : Nat → TSelf
  | 0 => { call := fun _ _ _ _ => .fail, exec := fun _ _ _ _ _ _ => .fail, again := fun _ _ _ _ _ _ => .fail }
  | k + 1 => { call := tcallE E (tden P E k) P, exec := texec (tden P E k) P, again := fun ro round fn c a s => tThen (texec (tden P E k) P ro round fn c a s) ((tden P E k).again ro round fn c) }

theorem tden_ev (P : Program) (E : List (Nat × ExtFn)) : ∀ k, TOk (tden P E k) (den P E k)
  | 0 => ⟨fun h => by simp [tden, T.ev] at h, fun h => by simp [tden, T.ev] at h, fun h => by simp [tden, T.ev] at h⟩
  | k + 1 => by
    have ih := tden_ev P E k
    refine ⟨fun {ro f args st r} h => ?_, fun h => texec_ev ih _ _ _ _ h, fun h => tThen_ev (fun r hr => texec_ev ih _ _ _ _ hr) (fun a s r hr => ih.again hr) h⟩
    show callE E (den P E k) P ro f args st = some r
    have h : (tcallE E (tden P E k) P ro f args st).ev = some r := h
    unfold tcallE at h
    unfold callE
    split at h
    · rename_i x hx; rw [hx]; exact h
    · rename_i hx; rw [hx]; exact tcall_ev ih h

end Go.Proofs.YtjbbhccoamhbgaaD
