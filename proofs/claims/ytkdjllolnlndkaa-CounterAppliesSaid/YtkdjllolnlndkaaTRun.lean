/-
  The reference run as a decision tree: it goes on where a condition is open. What its tree comes to, the reference run comes to.
-/
import Derived.Test.YtkdjllolnlndkaaLoop
set_option linter.unusedVariables false
set_option linter.unusedSimpArgs false
namespace Go.Proofs.YtkdjllolnlndkaaD
open Go Go.RowKit

structure TSelf where
  call : Nat → FuncId → List CV → CSt → T (CV × CSt)
  exec : Nat → Option Nat → FuncId → List Nat → Code → CAct → CSt → T (CEx × CAct × CSt)
  again : Nat → Option Nat → FuncId → List Nat → Code → CAct → CSt → T (CEx × CAct × CSt)

structure TOk (t : TSelf) (s : Self) : Prop where
  call : ∀ {ro f args st r}, (t.call ro f args st).ev = some r → s.call ro f args st = some r
  exec : ∀ {ro round fn p c a st r}, (t.exec ro round fn p c a st).ev = some r → s.exec ro round fn p c a st = some r
  again : ∀ {ro round fn p c a st r}, (t.again ro round fn p c a st).ev = some r → s.again ro round fn p c a st = some r

def tround (self : TSelf) (P : Program) (ro l : Nat) (args : List CV) (s : CSt) : T (CV × CSt) :=
  match s.heap.get l with
  | some (.loop _ _ fn tmps pos _) => match codeAt P fn pos with
    | some (.rangeFunc _ params assign body) =>
      T.when (Nat.beq args.length params.size && Nat.ble ro l) ((self.exec ro (some l) fn (0 :: pos) assign { tmps := setParams params.toList args tmps, marks := [] } s).bind fun r =>
        match r with
        | (.normal, a1, s1) =>
          match a1.marks, s1.heap.get l with
          | [], some (.loop .ready pe fn1 tm1 po1 de1) =>
            (self.exec ro (some l) fn (1 :: pos) body a1 { s1 with heap := s1.heap.set l (.loop .busy pe fn1 tm1 po1 de1) }).bind fun r =>
              match r with
              | (e, a2, s2) => match a2.marks, s2.heap.get l with
                | [], some (.loop _ _ fn2 tm2 po2 de2) =>
                  match e with
                  | .normal => .ret (.bool true, { s2 with heap := s2.heap.set l (.loop .ready none fn2 tm2 po2 de2) })
                  | .ret => .ret (.bool false, { s2 with heap := s2.heap.set l (.loop .done (some .ret) fn2 tm2 po2 de2) })
                  | .exit id => .ret (.bool false, { s2 with heap := s2.heap.set l (.loop .done (some (.exit id)) fn2 tm2 po2 de2) })
                | _, _ => .fail
          | _, _ => .fail
        | _ => .fail)
    | _ => .fail
  | _ => .fail

theorem tround_ev {t : TSelf} {self : Self} (ht : TOk t self) {P : Program} {ro l : Nat} {args : List CV} {s : CSt} {r : CV × CSt} (e : (tround t P ro l args s).ev = some r) : cround self P ro l args s = some r := by
  unfold tround at e
  unfold cround
  split at e
  · rename_i st pe fn tmps pos de hget
    rw [hget]
    simp only []
    split at e
    · rename_i f params assign body hcode
      rw [hcode]
      simp only []
      obtain ⟨hc, e⟩ := ev_when e
      simp only [hc, cond_true]
      obtain ⟨⟨ex, a1, s1⟩, h1, h2⟩ := ev_bind _ e
      rw [ht.exec h1]
      split at h2
      · rename_i a1' s1' heq
        cases heq
        simp only []
        split at h2
        · rename_i hm hget1
          rw [hm, hget1]
          simp only []
          obtain ⟨⟨ex2, a2, s2⟩, h3, h4⟩ := ev_bind _ h2
          rw [ht.exec h3]
          simp only []
          simp only [] at h4
          split at h4
          · rename_i hm2 hget2
            rw [hm2, hget2]
            simp only []
            cases ex2 <;> simpa [T.ev] using h4
          · simp [T.ev] at h4
        · simp [T.ev] at h2
      · simp [T.ev] at h2
    · simp [T.ev] at e
  · simp [T.ev] at e

def tcallv (self : TSelf) (P : Program) (ro : Nat) (f : CV) (args : List CV) (s : CSt) : T (CV × CSt) :=
  match f with
  | .func (.func g) first captured => self.call ro g (first.toList ++ args ++ captured.toList) s
  | .func (.yield l) first _ => tround self P ro l (first.toList ++ args) s
  | _ => .fail

def tOper (self : TSelf) (P : Program) (ro id : Nat) (a : CAct) (o : Oper) (s : CSt) : T (CV × CSt) :=
  match o.op with
  | .call { callee := .value f, args, .. } => match ceval a.tmps f, evals (ceval a.tmps) args.toList with
    | some g, some vs => tcallv self P ro g vs s
    | _, _ => .fail
  | _ => (tmem P (ceval a.tmps) ro id o s.heap.get).bind fun r => .ret (r.1, { s with heap := setAll s.heap r.2 })

theorem tOper_ev {t : TSelf} {self : Self} (ht : TOk t self) {P : Program} {ro id : Nat} {a : CAct} {o : Oper} {s : CSt} {r : CV × CSt} (e : (tOper t P ro id a o s).ev = some r) : cOper self P ro id a o s = some r := by
  unfold tOper at e
  unfold cOper
  split at e
  · rename_i f args ts hop
    rw [hop]
    simp only []
    split at e
    · rename_i g vs hg hvs
      rw [hg, hvs]
      simp only []
      unfold tcallv at e
      unfold ccallv
      split at e
      · exact ht.call e
      · exact tround_ev ht e
      · simp [T.ev] at e
    · simp [T.ev] at e
  · rename_i hno
    obtain ⟨⟨v, ef⟩, h1, h2⟩ := ev_bind _ e
    simp only [T.ev, Option.some.injEq] at h2
    subst h2
    split
    · rename_i f args ts hop
      exact absurd hop (hno f args ts)
    · rw [h1]

/-- The condition that bears an open bool, and the two ways on, in each of which it is known. -/
def tsplit {β : Type} (ts : List CV) (x : Operand) (c : Bool) (k : Bool → List CV → T β) : T β :=
  match x with
  | .tmp t => .ite c (k true (ts.set t (.bool true))) (k false (ts.set t (.bool false)))
  | _ => .ite c (k true ts) (k false ts)

theorem set_same {ts : List CV} {t : Nat} {v : CV} (h : ts.getD t cundef = v) (hv : v ≠ cundef) : ts.set t v = ts := by
  apply List.ext_getElem?
  intro j
  rw [List.getElem?_set]
  by_cases hj : t = j
  · subst hj
    by_cases hl : t < ts.length
    · simp only [hl, if_true]
      have : ts[t]? = some ts[t] := List.getElem?_eq_getElem hl
      rw [List.getD_eq_getElem?_getD, this] at h
      rw [this]; exact congrArg some h.symm
    · rw [List.getD_eq_getElem?_getD, List.getElem?_eq_none (by omega)] at h
      exact absurd h.symm hv
  · simp [hj]

theorem tsplit_ev {β : Type} {ts : List CV} {x : Operand} {c : Bool} {k : Bool → List CV → T β} {b : β} (hx : ceval ts x = some (.bool c)) (h : (tsplit ts x c k).ev = some b) : (k c ts).ev = some b := by
  unfold tsplit at h
  split at h
  · rename_i t
    simp only [ceval, Option.some.injEq] at hx
    have hs := set_same hx (by intro hh; cases hh)
    rcases ev_ite h with ⟨rfl, h⟩ | ⟨rfl, h⟩ <;> rwa [hs] at h
  · rcases ev_ite h with ⟨rfl, h⟩ | ⟨rfl, h⟩ <;> exact h


/-- Whether an operation is wanted; where that is open, both ways, in each of which its guard is known. -/
def tguard {β : Type} (ops : Array Oper) (o : Oper) (ts : List CV) (yes no : List CV → T β) : T β :=
  match o.guard with
  | none => yes ts
  | some (j, want) => match (ops[j]?).bind (·.dst) with
    | none => no ts
    | some t => match ts[t]? with
      | some (.bool c) => tsplit ts (.tmp t) c fun v ts' => bif (bif v then want else !want) then yes ts' else no ts'
      | some .junk => .fail
      | _ => no ts

theorem tguard_ev {β : Type} {ops : Array Oper} {o : Oper} {ts : List CV} {yes no : List CV → T β} {b : β} (h : (tguard ops o ts yes no).ev = some b) :
    gfine ops o ts = true ∧ ((Region.wanted o (cyielded ops ts) = true ∧ (yes ts).ev = some b) ∨ (Region.wanted o (cyielded ops ts) = false ∧ (no ts).ev = some b)) := by
  unfold tguard at h
  unfold Region.wanted gfine
  split at h
  · rename_i hg; rw [hg]; exact ⟨rfl, .inl ⟨rfl, h⟩⟩
  · rename_i j want hg
    rw [hg]
    simp only []
    split at h
    · rename_i hd; rw [hd]; refine ⟨rfl, .inr ⟨?_, h⟩⟩; simp [cyielded, hd]
    · rename_i t hd
      rw [hd]
      simp only [Option.bind_some]
      split at h
      · rename_i c hc
        have hcy : cyielded ops ts j = some c := by simp [cyielded, hd, hc]
        rw [hcy, hc]
        have hev : ceval ts (.tmp t) = some (.bool c) := by simp [ceval, List.getD_eq_getElem?_getD, hc]
        have h2 := tsplit_ev hev h
        refine ⟨rfl, ?_⟩
        cases c <;> cases want <;> simp_all
      · simp [T.ev] at h
      · rename_i hno hnj
        have : cyielded ops ts j = none := by
          cases hx : ts[t]? with
          | none => simp [cyielded, hd, hx]
          | some x => cases x <;> first | exact absurd hx (hno _) | simp [cyielded, hd, hx]
        rw [this]
        refine ⟨?_, .inr ⟨rfl, h⟩⟩
        split
        · rename_i hx; exact absurd hx hnj
        · rfl

def tOps (self : TSelf) (P : Program) (ro b : Nat) (ops : Array Oper) : List Oper → Nat → CAct → CSt → T (CAct × CSt)
  | [], _, a, s => .ret (a, s)
  | o :: r, i, a, s => tguard ops o a.tmps
    (fun ts => (tOper self P ro (b + i) { a with tmps := ts } o s).bind fun x => tOps self P ro b ops r (i + 1) (CAct.put { a with tmps := ts } o.dst x.1) x.2)
    (fun ts => tOps self P ro b ops r (i + 1) (CAct.put { a with tmps := ts } o.dst cundef) s)

theorem tOps_ev {t : TSelf} {self : Self} (ht : TOk t self) {P : Program} {ro b : Nat} {ops : Array Oper} {x : CAct × CSt} : ∀ (l : List Oper) (i : Nat) (a : CAct) (s : CSt), (tOps t P ro b ops l i a s).ev = some x → cOps self P ro b ops l i a s = some x
  | [], i, a, s, h => by simpa [tOps, cOps, T.ev] using h
  | o :: r, i, a, s, h => by
    simp only [tOps] at h
    simp only [cOps]
    obtain ⟨hgf, h⟩ := tguard_ev h
    rw [hgf]
    simp only [cond_true]
    rcases h with ⟨hw, h⟩ | ⟨hw, h⟩
    · rw [hw]
      simp only [cond_true]
      obtain ⟨⟨v, s1⟩, h1, h2⟩ := ev_bind _ h
      rw [tOper_ev ht h1]
      exact tOps_ev ht r (i + 1) _ _ h2
    · rw [hw]
      simp only [cond_false]
      exact tOps_ev ht r (i + 1) _ _ h

def tq (P : Program) (ρ : Operand → Option CV) (ro id : Nat) (o : Oper) (h : HF) : T CV :=
  bif isZ o.op then .of (cq P ρ ro id o h)
  else (tmem P ρ ro id o h).bind fun r => match r with
    | (v, []) => .ret v
    | _ => .fail

theorem tq_ev {P : Program} {ρ : Operand → Option CV} {ro id : Nat} {o : Oper} {h : HF} {v : CV} (e : (tq P ρ ro id o h).ev = some v) : cq P ρ ro id o h = some v := by
  unfold tq at e
  cases hz : isZ o.op with
  | true => rw [hz] at e; exact ev_of' e
  | false =>
    rw [hz] at e
    simp only [cond_false] at e
    obtain ⟨⟨u, ef⟩, h1, h2⟩ := ev_bind _ e
    unfold cq
    rw [hz]
    simp only [cond_false]
    rw [h1]
    split at h2
    · rename_i heq; cases heq; simpa [T.ev] using h2
    · simp [T.ev] at h2

def tveqL {α : Type} (f : CV → CV → T α → T α) : List CV → List CV → T α → T α
  | [], [], k => k
  | a :: r, b :: s, k => f a b (tveqL f r s k)
  | _, _, _ => .fail

/-- On, if two values are surely the same. -/
def tveq {α : Type} : Nat → CV → CV → T α → T α
  | 0, _, _, _ => .fail
  | n + 1, a, b, k => match a, b with
    | .int j x, .int l y => bif decide (j = l) then .ite (decide (x = y)) k .fail else .fail
    | .agg as, .agg bs => tveqL (tveq n) as.toList bs.toList k
    | .iface t x, .iface u y => bif Nat.beq t u then tveq n x y k else .fail
    | .pl r l, .pl q m => match r.cast q l with
      | some l => .ite (decide (l = m)) k .fail
      | none => .fail
    | a, b => .ite (veq (n + 1) a b) k .fail

theorem tveqL_ev {α : Type} {f : CV → CV → T α → T α} {g : CV → CV → Bool} (hf : ∀ a b k r, (f a b k).ev = some r → g a b = true ∧ k.ev = some r) : ∀ (as bs : List CV) (k : T α) (r : α), (tveqL f as bs k).ev = some r → veqL g as bs = true ∧ k.ev = some r
  | [], [], k, r, h => ⟨rfl, h⟩
  | a :: as, b :: bs, k, r, h => by
    simp only [tveqL] at h
    obtain ⟨h1, h2⟩ := hf _ _ _ _ h
    obtain ⟨h3, h4⟩ := tveqL_ev hf as bs k r h2
    exact ⟨by simp [veqL, h1, h3], h4⟩
  | [], _ :: _, k, r, h => by simp [tveqL, T.ev] at h
  | _ :: _, [], k, r, h => by simp [tveqL, T.ev] at h

theorem tveq_ev {α : Type} : ∀ (n : Nat) (a b : CV) (k : T α) (r : α), (tveq n a b k).ev = some r → veq n a b = true ∧ k.ev = some r
  | 0, a, b, k, r, h => by simp [tveq, T.ev] at h
  | n + 1, a, b, k, r, h => by
    unfold tveq at h
    split at h
    · rename_i j x l y
      by_cases hj : j = l
      · subst hj
        simp only [decide_true, cond_true] at h
        obtain ⟨h1, h2⟩ := ev_when (x := k) h
        simp only [decide_eq_true_eq] at h1
        exact ⟨by simp [veq, h1], h2⟩
      · simp [hj, T.ev] at h
    · rename_i as bs
      obtain ⟨h1, h2⟩ := tveqL_ev (g := veq n) (fun a b k r h => tveq_ev n a b k r h) _ _ _ _ h
      exact ⟨by simpa [veq] using h1, h2⟩
    · rename_i t x u y
      cases ht : Nat.beq t u with
      | false => rw [ht] at h; simp [T.ev] at h
      | true =>
        rw [ht] at h
        obtain ⟨h1, h2⟩ := tveq_ev n x y k r h
        exact ⟨by simp [veq, ht, h1], h2⟩
    · rename_i r l q m
      split at h
      · rename_i l' hc
        obtain ⟨h1, h2⟩ := ev_when (x := k) h
        exact ⟨by simp only [veq, hc, plEq]; exact h1, h2⟩
      · simp [T.ev] at h
    · exact ev_when (x := k) h

/-- On, if an operation answers the same over another heap. -/
def tokq {α : Type} (P : Program) (ro base : Nat) (p : Pend) (h : HF) (k : T α) : T α :=
  (tq P (ceval p.ts) ro (base + p.i) p.o h).bind fun v => tveq 8 v p.v k

theorem tokq_ev {α : Type} {P : Program} {ro base : Nat} {p : Pend} {h : HF} {k : T α} {r : α} (e : (tokq P ro base p h k).ev = some r) : okq P ro base p h = true ∧ k.ev = some r := by
  unfold tokq at e
  unfold okq
  obtain ⟨v, h1, h2⟩ := ev_bind _ e
  rw [tq_ev h1]
  exact tveq_ev _ _ _ _ _ h2

def tpend {α : Type} (P : Program) (ro base m : Nat) (h : HF) (k : T α) : List Pend → T α
  | [] => k
  | p :: r => bif tb m p.i then tpend P ro base m h k r else tokq P ro base p h (tpend P ro base m h k r)

theorem tpend_ev {α : Type} {P : Program} {ro base m : Nat} {h : HF} {k : T α} {x : α} : ∀ (l : List Pend), (tpend P ro base m h k l).ev = some x → l.all (fun p => tb m p.i || okq P ro base p h) = true ∧ k.ev = some x
  | [], e => ⟨rfl, e⟩
  | p :: r, e => by
    simp only [tpend] at e
    cases ht : tb m p.i with
    | true =>
      rw [ht] at e
      obtain ⟨h1, h2⟩ := tpend_ev r e
      exact ⟨by simp [ht]; simpa using h1, h2⟩
    | false =>
      rw [ht] at e
      obtain ⟨h0, h1⟩ := tokq_ev e
      obtain ⟨h2, h3⟩ := tpend_ev r h1
      exact ⟨by simp [ht, h0]; simpa using h2, h3⟩

def tpast {α : Type} (P : Program) (ro base m : Nat) (p : Pend) (k : T α) : List (Nat × Tr CObj) → T α
  | [] => k
  | x :: r => bif tb m x.1 then tpast P ro base m p k r else tokq P ro base p x.2.get (tpast P ro base m p k r)

theorem tpast_ev {α : Type} {P : Program} {ro base m : Nat} {p : Pend} {k : T α} {y : α} : ∀ (l : List (Nat × Tr CObj)), (tpast P ro base m p k l).ev = some y → l.all (fun x => tb m x.1 || okq P ro base p x.2.get) = true ∧ k.ev = some y
  | [], e => ⟨rfl, e⟩
  | x :: r, e => by
    simp only [tpast] at e
    cases ht : tb m x.1 with
    | true =>
      rw [ht] at e
      obtain ⟨h1, h2⟩ := tpast_ev r e
      exact ⟨by simp [ht]; simpa using h1, h2⟩
    | false =>
      rw [ht] at e
      obtain ⟨h0, h1⟩ := tokq_ev e
      obtain ⟨h2, h3⟩ := tpast_ev r h1
      exact ⟨by simp [ht, h0]; simpa using h2, h3⟩

def tdOps (self : TSelf) (P : Program) (ro base : Nat) (ops : Array Oper) (B : List Nat) : List Oper → Nat → List (Nat × Tr CObj) → List Pend → CAct → CSt → T (CAct × CSt)
  | [], _, _, _, a, s => .ret (a, s)
  | o :: r, i, past, pend, a, s => tguard ops o a.tmps
    (fun ts => bif isAct o.op then
        (tOper self P ro (base + i) { a with tmps := ts } o s).bind fun x =>
          tpend P ro base (B.getD i 0) x.2.heap.get (tdOps self P ro base ops B r (i + 1) ((i, s.heap) :: past) pend (CAct.put { a with tmps := ts } o.dst x.1) x.2) pend
      else (tq P (ceval ts) ro (base + i) o s.heap.get).bind fun v =>
        bif isPure o.op then tdOps self P ro base ops B r (i + 1) past pend (CAct.put { a with tmps := ts } o.dst v) s
        else tpast P ro base (B.getD i 0) ⟨i, o, ts, v⟩ (tdOps self P ro base ops B r (i + 1) past (⟨i, o, ts, v⟩ :: pend) (CAct.put { a with tmps := ts } o.dst v) s) past)
    (fun ts => tdOps self P ro base ops B r (i + 1) past pend (CAct.put { a with tmps := ts } o.dst cundef) s)

theorem tdOps_ev {t : TSelf} {self : Self} (ht : TOk t self) {P : Program} {ro base : Nat} {ops : Array Oper} {B : List Nat} {x : CAct × CSt} :
    ∀ (l : List Oper) (i : Nat) (past : List (Nat × Tr CObj)) (pend : List Pend) (a : CAct) (s : CSt), (tdOps t P ro base ops B l i past pend a s).ev = some x → dOps self P ro base ops B l i past pend a s = some x
  | [], i, past, pend, a, s, h => by simpa [tdOps, dOps, T.ev] using h
  | o :: r, i, past, pend, a, s, h => by
    simp only [tdOps] at h
    simp only [dOps]
    obtain ⟨hgf, h⟩ := tguard_ev h
    rw [hgf]
    simp only [cond_true]
    rcases h with ⟨hw, h⟩ | ⟨hw, h⟩
    · rw [hw]
      simp only [cond_true]
      cases ha : isAct o.op with
      | true =>
        rw [ha] at h
        simp only [cond_true] at h ⊢
        obtain ⟨⟨v, s1⟩, h1, h2⟩ := ev_bind _ h
        rw [tOper_ev ht h1]
        simp only [] at h2 ⊢
        obtain ⟨h3, h4⟩ := tpend_ev _ h2
        rw [h3]
        exact tdOps_ev ht r (i + 1) _ _ _ _ h4
      | false =>
        rw [ha] at h
        simp only [cond_false] at h ⊢
        obtain ⟨v, h1, h2⟩ := ev_bind _ h
        rw [tq_ev h1]
        simp only []
        cases hp : isPure o.op with
        | true => rw [hp] at h2; exact tdOps_ev ht r (i + 1) _ _ _ _ h2
        | false =>
          rw [hp] at h2
          simp only [cond_false] at h2 ⊢
          obtain ⟨h3, h4⟩ := tpast_ev _ h2
          rw [h3]
          exact tdOps_ev ht r (i + 1) _ _ _ _ h4
    · rw [hw]
      simp only [cond_false]
      exact tdOps_ev ht r (i + 1) _ _ _ _ h

def tRegion (self : TSelf) (P : Program) (ro : Nat) (ops : Array Oper) (draw : Bool) (a : CAct) (s : CSt) : T (CEx × CAct × CSt) :=
  bif draw then
    let fs := infos ops ops.toList 0 []
    bif edgesOk ops.toList 0 && allFit fs then
      match preset P ops.toList s.next s.heap with
      | some h => (tdOps self P ro s.next ops (fs.map (·.bf)) ops.toList 0 [] [] a { heap := h, next := s.next + ops.size }).bind fun x => .ret (.normal, x.1, x.2)
      | none => .fail
    else .fail
  else (tOps self P ro s.next ops ops.toList 0 a { s with next := s.next + ops.size }).bind fun x => .ret (.normal, x.1, x.2)

theorem tRegion_ev {t : TSelf} {self : Self} (ht : TOk t self) {P : Program} {ro : Nat} {ops : Array Oper} {draw : Bool} {a : CAct} {s : CSt} {r : CEx × CAct × CSt} (e : (tRegion t P ro ops draw a s).ev = some r) : cRegion self P ro ops draw a s = some r := by
  unfold tRegion at e
  unfold cRegion
  cases draw with
  | true =>
    simp only [cond_true] at e ⊢
    unfold dRegion
    simp only []
    cases hg : (edgesOk ops.toList 0 && allFit (infos ops ops.toList 0 [])) with
    | false => rw [hg] at e; simp [T.ev] at e
    | true =>
      rw [hg] at e
      simp only [cond_true] at e ⊢
      split at e
      · rename_i h hp
        rw [hp]
        obtain ⟨x, h1, h2⟩ := ev_bind _ e
        simp only [T.ev, Option.some.injEq] at h2
        simp only []
        rw [tdOps_ev ht _ _ _ _ _ _ h1, ← h2]
      · simp [T.ev] at e
  | false =>
    simp only [cond_false] at e ⊢
    obtain ⟨x, h1, h2⟩ := ev_bind _ e
    simp only [T.ev, Option.some.injEq] at h2
    rw [tOps_ev ht _ _ _ _ h1, ← h2]

def tRangeGo (self : TSelf) (ro : Nat) (a : CAct) (g : FuncId) (first captured : List CV) (l : Nat) (ms : List Nat) (s1 : CSt) : T (CEx × CAct × CSt) :=
  (self.call ro g (first ++ [.func (.yield l) #[] #[]] ++ captured) s1).bind fun r =>
    match r.2.heap.get l with
    | some (.loop st pe fn2 tm2 po2 de2) =>
      T.when (!(isBusy st) && Nat.ble ro l) (match jumpOf pe with
        | some ex => .ret (ex, { a with marks := ms ++ a.marks }, { r.2 with heap := r.2.heap.set l (.loop .exhausted pe fn2 tm2 po2 de2) })
        | none => .fail)
    | _ => .fail

theorem tRangeGo_ev {t : TSelf} {self : Self} (ht : TOk t self) {ro : Nat} {a : CAct} {g : FuncId} {first captured : List CV} {l : Nat} {ms : List Nat} {s1 : CSt} {r : CEx × CAct × CSt} (e : (tRangeGo t ro a g first captured l ms s1).ev = some r) :
    cRangeGo self ro a g first captured l ms s1 = some r := by
  unfold tRangeGo at e
  unfold cRangeGo
  obtain ⟨⟨v, s2⟩, h1, h2⟩ := ev_bind _ e
  rw [ht.call h1]
  simp only [] at h2 ⊢
  split at h2
  · rename_i hget
    rw [hget]
    simp only []
    obtain ⟨h3, h4⟩ := ev_when h2
    rw [h3]
    simp only [cond_true]
    split at h4
    · rename_i ex hj; rw [hj]; simpa [T.ev] using h4
    · simp [T.ev] at h4
  · simp [T.ev] at h2

def tRange (self : TSelf) (P : Program) (ro : Nat) (round : Option Nat) (fn : FuncId) (pos : List Nat) (f : Operand) (a : CAct) (s : CSt) : T (CEx × CAct × CSt) :=
  match ceval a.tmps f with
  | some (.func (.func g) first captured) =>
    match round with
    | none => match s.heap.get s.next, s.heap.get (s.next + 1) with
      | none, none => tRangeGo self ro a g first.toList captured.toList (s.next + 1) [s.next]
          { heap := (s.heap.set s.next .defs).set (s.next + 1) (.loop .ready none fn a.tmps pos s.next), next := s.next + 2 }
      | _, _ => .fail
    | some l0 => match s.heap.get l0, s.heap.get s.next with
      | some (.loop _ _ _ _ _ de), none => tRangeGo self ro a g first.toList captured.toList s.next []
          { heap := s.heap.set s.next (.loop .ready none fn a.tmps pos de), next := s.next + 1 }
      | _, _ => .fail
  | _ => .fail

theorem tRange_ev {t : TSelf} {self : Self} (ht : TOk t self) {P : Program} {ro : Nat} {round : Option Nat} {fn : FuncId} {pos : List Nat} {f : Operand} {a : CAct} {s : CSt} {r : CEx × CAct × CSt}
    (e : (tRange t P ro round fn pos f a s).ev = some r) : cRange self P ro round fn pos f a s = some r := by
  unfold tRange at e
  unfold cRange
  split at e
  · rename_i g first captured hf
    rw [hf]
    simp only []
    cases round with
    | none =>
      simp only [] at e ⊢
      split at e
      · rename_i h1 h2; rw [h1, h2]; exact tRangeGo_ev ht e
      · simp [T.ev] at e
    | some l0 =>
      simp only [] at e ⊢
      split at e
      · rename_i h1 h2; rw [h1, h2]; exact tRangeGo_ev ht e
      · simp [T.ev] at e
  · simp [T.ev] at e

def tThen (r : T (CEx × CAct × CSt)) (k : CAct → CSt → T (CEx × CAct × CSt)) : T (CEx × CAct × CSt) :=
  r.bind fun x => match x with
    | (.normal, a, s) => k a s
    | x => .ret x

theorem tThen_ev {x : T (CEx × CAct × CSt)} {y : Option (CEx × CAct × CSt)} {k : CAct → CSt → T (CEx × CAct × CSt)} {k' : CAct → CSt → Option (CEx × CAct × CSt)} (hx : ∀ r, x.ev = some r → y = some r)
    (hk : ∀ a s r, (k a s).ev = some r → k' a s = some r) {r : CEx × CAct × CSt} (e : (tThen x k).ev = some r) : cThen y k' = some r := by
  unfold tThen at e
  unfold cThen
  obtain ⟨z, h1, h2⟩ := ev_bind _ e
  rw [hx _ h1]
  split at h2
  · exact hk _ _ _ h2
  · rename_i hno
    simp only [T.ev, Option.some.injEq] at h2
    subst h2
    split
    · rename_i a s heq
      cases heq
      exact (hno _ _ rfl).elim
    · rfl

def texec (L : List (Nat × List Nat × LoopFn)) (self : TSelf) (P : Program) (ro : Nat) (round : Option Nat) (fn : FuncId) : List Nat → Code → CAct → CSt → T (CEx × CAct × CSt)
  | _, .skip, a, s => .ret (.normal, a, s)
  | _, .label _, a, s => .ret (.normal, a, s)
  | _, .region _ ops draw, a, s => tRegion self P ro ops draw a s
  | p, .seq x y, a, s => tThen (texec L self P ro round fn (0 :: p) x a s) (texec L self P ro round fn (1 :: p) y)
  | p, .cond c x y, a, s => match ceval a.tmps c with
    | some (.bool t) => tsplit a.tmps c t fun v ts => bif v then texec L self P ro round fn (0 :: p) x { a with tmps := ts } s else texec L self P ro round fn (1 :: p) y { a with tmps := ts } s
    | _ => .fail
  | p, .scope x, a, s => texec L self P ro round fn (0 :: p) x a s
  | p, .block id x, a, s => (texec L self P ro round fn (0 :: p) x a s).bind fun r => match r with
    | (.exit j, a', s') => bif Nat.beq j id then .ret (.normal, a', s') else .ret (.exit j, a', s')
    | r => .ret r
  | p, .loop x, a, s => match findLoop L fn p with
    | some F => F ro round a s
    | none => tThen (texec L self P ro round fn (0 :: p) x a s) (self.again ro round fn (0 :: p) x)
  | p, .rangeFunc f params assign body, a, s => tRange self P ro round fn p f a s
  | _, .exit id, a, s => .ret (.exit id, a, s)
  | _, .ret, a, s => .ret (.ret, a, s)
  | _, _, _, _ => .fail

theorem texec_ev {L : List (Nat × List Nat × LoopFn)} {t : TSelf} {self : Self} (ht : TOk t self) {P : Program} {ro : Nat} {round : Option Nat} {fn : FuncId} : ∀ (c : Code) (p : List Nat) (a : CAct) (s : CSt) (r : CEx × CAct × CSt), (texec L t P ro round fn p c a s).ev = some r → execC L self P ro round fn p c a s = some r := by
  intro c
  induction c with
  | skip => intro p a s r h; simpa [texec, execC, T.ev] using h
  | label l => intro p a s r h; simpa [texec, execC, T.ev] using h
  | region id ops draw => intro p a s r h; exact tRegion_ev ht h
  | seq x y ihx ihy => intro p a s r h; exact tThen_ev (fun r hr => ihx _ _ _ _ hr) (fun a s r hr => ihy _ _ _ _ hr) h
  | cond c x y ihx ihy =>
    intro p a s r h
    simp only [texec] at h
    simp only [execC]
    split at h
    · rename_i b hc
      rw [hc]
      simp only []
      have h2 := tsplit_ev hc h
      cases b with
      | true => exact ihx _ _ _ _ h2
      | false => exact ihy _ _ _ _ h2
    · simp [T.ev] at h
  | block id x ih =>
    intro p a s r h
    simp only [texec] at h
    simp only [execC]
    obtain ⟨z, h1, h2⟩ := ev_bind _ h
    rw [ih _ _ _ _ h1]
    split at h2
    · rename_i j a' s'
      simp only []
      cases hj : Nat.beq j id <;> rw [hj] at h2 <;> simpa [T.ev] using h2
    · rename_i hno
      simp only [T.ev, Option.some.injEq] at h2
      subst h2
      split
      · rename_i j a' s' heq
        cases heq
        exact (hno _ _ _ rfl).elim
      · rfl
  | loop x ih =>
    intro p a s r h
    simp only [texec] at h
    simp only [execC]
    split at h
    · rename_i F hF; rw [hF]; exact h
    · rename_i hF; rw [hF]; exact tThen_ev (fun r hr => ih _ _ _ _ hr) (fun a s r hr => ht.again hr) h
  | rangeFunc f ps asg bd _ _ => intro p a s r h; exact tRange_ev ht h
  | exit id => intro p a s r h; simpa [texec, execC, T.ev] using h
  | ret => intro p a s r h; simpa [texec, execC, T.ev] using h
  | scope x ih => intro p a s r h; exact ih _ _ _ _ h
  | goto l => intro p a s r h; simp [texec, T.ev] at h
  | refuse r => intro p a s r h; simp [texec, T.ev] at h

def tcall (L : List (Nat × List Nat × LoopFn)) (self : TSelf) (P : Program) (ro : Nat) (f : FuncId) (args : List CV) (s : CSt) : T (CV × CSt) :=
  match P.funcs[f]? with
  | some fn => match fn.body with
    | some c =>
      (texec L self P ro none f [] c { tmps := args ++ List.replicate (fn.ntmps - args.length) cundef, marks := [] } s).bind fun r =>
        match r with
        | (.exit _, _, _) => .fail
        | (_, a, s') => match cmarks ro a.marks s'.heap with
          | some h => match cresults P a.tmps h.get fn.results.toList with
            | some vs => .ret (single vs, { s' with heap := h })
            | none => .fail
          | none => .fail
    | none => .fail
  | none => .fail

theorem tcall_ev {L : List (Nat × List Nat × LoopFn)} {t : TSelf} {self : Self} (ht : TOk t self) {P : Program} {ro : Nat} {f : FuncId} {args : List CV} {s : CSt} {r : CV × CSt} (e : (tcall L t P ro f args s).ev = some r) : callC L self P ro f args s = some r := by
  unfold tcall at e
  unfold callC
  split at e
  · rename_i fn hfn
    rw [hfn]
    simp only []
    split at e
    · rename_i c hc
      rw [hc]
      simp only []
      obtain ⟨⟨ex, a, s1⟩, h1, h2⟩ := ev_bind _ e
      rw [texec_ev ht _ _ _ _ _ h1]
      cases ex with
      | exit id => simp [T.ev] at h2
      | normal =>
        simp only [] at h2 ⊢
        split at h2
        · rename_i h hm
          rw [hm]
          simp only []
          split at h2
          · rename_i vs hv; rw [hv]; simpa [T.ev] using h2
          · simp [T.ev] at h2
        · simp [T.ev] at h2
      | ret =>
        simp only [] at h2 ⊢
        split at h2
        · rename_i h hm
          rw [hm]
          simp only []
          split at h2
          · rename_i vs hv; rw [hv]; simpa [T.ev] using h2
          · simp [T.ev] at h2
        · simp [T.ev] at h2
    · simp [T.ev] at e
  · simp [T.ev] at e

def tcallE (E : List (Nat × ExtFn)) (L : List (Nat × List Nat × LoopFn)) (self : TSelf) (P : Program) (ro : Nat) (f : FuncId) (args : List CV) (s : CSt) : T (CV × CSt) :=
  match findExt E f with
  | some x => x ro args s
  | none => tcall L self P ro f args s

def tden (P : Program) (E : List (Nat × ExtFn)) (L : List (Nat × List Nat × LoopFn)) : Nat → TSelf
  | 0 => { call := fun _ _ _ _ => .fail, exec := fun _ _ _ _ _ _ _ => .fail, again := fun _ _ _ _ _ _ _ => .fail }
  | k + 1 => { call := tcallE E L (tden P E L k) P, exec := texec L (tden P E L k) P, again := fun ro round fn p c a s => tThen (texec L (tden P E L k) P ro round fn p c a s) ((tden P E L k).again ro round fn p c) }

theorem tden_ev (P : Program) (E : List (Nat × ExtFn)) (L : List (Nat × List Nat × LoopFn)) : ∀ k, TOk (tden P E L k) (den P E L k)
  | 0 => ⟨fun h => by simp [tden, T.ev] at h, fun h => by simp [tden, T.ev] at h, fun h => by simp [tden, T.ev] at h⟩
  | k + 1 => by
    have ih := tden_ev P E L k
    refine ⟨fun {ro f args st r} h => ?_, fun h => texec_ev ih _ _ _ _ _ h, fun h => tThen_ev (fun r hr => texec_ev ih _ _ _ _ _ hr) (fun a s r hr => ih.again hr) h⟩
    show callE E L (den P E L k) P ro f args st = some r
    have h : (tcallE E L (tden P E L k) P ro f args st).ev = some r := h
    unfold tcallE at h
    unfold callE
    split at h
    · rename_i x hx; rw [hx]; exact h
    · rename_i hx; rw [hx]; exact tcall_ev ih h

/-- A loop's rounds, as a tree. -/
def tloopN (S : TSelf) (L : List (Nat × List Nat × LoopFn)) (P : Program) (round : Option Nat) (fn : FuncId) (p : List Nat) (x : Code) (base mask mask2 : Nat) (voids : List (Nat × RC)) : Nat → NSt → T (CEx × NSt)
  | 0, _ => .fail
  | k + 1, n => (texec L S P 0 round fn p x n.fact n.fst).bind fun r => match r with
    | (.normal, a1, s1) => match nz base mask voids a1 s1 with
      | some m => tloopN S L P round fn p x base mask mask2 voids k m
      | none => .fail
    | (e, a1, s1) => match nz base mask2 [] a1 s1 with
      | some m => .ret (e, m)
      | none => .fail

theorem tloopN_ev {t : TSelf} {S : Self} (ht : TOk t S) {L : List (Nat × List Nat × LoopFn)} {P : Program} {round : Option Nat} {fn : FuncId} {p : List Nat} {x : Code} {base mask mask2 : Nat} {voids : List (Nat × RC)} : ∀ (k : Nat) (n : NSt) (r : CEx × NSt),
    (tloopN t L P round fn p x base mask mask2 voids k n).ev = some r → loopN S L P round fn p x base mask mask2 voids k n = some r
  | 0, n, r, h => by simp [tloopN, T.ev] at h
  | k + 1, n, r, h => by
    simp only [tloopN] at h
    simp only [loopN]
    obtain ⟨⟨e, a1, s1⟩, h1, h2⟩ := ev_bind _ h
    rw [texec_ev ht _ _ _ _ _ h1]
    cases e with
    | normal =>
      simp only [] at h2 ⊢
      split at h2
      · rename_i m hm; rw [hm]; exact tloopN_ev ht k m r h2
      · simp [T.ev] at h2
    | exit id =>
      simp only [] at h2 ⊢
      split at h2
      · rename_i m hm; rw [hm]; simpa [T.ev] using h2
      · simp [T.ev] at h2
    | ret =>
      simp only [] at h2 ⊢
      split at h2
      · rename_i m hm; rw [hm]; simpa [T.ev] using h2
      · simp [T.ev] at h2

end Go.Proofs.YtkdjllolnlndkaaD
