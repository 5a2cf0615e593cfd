/-
  The reference run as a decision tree: it goes on where a condition is open. What its tree comes to, the reference run comes to.
  Functions of data: what a reference run tells of them, told to the runs of their callers.
  States of one shape: what varies in them, as a list; loops told apart by it.
-/
import Derived.Test.YtecidokjhplbgaaGreatDoorLoopA
import Derived.ProofKit
import Derived.OpenShut
import Derived.KernelRfl
set_option linter.unusedVariables false
set_option linter.unusedSimpArgs false
namespace Go.Proofs.YtecidokjhplbgaaGreatDoorD
open Go Go.RowKit

structure TSelf where
  call : Nat → FuncId → List CV → CSt → T (CV × CSt)
  exec : Nat → Option Nat → FuncId → List Nat → Code → CAct → CSt → T (CEx × CAct × CSt)
  again : Nat → Option Nat → FuncId → List Nat → Code → CAct → CSt → T (CEx × CAct × CSt)

structure TOk (t : TSelf) (s : Self) : Prop where
  call : ∀ {ro f args st r}, (t.call ro f args st).ev = some r → s.call ro f args st = some r
  exec : ∀ {ro round fn p c a st r}, (t.exec ro round fn p c a st).ev = some r → s.exec ro round fn p c a st = some r
  again : ∀ {ro round fn p c a st r}, (t.again ro round fn p c a st).ev = some r → s.again ro round fn p c a st = some r

def tround (self : TSelf) (P : Program) (ro l : Nat) (args : List CV) (s : CSt) : T (CV × CSt) :=
  match s.heap.get l with
  | some (.loop _ _ fn tmps pos _) => match codeAt P fn pos with
    | some (.rangeFunc _ params assign body) =>
      T.when (Nat.beq args.length params.size && Nat.ble ro l) ((self.exec ro (some l) fn (0 :: pos) assign { tmps := setParams params.toList args tmps, marks := [] } s).bind fun r =>
        match r with
        | (.normal, a1, s1) =>
          match a1.marks, s1.heap.get l with
          | [], some (.loop .ready pe fn1 tm1 po1 de1) =>
            (self.exec ro (some l) fn (1 :: pos) body a1 { s1 with heap := s1.heap.set l (.loop .busy pe fn1 tm1 po1 de1) }).bind fun r =>
              match r with
              | (e, a2, s2) => match a2.marks, s2.heap.get l with
                | [], some (.loop _ _ fn2 tm2 po2 de2) =>
                  match e with
                  | .normal => .ret (.bool true, { s2 with heap := s2.heap.set l (.loop .ready none fn2 tm2 po2 de2) })
                  | .ret => .ret (.bool false, { s2 with heap := s2.heap.set l (.loop .done (some .ret) fn2 tm2 po2 de2) })
                  | .exit id => .ret (.bool false, { s2 with heap := s2.heap.set l (.loop .done (some (.exit id)) fn2 tm2 po2 de2) })
                | _, _ => .fail
          | _, _ => .fail
        | _ => .fail)
    | _ => .fail
  | _ => .fail

theorem tround_ev {t : TSelf} {self : Self} (ht : TOk t self) {P : Program} {ro l : Nat} {args : List CV} {s : CSt} {r : CV × CSt} (e : (tround t P ro l args s).ev = some r) : cround self P ro l args s = some r := by
  unfold tround at e
  unfold cround
  split at e
  · rename_i st pe fn tmps pos de hget
    rw [hget]
    simp only []
    split at e
    · rename_i f params assign body hcode
      rw [hcode]
      simp only []
      obtain ⟨hc, e⟩ := ev_when e
      simp only [hc, cond_true]
      obtain ⟨⟨ex, a1, s1⟩, h1, h2⟩ := ev_bind _ e
      rw [ht.exec h1]
      split at h2
      · rename_i a1' s1' heq
        cases heq
        simp only []
        split at h2
        · rename_i hm hget1
          rw [hm, hget1]
          simp only []
          obtain ⟨⟨ex2, a2, s2⟩, h3, h4⟩ := ev_bind _ h2
          rw [ht.exec h3]
          simp only []
          simp only [] at h4
          split at h4
          · rename_i hm2 hget2
            rw [hm2, hget2]
            simp only []
            cases ex2 <;> simpa [T.ev] using h4
          · simp [T.ev] at h4
        · simp [T.ev] at h2
      · simp [T.ev] at h2
    · simp [T.ev] at e
  · simp [T.ev] at e

def tcallv (self : TSelf) (P : Program) (ro : Nat) (f : CV) (args : List CV) (s : CSt) : T (CV × CSt) :=
  match f with
  | .func (.func g) first captured => self.call ro g (first.toList ++ args ++ captured.toList) s
  | .func (.yield l) first _ => tround self P ro l (first.toList ++ args) s
  | _ => .fail

def tOper (self : TSelf) (P : Program) (ro id : Nat) (a : CAct) (o : Oper) (s : CSt) : T (CV × CSt) :=
  match o.op with
  | .call { callee := .value f, args, .. } => match ceval a.tmps f, evals (ceval a.tmps) args.toList with
    | some g, some vs => match tintr P vs g with
      | some t => t.bind fun v => .ret (v, s)
      | none => tcallv self P ro g vs s
    | _, _ => .fail
  | _ => (tmem P (ceval a.tmps) ro id o s.heap.get).bind fun r => .ret (r.1, { s with heap := setAll s.heap r.2 })

theorem tOper_ev {t : TSelf} {self : Self} (ht : TOk t self) {P : Program} {ro id : Nat} {a : CAct} {o : Oper} {s : CSt} {r : CV × CSt} (e : (tOper t P ro id a o s).ev = some r) : cOper self P ro id a o s = some r := by
  unfold tOper at e
  unfold cOper
  split at e
  · rename_i f args ts hop
    rw [hop]
    simp only []
    split at e
    · rename_i g vs hg hvs
      rw [hg, hvs]
      simp only []
      cases hin : tintr P vs g with
      | some t =>
        rw [hin] at e
        simp only [] at e
        obtain ⟨v, h1, h2⟩ := ev_bind _ e
        cases ev_ret h2
        simp only [h1]
      | none =>
      rw [hin] at e
      simp only [] at e
      unfold tcallv at e
      unfold ccallv
      split at e
      · exact ht.call e
      · exact tround_ev ht e
      · simp [T.ev] at e
    · simp [T.ev] at e
  · rename_i hno
    obtain ⟨⟨v, ef⟩, h1, h2⟩ := ev_bind _ e
    simp only [T.ev, Option.some.injEq] at h2
    subst h2
    split
    · rename_i f args ts hop
      exact absurd hop (hno f args ts)
    · rw [h1]

def tsplit {β : Type} (ts : List CV) (x : Operand) (c : Bool) (k : Bool → List CV → T β) : T β :=
  match x with
  | .tmp t => .ite c (k true (ts.set t (.bool true))) (k false (ts.set t (.bool false)))
  | _ => .ite c (k true ts) (k false ts)

theorem set_same {ts : List CV} {t : Nat} {v : CV} (h : ts.getD t cundef = v) (hv : v ≠ cundef) : ts.set t v = ts := by
  apply List.ext_getElem?
  intro j
  rw [List.getElem?_set]
  by_cases hj : t = j
  · subst hj
    by_cases hl : t < ts.length
    · simp only [hl, if_true]
      have : ts[t]? = some ts[t] := List.getElem?_eq_getElem hl
      rw [List.getD_eq_getElem?_getD, this] at h
      rw [this]; exact congrArg some h.symm
    · rw [List.getD_eq_getElem?_getD, List.getElem?_eq_none (by omega)] at h
      exact absurd h.symm hv
  · simp [hj]

theorem tsplit_ev {β : Type} {ts : List CV} {x : Operand} {c : Bool} {k : Bool → List CV → T β} {b : β} (hx : ceval ts x = some (.bool c)) (h : (tsplit ts x c k).ev = some b) : (k c ts).ev = some b := by
  unfold tsplit at h
  split at h
  · rename_i t
    simp only [ceval, Option.some.injEq] at hx
    have hs := set_same hx (by intro hh; cases hh)
    rcases ev_ite h with ⟨rfl, h⟩ | ⟨rfl, h⟩ <;> rwa [hs] at h
  · rcases ev_ite h with ⟨rfl, h⟩ | ⟨rfl, h⟩ <;> exact h


def tguard {β : Type} (ops : Array Oper) (o : Oper) (ts : List CV) (yes no : List CV → T β) : T β :=
  match o.guard with
  | none => yes ts
  | some (j, want) => match (ops[j]?).bind (·.dst) with
    | none => no ts
    | some t => match ts[t]? with
      | some (.bool c) => tsplit ts (.tmp t) c fun v ts' => bif (bif v then want else !want) then yes ts' else no ts'
      | some .junk => .fail
      | _ => no ts

theorem tguard_ev {β : Type} {ops : Array Oper} {o : Oper} {ts : List CV} {yes no : List CV → T β} {b : β} (h : (tguard ops o ts yes no).ev = some b) :
    gfine ops o ts = true ∧ ((Region.wanted o (cyielded ops ts) = true ∧ (yes ts).ev = some b) ∨ (Region.wanted o (cyielded ops ts) = false ∧ (no ts).ev = some b)) := by
  unfold tguard at h
  unfold Region.wanted gfine
  split at h
  · rename_i hg; rw [hg]; exact ⟨rfl, .inl ⟨rfl, h⟩⟩
  · rename_i j want hg
    rw [hg]
    simp only []
    split at h
    · rename_i hd; rw [hd]; refine ⟨rfl, .inr ⟨?_, h⟩⟩; simp [cyielded, hd]
    · rename_i t hd
      rw [hd]
      simp only [Option.bind_some]
      split at h
      · rename_i c hc
        have hcy : cyielded ops ts j = some c := by simp [cyielded, hd, hc]
        rw [hcy, hc]
        have hev : ceval ts (.tmp t) = some (.bool c) := by simp [ceval, List.getD_eq_getElem?_getD, hc]
        have h2 := tsplit_ev hev h
        refine ⟨rfl, ?_⟩
        cases c <;> cases want <;> simp_all
      · simp [T.ev] at h
      · rename_i hno hnj
        have : cyielded ops ts j = none := by
          cases hx : ts[t]? with
          | none => simp [cyielded, hd, hx]
          | some x => cases x <;> first | exact absurd hx (hno _) | simp [cyielded, hd, hx]
        rw [this]
        refine ⟨?_, .inr ⟨rfl, h⟩⟩
        split
        · rename_i hx; exact absurd hx hnj
        · rfl

def tOps (self : TSelf) (P : Program) (ro b : Nat) (ops : Array Oper) : List Oper → Nat → CAct → CSt → T (CAct × CSt)
  | [], _, a, s => .ret (a, s)
  | o :: r, i, a, s => tguard ops o a.tmps
    (fun ts => (tOper self P ro (b + i) { a with tmps := ts } o s).bind fun x => tOps self P ro b ops r (i + 1) (CAct.put { a with tmps := ts } o.dst x.1) x.2)
    (fun ts => tOps self P ro b ops r (i + 1) (CAct.put { a with tmps := ts } o.dst cundef) s)

theorem tOps_ev {t : TSelf} {self : Self} (ht : TOk t self) {P : Program} {ro b : Nat} {ops : Array Oper} {x : CAct × CSt} : ∀ (l : List Oper) (i : Nat) (a : CAct) (s : CSt), (tOps t P ro b ops l i a s).ev = some x → cOps self P ro b ops l i a s = some x
  | [], i, a, s, h => by simpa [tOps, cOps, T.ev] using h
  | o :: r, i, a, s, h => by
    simp only [tOps] at h
    simp only [cOps]
    obtain ⟨hgf, h⟩ := tguard_ev h
    rw [hgf]
    simp only [cond_true]
    rcases h with ⟨hw, h⟩ | ⟨hw, h⟩
    · rw [hw]
      simp only [cond_true]
      obtain ⟨⟨v, s1⟩, h1, h2⟩ := ev_bind _ h
      rw [tOper_ev ht h1]
      exact tOps_ev ht r (i + 1) _ _ h2
    · rw [hw]
      simp only [cond_false]
      exact tOps_ev ht r (i + 1) _ _ h

def tveqL {α : Type} (f : CV → CV → T α → T α) : List CV → List CV → T α → T α
  | [], [], k => k
  | a :: r, b :: s, k => f a b (tveqL f r s k)
  | _, _, _ => .fail

def tveq {α : Type} : Nat → CV → CV → T α → T α
  | 0, _, _, _ => .fail
  | n + 1, a, b, k => match a, b with
    | .int j x, .int l y => bif decide (j = l) then .ite (decide (x = y)) k .fail else .fail
    | .agg as, .agg bs => tveqL (tveq n) as.toList bs.toList k
    | .iface t x, .iface u y => bif Nat.beq t u then tveq n x y k else .fail
    | .pl r l, .pl q m => match r.cast q l with
      | some l => .ite (decide (l = m)) k .fail
      | none => .fail
    | .row b z u, .row c y v => bif Nat.beq b c && Nat.beq z y then .ite (Nat.beq u v) k .fail else .fail
    | .rptr b z i j, .rptr c y i' j' => bif Nat.beq b c && Nat.beq z y && Nat.beq j j' then .ite (Nat.beq i i') k .fail else .fail
    | .win b z s u m, .win c y t v l => bif Nat.beq b c && Nat.beq z y then .ite (Nat.beq s t) (.ite (Nat.beq u v) (.ite (Nat.beq m l) k .fail) .fail) .fail else .fail
    | a, b => .ite (veq (n + 1) a b) k .fail

theorem tveqL_ev {α : Type} {f : CV → CV → T α → T α} {g : CV → CV → Bool} (hf : ∀ a b k r, (f a b k).ev = some r → g a b = true ∧ k.ev = some r) : ∀ (as bs : List CV) (k : T α) (r : α), (tveqL f as bs k).ev = some r → veqL g as bs = true ∧ k.ev = some r
  | [], [], k, r, h => ⟨rfl, h⟩
  | a :: as, b :: bs, k, r, h => by
    simp only [tveqL] at h
    obtain ⟨h1, h2⟩ := hf _ _ _ _ h
    obtain ⟨h3, h4⟩ := tveqL_ev hf as bs k r h2
    exact ⟨by simp [veqL, h1, h3], h4⟩
  | [], _ :: _, k, r, h => by simp [tveqL, T.ev] at h
  | _ :: _, [], k, r, h => by simp [tveqL, T.ev] at h

theorem tveq_ev {α : Type} : ∀ (n : Nat) (a b : CV) (k : T α) (r : α), (tveq n a b k).ev = some r → veq n a b = true ∧ k.ev = some r
  | 0, a, b, k, r, h => by simp [tveq, T.ev] at h
  | n + 1, a, b, k, r, h => by
    unfold tveq at h
    split at h
    · rename_i j x l y
      by_cases hj : j = l
      · subst hj
        simp only [decide_true, cond_true] at h
        obtain ⟨h1, h2⟩ := ev_when (x := k) h
        simp only [decide_eq_true_eq] at h1
        exact ⟨by simp [veq, h1], h2⟩
      · simp [hj, T.ev] at h
    · rename_i as bs
      obtain ⟨h1, h2⟩ := tveqL_ev (g := veq n) (fun a b k r h => tveq_ev n a b k r h) _ _ _ _ h
      exact ⟨by simpa [veq] using h1, h2⟩
    · rename_i t x u y
      cases ht : Nat.beq t u with
      | false => rw [ht] at h; simp [T.ev] at h
      | true =>
        rw [ht] at h
        obtain ⟨h1, h2⟩ := tveq_ev n x y k r h
        exact ⟨by simp [veq, ht, h1], h2⟩
    · rename_i r l q m
      split at h
      · rename_i l' hc
        obtain ⟨h1, h2⟩ := ev_when (x := k) h
        exact ⟨by simp only [veq, hc, plEq]; exact h1, h2⟩
      · simp [T.ev] at h
    · rename_i b z u c y v
      obtain ⟨h0, h⟩ := ev_bif h
      obtain ⟨h1, h2⟩ := ev_when (x := k) h
      simp only [Bool.and_eq_true] at h0
      exact ⟨by simp only [veq, h0.1, h0.2, h1]; rfl, h2⟩
    · rename_i b z i j c y i' j'
      obtain ⟨h0, h⟩ := ev_bif h
      obtain ⟨h1, h2⟩ := ev_when (x := k) h
      simp only [Bool.and_eq_true] at h0
      exact ⟨by simp only [veq, h0.1.1, h0.1.2, h0.2, h1]; rfl, h2⟩
    · rename_i b z s u m c y t v l
      obtain ⟨h0, h⟩ := ev_bif h
      obtain ⟨h1, h⟩ := ev_when h
      obtain ⟨h3, h⟩ := ev_when h
      obtain ⟨h4, h2⟩ := ev_when (x := k) h
      simp only [Bool.and_eq_true] at h0
      exact ⟨by simp only [veq, h0.1, h0.2, h1, h3, h4]; rfl, h2⟩
    · exact ev_when (x := k) h

def tq (z : Bool) (P : Program) (ρ : Operand → Option CV) (ro id : Nat) (o : Oper) (h : HF) : T CV :=
  bif isZ z o.op then
    bif isZ false o.op then .of (cq z P ρ ro id o h)
    else match zobj P ρ id o, h id with
      | some (v, .cells ws e' m'), some (.cells vs e m) => bif Nat.beq e e' && Nat.beq m m' then tveqL (tveq 8) vs ws (.ret v) else .fail
      | _, _ => .fail
  else (tmem P ρ ro id o h).bind fun r => match r with
    | (v, []) => .ret v
    | _ => .fail

theorem tq_ev {z : Bool} {P : Program} {ρ : Operand → Option CV} {ro id : Nat} {o : Oper} {h : HF} {v : CV} (e : (tq z P ρ ro id o h).ev = some v) : cq z P ρ ro id o h = some v := by
  unfold tq at e
  cases hz : isZ z o.op with
  | true =>
    rw [hz] at e
    simp only [cond_true] at e
    cases hc : isZ false o.op with
    | true => rw [hc] at e; exact ev_of' e
    | false =>
      rw [hc] at e
      simp only [cond_false] at e
      unfold cq
      rw [hz]
      simp only [cond_true]
      split at e
      · rename_i v0 ws e' m' vs e0 m hzo hh
        rw [hzo, hh]
        simp only []
        cases hm : (Nat.beq e0 e' && Nat.beq m m') with
        | true =>
          rw [hm] at e
          simp only [cond_true] at e
          obtain ⟨h1, h2⟩ := tveqL_ev (g := veq 8) (tveq_ev 8) _ _ _ _ e
          rw [h1, Bool.true_and, hm]
          simpa [T.ev] using h2
        | false => rw [hm] at e; simp [T.ev] at e
      · simp [T.ev] at e
  | false =>
    rw [hz] at e
    simp only [cond_false] at e
    obtain ⟨⟨u, ef⟩, h1, h2⟩ := ev_bind _ e
    unfold cq
    rw [hz]
    simp only [cond_false]
    rw [h1]
    split at h2
    · rename_i heq; cases heq; simpa [T.ev] using h2
    · simp [T.ev] at h2

def tokq {α : Type} (z : Bool) (P : Program) (ro base : Nat) (p : Pend) (h : HF) (k : T α) : T α :=
  (tq z P (ceval p.ts) ro (base + p.i) p.o h).bind fun v => tveq 8 v p.v k

theorem tokq_ev {α : Type} {z : Bool} {P : Program} {ro base : Nat} {p : Pend} {h : HF} {k : T α} {r : α} (e : (tokq z P ro base p h k).ev = some r) : okq z P ro base p h = true ∧ k.ev = some r := by
  unfold tokq at e
  unfold okq
  obtain ⟨v, h1, h2⟩ := ev_bind _ e
  rw [tq_ev h1]
  exact tveq_ev _ _ _ _ _ h2

def tpend {α : Type} (z : Bool) (P : Program) (ro base m : Nat) (h : HF) (k : T α) : List Pend → T α
  | [] => k
  | p :: r => bif tb m p.i then tpend z P ro base m h k r else tokq z P ro base p h (tpend z P ro base m h k r)

theorem tpend_ev {α : Type} {z : Bool} {P : Program} {ro base m : Nat} {h : HF} {k : T α} {x : α} : ∀ (l : List Pend), (tpend z P ro base m h k l).ev = some x → l.all (fun p => tb m p.i || okq z P ro base p h) = true ∧ k.ev = some x
  | [], e => ⟨rfl, e⟩
  | p :: r, e => by
    simp only [tpend] at e
    cases ht : tb m p.i with
    | true =>
      rw [ht] at e
      obtain ⟨h1, h2⟩ := tpend_ev r e
      exact ⟨by simp [ht]; simpa using h1, h2⟩
    | false =>
      rw [ht] at e
      obtain ⟨h0, h1⟩ := tokq_ev e
      obtain ⟨h2, h3⟩ := tpend_ev r h1
      exact ⟨by simp [ht, h0]; simpa using h2, h3⟩

def tpast {α : Type} (z : Bool) (P : Program) (ro base m : Nat) (p : Pend) (k : T α) : List (Nat × Tr CObj) → T α
  | [] => k
  | x :: r => bif tb m x.1 then tpast z P ro base m p k r else tokq z P ro base p x.2.get (tpast z P ro base m p k r)

theorem tpast_ev {α : Type} {z : Bool} {P : Program} {ro base m : Nat} {p : Pend} {k : T α} {y : α} : ∀ (l : List (Nat × Tr CObj)), (tpast z P ro base m p k l).ev = some y → l.all (fun x => tb m x.1 || okq z P ro base p x.2.get) = true ∧ k.ev = some y
  | [], e => ⟨rfl, e⟩
  | x :: r, e => by
    simp only [tpast] at e
    cases ht : tb m x.1 with
    | true =>
      rw [ht] at e
      obtain ⟨h1, h2⟩ := tpast_ev r e
      exact ⟨by simp [ht]; simpa using h1, h2⟩
    | false =>
      rw [ht] at e
      obtain ⟨h0, h1⟩ := tokq_ev e
      obtain ⟨h2, h3⟩ := tpast_ev r h1
      exact ⟨by simp [ht, h0]; simpa using h2, h3⟩

def tdOps (z : Bool) (self : TSelf) (P : Program) (ro base : Nat) (ops : Array Oper) (B : List Nat) : List Oper → Nat → List (Nat × Tr CObj) → List Pend → CAct → CSt → T (CAct × CSt)
  | [], _, _, _, a, s => .ret (a, s)
  | o :: r, i, past, pend, a, s => tguard ops o a.tmps
    (fun ts => bif isAct z o.op then
        (tOper self P ro (base + i) { a with tmps := ts } o s).bind fun x =>
          tpend z P ro base (B.getD i 0) x.2.heap.get (tdOps z self P ro base ops B r (i + 1) ((i, s.heap) :: past) pend (CAct.put { a with tmps := ts } o.dst x.1) x.2) pend
      else (tq z P (ceval ts) ro (base + i) o s.heap.get).bind fun v =>
        bif isPure o.op then tdOps z self P ro base ops B r (i + 1) past pend (CAct.put { a with tmps := ts } o.dst v) s
        else tpast z P ro base (B.getD i 0) ⟨i, o, ts, v⟩ (tdOps z self P ro base ops B r (i + 1) past (⟨i, o, ts, v⟩ :: pend) (CAct.put { a with tmps := ts } o.dst v) s) past)
    (fun ts => tdOps z self P ro base ops B r (i + 1) past pend (CAct.put { a with tmps := ts } o.dst cundef) s)

theorem tdOps_ev {z : Bool} {t : TSelf} {self : Self} (ht : TOk t self) {P : Program} {ro base : Nat} {ops : Array Oper} {B : List Nat} {x : CAct × CSt} :
    ∀ (l : List Oper) (i : Nat) (past : List (Nat × Tr CObj)) (pend : List Pend) (a : CAct) (s : CSt), (tdOps z t P ro base ops B l i past pend a s).ev = some x → dOps z self P ro base ops B l i past pend a s = some x
  | [], i, past, pend, a, s, h => by simpa [tdOps, dOps, T.ev] using h
  | o :: r, i, past, pend, a, s, h => by
    simp only [tdOps] at h
    simp only [dOps]
    obtain ⟨hgf, h⟩ := tguard_ev h
    rw [hgf]
    simp only [cond_true]
    rcases h with ⟨hw, h⟩ | ⟨hw, h⟩
    · rw [hw]
      simp only [cond_true]
      cases ha : isAct z o.op with
      | true =>
        rw [ha] at h
        simp only [cond_true] at h ⊢
        obtain ⟨⟨v, s1⟩, h1, h2⟩ := ev_bind _ h
        rw [tOper_ev ht h1]
        simp only [] at h2 ⊢
        obtain ⟨h3, h4⟩ := tpend_ev _ h2
        rw [h3]
        exact tdOps_ev ht r (i + 1) _ _ _ _ h4
      | false =>
        rw [ha] at h
        simp only [cond_false] at h ⊢
        obtain ⟨v, h1, h2⟩ := ev_bind _ h
        rw [tq_ev h1]
        simp only []
        cases hp : isPure o.op with
        | true => rw [hp] at h2; exact tdOps_ev ht r (i + 1) _ _ _ _ h2
        | false =>
          rw [hp] at h2
          simp only [cond_false] at h2 ⊢
          obtain ⟨h3, h4⟩ := tpast_ev _ h2
          rw [h3]
          exact tdOps_ev ht r (i + 1) _ _ _ _ h4
    · rw [hw]
      simp only [cond_false]
      exact tdOps_ev ht r (i + 1) _ _ _ _ h

def tpOps (self : TSelf) (P : Program) (ro b : Nat) (ops : Array Oper) : List Oper → Nat → CAct → CSt → T (List (Nat × CObj))
  | [], _, a, s => .ret []
  | o :: r, i, a, s => tguard ops o a.tmps
    (fun ts => (tOper self P ro (b + i) { a with tmps := ts } o s).bind fun x =>
      bif openZ r then (tpOps self P ro b ops r (i + 1) (CAct.put { a with tmps := ts } o.dst x.1) x.2).bind fun l => .ret (oneZ (b + i) o x.2 ++ l)
      else .ret (oneZ (b + i) o x.2))
    (fun ts => tpOps self P ro b ops r (i + 1) (CAct.put { a with tmps := ts } o.dst cundef) s)
theorem tpOps_ev {t : TSelf} {self : Self} (ht : TOk t self) {P : Program} {ro b : Nat} {ops : Array Oper} {x : List (Nat × CObj)} : ∀ (l : List Oper) (i : Nat) (a : CAct) (s : CSt),
    (tpOps t P ro b ops l i a s).ev = some x → pOps self P ro b ops l i a s = some x
  | [], i, a, s, h => by simpa [tpOps, pOps, T.ev] using h
  | o :: r, i, a, s, h => by
    simp only [tpOps] at h
    simp only [pOps]
    obtain ⟨hgf, h⟩ := tguard_ev h
    rw [hgf]
    simp only [cond_true]
    rcases h with ⟨hw, h⟩ | ⟨hw, h⟩
    · rw [hw]
      simp only [cond_true]
      obtain ⟨⟨v, s1⟩, h1, h2⟩ := ev_bind _ h
      rw [tOper_ev ht h1]
      simp only [] at h2 ⊢
      cases ho : openZ r with
      | true =>
        rw [ho] at h2
        simp only [cond_true] at h2 ⊢
        obtain ⟨l, h3, h4⟩ := ev_bind _ h2
        have h3' := tpOps_ev ht r (i + 1) _ _ h3
        rw [h3']
        simpa [T.ev] using h4
      | false =>
        rw [ho] at h2
        simpa [T.ev] using h2
    · rw [hw]
      simp only [cond_false]
      exact tpOps_ev ht r (i + 1) _ _ h

def tRegion (self : TSelf) (P : Program) (ro : Nat) (ops : Array Oper) (draw : Bool) (a : CAct) (s : CSt) : T (CEx × CAct × CSt) :=
  bif draw then
    let fs := infos false ops ops.toList 0 []
    bif edgesOk ops.toList 0 && allFit fs then
      match preset P ops.toList s.next s.heap with
      | some h => (tdOps false self P ro s.next ops (fs.map (·.bf)) ops.toList 0 [] [] a { heap := h, next := s.next + ops.size }).bind fun x => .ret (.normal, x.1, x.2)
      | none => .fail
    else
      let fs := infos true ops ops.toList 0 []
      bif edgesOk ops.toList 0 && allFit fs then
        (tpOps self P ro s.next ops ops.toList 0 a { s with next := s.next + ops.size }).bind fun l => match lay P l ops.toList s.next s.heap with
          | some h => (tdOps true self P ro s.next ops (fs.map (·.bf)) ops.toList 0 [] [] a { heap := h, next := s.next + ops.size }).bind fun x => .ret (.normal, x.1, x.2)
          | none => .fail
      else .fail
  else (tOps self P ro s.next ops ops.toList 0 a { s with next := s.next + ops.size }).bind fun x => .ret (.normal, x.1, x.2)

theorem tRegion_ev {t : TSelf} {self : Self} (ht : TOk t self) {P : Program} {ro : Nat} {ops : Array Oper} {draw : Bool} {a : CAct} {s : CSt} {r : CEx × CAct × CSt} (e : (tRegion t P ro ops draw a s).ev = some r) : cRegion self P ro ops draw a s = some r := by
  unfold tRegion at e
  unfold cRegion
  cases draw with
  | true =>
    simp only [cond_true] at e ⊢
    unfold dRegion
    simp only []
    cases hg : (edgesOk ops.toList 0 && allFit (infos false ops ops.toList 0 [])) with
    | false =>
      rw [hg] at e
      simp only [cond_false] at e ⊢
      cases hg2 : (edgesOk ops.toList 0 && allFit (infos true ops ops.toList 0 [])) with
      | false => rw [hg2] at e; simp [T.ev] at e
      | true =>
        rw [hg2] at e
        simp only [cond_true] at e ⊢
        obtain ⟨l, q1, q2⟩ := ev_bind _ e
        rw [tpOps_ev ht _ _ _ _ q1]
        simp only []
        split at q2
        · rename_i h hp
          rw [hp]
          obtain ⟨x, h1, h2⟩ := ev_bind _ q2
          simp only [T.ev, Option.some.injEq] at h2
          simp only []
          rw [tdOps_ev ht _ _ _ _ _ _ h1, ← h2]
        · simp [T.ev] at q2
    | true =>
      rw [hg] at e
      simp only [cond_true] at e ⊢
      split at e
      · rename_i h hp
        rw [hp]
        obtain ⟨x, h1, h2⟩ := ev_bind _ e
        simp only [T.ev, Option.some.injEq] at h2
        simp only []
        rw [tdOps_ev ht _ _ _ _ _ _ h1, ← h2]
      · simp [T.ev] at e
  | false =>
    simp only [cond_false] at e ⊢
    obtain ⟨x, h1, h2⟩ := ev_bind _ e
    simp only [T.ev, Option.some.injEq] at h2
    rw [tOps_ev ht _ _ _ _ h1, ← h2]

def tRangeGo (self : TSelf) (ro : Nat) (a : CAct) (g : FuncId) (first captured : List CV) (l : Nat) (ms : List Nat) (s1 : CSt) : T (CEx × CAct × CSt) :=
  (self.call ro g (first ++ [.func (.yield l) #[] #[]] ++ captured) s1).bind fun r =>
    match r.2.heap.get l with
    | some (.loop st pe fn2 tm2 po2 de2) =>
      T.when (!(isBusy st) && Nat.ble ro l) (match jumpOf pe with
        | some ex => .ret (ex, { a with marks := ms ++ a.marks }, { r.2 with heap := r.2.heap.set l (.loop .exhausted pe fn2 tm2 po2 de2) })
        | none => .fail)
    | _ => .fail

theorem tRangeGo_ev {t : TSelf} {self : Self} (ht : TOk t self) {ro : Nat} {a : CAct} {g : FuncId} {first captured : List CV} {l : Nat} {ms : List Nat} {s1 : CSt} {r : CEx × CAct × CSt} (e : (tRangeGo t ro a g first captured l ms s1).ev = some r) :
    cRangeGo self ro a g first captured l ms s1 = some r := by
  unfold tRangeGo at e
  unfold cRangeGo
  obtain ⟨⟨v, s2⟩, h1, h2⟩ := ev_bind _ e
  rw [ht.call h1]
  simp only [] at h2 ⊢
  split at h2
  · rename_i hget
    rw [hget]
    simp only []
    obtain ⟨h3, h4⟩ := ev_when h2
    rw [h3]
    simp only [cond_true]
    split at h4
    · rename_i ex hj; rw [hj]; simpa [T.ev] using h4
    · simp [T.ev] at h4
  · simp [T.ev] at h2

def tRange (self : TSelf) (P : Program) (ro : Nat) (round : Option Nat) (fn : FuncId) (pos : List Nat) (f : Operand) (a : CAct) (s : CSt) : T (CEx × CAct × CSt) :=
  match ceval a.tmps f with
  | some (.func (.func g) first captured) =>
    match round with
    | none => match s.heap.get s.next, s.heap.get (s.next + 1) with
      | none, none => tRangeGo self ro a g first.toList captured.toList (s.next + 1) [s.next]
          { heap := (s.heap.set s.next .defs).set (s.next + 1) (.loop .ready none fn a.tmps pos s.next), next := s.next + 2 }
      | _, _ => .fail
    | some l0 => match s.heap.get l0, s.heap.get s.next with
      | some (.loop _ _ _ _ _ de), none => tRangeGo self ro a g first.toList captured.toList s.next []
          { heap := s.heap.set s.next (.loop .ready none fn a.tmps pos de), next := s.next + 1 }
      | _, _ => .fail
  | _ => .fail

theorem tRange_ev {t : TSelf} {self : Self} (ht : TOk t self) {P : Program} {ro : Nat} {round : Option Nat} {fn : FuncId} {pos : List Nat} {f : Operand} {a : CAct} {s : CSt} {r : CEx × CAct × CSt}
    (e : (tRange t P ro round fn pos f a s).ev = some r) : cRange self P ro round fn pos f a s = some r := by
  unfold tRange at e
  unfold cRange
  split at e
  · rename_i g first captured hf
    rw [hf]
    simp only []
    cases round with
    | none =>
      simp only [] at e ⊢
      split at e
      · rename_i h1 h2; rw [h1, h2]; exact tRangeGo_ev ht e
      · simp [T.ev] at e
    | some l0 =>
      simp only [] at e ⊢
      split at e
      · rename_i h1 h2; rw [h1, h2]; exact tRangeGo_ev ht e
      · simp [T.ev] at e
  · simp [T.ev] at e

def tThen (r : T (CEx × CAct × CSt)) (k : CAct → CSt → T (CEx × CAct × CSt)) : T (CEx × CAct × CSt) :=
  r.bind fun x => match x with
    | (.normal, a, s) => k a s
    | x => .ret x

theorem tThen_ev {x : T (CEx × CAct × CSt)} {y : Option (CEx × CAct × CSt)} {k : CAct → CSt → T (CEx × CAct × CSt)} {k' : CAct → CSt → Option (CEx × CAct × CSt)} (hx : ∀ r, x.ev = some r → y = some r)
    (hk : ∀ a s r, (k a s).ev = some r → k' a s = some r) {r : CEx × CAct × CSt} (e : (tThen x k).ev = some r) : cThen y k' = some r := by
  unfold tThen at e
  unfold cThen
  obtain ⟨z, h1, h2⟩ := ev_bind _ e
  rw [hx _ h1]
  split at h2
  · exact hk _ _ _ h2
  · rename_i hno
    simp only [T.ev, Option.some.injEq] at h2
    subst h2
    split
    · rename_i a s heq
      cases heq
      exact (hno _ _ rfl).elim
    · rfl

def texec (L : List (Nat × List Nat × LoopFn)) (self : TSelf) (P : Program) (ro : Nat) (round : Option Nat) (fn : FuncId) : List Nat → Code → CAct → CSt → T (CEx × CAct × CSt)
  | _, .skip, a, s => .ret (.normal, a, s)
  | _, .label _, a, s => .ret (.normal, a, s)
  | _, .region _ ops draw, a, s => tRegion self P ro ops draw a s
  | p, .seq x y, a, s => tThen (texec L self P ro round fn (0 :: p) x a s) (texec L self P ro round fn (1 :: p) y)
  | p, .cond c x y, a, s => match ceval a.tmps c with
    | some (.bool t) => tsplit a.tmps c t fun v ts => bif v then texec L self P ro round fn (0 :: p) x { a with tmps := ts } s else texec L self P ro round fn (1 :: p) y { a with tmps := ts } s
    | _ => .fail
  | p, .scope x, a, s => texec L self P ro round fn (0 :: p) x a s
  | p, .block id x, a, s => (texec L self P ro round fn (0 :: p) x a s).bind fun r => match r with
    | (.exit j, a', s') => bif Nat.beq j id then .ret (.normal, a', s') else .ret (.exit j, a', s')
    | r => .ret r
  | p, .loop x, a, s => match findLoop L fn p with
    | some F => F ro round a s
    | none => tThen (texec L self P ro round fn (0 :: p) x a s) (self.again ro round fn (0 :: p) x)
  | p, .rangeFunc f params assign body, a, s => tRange self P ro round fn p f a s
  | _, .exit id, a, s => .ret (.exit id, a, s)
  | _, .ret, a, s => .ret (.ret, a, s)
  | _, _, _, _ => .fail

theorem texec_ev {L : List (Nat × List Nat × LoopFn)} {t : TSelf} {self : Self} (ht : TOk t self) {P : Program} {ro : Nat} {round : Option Nat} {fn : FuncId} : ∀ (c : Code) (p : List Nat) (a : CAct) (s : CSt) (r : CEx × CAct × CSt), (texec L t P ro round fn p c a s).ev = some r → execC L self P ro round fn p c a s = some r := by
  intro c
  induction c with
  | skip => intro p a s r h; simpa [texec, execC, T.ev] using h
  | label l => intro p a s r h; simpa [texec, execC, T.ev] using h
  | region id ops draw => intro p a s r h; exact tRegion_ev ht h
  | seq x y ihx ihy => intro p a s r h; exact tThen_ev (fun r hr => ihx _ _ _ _ hr) (fun a s r hr => ihy _ _ _ _ hr) h
  | cond c x y ihx ihy =>
    intro p a s r h
    simp only [texec] at h
    simp only [execC]
    split at h
    · rename_i b hc
      rw [hc]
      simp only []
      have h2 := tsplit_ev hc h
      cases b with
      | true => exact ihx _ _ _ _ h2
      | false => exact ihy _ _ _ _ h2
    · simp [T.ev] at h
  | block id x ih =>
    intro p a s r h
    simp only [texec] at h
    simp only [execC]
    obtain ⟨z, h1, h2⟩ := ev_bind _ h
    rw [ih _ _ _ _ h1]
    split at h2
    · rename_i j a' s'
      simp only []
      cases hj : Nat.beq j id <;> rw [hj] at h2 <;> simpa [T.ev] using h2
    · rename_i hno
      simp only [T.ev, Option.some.injEq] at h2
      subst h2
      split
      · rename_i j a' s' heq
        cases heq
        exact (hno _ _ _ rfl).elim
      · rfl
  | loop x ih =>
    intro p a s r h
    simp only [texec] at h
    simp only [execC]
    split at h
    · rename_i F hF; rw [hF]; exact h
    · rename_i hF; rw [hF]; exact tThen_ev (fun r hr => ih _ _ _ _ hr) (fun a s r hr => ht.again hr) h
  | rangeFunc f ps asg bd _ _ => intro p a s r h; exact tRange_ev ht h
  | exit id => intro p a s r h; simpa [texec, execC, T.ev] using h
  | ret => intro p a s r h; simpa [texec, execC, T.ev] using h
  | scope x ih => intro p a s r h; exact ih _ _ _ _ h
  | goto l => intro p a s r h; simp [texec, T.ev] at h
  | refuse r => intro p a s r h; simp [texec, T.ev] at h

def tcall (L : List (Nat × List Nat × LoopFn)) (self : TSelf) (P : Program) (ro : Nat) (f : FuncId) (args : List CV) (s : CSt) : T (CV × CSt) :=
  match P.funcs[f]? with
  | some fn => match fn.body with
    | some c =>
      (texec L self P ro none f [] c { tmps := args ++ List.replicate (fn.ntmps - args.length) cundef, marks := [] } s).bind fun r =>
        match r with
        | (.exit _, _, _) => .fail
        | (_, a, s') => match cmarks ro a.marks s'.heap with
          | some h => match cresults P a.tmps h.get fn.results.toList with
            | some vs => .ret (single vs, { s' with heap := h })
            | none => .fail
          | none => .fail
    | none => .fail
  | none => .fail

theorem tcall_ev {L : List (Nat × List Nat × LoopFn)} {t : TSelf} {self : Self} (ht : TOk t self) {P : Program} {ro : Nat} {f : FuncId} {args : List CV} {s : CSt} {r : CV × CSt} (e : (tcall L t P ro f args s).ev = some r) : callC L self P ro f args s = some r := by
  unfold tcall at e
  unfold callC
  split at e
  · rename_i fn hfn
    rw [hfn]
    simp only []
    split at e
    · rename_i c hc
      rw [hc]
      simp only []
      obtain ⟨⟨ex, a, s1⟩, h1, h2⟩ := ev_bind _ e
      rw [texec_ev ht _ _ _ _ _ h1]
      cases ex with
      | exit id => simp [T.ev] at h2
      | normal =>
        simp only [] at h2 ⊢
        split at h2
        · rename_i h hm
          rw [hm]
          simp only []
          split at h2
          · rename_i vs hv; rw [hv]; simpa [T.ev] using h2
          · simp [T.ev] at h2
        · simp [T.ev] at h2
      | ret =>
        simp only [] at h2 ⊢
        split at h2
        · rename_i h hm
          rw [hm]
          simp only []
          split at h2
          · rename_i vs hv; rw [hv]; simpa [T.ev] using h2
          · simp [T.ev] at h2
        · simp [T.ev] at h2
    · simp [T.ev] at e
  · simp [T.ev] at e

def tcallE (E : List (Nat × ExtFn)) (L : List (Nat × List Nat × LoopFn)) (self : TSelf) (P : Program) (ro : Nat) (f : FuncId) (args : List CV) (s : CSt) : T (CV × CSt) :=
  match findExt E f with
  | some x => x ro args s
  | none => tcall L self P ro f args s

def tden (P : Program) (E : List (Nat × ExtFn)) (L : List (Nat × List Nat × LoopFn)) : Nat → TSelf
  | 0 => { call := fun _ _ _ _ => .fail, exec := fun _ _ _ _ _ _ _ => .fail, again := fun _ _ _ _ _ _ _ => .fail }
  | k + 1 => { call := tcallE E L (tden P E L k) P, exec := texec L (tden P E L k) P, again := fun ro round fn p c a s => tThen (texec L (tden P E L k) P ro round fn p c a s) ((tden P E L k).again ro round fn p c) }

theorem tden_ev (P : Program) (E : List (Nat × ExtFn)) (L : List (Nat × List Nat × LoopFn)) : ∀ k, TOk (tden P E L k) (den P E L k)
  | 0 => ⟨fun h => by simp [tden, T.ev] at h, fun h => by simp [tden, T.ev] at h, fun h => by simp [tden, T.ev] at h⟩
  | k + 1 => by
    have ih := tden_ev P E L k
    refine ⟨fun {ro f args st r} h => ?_, fun h => texec_ev ih _ _ _ _ _ h, fun h => tThen_ev (fun r hr => texec_ev ih _ _ _ _ _ hr) (fun a s r hr => ih.again hr) h⟩
    show callE E L (den P E L k) P ro f args st = some r
    have h : (tcallE E L (tden P E L k) P ro f args st).ev = some r := h
    unfold tcallE at h
    unfold callE
    split at h
    · rename_i x hx; rw [hx]; exact h
    · rename_i hx; rw [hx]; exact tcall_ev ih h

def tloopN (S : TSelf) (L : List (Nat × List Nat × LoopFn)) (P : Program) (round : Option Nat) (fn : FuncId) (p : List Nat) (x : Code) (base mask mask2 : Nat) (voids : List (Nat × RC)) : Nat → NSt → T (CEx × NSt)
  | 0, _ => .fail
  | k + 1, n => (texec L S P 0 round fn p x n.fact n.fst).bind fun r => match r with
    | (.normal, a1, s1) => match nz base mask voids a1 s1 with
      | some m => tloopN S L P round fn p x base mask mask2 voids k m
      | none => .fail
    | (e, a1, s1) => match nz base mask2 [] a1 s1 with
      | some m => .ret (e, m)
      | none => .fail

theorem tloopN_ev {t : TSelf} {S : Self} (ht : TOk t S) {L : List (Nat × List Nat × LoopFn)} {P : Program} {round : Option Nat} {fn : FuncId} {p : List Nat} {x : Code} {base mask mask2 : Nat} {voids : List (Nat × RC)} : ∀ (k : Nat) (n : NSt) (r : CEx × NSt),
    (tloopN t L P round fn p x base mask mask2 voids k n).ev = some r → loopN S L P round fn p x base mask mask2 voids k n = some r
  | 0, n, r, h => by simp [tloopN, T.ev] at h
  | k + 1, n, r, h => by
    simp only [tloopN] at h
    simp only [loopN]
    obtain ⟨⟨e, a1, s1⟩, h1, h2⟩ := ev_bind _ h
    rw [texec_ev ht _ _ _ _ _ h1]
    cases e with
    | normal =>
      simp only [] at h2 ⊢
      split at h2
      · rename_i m hm; rw [hm]; exact tloopN_ev ht k m r h2
      · simp [T.ev] at h2
    | exit id =>
      simp only [] at h2 ⊢
      split at h2
      · rename_i m hm; rw [hm]; simpa [T.ev] using h2
      · simp [T.ev] at h2
    | ret =>
      simp only [] at h2 ⊢
      split at h2
      · rename_i m hm; rw [hm]; simpa [T.ev] using h2
      · simp [T.ev] at h2

end Go.Proofs.YtecidokjhplbgaaGreatDoorD

set_option linter.unusedVariables false
set_option linter.unusedSimpArgs false
namespace Go.Proofs.YtecidokjhplbgaaGreatDoorD
open Go Go.RowKit

variable {P : Program} {N : Nat}

mutual
def dataV : CV → Bool
  | .bool _ => true
  | .int _ _ => true
  | .string _ => true
  | .nilFunc => true
  | .nilIface => true
  | .pointer none => true
  | .slice none 0 0 => true
  | .map none => true
  | .iface _ v => dataV v
  | .agg cs => dataA cs
  | .tuple cs => dataA cs
  | .pl _ _ => true
  | .empty => true
  | .nnil => true
  | _ => false
def dataA : Array CV → Bool
  | ⟨l⟩ => dataL l
def dataL : List CV → Bool
  | [] => true
  | v :: r => dataV v && dataL r
end

abbrev Imm := Nat → Nat → Option Value
def immOf (im : Imm) : Inj := ⟨fun _ => none, im, fun _ => false, im⟩
def ImmOk (im : Imm) (w : World) : Prop := ∀ B k v, im B k = some v → w.cell? ⟨B, k, none⟩ = some v ∧ B < w.heap.size

theorem dataL_mem : ∀ {l : List CV} {k : Nat} {x : CV}, dataL l = true → l[k]? = some x → dataV x = true
  | [], k, x, _, h => by simp at h
  | a :: l, 0, x, hf, h => by simp at h; subst h; simp [dataL] at hf; exact hf.1
  | a :: l, k + 1, x, hf, h => by simp [dataL] at hf; exact dataL_mem hf.2 (by simpa using h)

theorem VRel.data {i j : Inj} (h : ∀ B k v, i.imm B k = some v → j.imm B k = some v) {x : CV} {y : Value} (hv : VRel i x y) : dataV x = true → VRel j x y := by
  induction hv with
  | bool b => intro _; exact .bool b
  | int k n => intro _; exact .int k n
  | string s => intro _; exact .string s
  | nilFunc => intro _; exact .nilFunc
  | nilIface => intro _; exact .nilIface
  | nilPtr => intro _; exact .nilPtr
  | nilMap => intro _; exact .nilMap
  | nilSlice => intro _; exact .nilSlice
  | iface _ ih => intro hd; exact .iface (ih (by simpa [dataV] using hd))
  | agg h1 h2 i2 => intro hd; simp only [dataV, dataA] at hd; exact .agg h1 fun k x y hx hy => i2 k x y hx hy (dataL_mem hd hx)
  | tuple h1 h2 i2 => intro hd; simp only [dataV, dataA] at hd; exact .tuple h1 fun k x y hx hy => i2 k x y hx hy (dataL_mem hd hx)
  | @pl r l B o c ys a' h1 h2 h3 hc ha ih =>
    intro _
    refine .pl h1 (fun k y hy => h _ _ _ (h2 k y hy)) (fun k x y hx hy => ih k x y hx hy ?_) hc ha
    obtain ⟨e, _, he⟩ := List.mem_flatMap.1 (List.mem_of_getElem? hx)
    have : ∀ x ∈ r.cells e, dataV x = true := by cases r <;> simp [RC.cells, dataV]
    exact this x he
  | plNil h => intro _; exact .plNil h
  | empty => intro _; exact .empty
  | nnil => intro _; exact .nnil
  | _ => intro hd; simp [dataV] at hd
theorem LRel.data {i j : Inj} (h : ∀ B k v, i.imm B k = some v → j.imm B k = some v) {xs : List CV} {ys : List Value} (hv : LRel i xs ys) (hd : dataL xs = true) : LRel j xs ys :=
  ⟨hv.len, fun k x y hx hy => (hv.at_ k x y hx hy).data h (dataL_mem hd hx)⟩

def PureAt (P : Program) (f : FuncId) (args : List CV) (d : CV) : Prop :=
  ∀ (im : Imm) (w : World) (args' : Array Value), ImmOk im w → LRel (immOf im) args args'.toList →
    Calls P f args' w fun e w' => ∃ (im' : Imm) (v' : Value), e = .returned v' ∧ ImmOk im' w' ∧ (∀ B k v, im B k = some v → im' B k = some v) ∧ (∀ B k v, B < w.heap.size → im' B k = some v → im B k = some v) ∧
      VRel (immOf im') d v' ∧ Below w.heap.size w w'
def PureFn (P : Program) (f : FuncId) (G : List CV → T CV) : Prop :=
  (∃ fn c, P.funcs[f]? = some fn ∧ fn.body = some c) ∧ ∀ args d, (G args).ev = some d → PureAt P f args d

theorem kill_cells {i : Inj} {h : HF} {w : World} (R : Rel P N i h w) {ro b m : Nat} {vs : List CV} {g : Img} (hb : h b = some (.cells vs 1 m)) (hm : m ≠ 2) (hg : i b = some g) (hro : ro ≤ b) :
    ∃ ys, LRel i vs ys ∧ Frz P N ro i h w (kill i g ys) (fset h b .dead) := by
  have hwr : wr (CObj.cells vs 1 m) = true := by simp [wr, nbeq, hm]
  obtain ⟨h1, h2, h3, ⟨ys, h4, h5⟩, h6⟩ := R.obj b _ g hb hg
  have hle : i.le (kill i g ys) := ⟨fun _ _ h => h, fun B k v hv => by
    have hne : B ≠ g.B := fun e => by subst e; rw [R.ims b _ g hb hg hwr k] at hv; cases hv
    simp only [kill, hne, if_false]; exact hv, fun _ h => h, rfl⟩
  obtain ⟨Rp, Sp⟩ := R.put (ro := ro) (o2 := .dead) (w' := w) hb hg hro hwr rfl rfl rfl rfl (fun _ _ _ => rfl) trivial
  refine ⟨ys, h4, ⟨⟨?_, ?_, ?_, Rp.hN, ?_, ?_, ?_⟩, ⟨hle, Sp.keep, Nat.le_refl _, rfl, rfl, rfl, fun _ _ _ => rfl, ?_, ?_⟩, fun _ => ⟨rfl, rfl⟩, ?_⟩⟩
  · intro k o gg hk hgg
    exact (Rp.obj k o gg hk hgg).mono hle rfl
  · intro k k' x x' g1 g2 hne hk hk' hg1 hg2 hw hl
    exact Rp.sep k k' x x' g1 g2 hne hk hk' hg1 hg2 hw hl
  · intro k gg hgg; exact Rp.bnd k gg hgg
  · intro B k v hv
    by_cases e : B = g.B
    · subst e
      simp only [kill, if_true] at hv
      split at hv
      · rename_i hk
        have := h5 _ v hv
        rw [show g.off + (k - g.off) = k by omega] at this
        exact ⟨this, R.bnd b g hg, .inl ((R.obj b _ g hb hg).ge hwr)⟩
      · cases hv
    · simp only [kill, e, if_false] at hv
      exact R.imm B k v hv
  · intro k x gg hk hgg hw q
    have hkb : k ≠ b := fun e => by subst e; rw [fset_eq] at hk; cases hk; simp [wr] at hw
    have hne : gg.B ≠ g.B := fun e => by
      rw [fset_ne h _ hkb] at hk
      exact R.sep b k _ x g gg (Ne.symm hkb) hb hk hg hgg hwr (live_of_wr hw) e.symm
    simp only [kill, hne, if_false]
    rw [fset_ne h _ hkb] at hk
    exact R.ims k x gg hk hgg hw q
  · intro k hk; exact Rp.void k hk
  · intro B hB ht
    exact Sp.touch B hB ht
  · intro B k v hB hv
    by_cases e : B = g.B
    · exact .inr ⟨b, _, g, hro, hb, hwr, hg, e.symm⟩
    · simp only [kill, e, if_false] at hv; exact .inl hv
  · intro k hk
    have : k ≠ b := fun e => by subst e; rw [hb] at hk; cases hk
    rw [fset_ne h _ this]; exact hk

def frzC (h : HF) : CV → Option (CV × Eff)
  | .slice (some ⟨b, o, none⟩) n _ => match h b with
    | some (.cells vs 1 m) => bif Nat.beq m 2 then none else bif Nat.ble (o + n) vs.length then match parseR .ints n ((vs.drop o).take n) with
      | some l => some (.pl .ints l, [(b, .dead)])
      | none => none
      else none
    | _ => none
  | v => frz1 0 h v
def frzCL (h : HF) : List CV → Option (List CV × Eff)
  | [] => some ([], [])
  | v :: r => match frzC h v with
    | some (v', e) => match frzCL (fupd h e) r with
      | some (vs, es) => some (v' :: vs, e ++ es)
      | none => none
    | none => none
theorem frzC_sound {i : Inj} {h : HF} {w : World} (R : Rel P N i h w) {x x2 : CV} {ef : Eff} {y : Value} (hv : VRel i x y) (e : frzC h x = some (x2, ef)) : ∃ i', Frz P N 0 i h w i' (eall h ef) ∧ VRel i' x2 y := by
  unfold frzC at e
  split at e
  · rename_i b o n c
    split at e
    · rename_i vs m hb
      obtain ⟨g, a', cap', rfl, hg, hc, ha, hl⟩ := hv.slice_inv
      cases hm : Nat.beq m 2 with
      | true => rw [hm] at e; cases e
      | false =>
        rw [hm] at e
        rw [nbeq, decide_eq_false_iff_not] at hm
        rw [nble] at e
        by_cases hle : o + n ≤ vs.length
        · simp only [hle, decide_true, cond_true, cond_false] at e
          split at e
          · rename_i l hp
            cases e
            obtain ⟨ys, h1, F⟩ := kill_cells R (ro := 0) hb hm hg (Nat.zero_le _)
            have h7 : LRel i ((vs.drop o).take n) ((ys.drop o).take n) := (h1.drop _).take _
            obtain ⟨h4, h5⟩ := parseR_rel n hp (by simp [RC.z]; omega) h7
            refine ⟨_, F, ?_⟩
            have key := pl_of_cells (cap' := cap') (a' := a') (B := g.B) (o := g.off + o) (h4.mono F.step.ext) (fun k v hv => by
              rw [List.getElem?_take] at hv
              split at hv
              · rw [List.getElem?_drop] at hv
                have := kill_imm (i := i) (g := g) (ys := ys) hv
                rw [Nat.add_assoc]; exact this
              · cases hv) (by rw [h5]; rcases hc with rfl | ⟨_, _, h3, _⟩ <;> omega) ha
            rw [h5] at key; exact key
          · cases e
        · simp only [hle, decide_false, cond_false] at e; cases e
    · cases e
  · exact frz1_sound R hv e
theorem frzCL_sound {w : World} : ∀ {xs : List CV} {i : Inj} {h : HF} {xs2 : List CV} {ef : Eff} {ys : List Value}, Rel P N i h w → LRel i xs ys → frzCL h xs = some (xs2, ef) →
    ∃ i', Frz P N 0 i h w i' (eall h ef) ∧ LRel i' xs2 ys
  | [], i, h, xs2, ef, ys, R, hl, e => by
    simp only [frzCL, Option.some.injEq, Prod.mk.injEq] at e
    obtain ⟨rfl, rfl⟩ := e
    exact ⟨i, .refl R, hl⟩
  | x :: xs, i, h, xs2, ef, ys, R, hl, e => by
    simp only [frzCL] at e
    split at e
    · rename_i v' e1 h1
      split at e
      · rename_i vs es h2
        cases e
        obtain ⟨y, ys', rfl, h3, h4⟩ := hl.cons_inv
        obtain ⟨i1, F1, q1⟩ := frzC_sound R h3 h1
        rw [fupd_eall] at h2
        obtain ⟨i2, F2, q2⟩ := frzCL_sound F1.rel (h4.mono F1.step.ext) h2
        rw [eall_append]
        exact ⟨i2, F1.trans F2, .cons (q1.mono F2.step.ext) q2⟩
      · cases e
    · cases e
def frzV (h : HF) : CV → Option (CV × Eff)
  | .agg cs => match frzCL h cs.toList with
    | some (l, e) => some (.agg l.toArray, e)
    | none => none
  | .nilFunc => some (.nilFunc, [])
  | .nilIface => some (.nilIface, [])
  | .pointer none => some (.pointer none, [])
  | .map none => some (.map none, [])
  | v => frzC h v
def frzVs (h : HF) : List CV → Option (List CV × Eff)
  | [] => some ([], [])
  | v :: r => match frzV h v with
    | some (v', e) => match frzVs (fupd h e) r with
      | some (vs, es) => some (v' :: vs, e ++ es)
      | none => none
    | none => none
def frzR (h : HF) : CV → Option (CV × Eff)
  | .tuple vs => match frzVs h vs.toList with
    | some (l, e) => some (.tuple l.toArray, e)
    | none => none
  | v => frzV h v

theorem frzV_sound {i : Inj} {h : HF} {w : World} (R : Rel P N i h w) {x x2 : CV} {ef : Eff} {y : Value} (hv : VRel i x y) (e : frzV h x = some (x2, ef)) : ∃ i', Frz P N 0 i h w i' (eall h ef) ∧ VRel i' x2 y := by
  unfold frzV at e
  split at e
  · split at e
    · rename_i cs _ l ef2 hf
      cases e
      obtain ⟨bs, rfl, hl⟩ := hv.agg_inv
      obtain ⟨i1, F, q1⟩ := frzCL_sound R hl hf
      exact ⟨i1, F, by simpa using VRel.agg' q1⟩
    · cases e
  · cases e; exact ⟨i, .refl R, hv⟩
  · cases e; exact ⟨i, .refl R, hv⟩
  · cases e; exact ⟨i, .refl R, hv⟩
  · cases e; exact ⟨i, .refl R, hv⟩
  · exact frzC_sound R hv e

theorem frzVs_sound {w : World} : ∀ {xs : List CV} {i : Inj} {h : HF} {xs2 : List CV} {ef : Eff} {ys : List Value}, Rel P N i h w → LRel i xs ys → frzVs h xs = some (xs2, ef) →
    ∃ i', Frz P N 0 i h w i' (eall h ef) ∧ LRel i' xs2 ys
  | [], i, h, xs2, ef, ys, R, hl, e => by
    simp only [frzVs, Option.some.injEq, Prod.mk.injEq] at e
    obtain ⟨rfl, rfl⟩ := e
    exact ⟨i, .refl R, hl⟩
  | x :: xs, i, h, xs2, ef, ys, R, hl, e => by
    simp only [frzVs] at e
    split at e
    · rename_i v' e1 h1
      split at e
      · rename_i vs es h2
        cases e
        obtain ⟨y, ys', rfl, h3, h4⟩ := hl.cons_inv
        obtain ⟨i1, F1, q1⟩ := frzV_sound R h3 h1
        rw [fupd_eall] at h2
        obtain ⟨i2, F2, q2⟩ := frzVs_sound F1.rel (h4.mono F1.step.ext) h2
        rw [eall_append]
        exact ⟨i2, F1.trans F2, .cons (q1.mono F2.step.ext) q2⟩
      · cases e
    · cases e

theorem frzR_sound {i : Inj} {h : HF} {w : World} (R : Rel P N i h w) {x x2 : CV} {ef : Eff} {y : Value} (hv : VRel i x y) (e : frzR h x = some (x2, ef)) : ∃ i', Frz P N 0 i h w i' (eall h ef) ∧ VRel i' x2 y := by
  unfold frzR at e
  split at e
  · split at e
    · rename_i vs _ l ef2 hf
      cases e
      obtain ⟨bs, rfl, hl⟩ := hv.tuple_inv
      obtain ⟨i1, F, q1⟩ := frzVs_sound R hl hf
      exact ⟨i1, F, by simpa using VRel.tuple' q1⟩
    · cases e
  · exact frzV_sound R hv e

def T.pure (t : T (CV × CSt)) : T CV := t.bind fun r => match frzR r.2.heap.get r.1 with
  | some (d, _) => .ret d
  | none => .fail

theorem srel_imm {im : Imm} {w : World} (h : ImmOk im w) : SRel P w.heap.size (immOf im) ⟨.nil, 0⟩ w :=
  ⟨⟨fun b o g h _ => (by simp [Tr.get] at h), fun b b' o o' g g' _ h _ _ _ _ _ => (by simp [Tr.get] at h), fun b g h => (by cases h), Nat.le_refl _, fun B k v hv => ⟨(h B k v hv).1, (h B k v hv).2, .inr hv⟩, fun b o g h _ => (by simp [Tr.get] at h), fun b hb => (by cases hb)⟩, fun _ _ => ⟨rfl, rfl⟩⟩

theorem pure_of (hP : plainNames P = true) (hM : P.follows .mixedOrders = true) {E : List (Nat × ExtFn)} (hE : ∀ N, ExtsOk P N E) {L : List (Nat × List Nat × LoopFn)} (hL : ∀ N, LoopsOk P N L) {k f : Nat} {args : List CV} {d : CV} (hd : dataV d = true)
    (e : (((tden P E L k).call 0 f args ⟨.nil, 0⟩).pure).ev = some d) : (∃ fn c, P.funcs[f]? = some fn ∧ fn.body = some c) ∧ PureAt P f args d := by
  obtain ⟨⟨v, s⟩, h1, h2⟩ := ev_bind _ e
  simp only [] at h2
  split at h2
  · rename_i d' ef hf
    cases ev_ret h2
    have e1 := (tden_ev P E L k).call h1
    refine ⟨((den_sound (N := 0) hP hM (hE 0) (hL 0) k).call 0 f args _ v s e1).1, fun im w args' him hl => ?_⟩
    obtain ⟨_, h⟩ := (den_sound (N := w.heap.size) hP hM (hE _) (hL _) k).call 0 f args _ v s e1
    have h3 := h (immOf im) w args' (srel_imm him) hl
    have h4 : CallsIn Fence.wide 0 P f args' w fun e w' => ∃ (im' : Imm) (v' : Value), e = .returned v' ∧ ImmOk im' w' ∧ (∀ B k v, im B k = some v → im' B k = some v) ∧ (∀ B k v, B < w.heap.size → im' B k = some v → im B k = some v) ∧
        VRel (immOf im') d v' ∧ Below w.heap.size w w' := by
      refine CallsIn.mono (F := Fence.wide) h3 ?_
      rintro e w' ⟨i', v', rfl, hvr, haf⟩
      obtain ⟨j, F, hvj⟩ := frzR_sound haf.srel.rel hvr hf
      refine ⟨j.imm, v', rfl, fun B k v hv => ⟨(F.rel.imm B k v hv).1, (F.rel.imm B k v hv).2.1⟩, fun B k v hv => F.step.ext.imm _ _ _ (haf.step.ext.imm _ _ _ hv), fun B k v hB hv => ?_, VRel.data (i := j) (j := immOf j.imm) (fun _ _ _ h => h) hvj hd, Step.below (srel_imm (P := P) him).rel haf.step⟩
      rcases (F.rel.imm B k v hv).2.2 with h5 | h5
      · omega
      · rw [F.step.ext.old, haf.step.ext.old] at h5; exact h5
    exact callsIn_wide.1 h4
  · exact (ev_fail h2).elim

def viewR : Nat → List CV → Option RC
  | 1, .string _ :: _ => some .strs
  | 1, .bool _ :: _ => some .bools
  | 1, .int .u8 _ :: _ => some .bytes
  | 1, _ => some .ints
  | 2, _ => some .rets
  | 5, _ => some .ops
  | 6, _ => some .acts
  | _, _ => none
def view1 (h : HF) : CV → Option CV
  | .row b z n => match h b with
    | some (.rows r l) => bif Nat.beq z r.z then some (.pl r l) else none
    | _ => none
  | .win b z s n c => match h b with
    | some (.rows r l) => bif Nat.beq z r.z then some (.pl r ((l.drop s).take n)) else none
    | _ => none
  | .slice (some ⟨b, o, none⟩) n _ => match h b with
    | some (.cells vs e _) => match viewR e vs with
      | some r => bif Nat.ble (o + n * r.z) vs.length then match parseR r n ((vs.drop o).take (n * r.z)) with
        | some l => some (.pl r l)
        | none => none
        else none
      | none => none
    | _ => none
  | v => bif dataV v then some v else none
def viewL (h : HF) : List CV → Option (List CV)
  | [] => some []
  | v :: r => match view1 h v, viewL h r with
    | some x, some l => some (x :: l)
    | _, _ => none
def viewV (h : HF) : CV → Option CV
  | .slice (some ⟨b, o, none⟩) n _ => match h b with
    | some (.cells vs e _) => match viewR e vs with
      | some r => bif Nat.ble (o + n * r.z) vs.length then match parseR r n ((vs.drop o).take (n * r.z)) with
        | some l => some (.pl r l)
        | none => none
        else none
      | none => none
    | _ => none
  | .agg cs => match viewL h cs.toList with
    | some l => some (.agg l.toArray)
    | none => none
  | v => view1 h v
def viewArgs (h : HF) : List CV → Option (List CV)
  | [] => some []
  | v :: r => match viewV h v, viewArgs h r with
    | some x, some l => some (x :: l)
    | _, _ => none

def immAll (w : World) : Imm := fun B k => if B < w.heap.size then w.cell? ⟨B, k, none⟩ else none
theorem immAll_ok (w : World) : ImmOk (immAll w) w := fun B k v hv => by
  simp only [immAll] at hv
  split at hv
  · rename_i h; exact ⟨hv, h⟩
  · cases hv

theorem row_view {i : Inj} {h : HF} {w : World} (R : Rel P N i h w) {b z n : Nat} {r : RC} {l : List r.den} {y : Value} (hb : h b = some (.rows r l)) (hz : z = r.z) (hv : VRel i (.row b z n) y) : VRel (immOf (immAll w)) (.pl r l) y := by
  rcases hv.row_inv with ⟨g, a', cap', rfl, hg, hgz, hs, hcap, ha⟩ | ⟨rfl, hvd, a, rfl⟩
  · have hn := row_len R hb hg hz hs
    subst hn
    obtain ⟨h1, h2, h3, ⟨ys, h4, h5⟩, h6⟩ := R.obj b _ g hb hg
    have hlt := R.bnd b g hg
    have him : ∀ B k v, i.imm B k = some v → (immAll w) B k = some v := fun B k v hv => by
      obtain ⟨q1, q2, _⟩ := R.imm B k v hv
      simp only [immAll, q2, if_true]; exact q1
    have hd : dataL (r.all l) = true := by
      have : ∀ l : List r.den, dataL (r.all l) = true := by
        intro l
        induction l with
        | nil => rfl
        | cons x l ih =>
          rw [r.all_cons]
          have hc : ∀ (a b : List CV), dataL a = true → dataL b = true → dataL (a ++ b) = true := by
            intro a b ha hb
            induction a with
            | nil => exact hb
            | cons v a ih => simp only [dataL, Bool.and_eq_true, List.cons_append] at ha ⊢; exact ⟨ha.1, ih ha.2⟩
          refine hc _ _ ?_ ih
          cases r <;> rfl
      exact this l
    refine pl_of_cells (h4.data (j := immOf (immAll w)) him hd) (fun k v hv => ?_) ?_ ha
    · simp only [immOf, immAll, hlt, if_true]; exact h5 k v hv
    · rcases hcap with rfl | ⟨_, _, h3, _⟩ <;> omega
  · have hl := (R.void b hvd).2 r l hb
    subst hl
    exact .plNil

theorem dataL_all (r : RC) (l : List r.den) : dataL (r.all l) = true := by
  induction l with
  | nil => rfl
  | cons x l ih =>
    rw [r.all_cons]
    have hc : ∀ (a b : List CV), dataL a = true → dataL b = true → dataL (a ++ b) = true := by
      intro a b ha hb
      induction a with
      | nil => exact hb
      | cons v a ih => simp only [dataL, Bool.and_eq_true, List.cons_append] at ha ⊢; exact ⟨ha.1, ih ha.2⟩
    refine hc _ _ ?_ ih
    cases r <;> rfl

theorem cells_view {i : Inj} {h : HF} {w : World} (R : Rel P N i h w) {b o n c e m : Nat} {vs : List CV} {r : RC} {l : List r.den} {y : Value} (hb : h b = some (.cells vs e m)) (hle : o + n * r.z ≤ vs.length) (hp : parseR r n ((vs.drop o).take (n * r.z)) = some l) (hv : VRel i (.slice (some ⟨b, o, none⟩) n c) y) : VRel (immOf (immAll w)) (.pl r l) y := by
  obtain ⟨g, a', cap', rfl, hg, hc, ha, hl⟩ := hv.slice_inv
  obtain ⟨ys, h1, h2, h3⟩ := R.cellsAt hb hg hle
  obtain ⟨h4, h5⟩ := parseR_rel n hp (by rw [List.length_take, List.length_drop]; omega) h1
  have hlt := R.bnd b g hg
  have him : ∀ B k v, i.imm B k = some v → (immAll w) B k = some v := fun B k v hv => by
    obtain ⟨q1, q2, _⟩ := R.imm B k v hv
    simp only [immAll, q2, if_true]; exact q1
  have := pl_of_cells (cap' := cap') (a' := a') (h4.data (j := immOf (immAll w)) him (dataL_all r l)) (B := g.B) (o := g.off + o) (fun k v hv => by
    simp only [immOf, immAll, hlt, if_true]; exact h3 k v hv) (by rw [h5]; rcases hc with rfl | ⟨_, _, h3, _⟩ <;> omega) ha
  rwa [h5] at this

theorem win_view {i : Inj} {h : HF} {w : World} (R : Rel P N i h w) {b z s n c : Nat} {r : RC} {l : List r.den} {y : Value} (hb : h b = some (.rows r l)) (hz : z = r.z) (hv : VRel i (.win b z s n c) y) : VRel (immOf (immAll w)) (.pl r ((l.drop s).take n)) y := by
  rcases hv.win_inv with ⟨g, a', cap', rfl, hg, hgz, hcap, ha, hnc⟩ | ⟨rfl, _, a, rfl⟩
  · obtain ⟨h1, h2, h3, ⟨ys, h4, h5⟩, h6⟩ := R.obj b _ g hb hg
    have hlt := R.bnd b g hg
    have him : ∀ B k v, i.imm B k = some v → (immAll w) B k = some v := fun B k v hv => by
      obtain ⟨q1, q2, _⟩ := R.imm B k v hv
      simp only [immAll, q2, if_true]; exact q1
    have e1 : r.all ((l.drop s).take n) = ((r.all l).drop (s * r.z)).take (n * r.z) := by rw [r.all_drop, r.all_take]
    have h7 : LRel i (r.all ((l.drop s).take n)) ((ys.drop (s * r.z)).take (n * r.z)) := by rw [e1]; exact (h4.drop _).take _
    have hle := hv.win_len R hb hz hg
    have hlen : ((l.drop s).take n).length = n := by rw [List.length_take, List.length_drop]; omega
    have key := pl_of_cells (cap' := cap') (a' := a') (B := g.B) (o := g.off + s * r.z) (h7.data (j := immOf (immAll w)) him (dataL_all r _)) (fun k v hv => ?_) ?_ (by rw [← hz]; exact ha)
    · rw [hlen] at key; exact key
    · rw [List.getElem?_take] at hv
      split at hv
      · rw [List.getElem?_drop] at hv
        have := h5 _ v hv
        simp only [immOf, immAll, hlt, if_true, Nat.add_assoc]; exact this
      · cases hv
    · rw [hlen]; rcases hcap with rfl | ⟨_, _, h3, _⟩ <;> omega
  · rw [List.take_zero]; exact .plNil

theorem view1_rel {i : Inj} {h : HF} {w : World} (R : Rel P N i h w) {x x2 : CV} {y : Value} (e : view1 h x = some x2) (hv : VRel i x y) : VRel (immOf (immAll w)) x2 y := by
  have him : ∀ B k v, i.imm B k = some v → (immAll w) B k = some v := fun B k v hv => by
    obtain ⟨q1, q2, _⟩ := R.imm B k v hv
    simp only [immAll, q2, if_true]; exact q1
  unfold view1 at e
  split at e
  · rename_i b z n
    split at e
    · rename_i r l hb
      rw [nbeq] at e
      by_cases hz : z = r.z
      · simp only [hz, decide_true, cond_true, Option.some.injEq] at e
        subst e
        exact row_view R hb hz hv
      · simp only [hz, decide_false, cond_false] at e; cases e
    · cases e
  · rename_i b z s n c
    split at e
    · rename_i r l hb
      cases hc : (Nat.beq z r.z) with
      | true =>
        rw [hc] at e
        simp only [nbeq, decide_eq_true_eq] at hc
        simp only [cond_true, Option.some.injEq] at e
        subst e
        exact win_view R hb hc hv
      | false => rw [hc] at e; cases e
    · cases e
  · rename_i b o n c
    split at e
    · rename_i vs ez m hb
      split at e
      · rename_i r hr
        rw [nble] at e
        by_cases hle : o + n * r.z ≤ vs.length
        · simp only [hle, decide_true, cond_true] at e
          split at e
          · rename_i l hp
            cases e
            exact cells_view R hb hle hp hv
          · cases e
        · simp only [hle, decide_false, cond_false] at e; cases e
      · cases e
    · cases e
  · cases hd : dataV x with
    | false => rw [hd] at e; cases e
    | true => rw [hd] at e; cases e; exact hv.data (j := immOf (immAll w)) him hd
theorem viewL_rel {i : Inj} {h : HF} {w : World} (R : Rel P N i h w) : ∀ {xs xs2 : List CV} {ys : List Value}, viewL h xs = some xs2 → LRel i xs ys → LRel (immOf (immAll w)) xs2 ys
  | [], xs2, ys, e, hl => by simp only [viewL, Option.some.injEq] at e; subst e; have := hl.nil_inv; subst this; exact .nil _
  | x :: xs, xs2, ys, e, hl => by
    simp only [viewL] at e
    split at e
    · rename_i a l h1 h2
      cases e
      obtain ⟨y, ys', rfl, h3, h4⟩ := hl.cons_inv
      exact .cons (view1_rel R h1 h3) (viewL_rel R h2 h4)
    · cases e
theorem viewV_rel {i : Inj} {h : HF} {w : World} (R : Rel P N i h w) {x x2 : CV} {y : Value} (e : viewV h x = some x2) (hv : VRel i x y) : VRel (immOf (immAll w)) x2 y := by
  unfold viewV at e
  split at e
  · rename_i b o n c
    split at e
    · rename_i vs ez m hb
      split at e
      · rename_i r hr
        rw [nble] at e
        by_cases hle : o + n * r.z ≤ vs.length
        · simp only [hle, decide_true, cond_true] at e
          split at e
          · rename_i l hp
            cases e
            exact cells_view R hb hle hp hv
          · cases e
        · simp only [hle, decide_false, cond_false] at e; cases e
      · cases e
    · cases e
  · split at e
    · rename_i cs _ l hc
      cases e
      obtain ⟨bs, rfl, hl⟩ := hv.agg_inv
      simpa using VRel.agg' (viewL_rel R hc hl)
    · cases e
  · exact view1_rel R e hv
theorem viewArgs_rel {i : Inj} {h : HF} {w : World} (R : Rel P N i h w) : ∀ {xs xs2 : List CV} {ys : List Value}, viewArgs h xs = some xs2 → LRel i xs ys → LRel (immOf (immAll w)) xs2 ys
  | [], xs2, ys, e, hl => by simp only [viewArgs, Option.some.injEq] at e; subst e; have := hl.nil_inv; subst this; exact .nil _
  | x :: xs, xs2, ys, e, hl => by
    simp only [viewArgs] at e
    split at e
    · rename_i a l h1 h2
      cases e
      obtain ⟨y, ys', rfl, h3, h4⟩ := hl.cons_inv
      exact .cons (viewV_rel R h1 h3) (viewArgs_rel R h2 h4)
    · cases e

def pureExt (G : List CV → T CV) : ExtFn := fun ro args s =>
  bif dataL args then (G args).bind fun d => bif dataV d then .ret (d, s) else .fail
  else match viewArgs s.heap.get args with
    | some args2 => (G args2).bind fun d => bif flat d then .ret (d, s) else
        match frzVs s.heap.get args with
        | some (args3, ef) => bif Nat.beq ro 0 && dataL args3 then (G args3).bind fun d => bif dataV d then .ret (d, { s with heap := setAll s.heap ef }) else .fail else .fail
        | none => .fail
    | none => .fail

theorem imm_rel {i : Inj} {h : HF} {w w' : World} (R : Rel P N i h w) {im' : Imm} (hok : ImmOk im' w') (h1 : ∀ B k v, i.imm B k = some v → im' B k = some v) (h2 : ∀ B k v, B < w.heap.size → im' B k = some v → i.imm B k = some v) (hb : Below w.heap.size w w') :
    i.le { i with imm := im' } ∧ Rel P N { i with imm := im' } h w' := by
  have hle : i.le { i with imm := im' } := ⟨fun _ _ h => h, h1, fun _ h => h, rfl⟩
  refine ⟨hle, ⟨fun b o g hbo hg => (R.obj b o g hbo hg).mono hle (hb.block _ (R.bnd b g hg)), R.sep, fun b g hg => Nat.lt_of_lt_of_le (R.bnd b g hg) hb.size, Nat.le_trans R.hN hb.size, fun B k v hv => ⟨(hok B k v hv).1, (hok B k v hv).2, ?_⟩, fun b o g hbo hg hw k => ?_, R.void⟩⟩
  · rcases Nat.lt_or_ge B w.heap.size with h3 | h3
    · exact (R.imm B k v (h2 B k v h3 hv)).2.2
    · exact .inl (Nat.le_trans R.hN h3)
  · show im' g.B k = none
    cases hx : im' g.B k with
    | none => rfl
    | some v =>
      have := h2 _ _ _ (R.bnd b g hg) hx
      rw [R.ims b o g hbo hg hw k] at this; cases this

theorem imm_after {ro : Nat} {i : Inj} {s : CSt} {w w' : World} (hs : SRel P N i s w) {im' : Imm} (hok : ImmOk im' w') (h1 : ∀ B k v, i.imm B k = some v → im' B k = some v) (h2 : ∀ B k v, B < w.heap.size → im' B k = some v → i.imm B k = some v) (hb : Below w.heap.size w w') :
    After P N ro i s w { i with imm := im' } s w' := by
  obtain ⟨h3, h4⟩ := imm_rel hs.rel hok h1 h2 hb
  exact ⟨⟨h4, hs.fresh⟩, ⟨h3, fun _ _ _ h => h, hb.size, hb.os, hb.tape, hb.output, fun B hB _ => hb.block B hB, fun _ _ h => h, fun B k v hB h => .inl (h2 B k v hB h)⟩, fun _ _ => ⟨rfl, rfl⟩, Nat.le_refl _⟩

theorem below_after {ro : Nat} {i : Inj} {s : CSt} {w w' : World} (hs : SRel P N i s w) (hb : Below w.heap.size w w') : After P N ro i s w i s w' := by
  have := imm_after (ro := ro) hs (im' := i.imm) (fun B k v hv => ?_) (fun _ _ _ h => h) (fun _ _ _ _ h => h) hb
  · exact this
  · obtain ⟨q1, q2, _⟩ := hs.rel.imm B k v hv
    exact ⟨by rw [World.cell?_of_block (w := w) (hb.block _ q2)]; exact q1, Nat.lt_of_lt_of_le q2 hb.size⟩

theorem extOk_pure {f : FuncId} {G : List CV → T CV} (h : PureFn P f G) : ExtOk1 P N f (pureExt G) := by
  refine ⟨h.1, fun ro args s v s' e i w args' hs hl => ?_⟩
  have key : ∀ {args : List CV} {d : CV} {i : Inj} {s : CSt}, SRel P N i s w → LRel i args args'.toList → dataL args = true → (G args).ev = some d → dataV d = true →
      CallsIn (FW none) 0 P f args' w fun e w' => ∃ i' v', e = .returned v' ∧ VRel i' d v' ∧ After P N ro i s w i' s w' := by
    intro args d i s hs hl hd he hdd
    refine (callsIn_wide (n := 0)).2 ((h.2 args d he i.imm w args' (fun B k v hv => ⟨(hs.rel.imm B k v hv).1, (hs.rel.imm B k v hv).2.1⟩) (LRel.data (i := i) (j := immOf i.imm) (fun _ _ _ h => h) hl hd)).mono ?_)
    rintro e w' ⟨im', v', rfl, q1, q2, q3, q4, q5⟩
    exact ⟨{ i with imm := im' }, v', rfl, VRel.data (i := immOf im') (j := { i with imm := im' }) (fun _ _ _ h => h) q4 hdd, imm_after hs q1 q2 q3 q5⟩
  unfold pureExt at e
  cases hd : dataL args with
  | true =>
    rw [hd] at e
    simp only [cond_true] at e
    obtain ⟨d, h1, h2⟩ := ev_bind _ e
    obtain ⟨h3, h4⟩ := ev_bif h2
    cases ev_ret h4
    exact key hs hl hd h1 h3
  | false =>
    rw [hd] at e
    simp only [cond_false] at e
    split at e
    · rename_i args2 hv
      obtain ⟨d, h1, h2⟩ := ev_bind _ e
      cases hf : flat d with
      | true =>
        rw [hf] at h2
        cases ev_ret h2
        refine (callsIn_wide (n := 0)).2 ((h.2 args2 v h1 (immAll w) w args' (immAll_ok w) (viewArgs_rel hs.rel hv hl)).mono ?_)
        rintro e w' ⟨im', v', rfl, q1, q2, q3, q4, q5⟩
        have := q4.flat_eq hf
        subst this
        exact ⟨i, _, rfl, .of_flat i v hf, below_after hs q5⟩
      | false =>
        rw [hf] at h2
        simp only [cond_false] at h2
        split at h2
        · rename_i args3 ef hz
          obtain ⟨hc, h3⟩ := ev_bif h2
          simp only [Bool.and_eq_true, nbeq, decide_eq_true_eq] at hc
          obtain ⟨d2, h4, h5⟩ := ev_bind _ h3
          obtain ⟨h6, h7⟩ := ev_bif h5
          cases ev_ret h7
          obtain ⟨hro, hd3⟩ := hc
          subst hro
          obtain ⟨i1, F, hl1⟩ := frzVs_sound hs.rel hl hz
          have hs1 : SRel P N i1 { s with heap := setAll s.heap ef } w := .setAll F.rel (fun b hb => ⟨(F.blk b).1.trans (hs.fresh b hb).1, (F.blk b).2.trans (hs.fresh b hb).2⟩)
          have hA : After P N 0 i s w i1 { s with heap := setAll s.heap ef } w :=
            ⟨hs1, by show Step 0 i s.heap.get w i1 (setAll s.heap ef).get w; rw [get_setAll]; exact F.step, fun b _ => F.blk b, Nat.le_refl _⟩
          refine (key hs1 hl1 hd3 h4 h6).mono ?_
          rintro e w' ⟨i', v', rfl, q1, q2⟩
          exact ⟨i', v', rfl, q1, hA.trans q2⟩
        · exact (ev_fail h2).elim
    · exact (ev_fail e).elim

theorem extsOk_cons {f : FuncId} {x : ExtFn} {E : List (Nat × ExtFn)} (h : ExtOk1 P N f x) (hE : ExtsOk P N E) : ExtsOk P N ((f, x) :: E) := by
  intro f' y hy
  simp only [findExt, nbeq] at hy
  by_cases e : f = f'
  · subst e
    simp only [decide_true, cond_true, Option.some.injEq] at hy
    subst hy; exact h
  · rw [decide_eq_false e, cond_false] at hy
    exact hE f' y hy

theorem beqPos_eq : ∀ {p q : List Nat}, beqPos p q = true → p = q
  | [], [], _ => rfl
  | a :: r, b :: s, h => by simp only [beqPos, Bool.and_eq_true, nbeq, decide_eq_true_eq] at h; rw [h.1, beqPos_eq h.2]
  | [], _ :: _, h => by simp [beqPos] at h
  | _ :: _, [], h => by simp [beqPos] at h

theorem loopsOk_cons {f : FuncId} {p : List Nat} {F : LoopFn} {L : List (Nat × List Nat × LoopFn)} (h : LoopOk1 P N f p F) (hL : LoopsOk P N L) : LoopsOk P N ((f, p, F) :: L) := by
  intro f' q F' hy
  simp only [findLoop] at hy
  cases hc : (Nat.beq f f' && beqPos p q) with
  | true =>
    rw [hc] at hy
    simp only [Bool.and_eq_true, nbeq, decide_eq_true_eq] at hc
    simp only [cond_true, Option.some.injEq] at hy
    subst hy
    rw [← hc.1, ← beqPos_eq hc.2]; exact h
  | false => rw [hc] at hy; exact hL f' q F' hy

end Go.Proofs.YtecidokjhplbgaaGreatDoorD

set_option linter.unusedVariables false
set_option linter.unusedSimpArgs false
namespace Go.Proofs.YtecidokjhplbgaaGreatDoorD
open Go Go.RowKit

variable {P : Program} {N : Nat}

inductive Leaf where
  | i (n : Int)
  | b (b : Bool)
  | n (n : Nat)
  | s (s : ByteArray)
  | l (r : RC) (l : List r.den)

mutual
def takeV : CV → CV → Option (List Leaf)
  | .bool _, .bool b => some [.b b]
  | .int k _, .int j n => bif decide (k = j) then some [.i n] else none
  | .string _, .string s => some [.s s]
  | .pointer none, .pointer none => some []
  | .pointer (some ⟨b, o, none⟩), .pointer (some ⟨c, q, none⟩) => bif Nat.beq b c && Nat.beq o q then some [] else none
  | .slice none 0 0, .slice none 0 0 => some []
  | .slice (some ⟨b, o, none⟩) n m, .slice (some ⟨c, q, none⟩) n' m' => bif Nat.beq b c && Nat.beq o q && Nat.beq n n' && Nat.beq m m' then some [] else none
  | .map none, .map none => some []
  | .map (some b), .map (some c) => bif Nat.beq b c then some [] else none
  | .func (.func f) as cs, .func (.func g) bs ds => bif Nat.beq f g then match takeA as bs, takeA cs ds with
    | some x, some y => some (x ++ y)
    | _, _ => none
    else none
  | .func (.yield f) ⟨[]⟩ ⟨[]⟩, .func (.yield g) ⟨[]⟩ ⟨[]⟩ => bif Nat.beq f g then some [] else none
  | .nilFunc, .nilFunc => some []
  | .nilIface, .nilIface => some []
  | .iface t v, .iface u w => bif Nat.beq t u then takeV v w else none
  | .agg as, .agg bs => takeA as bs
  | .tuple as, .tuple bs => takeA as bs
  | .junk, .junk => some []
  | .pl r _, .pl q m => bif decide (r = q) then some [.l q m] else none
  | .kptr as, .kptr bs => takeL as bs
  | .rptr b z _ j, .rptr c y k l => bif Nat.beq b c && Nat.beq z y && Nat.beq j l then some [.n k] else none
  | .row b z 0, .row c y 0 => bif Nat.beq b c && Nat.beq z y then some [] else none
  | .win b z _ _ _, .win c y s n m => bif Nat.beq b c && Nat.beq z y then some [.n s, .n n, .n m] else none
  | .empty, .empty => some []
  | _, _ => none
def takeA : Array CV → Array CV → Option (List Leaf)
  | ⟨l⟩, ⟨m⟩ => takeL l m
def takeL : List CV → List CV → Option (List Leaf)
  | [], [] => some []
  | v :: r, w :: s => match takeV v w, takeL r s with
    | some x, some y => some (x ++ y)
    | _, _ => none
  | _, _ => none
end

mutual
def fillV : CV → List Leaf → Option (CV × List Leaf)
  | .bool _, .b b :: r => some (.bool b, r)
  | .int k _, .i n :: r => some (.int k n, r)
  | .string _, .s s :: r => some (.string s, r)
  | .pointer a, r => some (.pointer a, r)
  | .slice a n m, r => some (.slice a n m, r)
  | .map a, r => some (.map a, r)
  | .func (.func f) as cs, r => match fillA as r with
    | some (x, s) => match fillA cs s with
      | some (y, t) => some (.func (.func f) x y, t)
      | none => none
    | none => none
  | .func (.yield f) as cs, r => some (.func (.yield f) as cs, r)
  | .nilFunc, r => some (.nilFunc, r)
  | .nilIface, r => some (.nilIface, r)
  | .iface t v, r => match fillV v r with
    | some (x, s) => some (.iface t x, s)
    | none => none
  | .agg as, r => match fillA as r with
    | some (x, s) => some (.agg x, s)
    | none => none
  | .tuple as, r => match fillA as r with
    | some (x, s) => some (.tuple x, s)
    | none => none
  | .junk, r => some (.junk, r)
  | .pl _ _, .l q m :: r => some (.pl q m, r)
  | .kptr as, r => match fillL as r with
    | some (x, s) => some (.kptr x, s)
    | none => none
  | .rptr b z _ j, .n k :: r => some (.rptr b z k j, r)
  | .row b z n, r => some (.row b z n, r)
  | .win b z _ _ _, .n s :: .n n :: .n m :: r => some (.win b z s n m, r)
  | .empty, r => some (.empty, r)
  | _, _ => none
def fillA : Array CV → List Leaf → Option (Array CV × List Leaf)
  | ⟨l⟩, r => match fillL l r with
    | some (x, s) => some (⟨x⟩, s)
    | none => none
def fillL : List CV → List Leaf → Option (List CV × List Leaf)
  | [], r => some ([], r)
  | v :: q, r => match fillV v r with
    | some (x, s) => match fillL q s with
      | some (y, t) => some (x :: y, t)
      | none => none
    | none => none
end

mutual
theorem take_fillV : ∀ (k v : CV) (ls rest : List Leaf), takeV k v = some ls → fillV k (ls ++ rest) = some (v, rest) := by
  intro k v ls rest h
  unfold takeV at h
  split at h
  · cases h; rfl
  · rename_i k n j m
    by_cases e : k = j
    · subst e; simp at h; subst h; rfl
    · simp [e] at h
  · cases h; rfl
  · cases h; rfl
  · rename_i b o c q
    rw [nbeq, nbeq] at h
    by_cases e : b = c ∧ o = q
    · obtain ⟨rfl, rfl⟩ := e; simp at h; subst h; rfl
    · have : (decide (b = c) && decide (o = q)) = false := by simpa using e
      rw [this] at h; cases h
  · cases h; rfl
  · rename_i b o n m c q n' m'
    simp only [nbeq] at h
    by_cases e : b = c ∧ o = q ∧ n = n' ∧ m = m'
    · obtain ⟨rfl, rfl, rfl, rfl⟩ := e; simp at h; subst h; rfl
    · have : (decide (b = c) && decide (o = q) && decide (n = n') && decide (m = m')) = false := by
        rw [Bool.eq_false_iff]; intro hh; simp only [Bool.and_eq_true, decide_eq_true_eq] at hh; exact e ⟨hh.1.1.1, hh.1.1.2, hh.1.2, hh.2⟩
      rw [this] at h; cases h
  · cases h; rfl
  · rename_i b c
    rw [nbeq] at h
    by_cases e : b = c
    · subst e; simp at h; subst h; rfl
    · simp [e] at h
  · rename_i f as cs g bs ds
    rw [nbeq] at h
    by_cases e : f = g
    · subst e
      simp only [decide_true, cond_true] at h
      split at h
      · rename_i x y h1 h2
        cases h
        rw [List.append_assoc]
        simp only [fillV, take_fillA as bs x _ h1, take_fillA cs ds y _ h2]
      · cases h
    · simp [e] at h
  · rename_i f g
    rw [nbeq] at h
    by_cases e : f = g
    · subst e; simp at h; subst h; rfl
    · simp [e] at h
  · cases h; rfl
  · cases h; rfl
  · rename_i t v u w
    rw [nbeq] at h
    by_cases e : t = u
    · subst e
      simp only [decide_true, cond_true] at h
      simp only [fillV, take_fillV v w ls rest h]
    · simp [e] at h
  · rename_i as bs
    simp only [fillV, take_fillA as bs ls rest h]
  · rename_i as bs
    simp only [fillV, take_fillA as bs ls rest h]
  · cases h; rfl
  · rename_i r l q m
    by_cases e : r = q
    · simp [e] at h; subst h; rfl
    · simp [e] at h
  · rename_i as bs
    simp only [fillV, take_fillL as bs ls rest h]
  · rename_i b z i j c y k l
    simp only [nbeq] at h
    by_cases e : b = c ∧ z = y ∧ j = l
    · obtain ⟨rfl, rfl, rfl⟩ := e; simp at h; subst h; rfl
    · have : (decide (b = c) && decide (z = y) && decide (j = l)) = false := by
        rw [Bool.eq_false_iff]; intro hh; simp only [Bool.and_eq_true, decide_eq_true_eq] at hh; exact e ⟨hh.1.1, hh.1.2, hh.2⟩
      rw [this] at h; cases h
  · rename_i b z c y
    simp only [nbeq] at h
    by_cases e : b = c ∧ z = y
    · obtain ⟨rfl, rfl⟩ := e; simp at h; subst h; rfl
    · have : (decide (b = c) && decide (z = y)) = false := by simpa using e
      rw [this] at h; cases h
  · rename_i b z s' n' m' c y s n m
    simp only [nbeq] at h
    by_cases e : b = c ∧ z = y
    · obtain ⟨rfl, rfl⟩ := e; simp at h; subst h; rfl
    · have : (decide (b = c) && decide (z = y)) = false := by simpa using e
      rw [this] at h; cases h
  · cases h; rfl
  · cases h
theorem take_fillA : ∀ (k v : Array CV) (ls rest : List Leaf), takeA k v = some ls → fillA k (ls ++ rest) = some (v, rest)
  | ⟨l⟩, ⟨m⟩, ls, rest, h => by
    simp only [takeA] at h
    simp only [fillA, take_fillL l m ls rest h]
theorem take_fillL : ∀ (k v : List CV) (ls rest : List Leaf), takeL k v = some ls → fillL k (ls ++ rest) = some (v, rest)
  | [], [], ls, rest, h => by simp only [takeL, Option.some.injEq] at h; subst h; rfl
  | v :: r, w :: s, ls, rest, h => by
    simp only [takeL] at h
    split at h
    · rename_i x y h1 h2
      cases h
      rw [List.append_assoc]
      simp only [fillL, take_fillV v w x _ h1, take_fillL r s y _ h2]
    · cases h
  | [], _ :: _, ls, rest, h => by simp [takeL] at h
  | _ :: _, [], ls, rest, h => by simp [takeL] at h
end

def sameState : LoopState → LoopState → Bool
  | .ready, .ready => true
  | .busy, .busy => true
  | .done, .done => true
  | .exhausted, .exhausted => true
  | _, _ => false

def samePe : Option Code → Option Code → Bool
  | none, none => true
  | some .ret, some .ret => true
  | some (.exit a), some (.exit b) => Nat.beq a b
  | _, _ => false
theorem samePe_eq {a b : Option Code} (h : samePe a b = true) : a = b := by
  unfold samePe at h
  split at h
  · rfl
  · rfl
  · rw [nbeq, decide_eq_true_eq] at h; rw [h]
  · cases h

def takeO : CObj → CObj → Option (List Leaf)
  | .cells vs e m, .cells ws f n => bif Nat.beq e f && Nat.beq m n then takeL vs ws else none
  | .rows r _, .rows q l => bif decide (r = q) then some [.l q l] else none
  | .keys _, .keys l => some [.l .strs l]
  | .loop st pe fn tms po de, .loop st' pe' fn' tms' po' de' => bif sameState st st' && Nat.beq fn fn' && beqPos po po' && Nat.beq de de' && samePe pe pe' then takeL tms tms' else none
  | .defs, .defs => some []
  | .dead, .dead => some []
  | _, _ => none
def fillO : CObj → List Leaf → Option (CObj × List Leaf)
  | .cells vs e m, r => match fillL vs r with
    | some (x, s) => some (.cells x e m, s)
    | none => none
  | .rows _ _, .l q l :: r => some (.rows q l, r)
  | .keys _, .l .strs l :: r => some (.keys l, r)
  | .loop st pe fn tms po de, r => match fillL tms r with
    | some (x, s) => some (.loop st pe fn x po de, s)
    | none => none
  | .defs, r => some (.defs, r)
  | .dead, r => some (.dead, r)
  | _, _ => none

theorem take_fillO : ∀ (k v : CObj) (ls rest : List Leaf), takeO k v = some ls → fillO k (ls ++ rest) = some (v, rest) := by
  intro k v ls rest h
  unfold takeO at h
  split at h
  · rename_i vs e m ws f n
    simp only [nbeq] at h
    by_cases e1 : e = f ∧ m = n
    · obtain ⟨rfl, rfl⟩ := e1
      simp only [decide_true, Bool.and_self, cond_true] at h
      simp only [fillO, take_fillL vs ws ls rest h]
    · have : (decide (e = f) && decide (m = n)) = false := by simpa using e1
      rw [this] at h; cases h
  · rename_i r l q m
    by_cases e : r = q
    · simp [e] at h; subst h; rfl
    · simp [e] at h
  · cases h; rfl
  · rename_i st pe fn tms po de st' pe' fn' tms' po' de'
    cases hc : (sameState st st' && Nat.beq fn fn' && beqPos po po' && Nat.beq de de' && samePe pe pe') with
    | false => rw [hc] at h; cases h
    | true =>
      rw [hc] at h
      simp only [Bool.and_eq_true, nbeq, decide_eq_true_eq] at hc
      obtain ⟨⟨⟨⟨h1, h2⟩, h3⟩, h4⟩, h6⟩ := hc
      simp only [cond_true] at h
      have h5 : st = st' := by cases st <;> cases st' <;> first | rfl | (simp [sameState] at h1)
      subst h5; subst h2; subst h4
      rw [beqPos_eq h3, samePe_eq h6]
      simp only [fillO, take_fillL tms tms' ls rest h]
  · cases h; rfl
  · cases h; rfl
  · cases h

def takeH : HL → HL → Option (List Leaf)
  | [], [] => some []
  | (b, o) :: r, (c, q) :: s => bif Nat.beq b c then match takeO o q, takeH r s with
    | some x, some y => some (x ++ y)
    | _, _ => none
    else none
  | _, _ => none
def fillH : HL → List Leaf → Option (HL × List Leaf)
  | [], r => some ([], r)
  | (b, o) :: q, r => match fillO o r with
    | some (x, s) => match fillH q s with
      | some (y, t) => some ((b, x) :: y, t)
      | none => none
    | none => none
theorem take_fillH : ∀ (k v : HL) (ls rest : List Leaf), takeH k v = some ls → fillH k (ls ++ rest) = some (v, rest)
  | [], [], ls, rest, h => by simp only [takeH, Option.some.injEq] at h; subst h; rfl
  | (b, o) :: r, (c, q) :: s, ls, rest, h => by
    simp only [takeH, nbeq] at h
    by_cases e : b = c
    · subst e
      simp only [decide_true, cond_true] at h
      split at h
      · rename_i x y h1 h2
        cases h
        rw [List.append_assoc]
        simp only [fillH, take_fillO o q x _ h1, take_fillH r s y _ h2]
      · cases h
    · simp [e] at h
  | [], _ :: _, ls, rest, h => by simp [takeH] at h
  | _ :: _, [], ls, rest, h => by simp [takeH] at h

def takeN (k n : NSt) : Option (List Leaf) :=
  bif beqPos k.marks n.marks && Nat.beq k.next n.next then
    match takeL k.tmps n.tmps, takeH k.heap n.heap with
    | some x, some y => some (x ++ y)
    | _, _ => none
  else none
def fillN (k : NSt) (ls : List Leaf) : Option NSt :=
  match fillL k.tmps ls with
  | some (ts, r) => match fillH k.heap r with
    | some (h, []) => some { tmps := ts, marks := k.marks, heap := h, next := k.next }
    | _ => none
  | none => none
theorem take_fillN {k n : NSt} {ls : List Leaf} (h : takeN k n = some ls) : fillN k ls = some n := by
  unfold takeN at h
  cases hc : (beqPos k.marks n.marks && Nat.beq k.next n.next) with
  | false => rw [hc] at h; cases h
  | true =>
    rw [hc] at h
    simp only [Bool.and_eq_true, nbeq, decide_eq_true_eq] at hc
    simp only [cond_true] at h
    split at h
    · rename_i x y h1 h2
      cases h
      have h3 := take_fillH k.heap n.heap y [] h2
      rw [List.append_nil] at h3
      simp only [fillN, take_fillL k.tmps n.tmps x y h1, h3, beqPos_eq hc.1, hc.2]
    · cases h

structure LoopId where
  fn : FuncId
  pos : List Nat
  voids : List (Nat × RC)

def outAt (e : CEx) (sk : NSt) (ls : List Leaf) : T (CEx × NSt) :=
  match fillN sk ls with
  | some n => .ret (e, n)
  | none => .fail

def rounds (P : Program) (E : List (Nat × ExtFn)) (L : List (Nat × List Nat × LoopFn)) (K : Nat) (id : LoopId) (base : Nat) (round : Option Nat) (sk : NSt) (k : Nat) (ls : List Leaf) : T (CEx × NSt) :=
  match codeAt P id.fn (0 :: id.pos), fillN sk ls with
  | some x, some n => tloopN (tden P E L K) L P round id.fn (0 :: id.pos) x base (maskOf id.fn id.pos) (maskOut id.fn id.pos) id.voids k n
  | _, _ => .fail

structure Shape where
  base : Nat
  round : Option Nat
  sk : NSt
  G : List Leaf → T (CEx × NSt)

def beqOpt : Option Nat → Option Nat → Bool
  | none, none => true
  | some a, some b => Nat.beq a b
  | _, _ => false

def byShapes : List Shape → Nat → Option Nat → NSt → T (CEx × NSt)
  | [], _, _, _ => .fail
  | s :: r, base, round, n => bif Nat.beq s.base base && beqOpt s.round round then
      match takeN s.sk n with
      | some ls => s.G ls
      | none => byShapes r base round n
    else byShapes r base round n

theorem byShapes_inv : ∀ {l : List Shape} {base : Nat} {round : Option Nat} {n : NSt} {r : CEx × NSt}, (byShapes l base round n).ev = some r → ∃ s ∈ l, s.base = base ∧ s.round = round ∧ ∃ ls, takeN s.sk n = some ls ∧ (s.G ls).ev = some r
  | [], base, round, n, r, h => by simp [byShapes, T.ev] at h
  | s :: q, base, round, n, r, h => by
    simp only [byShapes] at h
    have rec_ : (byShapes q base round n).ev = some r → ∃ s' ∈ s :: q, s'.base = base ∧ s'.round = round ∧ ∃ ls, takeN s'.sk n = some ls ∧ (s'.G ls).ev = some r := fun h => by
      obtain ⟨s', h1, h2⟩ := byShapes_inv h
      exact ⟨s', by simp [h1], h2⟩
    cases hc : (Nat.beq s.base base && beqOpt s.round round) with
    | false => rw [hc] at h; exact rec_ h
    | true =>
      rw [hc] at h
      simp only [Bool.and_eq_true, nbeq, decide_eq_true_eq] at hc
      simp only [cond_true] at h
      split at h
      · rename_i ls hls
        refine ⟨s, by simp, hc.1, ?_, ls, hls, h⟩
        have h2 := hc.2
        unfold beqOpt at h2
        split at h2
        · simp_all
        · rw [nbeq, decide_eq_true_eq] at h2; simp_all
        · cases h2
      · exact rec_ h

def loopExt (id : LoopId) (shapes : List Shape) : LoopFn := loopFn (maskOf id.fn id.pos) id.voids (byShapes shapes)

def ShapeOk (P : Program) (E : List (Nat × ExtFn)) (L : List (Nat × List Nat × LoopFn)) (id : LoopId) (s : Shape) : Prop :=
  ∀ ls r, (s.G ls).ev = some r → ∃ K k, (rounds P E L K id s.base s.round s.sk k ls).ev = some r

theorem loopExt_ok (hP : plainNames P = true) (hM : P.follows .mixedOrders = true) {E : List (Nat × ExtFn)} (hE : ∀ N, ExtsOk P N E) {L : List (Nat × List Nat × LoopFn)} (hL : ∀ N, LoopsOk P N L) {id : LoopId} {shapes : List Shape}
    (h : ∀ s ∈ shapes, ShapeOk P E L id s) (N : Nat) : LoopOk1 P N id.fn id.pos (loopExt id shapes) := by
  refine loopFn_ok (mask2 := maskOut id.fn id.pos) hP hM (hE N) (hL N) (fun x base round n r hcode hr => ?_)
  obtain ⟨s, hs, rfl, rfl, ls, h1, h2⟩ := byShapes_inv hr
  obtain ⟨K, k, h3⟩ := h s hs ls r h2
  refine ⟨K, k, ?_⟩
  unfold rounds at h3
  rw [hcode, take_fillN h1] at h3
  exact tloopN_ev (tden_ev P E L K) k n r h3

end Go.Proofs.YtecidokjhplbgaaGreatDoorD
