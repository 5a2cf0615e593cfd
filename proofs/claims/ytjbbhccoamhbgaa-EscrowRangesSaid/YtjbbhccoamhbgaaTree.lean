/-
  The reference run as a decision tree: it goes on where a condition is open. What its tree comes to, the reference run comes to.
-/
import Derived.Test.YtjbbhccoamhbgaaClose
set_option linter.unusedVariables false
set_option linter.unusedSimpArgs false
namespace Go.Proofs.YtjbbhccoamhbgaaD
open Go Go.RowKit

def T.bind {α β : Type} : T α → (α → T β) → T β
  | .fail, _ => .fail
  | .ret a, f => f a
  | .ite c x y, f => .ite c (x.bind f) (y.bind f)

theorem ev_bind {α β : Type} {f : α → T β} {b : β} : ∀ (t : T α), (t.bind f).ev = some b → ∃ a, t.ev = some a ∧ (f a).ev = some b
  | .fail, h => by simp [T.bind, T.ev] at h
  | .ret a, h => ⟨a, rfl, h⟩
  | .ite c x y, h => by
    simp only [T.bind, T.ev] at h ⊢
    cases c with
    | true => exact ev_bind x h
    | false => exact ev_bind y h

theorem ev_ite {α : Type} {c : Bool} {x y : T α} {a : α} (h : (T.ite c x y).ev = some a) : (c = true ∧ x.ev = some a) ∨ (c = false ∧ y.ev = some a) := by
  simp only [T.ev] at h
  cases c with
  | true => exact .inl ⟨rfl, h⟩
  | false => exact .inr ⟨rfl, h⟩

/-- 'c', or nothing. -/
def T.when {α : Type} (c : Bool) (x : T α) : T α := .ite c x .fail
theorem ev_when {α : Type} {c : Bool} {x : T α} {a : α} (h : (T.when c x).ev = some a) : c = true ∧ x.ev = some a := by
  rcases ev_ite h with h | ⟨_, h⟩
  · exact h
  · simp [T.ev] at h

theorem ev_of' {α : Type} {x : Option α} {a : α} (e : (T.of x).ev = some a) : x = some a := by
  cases x with
  | none => simp [T.of, T.ev] at e
  | some b => simpa [T.of, T.ev] using e

/-- One of two values. -/
def tpick (c : Bool) (x y : Value) : T Value :=
  match x, y with
  | .bool a, .bool b => .ret (.bool (bif c then a else b))
  | .int j a, .int k b => bif decide (j = k) then .ret (.int j (bif c then a else b)) else .ite c (.ret (.int j a)) (.ret (.int k b))
  | x, y => .ite c (.ret x) (.ret y)

theorem tpick_ev {c : Bool} {x y v : Value} (h : (tpick c x y).ev = some v) : v = bif c then x else y := by
  unfold tpick at h
  split at h
  · simp only [T.ev, Option.some.injEq] at h; subst h; cases c <;> rfl
  · rename_i j a k b
    by_cases hjk : j = k
    · subst hjk
      simp only [decide_true, cond_true, T.ev, Option.some.injEq] at h
      subst h; cases c <;> rfl
    · simp only [hjk, decide_false, cond_false, T.ev] at h
      cases c <;> simp_all
  · simp only [T.ev] at h
    cases c <;> simp_all

/-- An element of an array, the place open. -/
def tidx (P : Program) (e : TypeId) (z : Nat) (cs : Array Value) (i : Int) : Nat → T Value
  | 0 => .fail
  | j + 1 => .ite (decide (i = (j : Int))) (.of (cpart P e cs (j * z))) (tidx P e z cs i j)

theorem tidx_ev {P : Program} {e : TypeId} {z : Nat} {cs : Array Value} {i : Int} {v : Value} : ∀ (n : Nat), (tidx P e z cs i n).ev = some v → inRange i n = true ∧ cpart P e cs (i.toNat * z) = some v
  | 0, h => by simp [tidx, T.ev] at h
  | j + 1, h => by
    simp only [tidx] at h
    rcases ev_ite h with ⟨h1, h2⟩ | ⟨h1, h2⟩
    · simp only [decide_eq_true_eq] at h1
      subst h1
      refine ⟨?_, ev_of' h2⟩
      simp only [inRange, Bool.and_eq_true, decide_eq_true_eq]
      omega
    · obtain ⟨h3, h4⟩ := tidx_ev j h2
      refine ⟨?_, h4⟩
      simp only [inRange, Bool.and_eq_true, decide_eq_true_eq] at h3 ⊢
      omega

/-- Operations of which the tree knows more than the run. -/
def tmem (P : Program) (ρ : Operand → Option Value) (ro id : Nat) (o : Oper) (h : HF) : T (Value × Eff) :=
  match o.op with
  | .pick c a b => match ρ c, ρ a, ρ b with
    | some (.bool t), some x, some y => (tpick t x y).bind fun v => .ret (v, [])
    | _, _, _ => .fail
  | .index t x ix => match ρ x, ρ ix with
    | some (.agg cs), some (.int _ i) => match P.underlying t with
      | some (.array n e) => match pSize P e with
        | some z => (tidx P e z cs i n).bind fun v => .ret (v, [])
        | none => .fail
      | _ => .fail
    | _, _ => .of (cmem P ρ ro id o h)
  | _ => .of (cmem P ρ ro id o h)

theorem tmem_ev {P : Program} {ρ : Operand → Option Value} {ro id : Nat} {o : Oper} {h : HF} {r : Value × Eff} (e : (tmem P ρ ro id o h).ev = some r) : cmem P ρ ro id o h = some r := by
  unfold tmem at e
  split at e
  · rename_i c a b hop
    split at e
    · rename_i t x y hc ha hb
      obtain ⟨v, h1, h2⟩ := ev_bind _ e
      simp only [T.ev, Option.some.injEq] at h2
      have := tpick_ev h1
      subst this; subst h2
      simp only [cmem, hop, cpure, hc]
      cases t <;> simp [ha, hb]
    · simp [T.ev] at e
  · rename_i t x ix hop
    split at e
    · rename_i cs k i hx hi
      split at e
      · rename_i n el hu
        split at e
        · rename_i z hz
          obtain ⟨v, h1, h2⟩ := ev_bind _ e
          simp only [T.ev, Option.some.injEq] at h2
          subst h2
          obtain ⟨h3, h4⟩ := tidx_ev n h1
          simp only [cmem, hop, cpure, hx, hi, hu, hz, h3, cond_true, h4]
        · simp [T.ev] at e
      · simp [T.ev] at e
    · exact ev_of' e
  · exact ev_of' e

structure TSelf where
  call : Nat → FuncId → List Value → CSt → T (Value × CSt)
  exec : Nat → Option Nat → FuncId → Code → CAct → CSt → T (CEx × CAct × CSt)
  again : Nat → Option Nat → FuncId → Code → CAct → CSt → T (CEx × CAct × CSt)

structure TOk (t : TSelf) (s : Self) : Prop where
  call : ∀ {ro f args st r}, (t.call ro f args st).ev = some r → s.call ro f args st = some r
  exec : ∀ {ro round fn c a st r}, (t.exec ro round fn c a st).ev = some r → s.exec ro round fn c a st = some r
  again : ∀ {ro round fn c a st r}, (t.again ro round fn c a st).ev = some r → s.again ro round fn c a st = some r

def tround (self : TSelf) (ro l : Nat) (args : List Value) (s : CSt) : T (Value × CSt) :=
  match s.heap.get l with
  | some (.loop _ _ fn tmps params assign body _) =>
    T.when (Nat.beq args.length params.size && Nat.ble ro l) ((self.exec ro (some l) fn assign { tmps := setParams params.toList args tmps, marks := [] } s).bind fun r =>
      match r with
      | (.normal, a1, s1) =>
        match a1.marks, s1.heap.get l with
        | [], some (.loop .ready pe fn1 tm1 pa1 as1 bo1 de1) =>
          (self.exec ro (some l) fn body a1 { s1 with heap := s1.heap.set l (.loop .busy pe fn1 tm1 pa1 as1 bo1 de1) }).bind fun r =>
            match r with
            | (e, a2, s2) => match a2.marks, s2.heap.get l with
              | [], some (.loop _ _ fn2 tm2 pa2 as2 bo2 de2) =>
                match e with
                | .normal => .ret (.bool true, { s2 with heap := s2.heap.set l (.loop .ready none fn2 tm2 pa2 as2 bo2 de2) })
                | .ret => .ret (.bool false, { s2 with heap := s2.heap.set l (.loop .done (some .ret) fn2 tm2 pa2 as2 bo2 de2) })
                | .exit id => .ret (.bool false, { s2 with heap := s2.heap.set l (.loop .done (some (.exit id)) fn2 tm2 pa2 as2 bo2 de2) })
              | _, _ => .fail
        | _, _ => .fail
      | _ => .fail)
  | _ => .fail

theorem tround_ev {t : TSelf} {self : Self} (ht : TOk t self) {ro l : Nat} {args : List Value} {s : CSt} {r : Value × CSt} (e : (tround t ro l args s).ev = some r) : cround self ro l args s = some r := by
  unfold tround at e
  unfold cround
  split at e
  · rename_i st pe fn tmps params assign body de hget
    obtain ⟨hc, e⟩ := ev_when e
    rw [hget]
    simp only [hc, cond_true]
    obtain ⟨⟨ex, a1, s1⟩, h1, h2⟩ := ev_bind _ e
    rw [ht.exec h1]
    split at h2
    · rename_i a1' s1' heq
      cases heq
      simp only []
      split at h2
      · rename_i hm hget1
        rw [hm, hget1]
        simp only []
        obtain ⟨⟨ex2, a2, s2⟩, h3, h4⟩ := ev_bind _ h2
        rw [ht.exec h3]
        simp only []
        simp only [] at h4
        split at h4
        · rename_i hm2 hget2
          rw [hm2, hget2]
          simp only []
          cases ex2 <;> simpa [T.ev] using h4
        · simp [T.ev] at h4
      · simp [T.ev] at h2
    · simp [T.ev] at h2
  · simp [T.ev] at e

def tcallv (self : TSelf) (ro : Nat) (f : Value) (args : List Value) (s : CSt) : T (Value × CSt) :=
  match f with
  | .func (.func g) first captured => self.call ro g (first.toList ++ args ++ captured.toList) s
  | .func (.yield l) first _ => tround self ro l (first.toList ++ args) s
  | _ => .fail

def tOper (self : TSelf) (P : Program) (ro id : Nat) (a : CAct) (o : Oper) (s : CSt) : T (Value × CSt) :=
  match o.op with
  | .call { callee := .value f, args, .. } => match ceval a.tmps f, evals (ceval a.tmps) args.toList with
    | some g, some vs => tcallv self ro g vs s
    | _, _ => .fail
  | _ => (tmem P (ceval a.tmps) ro id o s.heap.get).bind fun r => .ret (r.1, { s with heap := setAll s.heap r.2 })

theorem tOper_ev {t : TSelf} {self : Self} (ht : TOk t self) {P : Program} {ro id : Nat} {a : CAct} {o : Oper} {s : CSt} {r : Value × CSt} (e : (tOper t P ro id a o s).ev = some r) : cOper self P ro id a o s = some r := by
  unfold tOper at e
  unfold cOper
  split at e
  · rename_i f args ts hop
    rw [hop]
    simp only []
    split at e
    · rename_i g vs hg hvs
      rw [hg, hvs]
      simp only []
      unfold tcallv at e
      unfold ccallv
      split at e
      · exact ht.call e
      · exact tround_ev ht e
      · simp [T.ev] at e
    · simp [T.ev] at e
  · rename_i hno
    obtain ⟨⟨v, ef⟩, h1, h2⟩ := ev_bind _ e
    simp only [T.ev, Option.some.injEq] at h2
    subst h2
    split
    · rename_i f args ts hop
      exact absurd hop (hno f args ts)
    · rw [tmem_ev h1]

/-- The condition that bears an open bool, and the two ways on, in each of which it is known. -/
def tsplit {β : Type} (ts : List Value) (x : Operand) (c : Bool) (k : Bool → List Value → T β) : T β :=
  match x with
  | .tmp t => .ite c (k true (ts.set t (.bool true))) (k false (ts.set t (.bool false)))
  | _ => .ite c (k true ts) (k false ts)

theorem set_same {ts : List Value} {t : Nat} {v : Value} (h : ts.getD t undef = v) (hv : v ≠ undef) : ts.set t v = ts := by
  apply List.ext_getElem?
  intro j
  rw [List.getElem?_set]
  by_cases hj : t = j
  · subst hj
    by_cases hl : t < ts.length
    · simp only [hl, if_true]
      have : ts[t]? = some ts[t] := List.getElem?_eq_getElem hl
      rw [List.getD_eq_getElem?_getD, this] at h
      rw [this]; exact congrArg some h.symm
    · rw [List.getD_eq_getElem?_getD, List.getElem?_eq_none (by omega)] at h
      exact absurd h.symm hv
  · simp [hj]

theorem tsplit_ev {β : Type} {ts : List Value} {x : Operand} {c : Bool} {k : Bool → List Value → T β} {b : β} (hx : ceval ts x = some (.bool c)) (h : (tsplit ts x c k).ev = some b) : (k c ts).ev = some b := by
  unfold tsplit at h
  split at h
  · rename_i t
    simp only [ceval, Option.some.injEq] at hx
    have hs := set_same hx (by intro hh; cases hh)
    rcases ev_ite h with ⟨rfl, h⟩ | ⟨rfl, h⟩ <;> rwa [hs] at h
  · rcases ev_ite h with ⟨rfl, h⟩ | ⟨rfl, h⟩ <;> exact h

end Go.Proofs.YtjbbhccoamhbgaaD
