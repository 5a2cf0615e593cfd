/-
  Functions of plain values: what a reference run tells of them, told to the runs of their callers.
-/
import Derived.Test.YtjbbhccoamhbgaaTree2
set_option linter.unusedVariables false
set_option linter.unusedSimpArgs false
namespace Go.Proofs.YtjbbhccoamhbgaaD
open Go Go.RowKit

variable {P : Program}

/-- A world with more blocks. -/
theorem after_below {N ro : Nat} {i : Inj} {s : CSt} {w w' : World} (hs : SRel N i s w) (hb : Below w.heap.size w w') : After N ro i s w i s w' := by
  refine ⟨⟨⟨fun b o g hbo hg => (hs.rel.obj b o g hbo hg).mono (Inj.le_refl i) (hb.block _ (hs.rel.bnd b g hg)), hs.rel.sep, fun b g hg => Nat.lt_of_lt_of_le (hs.rel.bnd b g hg) hb.size, Nat.le_trans hs.rel.hN hb.size⟩, hs.fresh⟩,
    ⟨Inj.le_refl i, fun _ _ _ h => h, hb.size, hb.os, hb.tape, hb.output, fun B hB _ => hb.block B hB, fun _ _ h => h⟩, fun _ _ => rfl, Nat.le_refl _⟩

theorem LRel.flat_eq {i : Inj} : ∀ {xs ys : List Value}, LRel i xs ys → flatL xs = true → xs = ys
  | [], ys, h, _ => h.nil_inv.symm
  | x :: xs, ys, h, hf => by
    obtain ⟨y, r, rfl, h1, h2⟩ := h.cons_inv
    simp only [flatL, Bool.and_eq_true] at hf
    rw [h1.flat_eq hf.1, LRel.flat_eq h2 hf.2]

/-- What a function answers to plain values, and that it leaves all memory as it was. -/
def Plain (P : Program) (f : FuncId) (args : List Value) (v : Value) : Prop :=
  flatL args = true ∧ flat v = true ∧ (∃ fn c, P.funcs[f]? = some fn ∧ fn.body = some c) ∧ ∀ w : World, Calls P f args.toArray w fun e w' => e = .returned v ∧ Below w.heap.size w w'

/-- The tree's value alone. -/
def T.val (t : T (Value × CSt)) : T Value := t.bind fun r => .ret r.1

theorem val_ev {t : T (Value × CSt)} {v : Value} (h : t.val.ev = some v) : ∃ s, t.ev = some (v, s) := by
  obtain ⟨⟨u, s⟩, h1, h2⟩ := ev_bind _ h
  simp only [T.ev, Option.some.injEq] at h2
  subst h2
  exact ⟨s, h1⟩

theorem plain_of (hP : plainNames P = true) (hM : P.follows .mixedOrders = true) {E : List (Nat × ExtFn)} (hE : ∀ N, ExtsOk P N E) {k f : Nat} {args : List Value} {v : Value} (hf : flatL args = true) (hv : flat v = true)
    (e : ((tden P E k).call 0 f args ⟨.nil, 0⟩).val.ev = some v) : Plain P f args v := by
  obtain ⟨s, e⟩ := val_ev e
  have e := (tden_ev P E k).call e
  refine ⟨hf, hv, ((den_sound (N := 0) hP hM (hE 0) k).call 0 f args _ v s e).1, fun w => ?_⟩
  obtain ⟨_, h⟩ := (den_sound (N := w.heap.size) hP hM (hE _) k).call 0 f args _ v s e
  have hl : LRel (fun _ => none) args args.toArray.toList := by simpa using LRel.of_flat hf _
  have h1 := h (fun _ => none) w args.toArray (rel_nil w) hl
  have h2 : CallsIn Fence.wide 0 P f args.toArray w fun e w' => e = .returned v ∧ Below w.heap.size w w' := by
    refine CallsIn.mono (F := Fence.wide) h1 ?_
    rintro e w' ⟨i', v', rfl, hvr, haf⟩
    rw [← hvr.flat_eq hv]
    exact ⟨rfl, Step.below (rel_nil w).rel haf.step⟩
  exact callsIn_wide.1 h2

/-- Which ways of a tree are looked at. -/
inductive Cut where
  | all
  | ite (x y : Cut)
  | yes (x : Cut)
  | no (y : Cut)

def T.cut {α : Type} : Cut → T α → T α
  | .ite p q, .ite c x y => .ite c (x.cut p) (y.cut q)
  | .yes p, .ite c x _ => .ite c (x.cut p) .fail
  | .no q, .ite c _ y => .ite c .fail (y.cut q)
  | _, t => t

theorem cut_ev {α : Type} {a : α} : ∀ (k : Cut) (t : T α), (t.cut k).ev = some a → t.ev = some a
  | .all, t, h => by cases t <;> exact h
  | .ite p q, .fail, h => h
  | .ite p q, .ret b, h => h
  | .ite p q, .ite c x y, h => by
    simp only [T.cut, T.ev] at h ⊢
    cases c with
    | true => exact cut_ev p x h
    | false => exact cut_ev q y h
  | .yes p, .fail, h => h
  | .yes p, .ret b, h => h
  | .yes p, .ite c x y, h => by
    simp only [T.cut, T.ev] at h ⊢
    cases c with
    | true => exact cut_ev p x h
    | false => cases h
  | .no p, .fail, h => h
  | .no p, .ret b, h => h
  | .no p, .ite c x y, h => by
    simp only [T.cut, T.ev] at h ⊢
    cases c with
    | true => cases h
    | false => exact cut_ev p y h

/-- A function told apart by its plain answers. -/
def plainExt (g : List Value → T Value) : ExtFn := fun _ args s => (g args).bind fun v => .ret (v, s)

def PlainAll (P : Program) (f : FuncId) (g : List Value → T Value) : Prop :=
  (∃ fn c, P.funcs[f]? = some fn ∧ fn.body = some c) ∧ ∀ args v, (g args).ev = some v → Plain P f args v

theorem extsOk_cons {N : Nat} {E : List (Nat × ExtFn)} {f : FuncId} {g : List Value → T Value} (hE : ExtsOk P N E) (h : PlainAll P f g) : ExtsOk P N ((f, plainExt g) :: E) := by
  intro f' x hx
  simp only [findExt, nbeq] at hx
  by_cases e : f = f'
  · subst e
    simp only [decide_true, cond_true, Option.some.injEq] at hx
    subst hx
    refine ⟨h.1, fun ro args s v s' he i w args' hs hl => ?_⟩
    obtain ⟨u, h1, h2⟩ := ev_bind _ he
    simp only [T.ev, Option.some.injEq, Prod.mk.injEq] at h2
    obtain ⟨rfl, rfl⟩ := h2
    obtain ⟨hf, hv, _, hc⟩ := h.2 args u h1
    have hargs : args' = args.toArray := Array.toList_inj.1 (by rw [← hl.flat_eq hf])
    subst hargs
    refine (callsIn_wide (n := 0)).2 ((hc w).mono ?_)
    rintro e w' ⟨rfl, hb⟩
    exact ⟨i, u, rfl, .of_flat i u hv, after_below hs hb⟩
  · rw [decide_eq_false e, cond_false] at hx
    exact hE f' x hx

end Go.Proofs.YtjbbhccoamhbgaaD
