/-
  Small laws for trees and whole numbers.
-/
import Derived.Test.YtecidokjhplbgaaGreatDoorTRunA
import Derived.KernelRfl
set_option linter.unusedVariables false
set_option linter.unusedSimpArgs false
namespace Go.Proofs.YtecidokjhplbgaaGreatDoorD
open Go Go.RowKit

theorem T.ev_ite {α : Type} (c : Bool) (x y : T α) : (T.ite c x y).ev = if c = true then x.ev else y.ev := by cases c <;> rfl
theorem T.ev_ret {α : Type} (a : α) : (T.ret a).ev = some a := rfl
theorem T.ev_fail {α : Type} : (T.fail : T α).ev = none := rfl
theorem T.ev_when {α : Type} (c : Bool) (x : T α) : (T.when c x).ev = if c = true then x.ev else none := by cases c <;> rfl
theorem T.ev_bind {α β : Type} (f : α → T β) : ∀ (t : T α), (t.bind f).ev = t.ev.bind fun a => (f a).ev
  | .fail => rfl
  | .ret a => rfl
  | .ite c x y => by
    simp only [T.bind, T.ev]
    cases c with
    | true => exact T.ev_bind f x
    | false => exact T.ev_bind f y

theorem wrap64 {n : Int} (h1 : -9223372036854775808 ≤ n) (h2 : n ≤ 9223372036854775807) : IntKind.i64.wrap n = n := by
  unfold IntKind.wrap
  have hb : (2 ^ IntKind.i64.bits : Int) = 18446744073709551616 := by decide
  have hb2 : (2 ^ (IntKind.i64.bits - 1) : Int) = 9223372036854775808 := by decide
  simp only [hb, hb2]
  have hs : IntKind.i64.signed = true := rfl
  simp only [hs, Bool.true_and, decide_eq_true_eq]
  split <;> omega

theorem wrapU64 {n : Int} (h1 : 0 ≤ n) (h2 : n ≤ 18446744073709551615) : IntKind.u64.wrap n = n := by
  unfold IntKind.wrap
  have hb : (2 ^ IntKind.u64.bits : Int) = 18446744073709551616 := by decide
  have hs : IntKind.u64.signed = false := rfl
  simp only [hb, hs, Bool.false_and, Bool.false_eq_true, if_false]
  omega

theorem shapeOk_mk {P : Program} {E : List (Nat × ExtFn)} {L : List (Nat × List Nat × LoopFn)} {id : LoopId} {base : Nat} {round : Option Nat} {sk : NSt} {G : List Leaf → T (CEx × NSt)}
    (h : ∀ ls r, (G ls).ev = some r → ∃ K k, (rounds P E L K id base round sk k ls).ev = some r) : ShapeOk P E L id ⟨base, round, sk, G⟩ := h
theorem all0 {α : Type} {p : α → Prop} : ∀ s ∈ ([] : List α), p s := fun s hs => by cases hs
theorem all1 {α : Type} {p : α → Prop} {a : α} {r : List α} (h : p a) (hr : ∀ s ∈ r, p s) : ∀ s ∈ a :: r, p s := fun s hs => by
  rcases List.mem_cons.1 hs with rfl | hs
  · exact h
  · exact hr s hs
theorem getD_cons {α : Type} {l : List α} {i : Nat} (h : i < l.length) (d : α) : l.drop i = l.getD i d :: l.drop (i + 1) := by
  rw [List.drop_eq_getElem_cons h]; simp [List.getD, h]

def small (n : Nat) : Bool := Nat.ble n 1000000000
theorem small_iff {n : Nat} : small n = true ↔ n ≤ 1000000000 := by simp [small]

def roomB (n b : Nat) : Bool := Nat.ble (n * b) (2 ^ 40)
theorem roomB_iff {n b : Nat} : roomB n b = true ↔ n * b ≤ 1099511627776 := by simp [roomB]
theorem roomB_small {n b : Nat} (h : small n = true) (hb : b ≤ 1000) : roomB n b = true := by
  rw [small_iff] at h; rw [roomB_iff]; exact Nat.le_trans (Nat.mul_le_mul h hb) (by decide)

inductive Cut where
  | all
  | ite (x y : Cut)
  | yes (x : Cut)
  | no (y : Cut)

def T.cut {α : Type} : Cut → T α → T α
  | .ite p q, .ite c x y => .ite c (x.cut p) (y.cut q)
  | .yes p, .ite c x _ => .ite c (x.cut p) .fail
  | .no q, .ite c _ y => .ite c .fail (y.cut q)
  | _, t => t

theorem cut_ev {α : Type} {a : α} : ∀ (k : Cut) (t : T α), (t.cut k).ev = some a → t.ev = some a
  | .all, t, h => by cases t <;> exact h
  | .ite p q, .fail, h => h
  | .ite p q, .ret b, h => h
  | .ite p q, .ite c x y, h => by
    simp only [T.cut, T.ev] at h ⊢
    cases c with
    | true => exact cut_ev p x h
    | false => exact cut_ev q y h
  | .yes p, .fail, h => h
  | .yes p, .ret b, h => h
  | .yes p, .ite c x y, h => by
    simp only [T.cut, T.ev] at h ⊢
    cases c with
    | true => exact cut_ev p x h
    | false => cases h
  | .no p, .fail, h => h
  | .no p, .ret b, h => h
  | .no p, .ite c x y, h => by
    simp only [T.cut, T.ev] at h ⊢
    cases c with
    | true => cases h
    | false => exact cut_ev p y h

inductive Sg where
  | any
  | l (r : RC)
  | agg (ss : List Sg)
  | tup (ss : List Sg)
mutual
def nsV : Sg → CV → CV
  | .l r, .slice none 0 0 => .pl r []
  | .l r, .empty => .pl r []
  | .agg ss, .agg ⟨cs⟩ => .agg ⟨nsL ss cs⟩
  | .tup ss, .tuple ⟨cs⟩ => .tuple ⟨nsL ss cs⟩
  | _, v => v
def nsL : List Sg → List CV → List CV
  | s :: ss, v :: vs => nsV s v :: nsL ss vs
  | _, vs => vs
end
mutual
theorem nsV_rel {i : Inj} : ∀ (s : Sg) (x : CV) (y : Value), VRel i x y → VRel i (nsV s x) y := by
  intro s x y h
  unfold nsV
  split
  · cases h; exact .plNil
  · obtain ⟨a, rfl⟩ := h.empty_inv; exact .plNil
  · rename_i ss cs
    obtain ⟨bs, rfl, hl⟩ := h.agg_inv
    exact VRel.agg' (bs := bs.toList) (nsL_rel ss cs bs.toList hl)
  · rename_i ss cs
    obtain ⟨bs, rfl, hl⟩ := h.tuple_inv
    exact VRel.tuple' (bs := bs.toList) (nsL_rel ss cs bs.toList hl)
  · exact h
theorem nsL_rel {i : Inj} : ∀ (ss : List Sg) (xs : List CV) (ys : List Value), LRel i xs ys → LRel i (nsL ss xs) ys
  | [], xs, ys, h => by cases xs <;> exact h
  | s :: ss, [], ys, h => h
  | s :: ss, x :: xs, ys, h => by
    obtain ⟨y, ys', rfl, h1, h2⟩ := h.cons_inv
    simp only [nsL]
    exact .cons (nsV_rel s x y h1) (nsL_rel ss xs ys' h2)
end

theorem PureAt.args {P : Program} {f : FuncId} {args : List CV} {d : CV} (ss : List Sg) (h : PureAt P f (nsL ss args) d) : PureAt P f args d :=
  fun im w args' him hl => h im w args' him (nsL_rel ss args _ hl)
theorem PureAt.res {P : Program} {f : FuncId} {args : List CV} {d : CV} (s : Sg) (h : PureAt P f args d) : PureAt P f args (nsV s d) :=
  fun im w args' him hl => (h im w args' him hl).mono fun e w' ⟨im', v', q1, q2, q3, q4, q5, q6⟩ => ⟨im', v', q1, q2, q3, q4, nsV_rel s d v' q5, q6⟩

def sigExt (ss : List Sg) (G : List CV → T CV) : List CV → T CV := fun args => G (nsL ss args)
theorem pureFn_mk {P : Program} {f : FuncId} {ss : List Sg} {G : List CV → T CV} (hf : ∃ fn c, P.funcs[f]? = some fn ∧ fn.body = some c) (h : ∀ args d, (G args).ev = some d → PureAt P f args d) : PureFn P f (sigExt ss G) :=
  ⟨hf, fun args d hd => (h (nsL ss args) d hd).args ss⟩

def bodied (P : Program) (f : FuncId) : Bool :=
  match P.funcs[f]? with
  | some fn => fn.body.isSome
  | none => false
theorem bodied_ex {P : Program} {f : FuncId} (h : bodied P f = true) : ∃ fn c, P.funcs[f]? = some fn ∧ fn.body = some c := by
  unfold bodied at h
  split at h
  · rename_i fn hf
    obtain ⟨c, hc⟩ := Option.isSome_iff_exists.1 h
    exact ⟨fn, c, hf, hc⟩
  · cases h

theorem pureAt_of {P : Program} (hP : plainNames P = true) (hM : P.follows .mixedOrders = true) {E : List (Nat × ExtFn)} (hE : ∀ N, ExtsOk P N E) {L : List (Nat × List Nat × LoopFn)} (hL : ∀ N, LoopsOk P N L) {k f : Nat} {args : List CV} {d : CV} (s : Sg) (q : Cut) (hd : dataV d = true)
    (e : (((tden P E L k).call 0 f args ⟨.nil, 0⟩).pure.cut q).ev = some d) : PureAt P f args (nsV s d) :=
  (pure_of hP hM hE hL hd (cut_ev q _ e)).2.res s

theorem pureAt0 {P : Program} (hP : plainNames P = true) (hM : P.follows .mixedOrders = true) {E : List (Nat × ExtFn)} (hE : ∀ N, ExtsOk P N E) {L : List (Nat × List Nat × LoopFn)} (hL : ∀ N, LoopsOk P N L) {k f : Nat} {args : List CV} {d : CV} {q : Cut}
    (e : (((tden P E L k).call 0 f args ⟨.nil, 0⟩).pure.cut q).ev = some d) (hd : dataV d = true) : PureAt P f args d :=
  (pure_of hP hM hE hL hd (cut_ev q _ e)).2

def T.Sat {α : Type} (t : T α) (p : α → Prop) : Prop := ∃ d, t.ev = some d ∧ p d
theorem sat_ite {α : Type} {c : Bool} {x y : T α} {p : α → Prop} : (T.ite c x y).Sat p ↔ (c = true → x.Sat p) ∧ (c = false → y.Sat p) := by
  cases c <;> simp [T.Sat, T.ev]
theorem sat_ret {α : Type} {a : α} {p : α → Prop} : (T.ret a).Sat p ↔ p a := by simp [T.Sat, T.ev]
theorem sat_fail {α : Type} {p : α → Prop} : (T.fail : T α).Sat p ↔ False := by simp [T.Sat, T.ev]
theorem T.Sat.mono {α : Type} {t : T α} {p q : α → Prop} (h : t.Sat p) (hpq : ∀ a, p a → q a) : t.Sat q := ⟨h.choose, h.choose_spec.1, hpq _ h.choose_spec.2⟩

structure IsS (s : Sg) (d' d : CV) : Prop where
  data : dataV d = true
  eq : nsV s d = d'
theorem pureAtS {P : Program} (hP : plainNames P = true) (hM : P.follows .mixedOrders = true) {E : List (Nat × ExtFn)} (hE : ∀ N, ExtsOk P N E) {L : List (Nat × List Nat × LoopFn)} (hL : ∀ N, LoopsOk P N L) {k f : Nat} {args : List CV} {q : Cut} (s : Sg) {d' : CV} {t : T CV}
    (ht : (((tden P E L k).call 0 f args ⟨.nil, 0⟩).pure.cut q).ev = t.ev) (e : t.Sat (IsS s d')) : PureAt P f args d' := by
  obtain ⟨d, h1, ⟨h2, rfl⟩⟩ := e
  exact pureAt_of hP hM hE hL s q h2 (ht.trans h1)

def trueG : List CV → T CV
  | [] => .ret (.bool true)
  | _ => .fail
theorem true_fn {P : Program} (hP : plainNames P = true) (hM : P.follows .mixedOrders = true) {E : List (Nat × ExtFn)} (hE : ∀ N, ExtsOk P N E) {L : List (Nat × List Nat × LoopFn)} (hL : ∀ N, LoopsOk P N L) {k f : Nat} (hf : bodied P f = true)
    (e : (((tden P E L k).call 0 f [] ⟨.nil, 0⟩).pure).ev = T.ev (.ret (.bool true))) : PureFn P f trueG :=
  ⟨bodied_ex hf, fun args d h => by
    unfold trueG at h
    split at h
    · cases ev_ret h
      exact (pure_of hP hM hE hL rfl e).2
    · exact (ev_fail h).elim⟩

end Go.Proofs.YtecidokjhplbgaaGreatDoorD
