/-
  States of one shape: what varies in them, as a list; loops told apart by it.
-/
import Derived.Test.YtkdjllolnlndkaaPure
set_option linter.unusedVariables false
set_option linter.unusedSimpArgs false
namespace Go.Proofs.YtkdjllolnlndkaaD
open Go Go.RowKit

variable {P : Program} {N : Nat}

inductive Leaf where
  | i (n : Int)
  | b (b : Bool)
  | n (n : Nat)
  | s (s : ByteArray)
  | l (r : RC) (l : List r.den)

mutual
/-- What varies in a value of a shape. -/
def takeV : CV → CV → Option (List Leaf)
  | .bool _, .bool b => some [.b b]
  | .int k _, .int j n => bif decide (k = j) then some [.i n] else none
  | .string _, .string s => some [.s s]
  | .pointer none, .pointer none => some []
  | .pointer (some ⟨b, o, none⟩), .pointer (some ⟨c, q, none⟩) => bif Nat.beq b c && Nat.beq o q then some [] else none
  | .slice none 0 0, .slice none 0 0 => some []
  | .slice (some ⟨b, o, none⟩) n m, .slice (some ⟨c, q, none⟩) n' m' => bif Nat.beq b c && Nat.beq o q && Nat.beq n n' && Nat.beq m m' then some [] else none
  | .map none, .map none => some []
  | .map (some b), .map (some c) => bif Nat.beq b c then some [] else none
  | .func (.func f) as cs, .func (.func g) bs ds => bif Nat.beq f g then match takeA as bs, takeA cs ds with
    | some x, some y => some (x ++ y)
    | _, _ => none
    else none
  | .func (.yield f) ⟨[]⟩ ⟨[]⟩, .func (.yield g) ⟨[]⟩ ⟨[]⟩ => bif Nat.beq f g then some [] else none
  | .nilFunc, .nilFunc => some []
  | .nilIface, .nilIface => some []
  | .iface t v, .iface u w => bif Nat.beq t u then takeV v w else none
  | .agg as, .agg bs => takeA as bs
  | .tuple as, .tuple bs => takeA as bs
  | .junk, .junk => some []
  | .pl r _, .pl q m => bif decide (r = q) then some [.l q m] else none
  | .kptr as, .kptr bs => takeL as bs
  | .rptr b z _ j, .rptr c y k l => bif Nat.beq b c && Nat.beq z y && Nat.beq j l then some [.n k] else none
  | .row b z 0, .row c y 0 => bif Nat.beq b c && Nat.beq z y then some [] else none
  | .win b z _ _ _, .win c y s n m => bif Nat.beq b c && Nat.beq z y then some [.n s, .n n, .n m] else none
  | .empty, .empty => some []
  | _, _ => none
def takeA : Array CV → Array CV → Option (List Leaf)
  | ⟨l⟩, ⟨m⟩ => takeL l m
def takeL : List CV → List CV → Option (List Leaf)
  | [], [] => some []
  | v :: r, w :: s => match takeV v w, takeL r s with
    | some x, some y => some (x ++ y)
    | _, _ => none
  | _, _ => none
end

mutual
/-- A value of a shape. -/
def fillV : CV → List Leaf → Option (CV × List Leaf)
  | .bool _, .b b :: r => some (.bool b, r)
  | .int k _, .i n :: r => some (.int k n, r)
  | .string _, .s s :: r => some (.string s, r)
  | .pointer a, r => some (.pointer a, r)
  | .slice a n m, r => some (.slice a n m, r)
  | .map a, r => some (.map a, r)
  | .func (.func f) as cs, r => match fillA as r with
    | some (x, s) => match fillA cs s with
      | some (y, t) => some (.func (.func f) x y, t)
      | none => none
    | none => none
  | .func (.yield f) as cs, r => some (.func (.yield f) as cs, r)
  | .nilFunc, r => some (.nilFunc, r)
  | .nilIface, r => some (.nilIface, r)
  | .iface t v, r => match fillV v r with
    | some (x, s) => some (.iface t x, s)
    | none => none
  | .agg as, r => match fillA as r with
    | some (x, s) => some (.agg x, s)
    | none => none
  | .tuple as, r => match fillA as r with
    | some (x, s) => some (.tuple x, s)
    | none => none
  | .junk, r => some (.junk, r)
  | .pl _ _, .l q m :: r => some (.pl q m, r)
  | .kptr as, r => match fillL as r with
    | some (x, s) => some (.kptr x, s)
    | none => none
  | .rptr b z _ j, .n k :: r => some (.rptr b z k j, r)
  | .row b z n, r => some (.row b z n, r)
  | .win b z _ _ _, .n s :: .n n :: .n m :: r => some (.win b z s n m, r)
  | .empty, r => some (.empty, r)
  | _, _ => none
def fillA : Array CV → List Leaf → Option (Array CV × List Leaf)
  | ⟨l⟩, r => match fillL l r with
    | some (x, s) => some (⟨x⟩, s)
    | none => none
def fillL : List CV → List Leaf → Option (List CV × List Leaf)
  | [], r => some ([], r)
  | v :: q, r => match fillV v r with
    | some (x, s) => match fillL q s with
      | some (y, t) => some (x :: y, t)
      | none => none
    | none => none
end

mutual
theorem take_fillV : ∀ (k v : CV) (ls rest : List Leaf), takeV k v = some ls → fillV k (ls ++ rest) = some (v, rest) := by
  intro k v ls rest h
  unfold takeV at h
  split at h
  · cases h; rfl
  · rename_i k n j m
    by_cases e : k = j
    · subst e; simp at h; subst h; rfl
    · simp [e] at h
  · cases h; rfl
  · cases h; rfl
  · rename_i b o c q
    rw [nbeq, nbeq] at h
    by_cases e : b = c ∧ o = q
    · obtain ⟨rfl, rfl⟩ := e; simp at h; subst h; rfl
    · have : (decide (b = c) && decide (o = q)) = false := by simpa using e
      rw [this] at h; cases h
  · cases h; rfl
  · rename_i b o n m c q n' m'
    simp only [nbeq] at h
    by_cases e : b = c ∧ o = q ∧ n = n' ∧ m = m'
    · obtain ⟨rfl, rfl, rfl, rfl⟩ := e; simp at h; subst h; rfl
    · have : (decide (b = c) && decide (o = q) && decide (n = n') && decide (m = m')) = false := by
        rw [Bool.eq_false_iff]; intro hh; simp only [Bool.and_eq_true, decide_eq_true_eq] at hh; exact e ⟨hh.1.1.1, hh.1.1.2, hh.1.2, hh.2⟩
      rw [this] at h; cases h
  · cases h; rfl
  · rename_i b c
    rw [nbeq] at h
    by_cases e : b = c
    · subst e; simp at h; subst h; rfl
    · simp [e] at h
  · rename_i f as cs g bs ds
    rw [nbeq] at h
    by_cases e : f = g
    · subst e
      simp only [decide_true, cond_true] at h
      split at h
      · rename_i x y h1 h2
        cases h
        rw [List.append_assoc]
        simp only [fillV, take_fillA as bs x _ h1, take_fillA cs ds y _ h2]
      · cases h
    · simp [e] at h
  · rename_i f g
    rw [nbeq] at h
    by_cases e : f = g
    · subst e; simp at h; subst h; rfl
    · simp [e] at h
  · cases h; rfl
  · cases h; rfl
  · rename_i t v u w
    rw [nbeq] at h
    by_cases e : t = u
    · subst e
      simp only [decide_true, cond_true] at h
      simp only [fillV, take_fillV v w ls rest h]
    · simp [e] at h
  · rename_i as bs
    simp only [fillV, take_fillA as bs ls rest h]
  · rename_i as bs
    simp only [fillV, take_fillA as bs ls rest h]
  · cases h; rfl
  · rename_i r l q m
    by_cases e : r = q
    · simp [e] at h; subst h; rfl
    · simp [e] at h
  · rename_i as bs
    simp only [fillV, take_fillL as bs ls rest h]
  · rename_i b z i j c y k l
    simp only [nbeq] at h
    by_cases e : b = c ∧ z = y ∧ j = l
    · obtain ⟨rfl, rfl, rfl⟩ := e; simp at h; subst h; rfl
    · have : (decide (b = c) && decide (z = y) && decide (j = l)) = false := by
        rw [Bool.eq_false_iff]; intro hh; simp only [Bool.and_eq_true, decide_eq_true_eq] at hh; exact e ⟨hh.1.1, hh.1.2, hh.2⟩
      rw [this] at h; cases h
  · rename_i b z c y
    simp only [nbeq] at h
    by_cases e : b = c ∧ z = y
    · obtain ⟨rfl, rfl⟩ := e; simp at h; subst h; rfl
    · have : (decide (b = c) && decide (z = y)) = false := by simpa using e
      rw [this] at h; cases h
  · rename_i b z s' n' m' c y s n m
    simp only [nbeq] at h
    by_cases e : b = c ∧ z = y
    · obtain ⟨rfl, rfl⟩ := e; simp at h; subst h; rfl
    · have : (decide (b = c) && decide (z = y)) = false := by simpa using e
      rw [this] at h; cases h
  · cases h; rfl
  · cases h
theorem take_fillA : ∀ (k v : Array CV) (ls rest : List Leaf), takeA k v = some ls → fillA k (ls ++ rest) = some (v, rest)
  | ⟨l⟩, ⟨m⟩, ls, rest, h => by
    simp only [takeA] at h
    simp only [fillA, take_fillL l m ls rest h]
theorem take_fillL : ∀ (k v : List CV) (ls rest : List Leaf), takeL k v = some ls → fillL k (ls ++ rest) = some (v, rest)
  | [], [], ls, rest, h => by simp only [takeL, Option.some.injEq] at h; subst h; rfl
  | v :: r, w :: s, ls, rest, h => by
    simp only [takeL] at h
    split at h
    · rename_i x y h1 h2
      cases h
      rw [List.append_assoc]
      simp only [fillL, take_fillV v w x _ h1, take_fillL r s y _ h2]
    · cases h
  | [], _ :: _, ls, rest, h => by simp [takeL] at h
  | _ :: _, [], ls, rest, h => by simp [takeL] at h
end

def sameState : LoopState → LoopState → Bool
  | .ready, .ready => true
  | .busy, .busy => true
  | .done, .done => true
  | .exhausted, .exhausted => true
  | _, _ => false

def takeO : CObj → CObj → Option (List Leaf)
  | .cells vs e m, .cells ws f n => bif Nat.beq e f && Nat.beq m n then takeL vs ws else none
  | .rows r _, .rows q l => bif decide (r = q) then some [.l q l] else none
  | .loop st none fn tms po de, .loop st' none fn' tms' po' de' => bif sameState st st' && Nat.beq fn fn' && beqPos po po' && Nat.beq de de' then takeL tms tms' else none
  | .defs, .defs => some []
  | .dead, .dead => some []
  | _, _ => none
def fillO : CObj → List Leaf → Option (CObj × List Leaf)
  | .cells vs e m, r => match fillL vs r with
    | some (x, s) => some (.cells x e m, s)
    | none => none
  | .rows _ _, .l q l :: r => some (.rows q l, r)
  | .loop st pe fn tms po de, r => match fillL tms r with
    | some (x, s) => some (.loop st pe fn x po de, s)
    | none => none
  | .defs, r => some (.defs, r)
  | .dead, r => some (.dead, r)
  | _, _ => none

theorem take_fillO : ∀ (k v : CObj) (ls rest : List Leaf), takeO k v = some ls → fillO k (ls ++ rest) = some (v, rest) := by
  intro k v ls rest h
  unfold takeO at h
  split at h
  · rename_i vs e m ws f n
    simp only [nbeq] at h
    by_cases e1 : e = f ∧ m = n
    · obtain ⟨rfl, rfl⟩ := e1
      simp only [decide_true, Bool.and_self, cond_true] at h
      simp only [fillO, take_fillL vs ws ls rest h]
    · have : (decide (e = f) && decide (m = n)) = false := by simpa using e1
      rw [this] at h; cases h
  · rename_i r l q m
    by_cases e : r = q
    · simp [e] at h; subst h; rfl
    · simp [e] at h
  · rename_i st fn tms po de st' fn' tms' po' de'
    cases hc : (sameState st st' && Nat.beq fn fn' && beqPos po po' && Nat.beq de de') with
    | false => rw [hc] at h; cases h
    | true =>
      rw [hc] at h
      simp only [Bool.and_eq_true, nbeq, decide_eq_true_eq] at hc
      obtain ⟨⟨⟨h1, h2⟩, h3⟩, h4⟩ := hc
      simp only [cond_true] at h
      have h5 : st = st' := by cases st <;> cases st' <;> first | rfl | (simp [sameState] at h1)
      subst h5; subst h2; subst h4
      rw [beqPos_eq h3]
      simp only [fillO, take_fillL tms tms' ls rest h]
  · cases h; rfl
  · cases h; rfl
  · cases h

def takeH : HL → HL → Option (List Leaf)
  | [], [] => some []
  | (b, o) :: r, (c, q) :: s => bif Nat.beq b c then match takeO o q, takeH r s with
    | some x, some y => some (x ++ y)
    | _, _ => none
    else none
  | _, _ => none
def fillH : HL → List Leaf → Option (HL × List Leaf)
  | [], r => some ([], r)
  | (b, o) :: q, r => match fillO o r with
    | some (x, s) => match fillH q s with
      | some (y, t) => some ((b, x) :: y, t)
      | none => none
    | none => none
theorem take_fillH : ∀ (k v : HL) (ls rest : List Leaf), takeH k v = some ls → fillH k (ls ++ rest) = some (v, rest)
  | [], [], ls, rest, h => by simp only [takeH, Option.some.injEq] at h; subst h; rfl
  | (b, o) :: r, (c, q) :: s, ls, rest, h => by
    simp only [takeH, nbeq] at h
    by_cases e : b = c
    · subst e
      simp only [decide_true, cond_true] at h
      split at h
      · rename_i x y h1 h2
        cases h
        rw [List.append_assoc]
        simp only [fillH, take_fillO o q x _ h1, take_fillH r s y _ h2]
      · cases h
    · simp [e] at h
  | [], _ :: _, ls, rest, h => by simp [takeH] at h
  | _ :: _, [], ls, rest, h => by simp [takeH] at h

/-- What varies in a state of a shape. -/
def takeN (k n : NSt) : Option (List Leaf) :=
  bif beqPos k.marks n.marks && Nat.beq k.next n.next then
    match takeL k.tmps n.tmps, takeH k.heap n.heap with
    | some x, some y => some (x ++ y)
    | _, _ => none
  else none
def fillN (k : NSt) (ls : List Leaf) : Option NSt :=
  match fillL k.tmps ls with
  | some (ts, r) => match fillH k.heap r with
    | some (h, []) => some { tmps := ts, marks := k.marks, heap := h, next := k.next }
    | _ => none
  | none => none
theorem take_fillN {k n : NSt} {ls : List Leaf} (h : takeN k n = some ls) : fillN k ls = some n := by
  unfold takeN at h
  cases hc : (beqPos k.marks n.marks && Nat.beq k.next n.next) with
  | false => rw [hc] at h; cases h
  | true =>
    rw [hc] at h
    simp only [Bool.and_eq_true, nbeq, decide_eq_true_eq] at hc
    simp only [cond_true] at h
    split at h
    · rename_i x y h1 h2
      cases h
      have h3 := take_fillH k.heap n.heap y [] h2
      rw [List.append_nil] at h3
      simp only [fillN, take_fillL k.tmps n.tmps x y h1, h3, beqPos_eq hc.1, hc.2]
    · cases h

/-! ### Loops -/
structure LoopId where
  fn : FuncId
  pos : List Nat
  voids : List (Nat × RC)

/-- A way out of a loop, into a state of a shape. -/
def outAt (e : CEx) (sk : NSt) (ls : List Leaf) : T (CEx × NSt) :=
  match fillN sk ls with
  | some n => .ret (e, n)
  | none => .fail

/-- The rounds of a loop from a state of a shape on. -/
def rounds (P : Program) (E : List (Nat × ExtFn)) (L : List (Nat × List Nat × LoopFn)) (K : Nat) (id : LoopId) (base : Nat) (round : Option Nat) (sk : NSt) (k : Nat) (ls : List Leaf) : T (CEx × NSt) :=
  match codeAt P id.fn (0 :: id.pos), fillN sk ls with
  | some x, some n => tloopN (tden P E L K) L P round id.fn (0 :: id.pos) x base (maskOf id.fn id.pos) (maskOut id.fn id.pos) id.voids k n
  | _, _ => .fail

/-- A shape of a loop's states at its head: the number from which on its own blocks are counted, whether it stands in a round, the shape, and what the rounds come to. -/
structure Shape where
  base : Nat
  round : Option Nat
  sk : NSt
  G : List Leaf → T (CEx × NSt)

def beqOpt : Option Nat → Option Nat → Bool
  | none, none => true
  | some a, some b => Nat.beq a b
  | _, _ => false

def byShapes : List Shape → Nat → Option Nat → NSt → T (CEx × NSt)
  | [], _, _, _ => .fail
  | s :: r, base, round, n => bif Nat.beq s.base base && beqOpt s.round round then
      match takeN s.sk n with
      | some ls => s.G ls
      | none => byShapes r base round n
    else byShapes r base round n

theorem byShapes_inv : ∀ {l : List Shape} {base : Nat} {round : Option Nat} {n : NSt} {r : CEx × NSt}, (byShapes l base round n).ev = some r → ∃ s ∈ l, s.base = base ∧ s.round = round ∧ ∃ ls, takeN s.sk n = some ls ∧ (s.G ls).ev = some r
  | [], base, round, n, r, h => by simp [byShapes, T.ev] at h
  | s :: q, base, round, n, r, h => by
    simp only [byShapes] at h
    have rec_ : (byShapes q base round n).ev = some r → ∃ s' ∈ s :: q, s'.base = base ∧ s'.round = round ∧ ∃ ls, takeN s'.sk n = some ls ∧ (s'.G ls).ev = some r := fun h => by
      obtain ⟨s', h1, h2⟩ := byShapes_inv h
      exact ⟨s', by simp [h1], h2⟩
    cases hc : (Nat.beq s.base base && beqOpt s.round round) with
    | false => rw [hc] at h; exact rec_ h
    | true =>
      rw [hc] at h
      simp only [Bool.and_eq_true, nbeq, decide_eq_true_eq] at hc
      simp only [cond_true] at h
      split at h
      · rename_i ls hls
        refine ⟨s, by simp, hc.1, ?_, ls, hls, h⟩
        have h2 := hc.2
        unfold beqOpt at h2
        split at h2
        · simp_all
        · rw [nbeq, decide_eq_true_eq] at h2; simp_all
        · cases h2
      · exact rec_ h

def loopExt (id : LoopId) (shapes : List Shape) : LoopFn := loopFn (maskOf id.fn id.pos) id.voids (byShapes shapes)

/-- What is told of a loop's shapes is what the rounds come to. -/
def ShapeOk (P : Program) (E : List (Nat × ExtFn)) (L : List (Nat × List Nat × LoopFn)) (id : LoopId) (s : Shape) : Prop :=
  ∀ ls r, (s.G ls).ev = some r → ∃ K k, (rounds P E L K id s.base s.round s.sk k ls).ev = some r

theorem loopExt_ok (hP : plainNames P = true) (hM : P.follows .mixedOrders = true) {E : List (Nat × ExtFn)} (hE : ∀ N, ExtsOk P N E) {L : List (Nat × List Nat × LoopFn)} (hL : ∀ N, LoopsOk P N L) {id : LoopId} {shapes : List Shape}
    (h : ∀ s ∈ shapes, ShapeOk P E L id s) (N : Nat) : LoopOk1 P N id.fn id.pos (loopExt id shapes) := by
  refine loopFn_ok (mask2 := maskOut id.fn id.pos) hP hM (hE N) (hL N) (fun x base round n r hcode hr => ?_)
  obtain ⟨s, hs, rfl, rfl, ls, h1, h2⟩ := byShapes_inv hr
  obtain ⟨K, k, h3⟩ := h s hs ls r h2
  refine ⟨K, k, ?_⟩
  unfold rounds at h3
  rw [hcode, take_fillN h1] at h3
  exact tloopN_ev (tden_ev P E L K) k n r h3

end Go.Proofs.YtkdjllolnlndkaaD
