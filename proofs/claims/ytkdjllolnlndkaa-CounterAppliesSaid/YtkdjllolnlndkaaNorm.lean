/-
  States in one form each: what is not looked at any more is left out, and the numbers of the heap are given anew. What holds of the state that there was, holds of the new one.
-/
import Derived.Test.YtkdjllolnlndkaaSound4
set_option linter.unusedVariables false
set_option linter.unusedSimpArgs false
namespace Go.Proofs.YtkdjllolnlndkaaD
open Go Go.RowKit

variable {P : Program} {N : Nat}

/-! ### New numbers -/
def idxOf (b : Nat) : List Nat → Nat → Option Nat
  | [], _ => none
  | x :: r, k => bif Nat.beq x b then some k else idxOf b r (k + 1)
def ren (base : Nat) (q : List Nat) (b : Nat) : Option Nat := bif Nat.blt b base then some b else idxOf b q base

mutual
def renV (f : Nat → Option Nat) : CV → CV
  | .pointer (some ⟨b, o, none⟩) => match f b with | some c => .pointer (some ⟨c, o, none⟩) | none => .junk
  | .pointer none => .pointer none
  | .slice (some ⟨b, o, none⟩) n m => match f b with | some c => .slice (some ⟨c, o, none⟩) n m | none => .junk
  | .slice none n m => .slice none n m
  | .map none => .map none
  | .map (some b) => match f b with | some c => .map (some c) | none => .junk
  | .func (.func g) as cs => .func (.func g) (renA f as) (renA f cs)
  | .func (.yield l) as cs => match f l with | some c => .func (.yield c) as cs | none => .junk
  | .iface t v => .iface t (renV f v)
  | .agg as => .agg (renA f as)
  | .tuple as => .tuple (renA f as)
  | .rptr b z i j => match f b with | some c => .rptr c z i j | none => .junk
  | .row b z n => match f b with | some c => .row c z n | none => .junk
  | .win b z s n m => match f b with | some c => .win c z s n m | none => .junk
  | .bool b => .bool b
  | .int k n => .int k n
  | .string s => .string s
  | .nilFunc => .nilFunc
  | .nilIface => .nilIface
  | .pl r l => .pl r l
  | .kptr cs => .kptr (renL f cs)
  | .empty => .empty
  | _ => .junk
def renA (f : Nat → Option Nat) : Array CV → Array CV
  | ⟨l⟩ => ⟨renL f l⟩
def renL (f : Nat → Option Nat) : List CV → List CV
  | [] => []
  | v :: r => renV f v :: renL f r
end

def renTs (f : Nat → Option Nat) (mask : Nat) : Nat → List CV → List CV
  | _, [] => []
  | t, v :: r => (bif tb mask t then renV f v else .junk) :: renTs f mask (t + 1) r

def eqPos : List Nat → List Nat → Bool
  | [], [] => true
  | a :: r, b :: s => Nat.beq a b && eqPos r s
  | _, _ => false
def maskIn (fn : FuncId) (p : List Nat) : List (Nat × List Nat × Nat × Nat) → Nat × Nat
  | [] => (2 ^ 2000 - 1, 2 ^ 2000 - 1)
  | (f, q, m) :: r => bif Nat.beq f fn && eqPos q p then m else maskIn fn p r
/-- Which variables are looked at in a loop and behind it (nothing hangs on it that this is so). -/
def maskOf (fn : FuncId) (p : List Nat) : Nat := (maskIn fn p maskTab).1
def maskOut (fn : FuncId) (p : List Nat) : Nat := (maskIn fn p maskTab).2

def renO (f : Nat → Option Nat) : CObj → CObj
  | .cells vs e m => .cells (renL f vs) e m
  | .rows r l => .rows r l
  | .loop st pe fn tms po de => match f de with
    | some d => .loop st pe fn (renTs f (maskOf fn po) 0 tms) po d
    | none => .dead
  | .defs => .defs
  | _ => .dead

def renMs (f : Nat → Option Nat) : List Nat → Option (List Nat)
  | [] => some []
  | d :: r => match f d, renMs f r with
    | some e, some s => some (e :: s)
    | _, _ => none

theorem renL_eq (f : Nat → Option Nat) : ∀ l, renL f l = l.map (renV f)
  | [] => rfl
  | v :: r => by simp only [renL, List.map_cons, renL_eq f r]

/-- The world beside other numbers. -/
structure RenOk (f : Nat → Option Nat) (i j : Inj) : Prop where
  blk : ∀ b c, f b = some c → j c = i b
  void : ∀ b c, f b = some c → j.void c = i.void b
  imm : j.imm = i.imm

theorem VRel.ren {f : Nat → Option Nat} {i j : Inj} (h : RenOk f i j) {x : CV} {y : Value} (hv : VRel i x y) : VRel j (renV f x) y := by
  induction hv with
  | bool b => exact .bool b
  | int k n => exact .int k n
  | string s => exact .string s
  | nilFunc => exact .nilFunc
  | nilIface => exact .nilIface
  | nilPtr => exact .nilPtr
  | nilMap => exact .nilMap
  | @ptr b o g hb =>
    simp only [renV]
    cases hf : f b with
    | none => exact .junk _
    | some c => exact .ptr ((h.blk b c hf).trans hb)
  | nilSlice => exact .nilSlice
  | @slice b o len cap cap' g a' hb hc ha hl =>
    simp only [renV]
    cases hf : f b with
    | none => exact .junk _
    | some c => exact .slice ((h.blk b c hf).trans hb) hc ha hl
  | @map b g hb =>
    simp only [renV]
    cases hf : f b with
    | none => exact .junk _
    | some c => exact .map ((h.blk b c hf).trans hb)
  | func h1 h2 h3 h4 i2 i4 =>
    simp only [renV, renA, renL_eq]
    refine .func (by simp [h1]) (fun k x y hx hy => ?_) (by simp [h3]) (fun k x y hx hy => ?_)
    · rw [List.getElem?_map] at hx
      obtain ⟨x0, hx0, rfl⟩ := Option.map_eq_some_iff.1 hx
      exact i2 k x0 y hx0 hy
    · rw [List.getElem?_map] at hx
      obtain ⟨x0, hx0, rfl⟩ := Option.map_eq_some_iff.1 hx
      exact i4 k x0 y hx0 hy
  | @yield l g hb =>
    simp only [renV]
    cases hf : f l with
    | none => exact .junk _
    | some c => exact .yield ((h.blk l c hf).trans hb)
  | iface _ ih => exact .iface ih
  | agg h1 h2 i2 =>
    simp only [renV, renA, renL_eq]
    refine .agg (by simp [h1]) (fun k x y hx hy => ?_)
    rw [List.getElem?_map] at hx
    obtain ⟨x0, hx0, rfl⟩ := Option.map_eq_some_iff.1 hx
    exact i2 k x0 y hx0 hy
  | tuple h1 h2 i2 =>
    simp only [renV, renA, renL_eq]
    refine .tuple (by simp [h1]) (fun k x y hx hy => ?_)
    rw [List.getElem?_map] at hx
    obtain ⟨x0, hx0, rfl⟩ := Option.map_eq_some_iff.1 hx
    exact i2 k x0 y hx0 hy
  | junk v => exact .junk v
  | @pl r l B o c ys a' h1 h2 h3 hc ha ih =>
    -- the cells of a row are told with it
    have hs : ∀ x ∈ r.all l, renV f x = x := by
      intro x hx
      obtain ⟨e, _, he⟩ := List.mem_flatMap.1 hx
      have : ∀ x ∈ r.cells e, renV f x = x := by cases r <;> simp [RC.cells, renV]
      exact this x he
    refine .pl h1 (fun k y hy => by rw [h.imm]; exact h2 k y hy) (fun k x y hx hy => ?_) hc ha
    have := ih k x y hx hy
    rwa [hs x (List.mem_of_getElem? hx)] at this
  | plNil => exact .plNil
  | @kptr cs B o ys h1 h2 h3 ih =>
    simp only [renV, renL_eq]
    refine .kptr (ys := ys) (by simp [h1]) (fun k y hy => by rw [h.imm]; exact h2 k y hy) (fun k x y hx hy => ?_)
    rw [List.getElem?_map] at hx
    obtain ⟨x0, hx0, rfl⟩ := Option.map_eq_some_iff.1 hx
    exact ih k x0 y hx0 hy
  | @rptr b z k j g hb hz =>
    simp only [renV]
    cases hf : f b with
    | none => exact .junk _
    | some c => exact .rptr ((h.blk b c hf).trans hb) hz
  | @row b z n cap' g a' hb hz hs hc ha =>
    simp only [renV]
    cases hf : f b with
    | none => exact .junk _
    | some c => exact .row ((h.blk b c hf).trans hb) hz hs hc ha
  | @rowVoid b z a hv =>
    simp only [renV]
    cases hf : f b with
    | none => exact .junk _
    | some c => exact .rowVoid ((h.void b c hf).trans hv)
  | @win b z s n c cap' g a' hb hz hc ha hl =>
    simp only [renV]
    cases hf : f b with
    | none => exact .junk _
    | some d => exact .win ((h.blk b d hf).trans hb) hz hc ha hl
  | @winVoid b z s a =>
    simp only [renV]
    cases hf : f b with
    | none => exact .junk _
    | some d => exact .winVoid
  | empty => exact .empty

theorem LRel.ren {f : Nat → Option Nat} {i j : Inj} (h : RenOk f i j) {xs : List CV} {ys : List Value} (hv : LRel i xs ys) : LRel j (renL f xs) ys :=
  ⟨by rw [renL_eq, List.length_map, hv.len], fun k x y hx hy => by
    rw [renL_eq, List.getElem?_map] at hx
    obtain ⟨x0, hx0, rfl⟩ := Option.map_eq_some_iff.1 hx
    exact (hv.at_ k x0 y hx0 hy).ren h⟩

theorem renTs_rel {f : Nat → Option Nat} {i j : Inj} (h : RenOk f i j) (mask : Nat) : ∀ (t : Nat) {xs : List CV} {ys : List Value}, LRel i xs ys → LRel j (renTs f mask t xs) ys
  | t, [], ys, hv => by have := hv.nil_inv; subst this; exact .nil j
  | t, x :: xs, ys, hv => by
    obtain ⟨y, ys', rfl, h1, h2⟩ := hv.cons_inv
    simp only [renTs]
    refine .cons ?_ (renTs_rel h mask (t + 1) h2)
    cases tb mask t with
    | true => exact h1.ren h
    | false => exact .junk y

theorem renMs_rel {f : Nat → Option Nat} {i j : Inj} (h : RenOk f i j) {ds ds2 : List Nat} {rs : List Deferred} (e : renMs f ds = some ds2) (m : MRel i ds rs) : MRel j ds2 rs := by
  induction m generalizing ds2 with
  | nil => simp only [renMs, Option.some.injEq] at e; subst e; exact .nil
  | cons hd _ ih =>
    simp only [renMs] at e
    split at e
    · rename_i c s h1 h2
      cases e
      exact .cons ((h.blk _ _ h1).trans hd) (ih h2)
    · cases e

theorem ORel.ren {f : Nat → Option Nat} {i j : Inj} (h : RenOk f i j) {w : World} {g : Img} {o : CObj} (ho : ORel P N i w g o) : ORel P N j w g (renO f o) := by
  cases o with
  | cells vs e m =>
    obtain ⟨h1, h2, h3, ⟨vs', h4, h5⟩, h6⟩ := ho
    exact ⟨by rw [h1, renL_eq, List.length_map], h2, h3, ⟨vs', h4.ren h, h5⟩, fun hm => by rw [renL_eq, List.length_map]; exact h6 hm⟩
  | rows r l =>
    obtain ⟨h1, h2, h3, ⟨vs', h4, h5⟩, h6⟩ := ho
    refine ⟨h1, h2, h3, ⟨vs', ?_, h5⟩, h6⟩
    have hs : renL f (r.all l) = r.all l := by
      rw [renL_eq]
      have : ∀ x ∈ r.all l, renV f x = x := by
        intro x hx
        obtain ⟨e, _, he⟩ := List.mem_flatMap.1 hx
        have : ∀ x ∈ r.cells e, renV f x = x := by cases r <;> simp [RC.cells, renV]
        exact this x he
      exact (List.map_congr_left this).trans (List.map_id _)
    have := h4.ren h
    rwa [hs] at this
  | map es => trivial
  | loop st pe fn tms po de =>
    simp only [renO]
    cases hf : f de with
    | none => trivial
    | some d =>
      obtain ⟨h1, f0, ps, asg, bd, fn', tms', gd, h2, h3, h4, h5⟩ := ho
      exact ⟨h1, f0, ps, asg, bd, fn', tms', gd, h2, h3, renTs_rel h _ 0 h4, (h.blk de d hf).trans h5⟩
  | defs => exact ho
  | dead => trivial

theorem wr_renO {f : Nat → Option Nat} {o : CObj} (h : wr (renO f o) = true) : wr o = true := by
  cases o <;> simp only [renO] at h <;> first | exact h | rfl | (simp [wr] at h) | skip
theorem live_renO {f : Nat → Option Nat} {o : CObj} (h : live (renO f o) = true) : live o = true := by
  cases o <;> simp only [renO] at h <;> first | exact h | rfl | (simp [live] at h) | skip

/-! ### States -/
abbrev HL := List (Nat × CObj)
def ofHL : HL → Tr CObj → Tr CObj
  | [], t => t
  | (b, o) :: r, t => ofHL r (t.set b o)
structure NSt where
  tmps : List CV
  marks : List Nat
  heap : HL
  next : Nat
def NSt.act (s : NSt) : CAct := ⟨s.tmps, s.marks⟩
def NSt.st (s : NSt) : CSt := ⟨ofHL s.heap .nil, s.next⟩

/-- The objects under numbers, renamed, under new numbers. -/
def lowHL (f : Nat → Option Nat) (h : Tr CObj) : Nat → Nat → HL
  | 0, _ => []
  | n + 1, b => match h.get b with
    | some .dead => lowHL f h n (b + 1)
    | some o => (b, renO f o) :: lowHL f h n (b + 1)
    | none => lowHL f h n (b + 1)
def highHL (f : Nat → Option Nat) (h : Tr CObj) : List Nat → Nat → HL
  | [], _ => []
  | x :: r, c => match h.get x with
    | some .dead => highHL f h r (c + 1)
    | some o => (c, renO f o) :: highHL f h r (c + 1)
    | none => highHL f h r (c + 1)

def freshList (base : Nat) : List Nat → Bool
  | [] => true
  | x :: r => Nat.ble base x && r.all (fun y => !(Nat.beq y x)) && freshList base r

def norm (base mask : Nat) (q : List Nat) (a : CAct) (s : CSt) : Option NSt :=
  bif freshList base q && Nat.ble base s.next then
    match renMs (ren base q) a.marks with
    | some ms => some { tmps := renTs (ren base q) mask 0 a.tmps, marks := ms, heap := lowHL (ren base q) s.heap base 0 ++ highHL (ren base q) s.heap q base, next := base + q.length }
    | none => none
  else none

theorem ofHL_get : ∀ (l : HL) (t : Tr CObj) (b : Nat), (∀ o, (b, o) ∉ l) → (ofHL l t).get b = t.get b
  | [], t, b, h => rfl
  | (c, o) :: r, t, b, h => by
    simp only [ofHL]
    rw [ofHL_get r _ b (fun o' ho' => h o' (by simp [ho'])), Tr.get_set_ne]
    intro e; subst e; exact h o (by simp)
theorem ofHL_mem : ∀ (l : HL) (t : Tr CObj) (b : Nat) (o : CObj), (ofHL l t).get b = some o → (b, o) ∈ l ∨ t.get b = some o
  | [], t, b, o, h => .inr h
  | (c, x) :: r, t, b, o, h => by
    simp only [ofHL] at h
    rcases ofHL_mem r _ b o h with h1 | h1
    · exact .inl (by simp [h1])
    · rw [Tr.get_set] at h1
      split at h1
      · rename_i e; subst e; cases h1; exact .inl (by simp)
      · exact .inr h1

theorem lowHL_mem {f : Nat → Option Nat} {h : Tr CObj} : ∀ (n b : Nat) {c : Nat} {o : CObj}, (c, o) ∈ lowHL f h n b → b ≤ c ∧ c < b + n ∧ ∃ o', h.get c = some o' ∧ o = renO f o'
  | 0, b, c, o, hm => by simp [lowHL] at hm
  | n + 1, b, c, o, hm => by
    simp only [lowHL] at hm
    split at hm
    · obtain ⟨h1, h2, h3⟩ := lowHL_mem n (b + 1) hm
      exact ⟨by omega, by omega, h3⟩
    · rename_i o' hne hg
      rcases List.mem_cons.1 hm with hm | hm
      · cases hm; exact ⟨Nat.le_refl _, by omega, o', hg, rfl⟩
      · obtain ⟨h1, h2, h3⟩ := lowHL_mem n (b + 1) hm
        exact ⟨by omega, by omega, h3⟩
    · obtain ⟨h1, h2, h3⟩ := lowHL_mem n (b + 1) hm
      exact ⟨by omega, by omega, h3⟩
theorem highHL_mem {f : Nat → Option Nat} {h : Tr CObj} : ∀ (q : List Nat) (b : Nat) {c : Nat} {o : CObj}, (c, o) ∈ highHL f h q b → ∃ k x o', c = b + k ∧ q[k]? = some x ∧ h.get x = some o' ∧ o = renO f o'
  | [], b, c, o, hm => by simp [highHL] at hm
  | x :: r, b, c, o, hm => by
    simp only [highHL] at hm
    split at hm
    · obtain ⟨k, y, o', h1, h2, h3⟩ := highHL_mem r (b + 1) hm
      exact ⟨k + 1, y, o', by omega, by simpa using h2, h3⟩
    · rename_i o' hne hg
      rcases List.mem_cons.1 hm with hm | hm
      · cases hm; exact ⟨0, x, o', rfl, rfl, hg, rfl⟩
      · obtain ⟨k, y, o', h1, h2, h3⟩ := highHL_mem r (b + 1) hm
        exact ⟨k + 1, y, o', by omega, by simpa using h2, h3⟩
    · obtain ⟨k, y, o', h1, h2, h3⟩ := highHL_mem r (b + 1) hm
      exact ⟨k + 1, y, o', by omega, by simpa using h2, h3⟩

theorem freshList_ge {base : Nat} : ∀ {q : List Nat}, freshList base q = true → ∀ (k x : Nat), q[k]? = some x → base ≤ x
  | [], h, k, x, hx => by simp at hx
  | y :: r, h, 0, x, hx => by
    simp only [freshList, Bool.and_eq_true, nble, decide_eq_true_eq] at h
    simp at hx; subst hx; exact h.1.1
  | y :: r, h, k + 1, x, hx => by
    simp only [freshList, Bool.and_eq_true] at h
    exact freshList_ge h.2 k x (by simpa using hx)
theorem freshList_inj {base : Nat} : ∀ {q : List Nat}, freshList base q = true → ∀ (k m x : Nat), q[k]? = some x → q[m]? = some x → k = m
  | [], h, k, m, x, hx, hy => by simp at hx
  | y :: r, h, k, m, x, hx, hy => by
    simp only [freshList, Bool.and_eq_true, List.all_eq_true, nbeq, Bool.not_eq_true', decide_eq_false_iff_not] at h
    have hno : ∀ k, r[k]? ≠ some y := fun k hk => h.1.2 y (List.mem_of_getElem? hk) rfl
    cases k with
    | zero =>
      simp at hx; subst hx
      cases m with
      | zero => rfl
      | succ m => exact (hno m (by simpa using hy)).elim
    | succ k =>
      cases m with
      | zero => simp at hy; subst hy; exact (hno k (by simpa using hx)).elim
      | succ m => rw [freshList_inj h.2 k m x (by simpa using hx) (by simpa using hy)]
theorem idxOf_some {b : Nat} : ∀ {q : List Nat} {k c : Nat}, idxOf b q k = some c → ∃ m, c = k + m ∧ q[m]? = some b
  | [], k, c, h => by simp [idxOf] at h
  | x :: r, k, c, h => by
    simp only [idxOf, nbeq] at h
    by_cases e : x = b
    · subst e; simp at h; subst h; exact ⟨0, rfl, rfl⟩
    · simp [e] at h
      obtain ⟨m, h1, h2⟩ := idxOf_some h
      exact ⟨m + 1, by omega, by simpa using h2⟩

/-- What a state is that says less. -/
structure Less (P : Program) (N base : Nat) (a : CAct) (s : CSt) (a2 : CAct) (s2 : CSt) : Prop where
  rel : ∀ (i : Inj) (w : World) (a' : Act), SRel P N i s w → ActRel i a a' → ∃ j, SRel P N j s2 w ∧ ActRel j a2 a' ∧ (∀ b, b < base → j b = i b ∧ j.void b = i.void b) ∧ j.imm = i.imm ∧ j.old = i.old ∧
    ∀ B, Touch 0 j s2.heap.get B → Touch 0 i s.heap.get B
  nx : base ≤ s2.next

/-- Which number stands behind a new one; the world beside the new ones. -/
def srcN (base : Nat) (q : List Nat) (c : Nat) : Option Nat := if c < base then some c else q[c - base]?
def renInj (base : Nat) (q : List Nat) (i : Inj) : Inj :=
  { blk := fun c => match srcN base q c with | some b => i b | none => none, imm := i.imm, void := fun c => match srcN base q c with | some b => i.void b | none => false, old := i.old }

theorem norm_at {base mask : Nat} {q : List Nat} {a : CAct} {s : CSt} {n : NSt} (e : norm base mask q a s = some n) : base ≤ n.st.next ∧ n.next = base + q.length ∧ freshList base q = true ∧ ∀ (i : Inj) (w : World) (a' : Act), SRel P N i s w → ActRel i a a' →
    SRel P N (renInj base q i) n.st w ∧ ActRel (renInj base q i) n.act a' ∧ (∀ b, b < base → renInj base q i b = i b ∧ (renInj base q i).void b = i.void b) ∧ (∀ B, Touch 0 (renInj base q i) n.st.heap.get B → Touch 0 i s.heap.get B) ∧ ∀ b o, n.st.heap.get b = some o → ∃ c o', srcN base q b = some c ∧ s.heap.get c = some o' ∧ o = renO (ren base q) o' := by
  unfold norm at e
  cases hc : (freshList base q && Nat.ble base s.next) with
  | false => rw [hc] at e; cases e
  | true =>
  rw [hc] at e
  simp only [Bool.and_eq_true, nble, decide_eq_true_eq] at hc
  obtain ⟨hq, hbase⟩ := hc
  simp only [cond_true] at e
  split at e
  · rename_i ms hms
    cases e
    refine ⟨by simp [NSt.st], rfl, hq, fun i w a' hs ha => ?_⟩
    -- the new picture
    let src : Nat → Option Nat := fun c => if c < base then some c else q[c - base]?
    let j : Inj := { blk := fun c => match src c with | some b => i b | none => none, imm := i.imm, void := fun c => match src c with | some b => i.void b | none => false, old := i.old }
    have hsrc : ∀ b c, ren base q b = some c → src c = some b := by
      intro b c h
      simp only [ren] at h
      by_cases hb : b < base
      · have : Nat.blt b base = true := by rw [Nat.blt_eq]; exact hb
        simp [this] at h; subst h
        simp [src, hb]
      · have : Nat.blt b base = false := by rw [Bool.eq_false_iff]; intro hh; rw [Nat.blt_eq] at hh; exact hb hh
        simp [this] at h
        obtain ⟨m, h1, h2⟩ := idxOf_some h
        subst h1
        show (if base + m < base then some (base + m) else q[base + m - base]?) = some b
        rw [if_neg (by omega), Nat.add_sub_cancel_left, h2]
    have hR : RenOk (ren base q) i j := ⟨fun b c h => by show (match src c with | some b => i b | none => none) = _; rw [hsrc b c h], fun b c h => by show (match src c with | some b => i.void b | none => false) = _; rw [hsrc b c h], rfl⟩
    have hinj : ∀ {b b' c}, src b = some c → src b' = some c → b = b' := by
      intro b b' c h1 h2
      simp only [src] at h1 h2
      by_cases e1 : b < base
      · rw [if_pos e1] at h1; cases h1
        by_cases e2 : b' < base
        · rw [if_pos e2] at h2; cases h2; rfl
        · rw [if_neg e2] at h2; have := freshList_ge hq _ _ h2; omega
      · rw [if_neg e1] at h1
        by_cases e2 : b' < base
        · rw [if_pos e2] at h2; cases h2; have := freshList_ge hq _ _ h1; omega
        · rw [if_neg e2] at h2; have := freshList_inj hq _ _ _ h1 h2; omega
    have hheap : ∀ {b o}, (ofHL (lowHL (ren base q) s.heap base 0 ++ highHL (ren base q) s.heap q base) .nil).get b = some o → ∃ c o', src b = some c ∧ s.heap.get c = some o' ∧ o = renO (ren base q) o' := by
      intro b o h
      rcases ofHL_mem _ _ _ _ h with h | h
      · rcases List.mem_append.1 h with h | h
        · obtain ⟨h1, h2, o', h3, h4⟩ := lowHL_mem _ _ h
          exact ⟨b, o', by simp [src]; omega, h3, h4⟩
        · obtain ⟨k, x, o', h1, h2, h3, h4⟩ := highHL_mem _ _ h
          subst h1
          exact ⟨x, o', by show (if base + k < base then some (base + k) else q[base + k - base]?) = some x; rw [if_neg (by omega), Nat.add_sub_cancel_left, h2], h3, h4⟩
      · simp [Tr.get] at h
    have hblk : ∀ {b c}, src b = some c → j b = i c := fun {b c} h => by show (match src b with | some b => i b | none => none) = _; rw [h]
    have hvd : ∀ {b c}, src b = some c → j.void b = i.void c := fun {b c} h => by show (match src b with | some b => i.void b | none => false) = _; rw [h]
    show SRel P N j _ w ∧ ActRel j _ a' ∧ (∀ b, b < base → j b = i b ∧ j.void b = i.void b) ∧ (∀ B, Touch 0 j _ B → _) ∧ _
    refine ⟨⟨⟨?_, ?_, ?_, hs.rel.hN, hs.rel.imm, ?_, ?_⟩, ?_⟩, ⟨renTs_rel hR mask 0 ha.tmps, renMs_rel hR hms ha.marks⟩, ?_, ?_, fun b o hb => hheap hb⟩
    · intro b o g hb hg
      obtain ⟨c, o', h1, h2, rfl⟩ := hheap hb
      rw [hblk h1] at hg
      exact (hs.rel.obj c o' g h2 hg).ren hR
    · intro b b' o o' g g' hne hb hb' hg hg' hw hl
      obtain ⟨c, p, h1, h2, rfl⟩ := hheap hb
      obtain ⟨c', p', h1', h2', rfl⟩ := hheap hb'
      rw [hblk h1] at hg; rw [hblk h1'] at hg'
      exact hs.rel.sep c c' p p' g g' (fun e => hne (by subst e; exact hinj h1 h1')) h2 h2' hg hg' (wr_renO hw) (live_renO hl)
    · intro b g hg
      cases h1 : src b with
      | none => have : j b = none := by show (match src b with | some b => i b | none => none) = _; rw [h1]
                rw [this] at hg; cases hg
      | some c => rw [hblk h1] at hg; exact hs.rel.bnd c g hg
    · intro b o g hb hg hw k
      obtain ⟨c, p, h1, h2, rfl⟩ := hheap hb
      rw [hblk h1] at hg
      exact hs.rel.ims c p g h2 hg (wr_renO hw) k
    · intro b hb
      cases h1 : src b with
      | none => have : j.void b = false := by show (match src b with | some b => i.void b | none => false) = _; rw [h1]
                rw [this] at hb; cases hb
      | some c =>
        rw [hvd h1] at hb
        refine ⟨by rw [hblk h1]; exact (hs.rel.void c hb).1, fun r l hl => ?_⟩
        obtain ⟨c', p, h3, h4, h5⟩ := hheap hl
        have : c' = c := by rw [h1] at h3; cases h3; rfl
        subst this
        cases p <;> simp only [renO] at h5 <;> first | (cases h5; done) | skip
        · cases h5; exact (hs.rel.void c' hb).2 _ _ h4
        · split at h5 <;> cases h5
    · intro b hb
      simp only [NSt.st] at hb
      have h1 : src b = none := by
        simp only [src]
        rw [if_neg (by omega), List.getElem?_eq_none (by omega)]
      exact ⟨by show (match src b with | some b => i b | none => none) = _; rw [h1], by show (match src b with | some b => i.void b | none => false) = _; rw [h1]⟩
    · intro b hb
      have : src b = some b := by simp [src, hb]
      exact ⟨hblk this, hvd this⟩
    · rintro B ⟨b, o, g, h1, h2, h3, h4, h5⟩
      obtain ⟨c, p, h6, h7, rfl⟩ := hheap h2
      rw [hblk h6] at h4
      exact ⟨c, p, g, Nat.zero_le _, h7, wr_renO h3, h4, h5⟩
  · cases e

theorem norm_less {base mask : Nat} {q : List Nat} {a : CAct} {s : CSt} {n : NSt} (e : norm base mask q a s = some n) : Less P N base a s n.act n.st := by
  obtain ⟨h1, _, _, h2⟩ := norm_at (P := P) (N := N) e
  exact ⟨fun i w a' hs ha => let ⟨q1, q2, q3, q4, _⟩ := h2 i w a' hs ha; ⟨_, q1, q2, q3, rfl, rfl, q4⟩, h1⟩

/-! ### Which numbers are reached -/
mutual
def refsV : CV → List Nat
  | .pointer (some ⟨b, _, none⟩) => [b]
  | .slice (some ⟨b, _, none⟩) _ _ => [b]
  | .map (some b) => [b]
  | .func (.yield l) _ _ => [l]
  | .func _ as cs => refsA as ++ refsA cs
  | .iface _ v => refsV v
  | .agg as => refsA as
  | .tuple as => refsA as
  | .rptr b _ _ _ => [b]
  | .row b _ _ => [b]
  | .win b _ _ _ _ => [b]
  | _ => []
def refsA : Array CV → List Nat
  | ⟨l⟩ => refsL l
def refsL : List CV → List Nat
  | [] => []
  | v :: r => refsV v ++ refsL r
end
def refsT (mask : Nat) : Nat → List CV → List Nat
  | _, [] => []
  | t, v :: r => (bif tb mask t then refsV v else []) ++ refsT mask (t + 1) r
def refsO : CObj → List Nat
  | .cells vs _ _ => refsL vs
  | .loop _ _ fn tms po de => refsT (maskOf fn po) 0 tms ++ [de]
  | _ => []
def addNew (base : Nat) : List Nat → List Nat → List Nat
  | acc, [] => acc
  | acc, x :: r => bif Nat.ble base x && acc.all (fun y => !(Nat.beq y x)) then addNew base (acc ++ [x]) r else addNew base acc r
def lowRefs (h : Tr CObj) : Nat → Nat → List Nat
  | 0, _ => []
  | n + 1, b => (match h.get b with | some o => refsO o | none => []) ++ lowRefs h n (b + 1)
/-- The numbers from 'base' on that are reached; those at 'k' and behind are still to be looked into. -/
def reach (base : Nat) (h : Tr CObj) : Nat → Nat → List Nat → List Nat
  | 0, _, acc => acc
  | n + 1, k, acc => match acc[k]? with
    | some x => reach base h n (k + 1) (addNew base acc (match h.get x with | some o => refsO o | none => []))
    | none => acc
def reached (base mask : Nat) (a : CAct) (s : CSt) : List Nat :=
  reach base s.heap 100 0 (addNew base (addNew base (addNew base [] (refsT mask 0 a.tmps)) a.marks) (lowRefs s.heap base 0))

/-! ### Rows without a block, for slices that are nil -/
def voidT (base : Nat) : List (Nat × RC) → NSt → NSt
  | [], n => n
  | (t, r) :: q, n => match n.tmps[t]? with
    | some (.slice none 0 0) => voidT base q { n with tmps := n.tmps.set t (.row n.next r.z 0), heap := n.heap ++ [(n.next, .rows r [])], next := n.next + 1 }
    | some .empty => voidT base q { n with tmps := n.tmps.set t (.row n.next r.z 0), heap := n.heap ++ [(n.next, .rows r [])], next := n.next + 1 }
    | _ => voidT base q n

end Go.Proofs.YtkdjllolnlndkaaD
