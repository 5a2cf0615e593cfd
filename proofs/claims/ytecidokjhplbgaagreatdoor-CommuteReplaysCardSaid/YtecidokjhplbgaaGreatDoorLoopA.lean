/-
  States in one form each: what is not looked at any more is left out, and the numbers of the heap are given anew. What holds of the state that there was, holds of the new one.
  Loops: round for round, the state in its one form at each.
-/
import Derived.Test.YtecidokjhplbgaaGreatDoorSound4
set_option linter.unusedVariables false
set_option linter.unusedSimpArgs false
namespace Go.Proofs.YtecidokjhplbgaaGreatDoorD
open Go Go.RowKit

variable {P : Program} {N : Nat}

def idxOf (b : Nat) : List Nat → Nat → Option Nat
  | [], _ => none
  | x :: r, k => bif Nat.beq x b then some k else idxOf b r (k + 1)
def ren (base : Nat) (q : List Nat) (b : Nat) : Option Nat := bif Nat.blt b base then some b else idxOf b q base

mutual
def renV (f : Nat → Option Nat) : CV → CV
  | .pointer (some ⟨b, o, none⟩) => match f b with | some c => .pointer (some ⟨c, o, none⟩) | none => .junk
  | .pointer none => .pointer none
  | .slice (some ⟨b, o, none⟩) n m => match f b with | some c => .slice (some ⟨c, o, none⟩) n m | none => .junk
  | .slice none n m => .slice none n m
  | .map none => .map none
  | .map (some b) => match f b with | some c => .map (some c) | none => .junk
  | .func (.func g) as cs => .func (.func g) (renA f as) (renA f cs)
  | .func (.yield l) as cs => match f l with | some c => .func (.yield c) as cs | none => .junk
  | .iface t v => .iface t (renV f v)
  | .agg as => .agg (renA f as)
  | .tuple as => .tuple (renA f as)
  | .rptr b z i j => match f b with | some c => .rptr c z i j | none => .junk
  | .row b z n => match f b with | some c => .row c z n | none => .junk
  | .win b z s n m => match f b with | some c => .win c z s n m | none => .junk
  | .bool b => .bool b
  | .int k n => .int k n
  | .string s => .string s
  | .nilFunc => .nilFunc
  | .nilIface => .nilIface
  | .pl r l => .pl r l
  | .kptr cs => .kptr (renL f cs)
  | .empty => .empty
  | .nnil => .nnil
  | _ => .junk
def renA (f : Nat → Option Nat) : Array CV → Array CV
  | ⟨l⟩ => ⟨renL f l⟩
def renL (f : Nat → Option Nat) : List CV → List CV
  | [] => []
  | v :: r => renV f v :: renL f r
end

def renTs (f : Nat → Option Nat) (mask : Nat) : Nat → List CV → List CV
  | _, [] => []
  | t, v :: r => (bif tb mask t then renV f v else .junk) :: renTs f mask (t + 1) r

def eqPos : List Nat → List Nat → Bool
  | [], [] => true
  | a :: r, b :: s => Nat.beq a b && eqPos r s
  | _, _ => false
def maskIn (fn : FuncId) (p : List Nat) : List (Nat × List Nat × Nat × Nat) → Nat × Nat
  | [] => (2 ^ 2000 - 1, 2 ^ 2000 - 1)
  | (f, q, m) :: r => bif Nat.beq f fn && eqPos q p then m else maskIn fn p r
def maskOf (fn : FuncId) (p : List Nat) : Nat := (maskIn fn p maskTab).1
def maskOut (fn : FuncId) (p : List Nat) : Nat := (maskIn fn p maskTab).2

def renO (f : Nat → Option Nat) : CObj → CObj
  | .cells vs e m => .cells (renL f vs) e m
  | .rows r l => .rows r l
  | .keys l => .keys l
  | .loop st pe fn tms po de => match f de with
    | some d => .loop st pe fn (renTs f (maskOf fn po) 0 tms) po d
    | none => .dead
  | .defs => .defs
  | _ => .dead

def renMs (f : Nat → Option Nat) : List Nat → Option (List Nat)
  | [] => some []
  | d :: r => match f d, renMs f r with
    | some e, some s => some (e :: s)
    | _, _ => none

theorem renL_eq (f : Nat → Option Nat) : ∀ l, renL f l = l.map (renV f)
  | [] => rfl
  | v :: r => by simp only [renL, List.map_cons, renL_eq f r]

structure RenOk (f : Nat → Option Nat) (i j : Inj) : Prop where
  blk : ∀ b c, f b = some c → j c = i b
  void : ∀ b c, f b = some c → j.void c = i.void b
  imm : j.imm = i.imm

theorem VRel.ren {f : Nat → Option Nat} {i j : Inj} (h : RenOk f i j) {x : CV} {y : Value} (hv : VRel i x y) : VRel j (renV f x) y := by
  induction hv with
  | bool b => exact .bool b
  | int k n => exact .int k n
  | string s => exact .string s
  | nilFunc => exact .nilFunc
  | nilIface => exact .nilIface
  | nilPtr => exact .nilPtr
  | nilMap => exact .nilMap
  | @ptr b o g hb =>
    simp only [renV]
    cases hf : f b with
    | none => exact .junk _
    | some c => exact .ptr ((h.blk b c hf).trans hb)
  | nilSlice => exact .nilSlice
  | @slice b o len cap cap' g a' hb hc ha hl =>
    simp only [renV]
    cases hf : f b with
    | none => exact .junk _
    | some c => exact .slice ((h.blk b c hf).trans hb) hc ha hl
  | @map b g hb =>
    simp only [renV]
    cases hf : f b with
    | none => exact .junk _
    | some c => exact .map ((h.blk b c hf).trans hb)
  | func h1 h2 h3 h4 i2 i4 =>
    simp only [renV, renA, renL_eq]
    refine .func (by simp [h1]) (fun k x y hx hy => ?_) (by simp [h3]) (fun k x y hx hy => ?_)
    · rw [List.getElem?_map] at hx
      obtain ⟨x0, hx0, rfl⟩ := Option.map_eq_some_iff.1 hx
      exact i2 k x0 y hx0 hy
    · rw [List.getElem?_map] at hx
      obtain ⟨x0, hx0, rfl⟩ := Option.map_eq_some_iff.1 hx
      exact i4 k x0 y hx0 hy
  | @yield l g hb =>
    simp only [renV]
    cases hf : f l with
    | none => exact .junk _
    | some c => exact .yield ((h.blk l c hf).trans hb)
  | iface _ ih => exact .iface ih
  | agg h1 h2 i2 =>
    simp only [renV, renA, renL_eq]
    refine .agg (by simp [h1]) (fun k x y hx hy => ?_)
    rw [List.getElem?_map] at hx
    obtain ⟨x0, hx0, rfl⟩ := Option.map_eq_some_iff.1 hx
    exact i2 k x0 y hx0 hy
  | tuple h1 h2 i2 =>
    simp only [renV, renA, renL_eq]
    refine .tuple (by simp [h1]) (fun k x y hx hy => ?_)
    rw [List.getElem?_map] at hx
    obtain ⟨x0, hx0, rfl⟩ := Option.map_eq_some_iff.1 hx
    exact i2 k x0 y hx0 hy
  | junk v => exact .junk v
  | @pl r l B o c ys a' h1 h2 h3 hc ha ih =>
    -- the cells of a row are told with it
    have hs : ∀ x ∈ r.all l, renV f x = x := by
      intro x hx
      obtain ⟨e, _, he⟩ := List.mem_flatMap.1 hx
      have : ∀ x ∈ r.cells e, renV f x = x := by cases r <;> simp [RC.cells, renV]
      exact this x he
    refine .pl h1 (fun k y hy => by rw [h.imm]; exact h2 k y hy) (fun k x y hx hy => ?_) hc ha
    have := ih k x y hx hy
    rwa [hs x (List.mem_of_getElem? hx)] at this
  | plNil h => exact .plNil h
  | @kptr cs B o ys h1 h2 h3 ih =>
    simp only [renV, renL_eq]
    refine .kptr (ys := ys) (by simp [h1]) (fun k y hy => by rw [h.imm]; exact h2 k y hy) (fun k x y hx hy => ?_)
    rw [List.getElem?_map] at hx
    obtain ⟨x0, hx0, rfl⟩ := Option.map_eq_some_iff.1 hx
    exact ih k x0 y hx0 hy
  | @rptr b z k j g hb hz =>
    simp only [renV]
    cases hf : f b with
    | none => exact .junk _
    | some c => exact .rptr ((h.blk b c hf).trans hb) hz
  | @row b z n cap' g a' hb hz hs hc ha =>
    simp only [renV]
    cases hf : f b with
    | none => exact .junk _
    | some c => exact .row ((h.blk b c hf).trans hb) hz hs hc ha
  | @rowVoid b z a hv =>
    simp only [renV]
    cases hf : f b with
    | none => exact .junk _
    | some c => exact .rowVoid ((h.void b c hf).trans hv)
  | @win b z s n c cap' g a' hb hz hc ha hl hle =>
    simp only [renV]
    cases hf : f b with
    | none => exact .junk _
    | some d => exact .win ((h.blk b d hf).trans hb) hz hc ha hl hle
  | @winVoid b z s a =>
    simp only [renV]
    cases hf : f b with
    | none => exact .junk _
    | some d => exact .winVoid
  | empty => exact .empty
  | nnil => exact .nnil

theorem LRel.ren {f : Nat → Option Nat} {i j : Inj} (h : RenOk f i j) {xs : List CV} {ys : List Value} (hv : LRel i xs ys) : LRel j (renL f xs) ys :=
  ⟨by rw [renL_eq, List.length_map, hv.len], fun k x y hx hy => by
    rw [renL_eq, List.getElem?_map] at hx
    obtain ⟨x0, hx0, rfl⟩ := Option.map_eq_some_iff.1 hx
    exact (hv.at_ k x0 y hx0 hy).ren h⟩

theorem renTs_rel {f : Nat → Option Nat} {i j : Inj} (h : RenOk f i j) (mask : Nat) : ∀ (t : Nat) {xs : List CV} {ys : List Value}, LRel i xs ys → LRel j (renTs f mask t xs) ys
  | t, [], ys, hv => by have := hv.nil_inv; subst this; exact .nil j
  | t, x :: xs, ys, hv => by
    obtain ⟨y, ys', rfl, h1, h2⟩ := hv.cons_inv
    simp only [renTs]
    refine .cons ?_ (renTs_rel h mask (t + 1) h2)
    cases tb mask t with
    | true => exact h1.ren h
    | false => exact .junk y

theorem renMs_rel {f : Nat → Option Nat} {i j : Inj} (h : RenOk f i j) {ds ds2 : List Nat} {rs : List Deferred} (e : renMs f ds = some ds2) (m : MRel i ds rs) : MRel j ds2 rs := by
  induction m generalizing ds2 with
  | nil => simp only [renMs, Option.some.injEq] at e; subst e; exact .nil
  | cons hd _ ih =>
    simp only [renMs] at e
    split at e
    · rename_i c s h1 h2
      cases e
      exact .cons ((h.blk _ _ h1).trans hd) (ih h2)
    · cases e

theorem ORel.ren {f : Nat → Option Nat} {i j : Inj} (h : RenOk f i j) {w : World} {g : Img} {o : CObj} (ho : ORel P N i w g o) : ORel P N j w g (renO f o) := by
  cases o with
  | cells vs e m =>
    obtain ⟨h1, h2, h3, ⟨vs', h4, h5⟩, h6⟩ := ho
    exact ⟨by rw [h1, renL_eq, List.length_map], h2, h3, ⟨vs', h4.ren h, h5⟩, fun hm => by rw [renL_eq, List.length_map]; exact h6 hm⟩
  | rows r l =>
    obtain ⟨h1, h2, h3, ⟨vs', h4, h5⟩, h6⟩ := ho
    refine ⟨h1, h2, h3, ⟨vs', ?_, h5⟩, h6⟩
    have hs : renL f (r.all l) = r.all l := by
      rw [renL_eq]
      have : ∀ x ∈ r.all l, renV f x = x := by
        intro x hx
        obtain ⟨e, _, he⟩ := List.mem_flatMap.1 hx
        have : ∀ x ∈ r.cells e, renV f x = x := by cases r <;> simp [RC.cells, renV]
        exact this x he
      exact (List.map_congr_left this).trans (List.map_id _)
    have := h4.ren h
    rwa [hs] at this
  | map es => trivial
  | keys l => exact ho
  | loop st pe fn tms po de =>
    simp only [renO]
    cases hf : f de with
    | none => trivial
    | some d =>
      obtain ⟨h1, f0, ps, asg, bd, fn', tms', gd, h2, h3, h4, h5⟩ := ho
      exact ⟨h1, f0, ps, asg, bd, fn', tms', gd, h2, h3, renTs_rel h _ 0 h4, (h.blk de d hf).trans h5⟩
  | defs => exact ho
  | dead => trivial

theorem wr_renO {f : Nat → Option Nat} {o : CObj} (h : wr (renO f o) = true) : wr o = true := by
  cases o <;> simp only [renO] at h <;> first | exact h | rfl | (simp [wr] at h) | skip
theorem live_renO {f : Nat → Option Nat} {o : CObj} (h : live (renO f o) = true) : live o = true := by
  cases o <;> simp only [renO] at h <;> first | exact h | rfl | (simp [live] at h) | skip

abbrev HL := List (Nat × CObj)
def ofHL : HL → Tr CObj → Tr CObj
  | [], t => t
  | (b, o) :: r, t => ofHL r (t.set b o)
structure NSt where
  tmps : List CV
  marks : List Nat
  heap : HL
  next : Nat
def NSt.act (s : NSt) : CAct := ⟨s.tmps, s.marks⟩
def NSt.st (s : NSt) : CSt := ⟨ofHL s.heap .nil, s.next⟩

def lowHL (f : Nat → Option Nat) (h : Tr CObj) : Nat → Nat → HL
  | 0, _ => []
  | n + 1, b => match h.get b with
    | some .dead => lowHL f h n (b + 1)
    | some o => (b, renO f o) :: lowHL f h n (b + 1)
    | none => lowHL f h n (b + 1)
def highHL (f : Nat → Option Nat) (h : Tr CObj) : List Nat → Nat → HL
  | [], _ => []
  | x :: r, c => match h.get x with
    | some .dead => highHL f h r (c + 1)
    | some o => (c, renO f o) :: highHL f h r (c + 1)
    | none => highHL f h r (c + 1)

def freshList (base : Nat) : List Nat → Bool
  | [] => true
  | x :: r => Nat.ble base x && r.all (fun y => !(Nat.beq y x)) && freshList base r

def norm (base mask : Nat) (q : List Nat) (a : CAct) (s : CSt) : Option NSt :=
  bif freshList base q && Nat.ble base s.next then
    match renMs (ren base q) a.marks with
    | some ms => some { tmps := renTs (ren base q) mask 0 a.tmps, marks := ms, heap := lowHL (ren base q) s.heap base 0 ++ highHL (ren base q) s.heap q base, next := base + q.length }
    | none => none
  else none

theorem ofHL_mem : ∀ (l : HL) (t : Tr CObj) (b : Nat) (o : CObj), (ofHL l t).get b = some o → (b, o) ∈ l ∨ t.get b = some o
  | [], t, b, o, h => .inr h
  | (c, x) :: r, t, b, o, h => by
    simp only [ofHL] at h
    rcases ofHL_mem r _ b o h with h1 | h1
    · exact .inl (by simp [h1])
    · rw [Tr.get_set] at h1
      split at h1
      · rename_i e; subst e; cases h1; exact .inl (by simp)
      · exact .inr h1

theorem lowHL_mem {f : Nat → Option Nat} {h : Tr CObj} : ∀ (n b : Nat) {c : Nat} {o : CObj}, (c, o) ∈ lowHL f h n b → b ≤ c ∧ c < b + n ∧ ∃ o', h.get c = some o' ∧ o = renO f o'
  | 0, b, c, o, hm => by simp [lowHL] at hm
  | n + 1, b, c, o, hm => by
    simp only [lowHL] at hm
    split at hm
    · obtain ⟨h1, h2, h3⟩ := lowHL_mem n (b + 1) hm
      exact ⟨by omega, by omega, h3⟩
    · rename_i o' hne hg
      rcases List.mem_cons.1 hm with hm | hm
      · cases hm; exact ⟨Nat.le_refl _, by omega, o', hg, rfl⟩
      · obtain ⟨h1, h2, h3⟩ := lowHL_mem n (b + 1) hm
        exact ⟨by omega, by omega, h3⟩
    · obtain ⟨h1, h2, h3⟩ := lowHL_mem n (b + 1) hm
      exact ⟨by omega, by omega, h3⟩
theorem highHL_mem {f : Nat → Option Nat} {h : Tr CObj} : ∀ (q : List Nat) (b : Nat) {c : Nat} {o : CObj}, (c, o) ∈ highHL f h q b → ∃ k x o', c = b + k ∧ q[k]? = some x ∧ h.get x = some o' ∧ o = renO f o'
  | [], b, c, o, hm => by simp [highHL] at hm
  | x :: r, b, c, o, hm => by
    simp only [highHL] at hm
    split at hm
    · obtain ⟨k, y, o', h1, h2, h3⟩ := highHL_mem r (b + 1) hm
      exact ⟨k + 1, y, o', by omega, by simpa using h2, h3⟩
    · rename_i o' hne hg
      rcases List.mem_cons.1 hm with hm | hm
      · cases hm; exact ⟨0, x, o', rfl, rfl, hg, rfl⟩
      · obtain ⟨k, y, o', h1, h2, h3⟩ := highHL_mem r (b + 1) hm
        exact ⟨k + 1, y, o', by omega, by simpa using h2, h3⟩
    · obtain ⟨k, y, o', h1, h2, h3⟩ := highHL_mem r (b + 1) hm
      exact ⟨k + 1, y, o', by omega, by simpa using h2, h3⟩

theorem freshList_ge {base : Nat} : ∀ {q : List Nat}, freshList base q = true → ∀ (k x : Nat), q[k]? = some x → base ≤ x
  | [], h, k, x, hx => by simp at hx
  | y :: r, h, 0, x, hx => by
    simp only [freshList, Bool.and_eq_true, nble, decide_eq_true_eq] at h
    simp at hx; subst hx; exact h.1.1
  | y :: r, h, k + 1, x, hx => by
    simp only [freshList, Bool.and_eq_true] at h
    exact freshList_ge h.2 k x (by simpa using hx)
theorem freshList_inj {base : Nat} : ∀ {q : List Nat}, freshList base q = true → ∀ (k m x : Nat), q[k]? = some x → q[m]? = some x → k = m
  | [], h, k, m, x, hx, hy => by simp at hx
  | y :: r, h, k, m, x, hx, hy => by
    simp only [freshList, Bool.and_eq_true, List.all_eq_true, nbeq, Bool.not_eq_true', decide_eq_false_iff_not] at h
    have hno : ∀ k, r[k]? ≠ some y := fun k hk => h.1.2 y (List.mem_of_getElem? hk) rfl
    cases k with
    | zero =>
      simp at hx; subst hx
      cases m with
      | zero => rfl
      | succ m => exact (hno m (by simpa using hy)).elim
    | succ k =>
      cases m with
      | zero => simp at hy; subst hy; exact (hno k (by simpa using hx)).elim
      | succ m => rw [freshList_inj h.2 k m x (by simpa using hx) (by simpa using hy)]
theorem idxOf_some {b : Nat} : ∀ {q : List Nat} {k c : Nat}, idxOf b q k = some c → ∃ m, c = k + m ∧ q[m]? = some b
  | [], k, c, h => by simp [idxOf] at h
  | x :: r, k, c, h => by
    simp only [idxOf, nbeq] at h
    by_cases e : x = b
    · subst e; simp at h; subst h; exact ⟨0, rfl, rfl⟩
    · simp [e] at h
      obtain ⟨m, h1, h2⟩ := idxOf_some h
      exact ⟨m + 1, by omega, by simpa using h2⟩

structure Less (P : Program) (N base : Nat) (a : CAct) (s : CSt) (a2 : CAct) (s2 : CSt) : Prop where
  rel : ∀ (i : Inj) (w : World) (a' : Act), SRel P N i s w → ActRel i a a' → ∃ j, SRel P N j s2 w ∧ ActRel j a2 a' ∧ (∀ b, b < base → j b = i b ∧ j.void b = i.void b) ∧ j.imm = i.imm ∧ j.old = i.old ∧
    ∀ B, Touch 0 j s2.heap.get B → Touch 0 i s.heap.get B
  nx : base ≤ s2.next

def srcN (base : Nat) (q : List Nat) (c : Nat) : Option Nat := if c < base then some c else q[c - base]?
def renInj (base : Nat) (q : List Nat) (i : Inj) : Inj :=
  { blk := fun c => match srcN base q c with | some b => i b | none => none, imm := i.imm, void := fun c => match srcN base q c with | some b => i.void b | none => false, old := i.old }

theorem norm_at {base mask : Nat} {q : List Nat} {a : CAct} {s : CSt} {n : NSt} (e : norm base mask q a s = some n) : base ≤ n.st.next ∧ n.next = base + q.length ∧ freshList base q = true ∧ ∀ (i : Inj) (w : World) (a' : Act), SRel P N i s w → ActRel i a a' →
    SRel P N (renInj base q i) n.st w ∧ ActRel (renInj base q i) n.act a' ∧ (∀ b, b < base → renInj base q i b = i b ∧ (renInj base q i).void b = i.void b) ∧ (∀ B, Touch 0 (renInj base q i) n.st.heap.get B → Touch 0 i s.heap.get B) ∧ ∀ b o, n.st.heap.get b = some o → ∃ c o', srcN base q b = some c ∧ s.heap.get c = some o' ∧ o = renO (ren base q) o' := by
  unfold norm at e
  cases hc : (freshList base q && Nat.ble base s.next) with
  | false => rw [hc] at e; cases e
  | true =>
  rw [hc] at e
  simp only [Bool.and_eq_true, nble, decide_eq_true_eq] at hc
  obtain ⟨hq, hbase⟩ := hc
  simp only [cond_true] at e
  split at e
  · rename_i ms hms
    cases e
    refine ⟨by simp [NSt.st], rfl, hq, fun i w a' hs ha => ?_⟩
    -- the new picture
    let src : Nat → Option Nat := fun c => if c < base then some c else q[c - base]?
    let j : Inj := { blk := fun c => match src c with | some b => i b | none => none, imm := i.imm, void := fun c => match src c with | some b => i.void b | none => false, old := i.old }
    have hsrc : ∀ b c, ren base q b = some c → src c = some b := by
      intro b c h
      simp only [ren] at h
      by_cases hb : b < base
      · have : Nat.blt b base = true := by rw [Nat.blt_eq]; exact hb
        simp [this] at h; subst h
        simp [src, hb]
      · have : Nat.blt b base = false := by rw [Bool.eq_false_iff]; intro hh; rw [Nat.blt_eq] at hh; exact hb hh
        simp [this] at h
        obtain ⟨m, h1, h2⟩ := idxOf_some h
        subst h1
        show (if base + m < base then some (base + m) else q[base + m - base]?) = some b
        rw [if_neg (by omega), Nat.add_sub_cancel_left, h2]
    have hR : RenOk (ren base q) i j := ⟨fun b c h => by show (match src c with | some b => i b | none => none) = _; rw [hsrc b c h], fun b c h => by show (match src c with | some b => i.void b | none => false) = _; rw [hsrc b c h], rfl⟩
    have hinj : ∀ {b b' c}, src b = some c → src b' = some c → b = b' := by
      intro b b' c h1 h2
      simp only [src] at h1 h2
      by_cases e1 : b < base
      · rw [if_pos e1] at h1; cases h1
        by_cases e2 : b' < base
        · rw [if_pos e2] at h2; cases h2; rfl
        · rw [if_neg e2] at h2; have := freshList_ge hq _ _ h2; omega
      · rw [if_neg e1] at h1
        by_cases e2 : b' < base
        · rw [if_pos e2] at h2; cases h2; have := freshList_ge hq _ _ h1; omega
        · rw [if_neg e2] at h2; have := freshList_inj hq _ _ _ h1 h2; omega
    have hheap : ∀ {b o}, (ofHL (lowHL (ren base q) s.heap base 0 ++ highHL (ren base q) s.heap q base) .nil).get b = some o → ∃ c o', src b = some c ∧ s.heap.get c = some o' ∧ o = renO (ren base q) o' := by
      intro b o h
      rcases ofHL_mem _ _ _ _ h with h | h
      · rcases List.mem_append.1 h with h | h
        · obtain ⟨h1, h2, o', h3, h4⟩ := lowHL_mem _ _ h
          exact ⟨b, o', by simp [src]; omega, h3, h4⟩
        · obtain ⟨k, x, o', h1, h2, h3, h4⟩ := highHL_mem _ _ h
          subst h1
          exact ⟨x, o', by show (if base + k < base then some (base + k) else q[base + k - base]?) = some x; rw [if_neg (by omega), Nat.add_sub_cancel_left, h2], h3, h4⟩
      · simp [Tr.get] at h
    have hblk : ∀ {b c}, src b = some c → j b = i c := fun {b c} h => by show (match src b with | some b => i b | none => none) = _; rw [h]
    have hvd : ∀ {b c}, src b = some c → j.void b = i.void c := fun {b c} h => by show (match src b with | some b => i.void b | none => false) = _; rw [h]
    show SRel P N j _ w ∧ ActRel j _ a' ∧ (∀ b, b < base → j b = i b ∧ j.void b = i.void b) ∧ (∀ B, Touch 0 j _ B → _) ∧ _
    refine ⟨⟨⟨?_, ?_, ?_, hs.rel.hN, hs.rel.imm, ?_, ?_⟩, ?_⟩, ⟨renTs_rel hR mask 0 ha.tmps, renMs_rel hR hms ha.marks⟩, ?_, ?_, fun b o hb => hheap hb⟩
    · intro b o g hb hg
      obtain ⟨c, o', h1, h2, rfl⟩ := hheap hb
      rw [hblk h1] at hg
      exact (hs.rel.obj c o' g h2 hg).ren hR
    · intro b b' o o' g g' hne hb hb' hg hg' hw hl
      obtain ⟨c, p, h1, h2, rfl⟩ := hheap hb
      obtain ⟨c', p', h1', h2', rfl⟩ := hheap hb'
      rw [hblk h1] at hg; rw [hblk h1'] at hg'
      exact hs.rel.sep c c' p p' g g' (fun e => hne (by subst e; exact hinj h1 h1')) h2 h2' hg hg' (wr_renO hw) (live_renO hl)
    · intro b g hg
      cases h1 : src b with
      | none => have : j b = none := by show (match src b with | some b => i b | none => none) = _; rw [h1]
                rw [this] at hg; cases hg
      | some c => rw [hblk h1] at hg; exact hs.rel.bnd c g hg
    · intro b o g hb hg hw k
      obtain ⟨c, p, h1, h2, rfl⟩ := hheap hb
      rw [hblk h1] at hg
      exact hs.rel.ims c p g h2 hg (wr_renO hw) k
    · intro b hb
      cases h1 : src b with
      | none => have : j.void b = false := by show (match src b with | some b => i.void b | none => false) = _; rw [h1]
                rw [this] at hb; cases hb
      | some c =>
        rw [hvd h1] at hb
        refine ⟨by rw [hblk h1]; exact (hs.rel.void c hb).1, fun r l hl => ?_⟩
        obtain ⟨c', p, h3, h4, h5⟩ := hheap hl
        have : c' = c := by rw [h1] at h3; cases h3; rfl
        subst this
        cases p <;> simp only [renO] at h5 <;> first | (cases h5; done) | skip
        · cases h5; exact (hs.rel.void c' hb).2 _ _ h4
        · split at h5 <;> cases h5
    · intro b hb
      simp only [NSt.st] at hb
      have h1 : src b = none := by
        simp only [src]
        rw [if_neg (by omega), List.getElem?_eq_none (by omega)]
      exact ⟨by show (match src b with | some b => i b | none => none) = _; rw [h1], by show (match src b with | some b => i.void b | none => false) = _; rw [h1]⟩
    · intro b hb
      have : src b = some b := by simp [src, hb]
      exact ⟨hblk this, hvd this⟩
    · rintro B ⟨b, o, g, h1, h2, h3, h4, h5⟩
      obtain ⟨c, p, h6, h7, rfl⟩ := hheap h2
      rw [hblk h6] at h4
      exact ⟨c, p, g, Nat.zero_le _, h7, wr_renO h3, h4, h5⟩
  · cases e

theorem norm_less {base mask : Nat} {q : List Nat} {a : CAct} {s : CSt} {n : NSt} (e : norm base mask q a s = some n) : Less P N base a s n.act n.st := by
  obtain ⟨h1, _, _, h2⟩ := norm_at (P := P) (N := N) e
  exact ⟨fun i w a' hs ha => let ⟨q1, q2, q3, q4, _⟩ := h2 i w a' hs ha; ⟨_, q1, q2, q3, rfl, rfl, q4⟩, h1⟩

mutual
def refsV : CV → List Nat
  | .pointer (some ⟨b, _, none⟩) => [b]
  | .slice (some ⟨b, _, none⟩) _ _ => [b]
  | .map (some b) => [b]
  | .func (.yield l) _ _ => [l]
  | .func _ as cs => refsA as ++ refsA cs
  | .iface _ v => refsV v
  | .agg as => refsA as
  | .tuple as => refsA as
  | .rptr b _ _ _ => [b]
  | .row b _ _ => [b]
  | .win b _ _ _ _ => [b]
  | _ => []
def refsA : Array CV → List Nat
  | ⟨l⟩ => refsL l
def refsL : List CV → List Nat
  | [] => []
  | v :: r => refsV v ++ refsL r
end
def refsT (mask : Nat) : Nat → List CV → List Nat
  | _, [] => []
  | t, v :: r => (bif tb mask t then refsV v else []) ++ refsT mask (t + 1) r
def refsO : CObj → List Nat
  | .cells vs _ _ => refsL vs
  | .loop _ _ fn tms po de => refsT (maskOf fn po) 0 tms ++ [de]
  | _ => []
def addNew (base : Nat) : List Nat → List Nat → List Nat
  | acc, [] => acc
  | acc, x :: r => bif Nat.ble base x && acc.all (fun y => !(Nat.beq y x)) then addNew base (acc ++ [x]) r else addNew base acc r
def lowRefs (h : Tr CObj) : Nat → Nat → List Nat
  | 0, _ => []
  | n + 1, b => (match h.get b with | some o => refsO o | none => []) ++ lowRefs h n (b + 1)
def reach (base : Nat) (h : Tr CObj) : Nat → Nat → List Nat → List Nat
  | 0, _, acc => acc
  | n + 1, k, acc => match acc[k]? with
    | some x => reach base h n (k + 1) (addNew base acc (match h.get x with | some o => refsO o | none => []))
    | none => acc
def reached (base mask : Nat) (a : CAct) (s : CSt) : List Nat :=
  reach base s.heap 100 0 (addNew base (addNew base (addNew base [] (refsT mask 0 a.tmps)) a.marks) (lowRefs s.heap base 0))

end Go.Proofs.YtecidokjhplbgaaGreatDoorD

set_option linter.unusedVariables false
set_option linter.unusedSimpArgs false
namespace Go.Proofs.YtecidokjhplbgaaGreatDoorD
open Go Go.RowKit

variable {P : Program} {N : Nat}

theorem Less.trans {base : Nat} {a a2 a3 : CAct} {s s2 s3 : CSt} (h : Less P N base a s a2 s2) (h' : Less P N base a2 s2 a3 s3) : Less P N base a s a3 s3 := by
  refine ⟨fun i w a' hs ha => ?_, h'.nx⟩
  obtain ⟨j, h1, h2, h3, h4, h6, h5⟩ := h.rel i w a' hs ha
  obtain ⟨k, g1, g2, g3, g4, g6, g5⟩ := h'.rel j w a' h1 h2
  exact ⟨k, g1, g2, fun b hb => ⟨(g3 b hb).1.trans (h3 b hb).1, (g3 b hb).2.trans (h3 b hb).2⟩, g4.trans h4, g6.trans h6, fun B hB => h5 B (g5 B hB)⟩

theorem ofHL_append : ∀ (l m : HL) (t : Tr CObj), ofHL (l ++ m) t = ofHL m (ofHL l t)
  | [], m, t => rfl
  | (b, o) :: r, m, t => by simp only [List.cons_append, ofHL]; exact ofHL_append r m _

theorem void_less {base t : Nat} {r : RC} {n : NSt} {v : CV} (hv : n.tmps[t]? = some v) (hnil : ∀ {i : Inj} {y : Value}, VRel i v y → ∃ a, y = .slice a 0 0) (hb : base ≤ n.next) (hn : n.st.heap.get n.next = none) :
    Less P N base n.act n.st (CAct.mk (n.tmps.set t (.row n.next r.z 0)) n.marks) ⟨ofHL (n.heap ++ [(n.next, .rows r [])]) .nil, n.next + 1⟩ := by
  refine ⟨fun i w a' hs ha => ?_, by simp only []; omega⟩
  have hfree : i.free n.next := hs.fresh n.next (Nat.le_refl _)
  obtain ⟨R', S'⟩ := hs.rel.newVoid 0 hn hfree r
  have hheap : (ofHL (n.heap ++ [(n.next, CObj.rows r [])]) .nil).get = fset n.st.heap.get n.next (.rows r []) := by
    rw [ofHL_append]; simp only [ofHL]; rw [get_fset]; rfl
  have hle := le_updVoid i n.next
  refine ⟨updVoid i n.next, ⟨by show Rel P N _ (ofHL _ .nil).get w; rw [hheap]; exact R', fun b hb => ?_⟩, ⟨?_, ha.marks.mono hle⟩, fun b hb => ⟨rfl, ?_⟩, rfl, rfl, ?_⟩
  · simp only [] at hb
    have := hs.fresh b (by show n.next ≤ b; omega)
    exact ⟨this.1, by simp only [updVoid]; rw [if_neg (by omega)]; exact this.2⟩
  · obtain ⟨y, hy, hvy⟩ := ha.tmps.get hv
    obtain ⟨a, rfl⟩ := hnil hvy
    have h1 := (ha.tmps.mono hle).set t (x := .row n.next r.z 0) (y := .slice a 0 0) (.rowVoid (by simp [updVoid]))
    have h2 : a'.tmps.toList.set t (.slice a 0 0) = a'.tmps.toList := by
      have ht : t < a'.tmps.toList.length := (List.getElem?_eq_some_iff.1 hy).1
      have : a'.tmps.toList[t] = .slice a 0 0 := (List.getElem?_eq_some_iff.1 hy).2
      rw [← this]; exact List.set_getElem_self ht
    rw [h2] at h1
    exact h1
  · simp only [updVoid]; rw [if_neg (by omega)]
  · rintro B ⟨b, o, g, h1, h2, h3, h4, h5⟩
    have h4 : i b = some g := h4
    have hne : b ≠ n.next := fun e => by subst e; rw [hfree.1] at h4; cases h4
    simp only [] at h2
    rw [hheap, fset_ne _ _ hne] at h2
    exact ⟨b, o, g, h1, h2, h3, h4, h5⟩

theorem recell {j : Inj} {h : HF} {w : World} {b e m : Nat} {vs vs' : List CV} (R : Rel P N j h w) (hb : h b = some (.cells vs e m)) (hvs : ∀ ys, LRel j vs ys → LRel j vs' ys) (hlen : vs'.length = vs.length) :
    Rel P N j (fset h b (.cells vs' e m)) w := by
  have hget : ∀ c o, fset h b (.cells vs' e m) c = some o → ∃ o0, h c = some o0 ∧ wr o0 = wr o ∧ live o0 = live o := by
    intro c o hc
    by_cases hcb : c = b
    · subst hcb; rw [fset_eq] at hc; cases hc; exact ⟨_, hb, rfl, rfl⟩
    · rw [fset_ne _ _ hcb] at hc; exact ⟨o, hc, rfl, rfl⟩
  refine ⟨fun c o g hc hg => ?_, fun c c' o o' g g' hne hc hc' hg hg' hw hl => ?_, R.bnd, R.hN, R.imm, fun c o g hc hg hw => ?_, fun c hc => ?_⟩
  · by_cases hcb : c = b
    · subst hcb; rw [fset_eq] at hc; cases hc
      obtain ⟨h1, h2, h3, ⟨ys, h4, h5⟩, h6⟩ := R.obj c _ g hb hg
      exact ⟨by rw [hlen]; exact h1, h2, h3, ⟨ys, hvs _ h4, h5⟩, fun hm => by rw [hlen]; exact h6 hm⟩
    · rw [fset_ne _ _ hcb] at hc; exact R.obj c o g hc hg
  · obtain ⟨o0, q1, q2, q3⟩ := hget c o hc
    obtain ⟨o1, q4, q5, q6⟩ := hget c' o' hc'
    exact R.sep c c' o0 o1 g g' hne q1 q4 hg hg' (by rw [q2]; exact hw) (by rw [q6]; exact hl)
  · obtain ⟨o0, q1, q2, q3⟩ := hget c o hc
    exact R.ims c o0 g q1 hg (by rw [q2]; exact hw)
  · obtain ⟨q1, q2⟩ := R.void c hc
    refine ⟨q1, fun r l hrl => ?_⟩
    by_cases hcb : c = b
    · subst hcb; rw [fset_eq] at hrl; cases hrl
    · rw [fset_ne _ _ hcb] at hrl; exact q2 r l hrl

theorem voidCell_less {base b o e m : Nat} {r : RC} {n : NSt} {vs : List CV} {v : CV} (hc : n.st.heap.get b = some (.cells vs e m)) (hv : vs[o]? = some v) (hnil : ∀ {i : Inj} {y : Value}, VRel i v y → ∃ a, y = .slice a 0 0) (hb : base ≤ n.next) (hn : n.st.heap.get n.next = none) :
    Less P N base n.act n.st n.act ⟨ofHL (n.heap ++ [(n.next, .rows r []), (b, .cells (vs.set o (.row n.next r.z 0)) e m)]) .nil, n.next + 1⟩ := by
  refine ⟨fun i w a' hs ha => ?_, by simp only []; omega⟩
  have hfree : i.free n.next := hs.fresh n.next (Nat.le_refl _)
  obtain ⟨R', S'⟩ := hs.rel.newVoid 0 hn hfree r
  have hbn : b ≠ n.next := fun e => by subst e; rw [hn] at hc; cases hc
  have hheap : (ofHL (n.heap ++ [(n.next, CObj.rows r []), (b, .cells (vs.set o (.row n.next r.z 0)) e m)]) .nil).get = fset (fset n.st.heap.get n.next (.rows r [])) b (.cells (vs.set o (.row n.next r.z 0)) e m) := by
    rw [ofHL_append]; simp only [ofHL]; rw [get_fset, get_fset]; rfl
  have hle := le_updVoid i n.next
  have R2 := recell (b := b) (e := e) (m := m) (vs := vs) (vs' := vs.set o (.row n.next r.z 0)) R' (by rw [fset_ne _ _ hbn]; exact hc) (fun ys hys => by
    obtain ⟨y, hy, hvy⟩ := hys.get hv
    obtain ⟨a, rfl⟩ := hnil hvy
    have h1 := hys.set o (x := .row n.next r.z 0) (y := .slice a 0 0) (.rowVoid (by simp [updVoid]))
    have h2 : ys.set o (.slice a 0 0) = ys := by
      have ht : o < ys.length := (List.getElem?_eq_some_iff.1 hy).1
      have : ys[o] = .slice a 0 0 := (List.getElem?_eq_some_iff.1 hy).2
      rw [← this]; exact List.set_getElem_self ht
    rw [h2] at h1
    exact h1) (by simp)
  refine ⟨updVoid i n.next, ⟨by show Rel P N _ (ofHL _ .nil).get w; rw [hheap]; exact R2, fun c hc => ?_⟩, ⟨ha.tmps.mono hle, ha.marks.mono hle⟩, fun c hc => ⟨rfl, ?_⟩, rfl, rfl, ?_⟩
  · simp only [] at hc
    have := hs.fresh c (by show n.next ≤ c; omega)
    exact ⟨this.1, by simp only [updVoid]; rw [if_neg (by omega)]; exact this.2⟩
  · simp only [updVoid]; rw [if_neg (by omega)]
  · rintro B ⟨c, ob, g, h1, h2, h3, h4, h5⟩
    have h4 : i c = some g := h4
    have hne : c ≠ n.next := fun e => by subst e; rw [hfree.1] at h4; cases h4
    simp only [] at h2
    rw [hheap] at h2
    by_cases hcb : c = b
    · subst hcb; rw [fset_eq] at h2; cases h2; exact ⟨c, _, g, h1, hc, h3, h4, h5⟩
    · rw [fset_ne _ _ hcb, fset_ne _ _ hne] at h2; exact ⟨c, ob, g, h1, h2, h3, h4, h5⟩

def nilS : CV → Bool
  | .slice none 0 0 => true
  | .empty => true
  | _ => false
theorem nilS_inv {v : CV} (h : nilS v = true) {i : Inj} {y : Value} (hv : VRel i v y) : ∃ a, y = .slice a 0 0 := by
  unfold nilS at h
  split at h
  · exact ⟨_, hv.nilSlice_inv.2.2⟩
  · exact hv.empty_inv
  · cases h
def voidAt (b o : Nat) : Nat := 1000 + 1000 * b + o

def plConv (r : RC) : CV → CV
  | .agg ⟨[a, b, c]⟩ => bif nilS c then .agg ⟨[a, b, .pl .ints []]⟩ else .agg ⟨[a, b, c]⟩
  | v => bif nilS v then .pl r [] else v
theorem nilS_pl {v : CV} (h : nilS v = true) {r : RC} {i : Inj} {y : Value} (hv : VRel i v y) : VRel i (.pl r []) y := by
  obtain ⟨a, rfl⟩ := nilS_inv h hv
  exact .plNil
theorem plConv_rel (r : RC) {v : CV} {i : Inj} {y : Value} (hv : VRel i v y) : VRel i (plConv r v) y := by
  unfold plConv
  split
  · rename_i a b c
    cases hz : nilS c with
    | false => exact hv
    | true =>
      simp only [cond_true]
      obtain ⟨bs, rfl, hl⟩ := hv.agg_inv
      obtain ⟨y1, t1, e1, h1, hl1⟩ := hl.cons_inv
      obtain ⟨y2, t2, e2, h2, hl2⟩ := hl1.cons_inv
      obtain ⟨y3, t3, e3, h3, hl3⟩ := hl2.cons_inv
      subst e3; subst e2
      have : bs = ⟨y1 :: y2 :: y3 :: t3⟩ := by cases bs; simpa using e1
      rw [this]
      exact VRel.agg' (bs := y1 :: y2 :: y3 :: t3) (.cons h1 (.cons h2 (.cons (nilS_pl hz h3) hl3)))
  · cases hz : nilS v with
    | false => exact hv
    | true => simp only [cond_true]; exact nilS_pl hz hv
theorem plT_less {base t : Nat} {r : RC} {n : NSt} {v : CV} (hv : n.tmps[t]? = some v) (hb : base ≤ n.next) : Less P N base n.act n.st (CAct.mk (n.tmps.set t (plConv r v)) n.marks) n.st := by
  refine ⟨fun i w a' hs ha => ⟨i, hs, ⟨?_, ha.marks⟩, fun _ _ => ⟨rfl, rfl⟩, rfl, rfl, fun _ h => h⟩, hb⟩
  obtain ⟨y, hy, hvy⟩ := ha.tmps.get hv
  have h1 := ha.tmps.set t (x := plConv r v) (y := y) (plConv_rel r hvy)
  have h2 : a'.tmps.toList.set t y = a'.tmps.toList := by
    have ht : t < a'.tmps.toList.length := (List.getElem?_eq_some_iff.1 hy).1
    have : a'.tmps.toList[t] = y := (List.getElem?_eq_some_iff.1 hy).2
    rw [← this]; exact List.set_getElem_self ht
  rw [h2] at h1
  exact h1
theorem plCell_less {base b o e m : Nat} {r : RC} {n : NSt} {vs : List CV} {v : CV} (hc : n.st.heap.get b = some (.cells vs e m)) (hv : vs[o]? = some v) (hb : base ≤ n.next) :
    Less P N base n.act n.st n.act ⟨ofHL (n.heap ++ [(b, .cells (vs.set o (plConv r v)) e m)]) .nil, n.next⟩ := by
  have hheap : (ofHL (n.heap ++ [(b, CObj.cells (vs.set o (plConv r v)) e m)]) .nil).get = fset n.st.heap.get b (.cells (vs.set o (plConv r v)) e m) := by
    rw [ofHL_append]; simp only [ofHL]; rw [get_fset]; rfl
  refine ⟨fun i w a' hs ha => ⟨i, ⟨?_, hs.fresh⟩, ha, fun _ _ => ⟨rfl, rfl⟩, rfl, rfl, ?_⟩, hb⟩
  · rw [hheap]
    refine recell (vs := vs) hs.rel hc (fun ys hys => ?_) (by simp)
    obtain ⟨y, hy, hvy⟩ := hys.get hv
    have h1 := hys.set o (x := plConv r v) (y := y) (plConv_rel r hvy)
    have h2 : ys.set o y = ys := by
      have ht : o < ys.length := (List.getElem?_eq_some_iff.1 hy).1
      have : ys[o] = y := (List.getElem?_eq_some_iff.1 hy).2
      rw [← this]; exact List.set_getElem_self ht
    rw [h2] at h1
    exact h1
  · rintro B ⟨c, ob, g, h1, h2, h3, h4, h5⟩
    simp only [] at h2
    rw [hheap] at h2
    by_cases hcb : c = b
    · subst hcb; rw [fset_eq] at h2; cases h2; exact ⟨c, _, g, h1, hc, h3, h4, h5⟩
    · rw [fset_ne _ _ hcb] at h2; exact ⟨c, ob, g, h1, h2, h3, h4, h5⟩
def voidC (base : Nat) : List (Nat × RC) → NSt → NSt
  | [], n => n
  | (t, r) :: q, n => bif Nat.blt t 1000 then match n.tmps[t]?, n.st.heap.get n.next with
    | some (.slice none 0 0), none => voidC base q { n with tmps := n.tmps.set t (.row n.next r.z 0), heap := n.heap ++ [(n.next, .rows r [])], next := n.next + 1 }
    | some .empty, none => voidC base q { n with tmps := n.tmps.set t (.row n.next r.z 0), heap := n.heap ++ [(n.next, .rows r [])], next := n.next + 1 }
    | _, _ => voidC base q n
    else bif Nat.ble 2000000 t then match n.st.heap.get ((t - 2000000) / 1000) with
    | some (.cells vs e m) => match vs[(t - 2000000) % 1000]? with
      | some v => voidC base q { n with heap := n.heap ++ [((t - 2000000) / 1000, .cells (vs.set ((t - 2000000) % 1000) (plConv r v)) e m)] }
      | none => voidC base q n
    | _ => voidC base q n
    else bif Nat.ble 1000000 t then match n.tmps[t - 1000000]? with
    | some v => voidC base q { n with tmps := n.tmps.set (t - 1000000) (plConv r v) }
    | none => voidC base q n
    else match n.st.heap.get ((t - 1000) / 1000), n.st.heap.get n.next with
    | some (.cells vs e m), none => match vs[(t - 1000) % 1000]? with
      | some v => bif nilS v then voidC base q { n with heap := n.heap ++ [(n.next, .rows r []), ((t - 1000) / 1000, .cells (vs.set ((t - 1000) % 1000) (.row n.next r.z 0)) e m)], next := n.next + 1 } else voidC base q n
      | none => voidC base q n
    | _, _ => voidC base q n

theorem less_refl {base : Nat} {a : CAct} {s : CSt} (hb : base ≤ s.next) : Less P N base a s a s :=
  ⟨fun i w a' hs ha => ⟨i, hs, ha, fun _ _ => ⟨rfl, rfl⟩, rfl, rfl, fun _ h => h⟩, hb⟩

theorem voidC_less {base : Nat} : ∀ (q : List (Nat × RC)) (n : NSt), base ≤ n.next → Less P N base n.act n.st (voidC base q n).act (voidC base q n).st
  | [], n, hb => less_refl hb
  | (t, r) :: q, n, hb => by
    unfold voidC
    cases Nat.blt t 1000 with
    | true =>
      simp only [cond_true]
      split
      · rename_i hv hn
        exact (void_less (r := r) hv (fun h => ⟨_, h.nilSlice_inv.2.2⟩) hb hn).trans (voidC_less q ⟨_, _, _, _⟩ (Nat.le_succ_of_le hb))
      · rename_i hv hn
        exact (void_less (r := r) hv (fun h => h.empty_inv) hb hn).trans (voidC_less q ⟨_, _, _, _⟩ (Nat.le_succ_of_le hb))
      · exact voidC_less q n hb
    | false =>
      simp only [cond_false]
      cases Nat.ble 2000000 t with
      | true =>
        simp only [cond_true]
        split
        · rename_i vs e m hc
          split
          · rename_i v hv; exact (plCell_less (r := r) hc hv hb).trans (voidC_less q { n with heap := n.heap ++ [((t - 2000000) / 1000, .cells (vs.set ((t - 2000000) % 1000) (plConv r v)) e m)] } hb)
          · exact voidC_less q n hb
        · exact voidC_less q n hb
      | false =>
      simp only [cond_false]
      cases Nat.ble 1000000 t with
      | true =>
        simp only [cond_true]
        split
        · rename_i v hv; exact (plT_less (r := r) hv hb).trans (voidC_less q { n with tmps := n.tmps.set (t - 1000000) (plConv r v) } hb)
        · exact voidC_less q n hb
      | false =>
      simp only [cond_false]
      split
      · rename_i vs e m hc hn
        split
        · rename_i v hv
          cases hz : nilS v with
          | true => simp only [cond_true]; exact (voidCell_less (r := r) hc hv (fun h => nilS_inv hz h) hb hn).trans (voidC_less q ⟨_, _, _, _⟩ (Nat.le_succ_of_le hb))
          | false => simp only [cond_false]; exact voidC_less q n hb
        · exact voidC_less q n hb
      · exact voidC_less q n hb

mutual
def stripV : CV → CV
  | .row b z n => .row b z 0
  | .func f as cs => .func f (stripA as) (stripA cs)
  | .iface t v => .iface t (stripV v)
  | .agg as => .agg (stripA as)
  | .tuple as => .tuple (stripA as)
  | .kptr cs => .kptr (stripL cs)
  | .bool b => .bool b
  | .int k n => .int k n
  | .string s => .string s
  | .pointer a => .pointer a
  | .slice a n c => .slice a n c
  | .map r => .map r
  | .nilFunc => .nilFunc
  | .nilIface => .nilIface
  | .junk => .junk
  | .pl r l => .pl r l
  | .rptr b z i j => .rptr b z i j
  | .win b z s n c => .win b z s n c
  | .empty => .empty
  | .nnil => .nnil
def stripA : Array CV → Array CV
  | ⟨l⟩ => ⟨stripL l⟩
def stripL : List CV → List CV
  | [] => []
  | v :: r => stripV v :: stripL r
end
mutual
def expV (h : HF) : CV → CV
  | .row b z n => match h b with
    | some (.rows r l) => bif Nat.beq z r.z then .row b z l.length else .junk
    | _ => .junk
  | .func f as cs => .func f (expA h as) (expA h cs)
  | .iface t v => .iface t (expV h v)
  | .agg as => .agg (expA h as)
  | .tuple as => .tuple (expA h as)
  | .kptr cs => .kptr (expL h cs)
  | .bool b => .bool b
  | .int k n => .int k n
  | .string s => .string s
  | .pointer a => .pointer a
  | .slice a n c => .slice a n c
  | .map r => .map r
  | .nilFunc => .nilFunc
  | .nilIface => .nilIface
  | .junk => .junk
  | .pl r l => .pl r l
  | .rptr b z i j => .rptr b z i j
  | .win b z s n c => .win b z s n c
  | .empty => .empty
  | .nnil => .nnil
def expA (h : HF) : Array CV → Array CV
  | ⟨l⟩ => ⟨expL h l⟩
def expL (h : HF) : List CV → List CV
  | [] => []
  | v :: r => expV h v :: expL h r
end
def stripO : CObj → CObj
  | .cells vs e m => .cells (stripL vs) e m
  | .loop st pe fn tms po de => .loop st pe fn (stripL tms) po de
  | o => o
def expO (h : HF) : CObj → CObj
  | .cells vs e m => .cells (expL h vs) e m
  | .loop st pe fn tms po de => .loop st pe fn (expL h tms) po de
  | o => o
def mapHL (f : CObj → CObj) : HL → HL
  | [] => []
  | (b, o) :: r => (b, f o) :: mapHL f r

def NSt.fin (n : NSt) : NSt := { tmps := stripL n.tmps, marks := n.marks, heap := mapHL stripO n.heap, next := n.next }
def NSt.fact (n : NSt) : CAct := ⟨expL (ofHL n.heap .nil).get n.tmps, n.marks⟩
def NSt.fst (n : NSt) : CSt := ⟨ofHL (mapHL (expO (ofHL n.heap .nil).get) n.heap) .nil, n.next⟩

theorem stripL_eq : ∀ l, stripL l = l.map stripV
  | [] => rfl
  | v :: r => by simp only [stripL, List.map_cons, stripL_eq r]
theorem expL_eq (h : HF) : ∀ l, expL h l = l.map (expV h)
  | [] => rfl
  | v :: r => by simp only [expL, List.map_cons, expL_eq h r]

theorem mapHL_get (f : CObj → CObj) : ∀ (l : HL) (t t' : Tr CObj) (b : Nat), t'.get b = (t.get b).map f → (ofHL (mapHL f l) t').get b = ((ofHL l t).get b).map f
  | [], t, t', b, h => h
  | (c, o) :: r, t, t', b, h => by
    simp only [mapHL, ofHL]
    refine mapHL_get f r _ _ b ?_
    rw [Tr.get_set, Tr.get_set]
    split
    · rfl
    · exact h

structure RowsAs (h h2 : HF) : Prop where
  rows : ∀ b r l, h2 b = some (.rows r l) → h b = some (.rows r l)

theorem VRel.fin {i : Inj} {h h2 : HF} {w : World} (R : Rel P N i h w) (hh : RowsAs h h2) {x : CV} {y : Value} (hv : VRel i x y) : VRel i (expV h2 (stripV x)) y := by
  have hrow : ∀ {b z n : Nat} {y : Value}, VRel i (.row b z n) y → VRel i (expV h2 (stripV (.row b z n))) y := by
    intro b z n y hv
    simp only [stripV, expV]
    split
    · rename_i r l hb
      rw [nbeq]
      by_cases hz : z = r.z
      · simp only [hz, decide_true, cond_true]
        have hb' := hh.rows b r l hb
        rcases hv.row_inv with ⟨g, a', cap', rfl, hg, hgz, hs, hcap, ha⟩ | ⟨rfl, hvd, a, rfl⟩
        · have hn := row_len R hb' hg hz hs
          subst hn
          rw [← hz]
          exact .row hg hgz hs hcap ha
        · have hl := (R.void b hvd).2 r l hb'
          subst hl
          exact .rowVoid hvd
      · simp only [hz, decide_false, cond_false]; exact .junk y
    · exact .junk y
  induction hv with
  | bool b => exact .bool b
  | int k n => exact .int k n
  | string s => exact .string s
  | nilFunc => exact .nilFunc
  | nilIface => exact .nilIface
  | nilPtr => exact .nilPtr
  | nilMap => exact .nilMap
  | ptr hb => exact .ptr hb
  | nilSlice => exact .nilSlice
  | slice hb hc ha hl => exact .slice hb hc ha hl
  | map hb => exact .map hb
  | func h1 h2' h3 h4 i2 i4 =>
    simp only [stripV, stripA, expV, expA, stripL_eq, expL_eq]
    refine .func (by simp [h1]) (fun k x y hx hy => ?_) (by simp [h3]) (fun k x y hx hy => ?_)
    · simp only [List.getElem?_map, Option.map_map] at hx
      obtain ⟨x0, hx0, rfl⟩ := Option.map_eq_some_iff.1 hx
      exact i2 k x0 y hx0 hy
    · simp only [List.getElem?_map, Option.map_map] at hx
      obtain ⟨x0, hx0, rfl⟩ := Option.map_eq_some_iff.1 hx
      exact i4 k x0 y hx0 hy
  | yield hb => exact .yield hb
  | iface _ ih => exact .iface ih
  | agg h1 _ i2 =>
    simp only [stripV, stripA, expV, expA, stripL_eq, expL_eq]
    refine .agg (by simp [h1]) (fun k x y hx hy => ?_)
    simp only [List.getElem?_map, Option.map_map] at hx
    obtain ⟨x0, hx0, rfl⟩ := Option.map_eq_some_iff.1 hx
    exact i2 k x0 y hx0 hy
  | tuple h1 _ i2 =>
    simp only [stripV, stripA, expV, expA, stripL_eq, expL_eq]
    refine .tuple (by simp [h1]) (fun k x y hx hy => ?_)
    simp only [List.getElem?_map, Option.map_map] at hx
    obtain ⟨x0, hx0, rfl⟩ := Option.map_eq_some_iff.1 hx
    exact i2 k x0 y hx0 hy
  | junk v => exact .junk v
  | pl h1 h2' h3 hc ha ih => exact .pl h1 h2' h3 hc ha
  | plNil h => exact .plNil h
  | @kptr cs B o ys h1 h2' h3 ih =>
    simp only [stripV, expV, stripL_eq, expL_eq]
    refine .kptr (ys := ys) (by simp [h1]) h2' (fun k x y hx hy => ?_)
    simp only [List.getElem?_map, Option.map_map] at hx
    obtain ⟨x0, hx0, rfl⟩ := Option.map_eq_some_iff.1 hx
    exact ih k x0 y hx0 hy
  | rptr hb hz => exact .rptr hb hz
  | row hb hz hs hc ha => exact hrow (.row hb hz hs hc ha)
  | rowVoid hv => exact hrow (.rowVoid hv)
  | win hb hz hc ha hl hle => exact .win hb hz hc ha hl hle
  | winVoid => exact .winVoid
  | empty => exact .empty
  | nnil => exact .nnil

theorem LRel.fin {i : Inj} {h h2 : HF} {w : World} (R : Rel P N i h w) (hh : RowsAs h h2) {xs : List CV} {ys : List Value} (hv : LRel i xs ys) : LRel i (expL h2 (stripL xs)) ys :=
  ⟨by rw [expL_eq, stripL_eq, List.length_map, List.length_map, hv.len], fun k x y hx hy => by
    rw [expL_eq, stripL_eq] at hx
    simp only [List.getElem?_map, Option.map_map] at hx
    obtain ⟨x0, hx0, rfl⟩ := Option.map_eq_some_iff.1 hx
    exact (hv.at_ k x0 y hx0 hy).fin R hh⟩

theorem less_fin {base : Nat} {n : NSt} (hb : base ≤ n.next) : Less P N base n.act n.st n.fin.fact n.fin.fst := by
  refine ⟨fun i w a' hs ha => ?_, hb⟩
  have hget0 : ∀ b, (ofHL (mapHL stripO n.heap) .nil).get b = (n.st.heap.get b).map stripO := fun b => mapHL_get stripO n.heap .nil .nil b rfl
  have hrows : RowsAs n.st.heap.get (ofHL (mapHL stripO n.heap) .nil).get := ⟨fun b r l hb => by
    rw [hget0] at hb
    obtain ⟨o, ho, he⟩ := Option.map_eq_some_iff.1 hb
    cases o <;> simp only [stripO] at he <;> first | (cases he; done) | skip
    cases he; exact ho⟩
  have hget : ∀ b, n.fin.fst.heap.get b = ((n.st.heap.get b).map stripO).map (expO (ofHL (mapHL stripO n.heap) .nil).get) := fun b => by
    show (ofHL (mapHL (expO (ofHL (mapHL stripO n.heap) .nil).get) (mapHL stripO n.heap)) .nil).get b = _
    rw [mapHL_get (expO (ofHL (mapHL stripO n.heap) .nil).get) (mapHL stripO n.heap) .nil .nil b rfl, hget0]
  have hinv : ∀ {b o}, n.fin.fst.heap.get b = some o → ∃ o', n.st.heap.get b = some o' ∧ o = expO (ofHL (mapHL stripO n.heap) .nil).get (stripO o') := by
    intro b o h
    rw [hget, Option.map_map] at h
    obtain ⟨o', h1, h2⟩ := Option.map_eq_some_iff.1 h
    exact ⟨o', h1, h2.symm⟩
  have hwr : ∀ {o'}, wr (expO (ofHL (mapHL stripO n.heap) .nil).get (stripO o')) = wr o' := fun {o'} => by cases o' <;> rfl
  have hlv : ∀ {o'}, live (expO (ofHL (mapHL stripO n.heap) .nil).get (stripO o')) = live o' := fun {o'} => by cases o' <;> rfl
  refine ⟨i, ⟨⟨?_, ?_, hs.rel.bnd, hs.rel.hN, hs.rel.imm, ?_, ?_⟩, hs.fresh⟩, ⟨ha.tmps.fin hs.rel hrows, ha.marks⟩, fun _ _ => ⟨rfl, rfl⟩, rfl, rfl, ?_⟩
  · intro b o g hb hg
    obtain ⟨o', h1, rfl⟩ := hinv hb
    have ho := hs.rel.obj b o' g h1 hg
    cases o' with
    | cells vs e m =>
      obtain ⟨q1, q2, q3, ⟨vs', q4, q5⟩, q6⟩ := ho
      exact ⟨by rw [q1, expL_eq, stripL_eq, List.length_map, List.length_map], q2, q3, ⟨vs', q4.fin hs.rel hrows, q5⟩, fun hm => by rw [expL_eq, stripL_eq, List.length_map, List.length_map]; exact q6 hm⟩
    | rows r l => exact ho
    | map es => exact ho
    | keys l => exact ho
    | loop st pe fn tms po de =>
      obtain ⟨q1, f0, ps, asg, bd, fn', tms', gd, q2, q3, q4, q5⟩ := ho
      exact ⟨q1, f0, ps, asg, bd, fn', tms', gd, q2, q3, q4.fin hs.rel hrows, q5⟩
    | defs => exact ho
    | dead => trivial
  · intro b b' o o' g g' hne hb hb' hg hg' hw hl
    obtain ⟨p, h1, rfl⟩ := hinv hb
    obtain ⟨p', h1', rfl⟩ := hinv hb'
    exact hs.rel.sep b b' p p' g g' hne h1 h1' hg hg' (by rw [← hwr]; exact hw) (by rw [← hlv]; exact hl)
  · intro b o g hb hg hw k
    obtain ⟨p, h1, rfl⟩ := hinv hb
    exact hs.rel.ims b p g h1 hg (by rw [← hwr]; exact hw) k
  · intro b hb
    refine ⟨(hs.rel.void b hb).1, fun r l hl => ?_⟩
    obtain ⟨p, h1, h2⟩ := hinv hl
    cases p <;> simp only [stripO, expO] at h2 <;> first | (cases h2; done) | skip
    cases h2; exact (hs.rel.void b hb).2 _ _ h1
  · rintro B ⟨b, o, g, h1, h2, h3, h4, h5⟩
    obtain ⟨p, h6, rfl⟩ := hinv h2
    exact ⟨b, p, g, h1, h6, by rw [← hwr]; exact h3, h4, h5⟩

def nz0 (base mask : Nat) (voids : List (Nat × RC)) (a : CAct) (s : CSt) : Option NSt :=
  match norm base mask (reached base mask a s) a s with
  | some n => match voids with
    | [] => some n
    | _ => let m := voidC base voids n
      norm base mask (reached base mask m.act m.st) m.act m.st
  | none => none
def nz (base mask : Nat) (voids : List (Nat × RC)) (a : CAct) (s : CSt) : Option NSt :=
  match nz0 base mask voids a s with
  | some n => some n.fin
  | none => none

theorem nz0_less {base mask : Nat} {voids : List (Nat × RC)} {a : CAct} {s : CSt} {n : NSt} (e : nz0 base mask voids a s = some n) : Less P N base a s n.act n.st := by
  unfold nz0 at e
  split at e
  · rename_i m hm
    have h1 : Less P N base a s m.act m.st := norm_less hm
    split at e
    · cases e; exact h1
    · exact (h1.trans (voidC_less _ _ h1.nx)).trans (norm_less e)
  · cases e

theorem nz_less {base mask : Nat} {voids : List (Nat × RC)} {a : CAct} {s : CSt} {n : NSt} (e : nz base mask voids a s = some n) : Less P N base a s n.fact n.fst := by
  unfold nz at e
  split at e
  · rename_i m hm
    cases e
    have h1 : Less P N base a s m.act m.st := nz0_less hm
    exact h1.trans (less_fin h1.nx)
  · cases e

structure LStep (P : Program) (N base : Nat) (i : Inj) (s : CSt) (w : World) (j : Inj) (s' : CSt) (w' : World) : Prop where
  srel : SRel P N j s' w'
  size : w.heap.size ≤ w'.heap.size
  os : w'.os = w.os
  tape : w'.tape = w.tape
  output : w'.output = w.output
  frame : ∀ B, B < w.heap.size → ¬ Touch 0 i s.heap.get B → w'.heap[B]? = w.heap[B]?
  touch : ∀ B, B < w.heap.size → Touch 0 j s'.heap.get B → Touch 0 i s.heap.get B
  immn : ∀ B k v, B < w.heap.size → j.imm B k = some v → i.imm B k = some v ∨ Touch 0 i s.heap.get B
  low : ∀ b, b < base → j b = i b ∧ j.void b = i.void b
  imm : ∀ B k v, i.imm B k = some v → j.imm B k = some v
  old : j.old = i.old

theorem LStep.trans {base : Nat} {i j k : Inj} {s s' s'' : CSt} {w w' w'' : World} (a : LStep P N base i s w j s' w') (b : LStep P N base j s' w' k s'' w'') : LStep P N base i s w k s'' w'' where
  srel := b.srel
  size := Nat.le_trans a.size b.size
  os := b.os.trans a.os
  tape := b.tape.trans a.tape
  output := b.output.trans a.output
  frame := fun B hB ht => (b.frame B (Nat.lt_of_lt_of_le hB a.size) (fun h1 => ht (a.touch B hB h1))).trans (a.frame B hB ht)
  touch := fun B hB h1 => a.touch B hB (b.touch B (Nat.lt_of_lt_of_le hB a.size) h1)
  immn := fun B k v hB h1 => match b.immn B k v (Nat.lt_of_lt_of_le hB a.size) h1 with
    | .inl h2 => a.immn B k v hB h2
    | .inr h2 => .inr (a.touch B hB h2)
  low := fun c hc => ⟨(b.low c hc).1.trans (a.low c hc).1, (b.low c hc).2.trans (a.low c hc).2⟩
  imm := fun B n v hv => b.imm B n v (a.imm B n v hv)
  old := b.old.trans a.old

theorem After.lstep {base : Nat} {i j : Inj} {s s' : CSt} {w w' : World} (h : After P N 0 i s w j s' w') (hb : base ≤ s.next) : LStep P N base i s w j s' w' :=
  ⟨h.srel, h.step.size, h.step.os, h.step.tape, h.step.output, h.step.frame, h.step.touch, h.step.immn, fun b hlt => h.low b (by omega), h.step.ext.imm, h.step.ext.old⟩

def loopN (S : Self) (L : List (Nat × List Nat × LoopFn)) (P : Program) (round : Option Nat) (fn : FuncId) (p : List Nat) (x : Code) (base mask mask2 : Nat) (voids : List (Nat × RC)) : Nat → NSt → Option (CEx × NSt)
  | 0, _ => none
  | k + 1, n => match execC L S P 0 round fn p x n.fact n.fst with
    | some (.normal, a1, s1) => match nz base mask voids a1 s1 with
      | some m => loopN S L P round fn p x base mask mask2 voids k m
      | none => none
    | some (e, a1, s1) => match nz base mask2 [] a1 s1 with
      | some m => some (e, m)
      | none => none
    | none => none

def LPost (P : Program) (N base : Nat) (i : Inj) (s : CSt) (w : World) (e : CEx) (n : NSt) : Exit → Act → World → Prop :=
  fun ex a' w' => ∃ j, ex = toExit e ∧ ActRel j n.fact a' ∧ LStep P N base i s w j n.fst w' ∧ base ≤ n.next

theorem RdRel.low {base : Nat} {i j : Inj} {round rd : Option Nat} (h : RdRel i round rd) (hlow : ∀ b, b < base → j b = i b) (hr : ∀ l, round = some l → l < base) : RdRel j round rd :=
  h.imp (fun h => h) fun ⟨l, g, h1, h2, h3⟩ => ⟨l, g, h1, (hlow l (hr l h1)).trans h2, h3⟩

theorem loopN_sound (hP : plainNames P = true) (hM : P.follows .mixedOrders = true) {E : List (Nat × ExtFn)} (hE : ExtsOk P N E) {L : List (Nat × List Nat × LoopFn)} (hL : LoopsOk P N L) {K : Nat} {round : Option Nat} {fn : FuncId} {p : List Nat} {x : Code} {base mask mask2 : Nat} {voids : List (Nat × RC)}
    (hcode : codeAt P fn p = some x) (hr : ∀ l, round = some l → l < base) : ∀ (k : Nat) (n : NSt) (e : CEx) (n2 : NSt), loopN (den P E L K) L P round fn p x base mask mask2 voids k n = some (e, n2) → base ≤ n.next →
    ∀ (i : Inj) (w : World) (a' : Act) (rd : Option Nat), SRel P N i n.fst w → ActRel i n.fact a' → RdRel i round rd → ∀ m, x.wpIn (FW rd) m P (Exit.then (InLoop (FW rd) m P x (LPost P N base i n.fst w e n2)) (LPost P N base i n.fst w e n2)) a' w
  | 0, n, e, n2, h, hb, i, w, a', rd, hs, ha, hrd, m => by simp [loopN] at h
  | k + 1, n, e, n2, h, hb, i, w, a', rd, hs, ha, hrd, m => by
    simp only [loopN] at h
    have hx := execC_sound hP hM hL (den_sound hP hM hE hL K) x
    split at h
    · rename_i a1 s1 h1
      split at h
      · rename_i n1 hn
        refine wpIn_mono (hx 0 round fn p _ _ _ _ _ hcode h1 i w a' rd hs ha hrd m) ?_
        rintro ex a1' w1 ⟨i1, rfl, hr1, ha1⟩
        simp only [toExit, Exit.then]
        have hl : Less P N base a1 s1 n1.fact n1.fst := nz_less hn
        obtain ⟨j, j1, j2, j3, j4, j6, j5⟩ := hl.rel i1 w1 a1' ha1.srel hr1
        have st1 : LStep P N base i n.fst w i1 s1 w1 := ha1.lstep hb
        have st2 : LStep P N base i1 s1 w1 j n1.fst w1 := ⟨j1, Nat.le_refl _, rfl, rfl, rfl, fun _ _ _ => rfl, fun B _ h => j5 B h, fun B k v _ h => .inl (by rw [← j4]; exact h), j3, fun B k v h => by rw [j4]; exact h, j6⟩
        have st := st1.trans st2
        have hrd2 : RdRel j round rd := hrd.low (fun b hb => (st.low b hb).1) hr
        refine (InLoop.round (loopN_sound hP hM hE hL hcode hr k n1 e n2 h hl.nx j w1 a1' rd j1 j2 hrd2 m)).mono ?_
        rintro ex a3' w3 ⟨j3, rfl, q1, q2, q3⟩
        exact ⟨j3, rfl, q1, st.trans q2, q3⟩
      · cases h
    · rename_i e1 a1 s1 hno h1
      split at h
      · rename_i n1 hn
        cases h
        refine wpIn_mono (hx 0 round fn p _ _ _ _ _ hcode h1 i w a' rd hs ha hrd m) ?_
        rintro ex a1' w1 ⟨i1, rfl, hr1, ha1⟩
        have hl : Less P N base a1 s1 n2.fact n2.fst := nz_less hn
        obtain ⟨j, j1, j2, j3, j4, j6, j5⟩ := hl.rel i1 w1 a1' ha1.srel hr1
        have st1 : LStep P N base i n.fst w i1 s1 w1 := ha1.lstep hb
        have st2 : LStep P N base i1 s1 w1 j n2.fst w1 := ⟨j1, Nat.le_refl _, rfl, rfl, rfl, fun _ _ _ => rfl, fun B _ h => j5 B h, fun B k v _ h => .inl (by rw [← j4]; exact h), j3, fun B k v h => by rw [j4]; exact h, j6⟩
        have hpost : LPost P N base i n.fst w e n2 (toExit e) a1' w1 := ⟨j, rfl, j2, st1.trans st2, hl.nx⟩
        cases e with
        | normal => exact (hno rfl).elim
        | exit id => exact hpost
        | ret => exact hpost
      · cases h
    · cases h

def loopFn (mask : Nat) (voids : List (Nat × RC)) (G : Nat → Option Nat → NSt → T (CEx × NSt)) : LoopFn := fun ro round a s =>
  bif Nat.beq ro 0 then
    match nz s.next mask voids a s with
    | some n => (G s.next round n).bind fun r => .ret (r.1, r.2.fact, r.2.fst)
    | none => .fail
  else .fail

theorem T.ev_bind' {α β : Type} {f : α → T β} {b : β} : ∀ (t : T α), (t.bind f).ev = some b → ∃ a, t.ev = some a ∧ (f a).ev = some b
  | .fail, h => by simp [T.bind, T.ev] at h
  | .ret a, h => ⟨a, rfl, h⟩
  | .ite c x y, h => by
    simp only [T.bind, T.ev] at h ⊢
    cases c with
    | true => exact T.ev_bind' x h
    | false => exact T.ev_bind' y h

theorem loopFn_ok (hP : plainNames P = true) (hM : P.follows .mixedOrders = true) {E : List (Nat × ExtFn)} (hE : ExtsOk P N E) {L : List (Nat × List Nat × LoopFn)} (hL : LoopsOk P N L) {fn : FuncId} {p : List Nat} {mask mask2 : Nat} {voids : List (Nat × RC)} {G : Nat → Option Nat → NSt → T (CEx × NSt)}
    (hG : ∀ x base round n r, codeAt P fn (0 :: p) = some x → (G base round n).ev = some r → ∃ K k, loopN (den P E L K) L P round fn (0 :: p) x base mask mask2 voids k n = some r) : LoopOk1 P N fn p (loopFn mask voids G) := by
  intro c ro round a s e a2 s2 hcode h i w a' rd hs ha hrd m
  unfold loopFn at h
  rw [nbeq] at h
  by_cases hro : ro = 0
  · subst hro
    simp only [decide_true, cond_true] at h
    split at h
    · rename_i n hn
      obtain ⟨⟨e1, n2⟩, h1, h2⟩ := T.ev_bind' _ h
      simp only [T.ev, Option.some.injEq, Prod.mk.injEq] at h2
      obtain ⟨rfl, rfl, rfl⟩ := h2
      have hk : codeAt P fn (0 :: p) = some c := codeAt_kid hcode rfl
      obtain ⟨K, k, hl⟩ := hG c _ _ _ _ hk h1
      have hls : Less P N s.next a s n.fact n.fst := nz_less hn
      obtain ⟨j, j1, j2, j3, j4, j6, j5⟩ := hls.rel i w a' hs ha
      have hrl : ∀ l, round = some l → l < s.next := by
        intro l hlr
        rcases hrd with ⟨h3, _⟩ | ⟨l', g, h3, h4, _⟩
        · rw [h3] at hlr; cases hlr
        · rw [h3] at hlr; cases hlr
          rcases Nat.lt_or_ge l s.next with h5 | h5
          · exact h5
          · rw [(hs.fresh l h5).1] at h4; cases h4
      have hrd2 : RdRel j round rd := hrd.low (fun b hb => (j3 b hb).1) hrl
      refine wpIn_mono (wpIn_loop_of (loopN_sound hP hM hE hL hk hrl k n e1 n2 hl hls.nx j w a' rd j1 j2 hrd2 m)) ?_
      rintro ex a3' w3 ⟨k3, rfl, q1, q2, q3⟩
      have st0 : LStep P N s.next i s w j n.fst w := ⟨j1, Nat.le_refl _, rfl, rfl, rfl, fun _ _ _ => rfl, fun B _ h => j5 B h, fun B k v _ h => .inl (by rw [← j4]; exact h), j3, fun B k v h => by rw [j4]; exact h, j6⟩
      have st := st0.trans q2
      have hlow : ∀ b, (i b).isSome = true ∨ i.void b = true → b < s.next := by
        intro b hb
        rcases Nat.lt_or_ge b s.next with h5 | h5
        · exact h5
        · rcases hb with hb | hb
          · rw [(hs.fresh b h5).1] at hb; cases hb
          · rw [(hs.fresh b h5).2] at hb; cases hb
      exact ⟨k3, rfl, q1, st.srel, ⟨⟨fun b g hb => by rw [(st.low b (hlow b (.inl (by rw [hb]; rfl)))).1]; exact hb, st.imm, fun b hb => by rw [(st.low b (hlow b (.inr hb))).2]; exact hb, st.old⟩, fun b o hb _ => absurd hb (Nat.not_lt_zero b), st.size, st.os, st.tape, st.output, st.frame, st.touch, st.immn⟩, st.low, q3⟩
    · simp [T.ev] at h
  · simp [hro, T.ev] at h

end Go.Proofs.YtecidokjhplbgaaGreatDoorD
