/-
  The reference heap beside the model's world; a step; a new object, a changed object, a grown object.
-/
import Derived.Test.YtecidokjhplbgaaGreatDoorRel
set_option linter.unusedVariables false
set_option linter.unusedSimpArgs false
namespace Go.Proofs.YtecidokjhplbgaaGreatDoorD
open Go Go.RowKit

def fset (h : HF) (b : Nat) (o : CObj) : HF := fun k => if k = b then some o else h k
theorem fset_eq (h : HF) (b : Nat) (o : CObj) : fset h b o b = some o := by simp [fset]
theorem fset_ne (h : HF) {b k : Nat} (o : CObj) (e : k ≠ b) : fset h b o k = h k := by simp [fset, e]
theorem get_fset (t : Tr CObj) (b : Nat) (o : CObj) : (t.set b o).get = fset t.get b o := by
  funext k; rw [Tr.get_set]; rfl

def wr : CObj → Bool
  | .cells _ _ m => !(Nat.beq m 2)
  | .dead => false
  | _ => true
def live : CObj → Bool
  | .dead => false
  | _ => true
theorem live_of_wr {o : CObj} (h : wr o = true) : live o = true := by cases o <;> simp_all [wr, live]

structure ERel (i : Inj) (es : List (Value × CV)) (es' : List MapEntry) : Prop where
  len : es.length = es'.length
  at_ : ∀ (k : Nat) (e : Value × CV) (e' : MapEntry), es[k]? = some e → es'[k]? = some e' → vflat e.1 = true ∧ e'.key = e.1 ∧ VRel i e.2 e'.val

def CRel (N : Nat) (i : Inj) (w : World) (g : Img) (vs : List CV) (esz m : Nat) : Prop :=
  g.size = vs.length ∧ g.esz = esz ∧ g.grown = Nat.beq m 1 ∧
      (∃ vs', LRel i vs vs' ∧ ∀ k v, vs'[k]? = some v → w.cell? ⟨g.B, g.off + k, none⟩ = some v) ∧
      (m ≠ 2 → N ≤ g.B ∧ vs.length ≤ g.total ∧ (∀ k, k < g.total → (w.cell? ⟨g.B, g.off + k, none⟩).isSome = true) ∧ ∀ k, w.frozen? ⟨g.B, k, none⟩ = false)

def ORel (P : Program) (N : Nat) (i : Inj) (w : World) (g : Img) : CObj → Prop
  | .cells vs esz m => CRel N i w g vs esz m
  | .rows r l => CRel N i w g (r.all l) r.z 1
  | .map es => N ≤ g.B ∧ ∃ es' cl, w.heap[g.B]? = some (.map es' cl) ∧ ERel i es es'.toList
  | .keys l => N ≤ g.B ∧ ∃ (es' : Array MapEntry) (cl : Nat), w.heap[g.B]? = some (.map es' cl) ∧ es'.toList.map (·.key) = l.map Value.string
  | .loop st pe fn tms pos de => N ≤ g.B ∧ ∃ (f : Operand) (ps : Array Tmp) (asg bd : Code) (fn' : FuncId) (tms' : Array Value) (gd : Img), codeAt P fn pos = some (.rangeFunc f ps asg bd) ∧
      w.heap[g.B]? = some (.loop { state := st, pending := pe, fn := fn', tmps := tms', params := ps, assign := asg, body := bd, defers := gd.B }) ∧ LRel i tms tms'.toList ∧ i de = some gd
  | .defs => N ≤ g.B ∧ w.heap[g.B]? = some (.deferred (some []))
  | .dead => True

theorem CRel.mono {N : Nat} {i j : Inj} {w w' : World} {g : Img} {vs : List CV} {e m : Nat} (hij : i.le j) (hw : w'.heap[g.B]? = w.heap[g.B]?) (h : CRel N i w g vs e m) : CRel N j w' g vs e m := by
  have hc : ∀ x : Addr, x.block = g.B → w'.cell? x = w.cell? x := fun x hx => World.cell?_of_block (by rw [hx]; exact hw)
  have hf : ∀ x : Addr, x.block = g.B → w'.frozen? x = w.frozen? x := fun x hx => World.frozen?_of_block (by rw [hx]; exact hw)
  obtain ⟨h1, h2, h3, ⟨vs', h4, h5⟩, h6⟩ := h
  refine ⟨h1, h2, h3, ⟨vs', h4.mono hij, fun k v hv => by rw [hc _ rfl]; exact h5 k v hv⟩, fun hm => ?_⟩
  obtain ⟨h7, h8, h9, h10⟩ := h6 hm
  exact ⟨h7, h8, fun k hk => by rw [hc _ rfl]; exact h9 k hk, fun k => by rw [hf _ rfl]; exact h10 k⟩

variable {P : Program}

theorem ORel.mono {N : Nat} {i j : Inj} {w w' : World} {g : Img} {o : CObj} (hij : i.le j) (hw : w'.heap[g.B]? = w.heap[g.B]?) (h : ORel P N i w g o) : ORel P N j w' g o := by
  cases o with
  | cells vs e m => exact CRel.mono hij hw h
  | rows r l => exact CRel.mono hij hw h
  | map es =>
    obtain ⟨h1, es', cl, h2, h3⟩ := h
    exact ⟨h1, es', cl, hw.trans h2, h3.len, fun k e e' he he' => let ⟨a, b, c⟩ := h3.at_ k e e' he he'; ⟨a, b, c.mono hij⟩⟩
  | keys l =>
    obtain ⟨h1, es', cl, h2, h3⟩ := h
    exact ⟨h1, es', cl, hw.trans h2, h3⟩
  | loop st pe fn tms pos de =>
    obtain ⟨h1, f, ps, asg, bd, fn', tms', gd, h2, h3, h4, h5⟩ := h
    exact ⟨h1, f, ps, asg, bd, fn', tms', gd, h2, hw.trans h3, h4.mono hij, hij.blk _ _ h5⟩
  | defs => exact ⟨h.1, hw.trans h.2⟩
  | dead => trivial

theorem ORel.ge {N : Nat} {i : Inj} {w : World} {g : Img} {o : CObj} (h : ORel P N i w g o) (hw : wr o = true) : N ≤ g.B := by
  cases o with
  | cells vs e m => exact (h.2.2.2.2 (fun e => by subst e; simp [wr] at hw)).1
  | rows r l => exact (h.2.2.2.2 (by decide)).1
  | map es => exact h.1
  | keys l => exact h.1
  | loop st pe fn tms pos de => exact h.1
  | defs => exact h.1
  | dead => simp [wr] at hw

structure Rel (P : Program) (N : Nat) (i : Inj) (h : HF) (w : World) : Prop where
  obj : ∀ b o g, h b = some o → i b = some g → ORel P N i w g o
  sep : ∀ b b' o o' g g', b ≠ b' → h b = some o → h b' = some o' → i b = some g → i b' = some g' → wr o = true → live o' = true → g.B ≠ g'.B
  bnd : ∀ b g, i b = some g → g.B < w.heap.size
  hN : N ≤ w.heap.size
  imm : ∀ B k v, i.imm B k = some v → w.cell? ⟨B, k, none⟩ = some v ∧ B < w.heap.size ∧ (N ≤ B ∨ i.old B k = some v)
  ims : ∀ b o g, h b = some o → i b = some g → wr o = true → ∀ k, i.imm g.B k = none
  void : ∀ b, i.void b = true → i b = none ∧ ∀ r l, h b = some (.rows r l) → l = []

def Touch (ro : Nat) (i : Inj) (h : HF) (B : Nat) : Prop := ∃ b o g, ro ≤ b ∧ h b = some o ∧ wr o = true ∧ i b = some g ∧ g.B = B

structure Step (ro : Nat) (i : Inj) (h : HF) (w : World) (i' : Inj) (h' : HF) (w' : World) : Prop where
  ext : i.le i'
  keep : ∀ b o, b < ro → h b = some o → h' b = some o
  size : w.heap.size ≤ w'.heap.size
  os : w'.os = w.os
  tape : w'.tape = w.tape
  output : w'.output = w.output
  frame : ∀ B, B < w.heap.size → ¬ Touch ro i h B → w'.heap[B]? = w.heap[B]?
  touch : ∀ B, B < w.heap.size → Touch ro i' h' B → Touch ro i h B
  immn : ∀ B k v, B < w.heap.size → i'.imm B k = some v → i.imm B k = some v ∨ Touch ro i h B

theorem Step.refl (ro : Nat) (i : Inj) (h : HF) (w : World) : Step ro i h w i h w :=
  ⟨Inj.le_refl i, fun _ _ _ h => h, Nat.le_refl _, rfl, rfl, rfl, fun _ _ _ => rfl, fun _ _ h => h, fun _ _ _ _ h => .inl h⟩

theorem Step.trans {ro : Nat} {i i' i'' : Inj} {h h' h'' : HF} {w w' w'' : World} (a : Step ro i h w i' h' w') (b : Step ro i' h' w' i'' h'' w'') : Step ro i h w i'' h'' w'' where
  ext := Inj.le_trans a.ext b.ext
  keep := fun k o hk ho => b.keep k o hk (a.keep k o hk ho)
  size := Nat.le_trans a.size b.size
  os := b.os.trans a.os
  tape := b.tape.trans a.tape
  output := b.output.trans a.output
  frame := fun B hB ht => (b.frame B (Nat.lt_of_lt_of_le hB a.size) (fun h1 => ht (a.touch B hB h1))).trans (a.frame B hB ht)
  touch := fun B hB h1 => a.touch B hB (b.touch B (Nat.lt_of_lt_of_le hB a.size) h1)
  immn := fun B k v hB h1 => match b.immn B k v (Nat.lt_of_lt_of_le hB a.size) h1 with
    | .inl h2 => a.immn B k v hB h2
    | .inr h2 => .inr (a.touch B hB h2)

theorem Rel.drawn {N : Nat} {i : Inj} {h : HF} {w w' : World} (R : Rel P N i h w) (e : w'.heap = w.heap) : Rel P N i h w' where
  obj := fun b o g hb hg => (R.obj b o g hb hg).mono (Inj.le_refl i) (by rw [e])
  sep := R.sep
  bnd := fun b g hg => by rw [e]; exact R.bnd b g hg
  hN := by rw [e]; exact R.hN
  imm := fun B k v hv => by rw [World.cell?_of_block (w := w) (by rw [e])]; rw [e]; exact R.imm B k v hv
  ims := R.ims
  void := R.void

theorem Step.drawn {ro : Nat} {i : Inj} {h : HF} {w w' : World} (e : w'.heap = w.heap) (h1 : w'.os = w.os) (h2 : w'.tape = w.tape) (h3 : w'.output = w.output) : Step ro i h w i h w' :=
  ⟨Inj.le_refl i, fun _ _ _ h => h, by rw [e]; exact Nat.le_refl _, h1, h2, h3, fun _ _ _ => by rw [e], fun _ _ h => h, fun _ _ _ _ h => .inl h⟩

theorem Step.below {N : Nat} {i i' : Inj} {h h' : HF} {w w' : World} {ro : Nat} (R : Rel P N i h w) (s : Step ro i h w i' h' w') : Below N w w' :=
  ⟨s.os, s.tape, s.output, s.size, fun k hk => s.frame k (Nat.lt_of_lt_of_le hk R.hN) (fun ⟨b, o, g, _, hb, hw, hg, e⟩ => by
    have := (R.obj b o g hb hg).ge hw; omega)⟩

def Inj.free (i : Inj) (b : Nat) : Prop := i b = none ∧ i.void b = false

def upd (i : Inj) (id : Nat) (g : Img) : Inj := { i with blk := fun b => if b = id then some g else i b }
theorem upd_same (i : Inj) (id : Nat) (g : Img) : upd i id g id = some g := by simp [upd]
theorem upd_ne (i : Inj) {id b : Nat} (g : Img) (h : b ≠ id) : upd i id g b = i b := by simp [upd, h]
theorem upd_imm (i : Inj) (id : Nat) (g : Img) : (upd i id g).imm = i.imm := rfl
theorem upd_void (i : Inj) (id : Nat) (g : Img) : (upd i id g).void = i.void := rfl
theorem le_upd {i : Inj} {id : Nat} (g : Img) (hi : i id = none) : i.le (upd i id g) := ⟨fun b g' hb => by
  by_cases e : b = id
  · subst e; rw [hi] at hb; cases hb
  · rw [upd_ne i g e]; exact hb, fun _ _ _ h => h, fun _ h => h, rfl⟩
theorem upd_free {i : Inj} {id b : Nat} (g : Img) (h : i.free b) (hb : b ≠ id) : (upd i id g).free b := ⟨by rw [upd_ne i g hb]; exact h.1, h.2⟩

def updVoid (i : Inj) (id : Nat) : Inj := { i with void := fun b => if b = id then true else i.void b }
theorem le_updVoid (i : Inj) (id : Nat) : i.le (updVoid i id) := ⟨fun _ _ h => h, fun _ _ _ h => h, fun b h => by simp only [updVoid]; split <;> first | rfl | exact h, rfl⟩

theorem Rel.alloc {N : Nat} {i : Inj} {h : HF} {w : World} (R : Rel P N i h w) (ro : Nat) {id : Nat} (hid : h id = none) (hi : i.free id) (ob : CObj) (o' : Obj) (g : Img)
    (hB : g.B = w.heap.size) (hO : ORel P N (upd i id g) (w.alloc o') g ob) :
    Rel P N (upd i id g) (fset h id ob) (w.alloc o') ∧ Step ro i h w (upd i id g) (fset h id ob) (w.alloc o') := by
  have hle := le_upd g hi.1
  have hold : ∀ B, B < w.heap.size → (w.alloc o').heap[B]? = w.heap[B]? := fun B hB => Below.heap_alloc w o' B hB
  have hget : ∀ b, b ≠ id → fset h id ob b = h b := fun b hb => fset_ne h ob hb
  refine ⟨⟨?_, ?_, ?_, ?_, ?_, ?_, ?_⟩, ⟨hle, ?_, ?_, rfl, rfl, rfl, ?_, ?_, fun _ _ _ _ h => .inl h⟩⟩
  · intro b o gg hb hg
    by_cases e : b = id
    · subst e
      rw [fset_eq] at hb; cases hb
      rw [upd_same] at hg; cases hg
      exact hO
    · rw [hget b e] at hb; rw [upd_ne i g e] at hg
      exact (R.obj b o gg hb hg).mono hle (hold _ (R.bnd b gg hg))
  · intro b b' o o' g1 g2 hne hb hb' h1 h2 hw hl
    by_cases e : b = id
    · subst e
      have e' : b' ≠ b := fun e => hne e.symm
      rw [upd_same] at h1; cases h1
      rw [upd_ne i g e'] at h2
      have := R.bnd b' g2 h2; omega
    · rw [upd_ne i g e] at h1; rw [hget b e] at hb
      by_cases e' : b' = id
      · subst e'
        rw [upd_same] at h2; cases h2
        have := R.bnd b g1 h1; omega
      · rw [upd_ne i g e'] at h2; rw [hget b' e'] at hb'
        exact R.sep b b' o o' g1 g2 hne hb hb' h1 h2 hw hl
  · intro b gg hg
    rw [World.size_alloc]
    by_cases e : b = id
    · subst e; rw [upd_same] at hg; cases hg; omega
    · rw [upd_ne i g e] at hg; have := R.bnd b gg hg; omega
  · rw [World.size_alloc]; have := R.hN; omega
  · intro B k v hv
    obtain ⟨h1, h2, h3⟩ := R.imm B k v hv
    rw [World.cell?_of_block (w := w) (hold B h2), World.size_alloc]; exact ⟨h1, by omega, h3⟩
  · intro b o gg hb hg hw k
    by_cases e : b = id
    · subst e
      rw [upd_same] at hg; cases hg
      cases hx : (upd i b g).imm g.B k with
      | none => rfl
      | some v => have := (R.imm g.B k v hx).2.1; omega
    · rw [upd_ne i g e] at hg; rw [hget b e] at hb; exact R.ims b o gg hb hg hw k
  · intro b hb
    have hne : b ≠ id := fun e => by subst e; rw [upd_void, hi.2] at hb; cases hb
    rw [upd_ne i g hne, hget b hne]; exact R.void b hb
  · intro b o hb ho
    by_cases e : b = id
    · subst e; rw [hid] at ho; cases ho
    · rw [hget b e]; exact ho
  · rw [World.size_alloc]; omega
  · intro B hB _; exact hold B hB
  · rintro B hlt ⟨b, o, gg, h1, h2, h3, h4, h5⟩
    by_cases e : b = id
    · subst e; rw [upd_same] at h4; cases h4; omega
    · rw [upd_ne i g e] at h4; rw [hget b e] at h2; exact ⟨b, o, gg, h1, h2, h3, h4, h5⟩

theorem Rel.put {N : Nat} {i : Inj} {h : HF} {w w' : World} (R : Rel P N i h w) {ro b : Nat} {o o2 : CObj} {g : Img} (hb : h b = some o) (hg : i b = some g) (hro : ro ≤ b)
    (hwr : wr o = true) (hsz : w'.heap.size = w.heap.size) (h1 : w'.os = w.os) (h2 : w'.tape = w.tape) (h3 : w'.output = w.output)
    (hoth : ∀ B, B < w.heap.size → B ≠ g.B → w'.heap[B]? = w.heap[B]?) (hO : ORel P N i w' g o2) :
    Rel P N i (fset h b o2) w' ∧ Step ro i h w i (fset h b o2) w' := by
  have hget : ∀ k, k ≠ b → fset h b o2 k = h k := fun k hk => fset_ne h o2 hk
  have hwr2 : ∀ {k x}, fset h b o2 k = some x → wr x = true → ∃ y, h k = some y ∧ wr y = true := fun {k x} hx hw => by
    by_cases e : k = b
    · subst e; exact ⟨o, hb, hwr⟩
    · rw [hget k e] at hx; exact ⟨x, hx, hw⟩
  have hlv2 : ∀ {k x}, fset h b o2 k = some x → live x = true → ∃ y, h k = some y ∧ live y = true := fun {k x} hx hw => by
    by_cases e : k = b
    · subst e; exact ⟨o, hb, live_of_wr hwr⟩
    · rw [hget k e] at hx; exact ⟨x, hx, hw⟩
  refine ⟨⟨?_, ?_, ?_, ?_, ?_, ?_, ?_⟩, ⟨Inj.le_refl i, ?_, by omega, h1, h2, h3, ?_, ?_, fun _ _ _ _ h => .inl h⟩⟩
  · intro k x gg hk hgg
    by_cases e : k = b
    · subst e; rw [fset_eq] at hk; cases hk; rw [hg] at hgg; cases hgg; exact hO
    · rw [hget k e] at hk
      cases hx : live x with
      | false => cases x <;> first | trivial | simp [live] at hx
      | true => exact (R.obj k x gg hk hgg).mono (Inj.le_refl i) (hoth _ (R.bnd k gg hgg) (fun ee => R.sep b k o x g gg (Ne.symm e) hb hk hg hgg hwr hx ee.symm))
  · intro k k' x x' g1 g2 hne hk hk' hg1 hg2 hw hl
    obtain ⟨y, hy, hyw⟩ := hwr2 hk hw
    obtain ⟨y', hy', hyl⟩ := hlv2 hk' hl
    exact R.sep k k' y y' g1 g2 hne hy hy' hg1 hg2 hyw hyl
  · intro k gg hgg; rw [hsz]; exact R.bnd k gg hgg
  · rw [hsz]; exact R.hN
  · intro B k v hv
    obtain ⟨q1, q2, q3⟩ := R.imm B k v hv
    have hne : B ≠ g.B := fun e => by subst e; rw [R.ims b o g hb hg hwr k] at hv; cases hv
    rw [World.cell?_of_block (w := w) (hoth B q2 hne), hsz]; exact ⟨q1, q2, q3⟩
  · intro k x gg hk hgg hw q
    obtain ⟨y, hy, hyw⟩ := hwr2 hk hw
    exact R.ims k y gg hy hgg hyw q
  · intro k hk
    have hne : k ≠ b := fun e => by subst e; rw [(R.void k hk).1] at hg; cases hg
    rw [hget k hne]; exact R.void k hk
  · intro k x hk hx; rw [hget k (by omega)]; exact hx
  · intro B hB ht
    exact hoth B hB (fun e => ht ⟨b, o, g, hro, hb, hwr, hg, e.symm⟩)
  · rintro B hB ⟨k, x, gg, h4, h5, h6, h7, h8⟩
    obtain ⟨y, hy, hyw⟩ := hwr2 h5 h6
    exact ⟨k, y, gg, h4, hy, hyw, h7, h8⟩

theorem Rel.regrow {N : Nat} {i : Inj} {h : HF} {w w' : World} (R : Rel P N i h w) {ro b id : Nat} {o ob : CObj} {g g2 : Img} (hb : h b = some o) (hg : i b = some g) (hro : ro ≤ b)
    (hwr : wr o = true) (hid : h id = none) (hi : i.free id) (hsz : w'.heap.size = w.heap.size) (h1 : w'.os = w.os) (h2 : w'.tape = w.tape) (h3 : w'.output = w.output)
    (hoth : ∀ B, B < w.heap.size → B ≠ g.B → w'.heap[B]? = w.heap[B]?) (hB : g2.B = g.B) (hO : ORel P N (upd i id g2) w' g2 ob) :
    Rel P N (upd i id g2) (fset (fset h b .dead) id ob) w' ∧ Step ro i h w (upd i id g2) (fset (fset h b .dead) id ob) w' := by
  have hle := le_upd g2 hi.1
  have hbid : b ≠ id := fun e => by subst e; rw [hid] at hb; cases hb
  have hgetb : fset (fset h b .dead) id ob b = some .dead := by rw [fset_ne _ _ hbid, fset_eq]
  have hget : ∀ k, k ≠ b → k ≠ id → fset (fset h b .dead) id ob k = h k := fun k hk hk' => by rw [fset_ne _ _ hk', fset_ne _ _ hk]
  have hapart : ∀ k x gg, k ≠ b → h k = some x → i k = some gg → live x = true → gg.B ≠ g.B := fun k x gg hk hx hgg hl e => R.sep b k o x g gg (Ne.symm hk) hb hx hg hgg hwr hl e.symm
  refine ⟨⟨?_, ?_, ?_, ?_, ?_, ?_, ?_⟩, ⟨hle, ?_, by omega, h1, h2, h3, ?_, ?_, fun _ _ _ _ h => .inl h⟩⟩
  · intro k x gg hk hgg
    by_cases e : k = id
    · subst e; rw [fset_eq] at hk; cases hk; rw [upd_same] at hgg; cases hgg; exact hO
    · rw [upd_ne i g2 e] at hgg
      by_cases e' : k = b
      · subst e'; rw [hgetb] at hk; cases hk; trivial
      · rw [hget k e' e] at hk
        cases hx : live x with
        | false => cases x <;> first | trivial | simp [live] at hx
        | true => exact (R.obj k x gg hk hgg).mono hle (hoth _ (R.bnd k gg hgg) (hapart k x gg e' hk hgg hx))
  · intro k k' x x' ga gb hne hk hk' hga hgb hw hl
    by_cases e : k = id
    · subst e
      rw [upd_same] at hga; cases hga
      have e1 : k' ≠ k := fun e => hne e.symm
      rw [upd_ne i _ e1] at hgb
      by_cases e2 : k' = b
      · subst e2; rw [hgetb] at hk'; cases hk'; simp [live] at hl
      · rw [hget k' e2 e1] at hk'
        intro ee; exact hapart k' x' gb e2 hk' hgb hl (by rw [← ee, hB])
    · rw [upd_ne i _ e] at hga
      by_cases e0 : k = b
      · subst e0; rw [hgetb] at hk; cases hk; simp [wr] at hw
      · rw [hget k e0 e] at hk
        by_cases e1 : k' = id
        · subst e1
          rw [upd_same] at hgb; cases hgb
          intro ee; exact hapart k x ga e0 hk hga (live_of_wr hw) (by rw [ee, hB])
        · rw [upd_ne i _ e1] at hgb
          by_cases e2 : k' = b
          · subst e2; rw [hgetb] at hk'; cases hk'; simp [live] at hl
          · rw [hget k' e2 e1] at hk'
            exact R.sep k k' x x' ga gb hne hk hk' hga hgb hw hl
  · intro k gg hgg
    rw [hsz]
    by_cases e : k = id
    · subst e; rw [upd_same] at hgg; cases hgg; rw [hB]; exact R.bnd b g hg
    · rw [upd_ne i _ e] at hgg; exact R.bnd k gg hgg
  · rw [hsz]; exact R.hN
  · intro B k v hv
    obtain ⟨q1, q2, q3⟩ := R.imm B k v hv
    have hne : B ≠ g.B := fun e => by subst e; rw [upd_imm, R.ims b o g hb hg hwr k] at hv; cases hv
    rw [World.cell?_of_block (w := w) (hoth B q2 hne), hsz]; exact ⟨q1, q2, q3⟩
  · intro k x gg hk hgg hw q
    by_cases e : k = id
    · subst e
      rw [upd_same] at hgg; cases hgg
      rw [hB]; exact R.ims b o g hb hg hwr q
    · rw [upd_ne i _ e] at hgg
      by_cases e' : k = b
      · subst e'; rw [hgetb] at hk; cases hk; simp [wr] at hw
      · rw [hget k e' e] at hk; exact R.ims k x gg hk hgg hw q
  · intro k hk
    have hne : k ≠ id := fun e => by subst e; rw [upd_void, hi.2] at hk; cases hk
    have hnb : k ≠ b := fun e => by subst e; rw [(R.void k hk).1] at hg; cases hg
    rw [upd_ne i g2 hne, hget k hnb hne]; exact R.void k hk
  · intro k x hk hx
    have e : k ≠ id := fun e => by subst e; rw [hid] at hx; cases hx
    rw [hget k (by omega) e]; exact hx
  · intro B hlt ht
    exact hoth B hlt (fun e => ht ⟨b, o, g, hro, hb, hwr, hg, e.symm⟩)
  · rintro B hlt ⟨k, x, gg, h4, h5, h6, h7, h8⟩
    by_cases e : k = id
    · subst e
      rw [upd_same] at h7; cases h7
      exact ⟨b, o, g, hro, hb, hwr, hg, by rw [← h8, hB]⟩
    · rw [upd_ne i _ e] at h7
      by_cases e' : k = b
      · subst e'; rw [hgetb] at h5; cases h5; simp [wr] at h6
      · rw [hget k e' e] at h5
        exact ⟨k, x, gg, h4, h5, h6, h7, h8⟩

theorem Rel.newVoid {N : Nat} {i : Inj} {h : HF} {w : World} (R : Rel P N i h w) (ro : Nat) {id : Nat} (hid : h id = none) (hi : i.free id) (r : RC) :
    Rel P N (updVoid i id) (fset h id (.rows r [])) w ∧ Step ro i h w (updVoid i id) (fset h id (.rows r [])) w := by
  have hget : ∀ b, b ≠ id → fset h id (.rows r []) b = h b := fun b hb => fset_ne h _ hb
  have hne : ∀ {b g}, i b = some g → b ≠ id := fun {b g} hb e => by subst e; rw [hi.1] at hb; cases hb
  refine ⟨⟨?_, ?_, R.bnd, R.hN, R.imm, ?_, ?_⟩, ⟨le_updVoid i id, ?_, Nat.le_refl _, rfl, rfl, rfl, fun _ _ _ => rfl, ?_, fun _ _ _ _ h => .inl h⟩⟩
  · intro b o g hb hg
    have hg : i b = some g := hg
    rw [hget b (hne hg)] at hb
    exact (R.obj b o g hb hg).mono (le_updVoid i id) rfl
  · intro b b' o o' g g' hbb hb hb' hg hg' hw hl
    have hg : i b = some g := hg
    have hg' : i b' = some g' := hg'
    rw [hget b (hne hg)] at hb; rw [hget b' (hne hg')] at hb'
    exact R.sep b b' o o' g g' hbb hb hb' hg hg' hw hl
  · intro b o g hb hg hw k
    have hg : i b = some g := hg
    rw [hget b (hne hg)] at hb
    exact R.ims b o g hb hg hw k
  · intro b hb
    show i b = none ∧ _
    by_cases e : b = id
    · subst e; exact ⟨hi.1, fun r' l hl => by rw [fset_eq] at hl; cases hl; rfl⟩
    · have hb' : i.void b = true := by simpa [updVoid, e] using hb
      rw [hget b e]; exact R.void b hb'
  · intro b o hb ho
    have e : b ≠ id := fun e => by subst e; rw [hid] at ho; cases ho
    rw [hget b e]; exact ho
  · rintro B hB ⟨b, o, g, h1, h2, h3, h4, h5⟩
    have h4 : i b = some g := h4
    rw [hget b (hne h4)] at h2
    exact ⟨b, o, g, h1, h2, h3, h4, h5⟩

end Go.Proofs.YtecidokjhplbgaaGreatDoorD
