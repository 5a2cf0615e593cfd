/-
  What the reference run comes to, the model's run comes to: calls and code.
-/
import Derived.Test.YtkdjllolnlndkaaTOps
import Derived.RangeFuncNested
set_option linter.unusedVariables false
set_option linter.unusedSimpArgs false
namespace Go.Proofs.YtkdjllolnlndkaaD
open Go Go.RowKit

variable {P : Program} {N : Nat}

def FW (rd : Option Nat) : Fence := { Fence.wide with round := rd }
theorem FW_fn (rd : Option Nat) (f : FuncId) : (FW rd).fn f := trivial
theorem FW_depth (rd : Option Nat) : (FW rd).depth = none := rfl
theorem FW_calls {rd rd' : Option Nat} {n n' : Nat} {f : FuncId} {args : Array Value} {w : World} {R : Ending → World → Prop} (h : CallsIn (FW rd) n P f args w R) : CallsIn (FW rd') n' P f args w R :=
  ⟨trivial, fun cs _ => h.2 cs (fun d hd => by cases hd)⟩

structure SRel (P : Program) (N : Nat) (i : Inj) (s : CSt) (w : World) : Prop where
  rel : Rel P N i s.heap.get w
  fresh : ∀ b, s.next ≤ b → i.free b

inductive MRel (i : Inj) : List Nat → List Deferred → Prop
  | nil : MRel i [] []
  | cons {d : Nat} {g : Img} {ds : List Nat} {rs : List Deferred} (h : i d = some g) (h' : MRel i ds rs) : MRel i (d :: ds) ({ target := .collected g.B, args := #[] } :: rs)

theorem MRel.mono {i j : Inj} (h : i.le j) {ds : List Nat} {rs : List Deferred} (m : MRel i ds rs) : MRel j ds rs := by
  induction m with
  | nil => exact .nil
  | cons hd _ ih => exact .cons (h.blk _ _ hd) ih
theorem MRel.append {i : Inj} {a b : List Nat} {c d : List Deferred} (m : MRel i a c) (n : MRel i b d) : MRel i (a ++ b) (c ++ d) := by
  induction m with
  | nil => exact n
  | cons hd _ ih => exact .cons hd ih

structure ActRel (i : Inj) (a : CAct) (a' : Act) : Prop where
  tmps : LRel i a.tmps a'.tmps.toList
  marks : MRel i a.marks a'.defers

theorem ActRel.mono {i j : Inj} (h : i.le j) {a : CAct} {a' : Act} (r : ActRel i a a') : ActRel j a a' := ⟨r.tmps.mono h, r.marks.mono h⟩

theorem ActRel.put {i : Inj} {a : CAct} {a' : Act} (r : ActRel i a a') (dst : Option Tmp) {v : CV} {v' : Value} (hv : VRel i v v') : ActRel i (a.put dst v) (a'.put dst v') := by
  cases dst with
  | none => exact r
  | some d => exact ⟨by simpa [CAct.put, Act.put] using r.tmps.set d hv, r.marks⟩

theorem ceval_rel {i : Inj} {a : CAct} {a' : Act} (r : ActRel i a a') (x : Operand) (v : CV) (e : ceval a.tmps x = some v) : VRel i v (a'.eval x) := by
  cases x with
  | tmp t =>
    simp only [ceval] at e
    cases e
    simp only [Act.eval]
    by_cases ht : t < a.tmps.length
    · have ht' : t < a'.tmps.toList.length := by rw [← r.tmps.len]; exact ht
      have h1 : a.tmps.getD t cundef = a.tmps[t] := by simp [List.getD, ht]
      have h2 : a'.tmps.getD t undef = a'.tmps.toList[t] := by simp at ht'; simp [Array.getD, ht']
      rw [h1, h2]
      exact r.tmps.at_ t _ _ (List.getElem?_eq_getElem ht) (List.getElem?_eq_getElem ht')
    · have ht' : ¬ t < a'.tmps.size := by rw [← Array.length_toList, ← r.tmps.len]; exact ht
      have h1 : a.tmps.getD t cundef = cundef := by simp [List.getD, ht]
      have h2 : a'.tmps.getD t undef = undef := by simp [Array.getD, ht']
      rw [h1, h2]; exact .undef i
  | const v' =>
    simp only [ceval] at e
    cases hf : vflat v' with
    | false => simp [hf] at e
    | true => simp [hf] at e; subst e; exact .of_vflat i _ hf
  | global g => simp [ceval] at e
  | func f => simp only [ceval] at e; cases e; exact .func (as := []) (bs := []) (cs := []) (ds := []) rfl (fun k x y hx => by simp at hx) rfl (fun k x y hx => by simp at hx)

theorem wanted_rel {i : Inj} {a : CAct} {a' : Act} (r : ActRel i a a') (ops : Array Oper) (o : Oper) (hf : gfine ops o a.tmps = true) : Region.wanted o (cyielded ops a.tmps) = Region.wanted o (yielded ops a'.tmps) := by
  unfold Region.wanted
  unfold gfine at hf
  cases hg : o.guard with
  | none => rfl
  | some gw =>
    obtain ⟨j, want⟩ := gw
    rw [hg] at hf
    simp only [] at hf ⊢
    unfold cyielded yielded
    cases hd : (ops[j]?).bind (·.dst) with
    | none => rfl
    | some t =>
      rw [hd] at hf
      simp only [Option.bind_some] at hf ⊢
      cases hx : a.tmps[t]? with
      | none =>
        have : a'.tmps[t]? = none := by
          have h1 := List.getElem?_eq_none_iff.1 hx
          rw [r.tmps.len] at h1
          exact Array.getElem?_eq_none (by simpa using h1)
        rw [this]
      | some x =>
        rw [hx] at hf
        obtain ⟨y, hy, hv⟩ := r.tmps.get hx
        have hy' : a'.tmps[t]? = some y := by simpa using hy
        rw [hy']
        cases hv <;> first | rfl | (cases hf; done)

def toExit : CEx → Exit
  | .normal => .normal
  | .exit id => .exit id
  | .ret => .ret

/-- The state behind a step. -/
structure After (P : Program) (N ro : Nat) (i : Inj) (s : CSt) (w : World) (i' : Inj) (s' : CSt) (w' : World) : Prop where
  srel : SRel P N i' s' w'
  step : Step ro i s.heap.get w i' s'.heap.get w'
  low : ∀ b, b < s.next → i' b = i b ∧ i'.void b = i.void b
  nx : s.next ≤ s'.next

theorem After.trans {ro : Nat} {i i' i'' : Inj} {s s' s'' : CSt} {w w' w'' : World} (a : After P N ro i s w i' s' w') (b : After P N ro i' s' w' i'' s'' w'') : After P N ro i s w i'' s'' w'' :=
  ⟨b.srel, a.step.trans b.step, fun k hk => ⟨(b.low k (Nat.lt_of_lt_of_le hk a.nx)).1.trans (a.low k hk).1, (b.low k (Nat.lt_of_lt_of_le hk a.nx)).2.trans (a.low k hk).2⟩, Nat.le_trans a.nx b.nx⟩
theorem After.refl {ro : Nat} {i : Inj} {s : CSt} {w : World} (h : SRel P N i s w) : After P N ro i s w i s w := ⟨h, .refl _ _ _ _, fun _ _ => ⟨rfl, rfl⟩, Nat.le_refl _⟩

def CallOk (P : Program) (N : Nat) (call : Nat → FuncId → List CV → CSt → Option (CV × CSt)) : Prop :=
  ∀ ro f args s v s', call ro f args s = some (v, s') → (∃ fn c, P.funcs[f]? = some fn ∧ fn.body = some c) ∧
    ∀ (i : Inj) (w : World) (args' : Array Value), SRel P N i s w → LRel i args args'.toList →
      CallsIn (FW none) 0 P f args' w fun e w' => ∃ i' v', e = .returned v' ∧ VRel i' v v' ∧ After P N ro i s w i' s' w'

def RdRel (i : Inj) (round rd : Option Nat) : Prop := (round = none ∧ rd = none) ∨ ∃ l g, round = some l ∧ i l = some g ∧ rd = some g.B
theorem RdRel.mono {i j : Inj} (h : i.le j) {round rd : Option Nat} (r : RdRel i round rd) : RdRel j round rd :=
  r.imp id fun ⟨l, g, h1, h2, h3⟩ => ⟨l, g, h1, h.blk _ _ h2, h3⟩

def ExecPost (P : Program) (N ro : Nat) (i : Inj) (s : CSt) (w : World) (e : CEx) (a2 : CAct) (s2 : CSt) : Exit → Act → World → Prop :=
  fun ex a2' w2 => ∃ i2, ex = toExit e ∧ ActRel i2 a2 a2' ∧ After P N ro i s w i2 s2 w2

def ExecOk (P : Program) (N : Nat) (exec : Nat → Option Nat → FuncId → List Nat → Code → CAct → CSt → Option (CEx × CAct × CSt)) : Prop :=
  ∀ ro round fn p c a s e a2 s2, codeAt P fn p = some c → exec ro round fn p c a s = some (e, a2, s2) →
    ∀ (i : Inj) (w : World) (a' : Act) (rd : Option Nat), SRel P N i s w → ActRel i a a' → RdRel i round rd →
      ∀ n, c.wpIn (FW rd) n P (ExecPost P N ro i s w e a2 s2) a' w

/-- What stands at the end of a loop's round. -/
def InLoop (F : Fence) (n : Nat) (P : Program) (c : Code) (Q : Exit → Act → World → Prop) (a : Act) (w : World) : Prop :=
  ∀ (b : Frame) (k : List Item) (cs : List Frame), b.roundOf = F.round → F.fn b.fn → F.room (cs.length + 1 + n) →
    ∃ e a' w', Q e a' w' ∧ ArrivesIn (Machine.fenced P F) P (lone (b.atR a (.inLoop c :: k)) cs w) b k cs e a' w'

theorem InLoop.mono {F : Fence} {n : Nat} {c : Code} {Q Q' : Exit → Act → World → Prop} {a : Act} {w : World} (h : InLoop F n P c Q a w) (hq : ∀ e a w, Q e a w → Q' e a w) : InLoop F n P c Q' a w :=
  fun b k cs hro hb hr => let ⟨e, a', w', q, r⟩ := h b k cs hro hb hr; ⟨e, a', w', hq _ _ _ q, r⟩

theorem loop_arrives {F : Fence} {n : Nat} {c : Code} {Q : Exit → Act → World → Prop} {a : Act} {w : World} (h : c.wpIn F n P (Exit.then (InLoop F n P c Q) Q) a w) :
    ∀ (b : Frame) (k : List Item) (cs : List Frame), b.roundOf = F.round → F.fn b.fn → F.room (cs.length + 1 + n) →
      ∃ e a' w', Q e a' w' ∧ ArrivesIn (Machine.fenced P F) P (lone (b.atR a (.code c :: .inLoop c :: k)) cs w) b k cs e a' w' := by
  intro b k cs hro hb hr
  obtain ⟨e, a₁, w₁, hq, harr⟩ := h b (.inLoop c :: k) cs hro hb hr
  cases e with
  | normal =>
    obtain ⟨e₂, a₂, w₂, hq₂, harr₂⟩ := hq b k cs hro hb hr
    exact ⟨e₂, a₂, w₂, hq₂, .of_steps harr harr₂⟩
  | exit id => exact ⟨_, a₁, w₁, hq, .pass (x := .inLoop c) rfl (fun _ _ => .inl (by simp)) harr⟩
  | goto l => exact ⟨_, a₁, w₁, hq, .pass (x := .inLoop c) rfl (fun _ _ => .inl (by simp)) harr⟩
  | ret => exact ⟨_, a₁, w₁, hq, .pass (x := .inLoop c) rfl (fun _ _ => .inl (by simp)) harr⟩
  | panic ch => exact ⟨_, a₁, w₁, hq, .pass (x := .inLoop c) rfl (fun _ _ => .inl (by simp)) harr⟩
  | outgrown => exact ⟨_, a₁, w₁, hq, .pass (x := .inLoop c) rfl (fun _ _ => .inl (by simp)) harr⟩

theorem InLoop.round {F : Fence} {n : Nat} {c : Code} {Q : Exit → Act → World → Prop} {a : Act} {w : World} (h : c.wpIn F n P (Exit.then (InLoop F n P c Q) Q) a w) : InLoop F n P c Q a w :=
  fun b k cs hro hb hr => let ⟨e, a', w', hq, harr⟩ := loop_arrives h b k cs hro hb hr; ⟨e, a', w', hq, .of_steps (.one (fenced_calm hb hr rfl) stepR_inLoop) harr⟩

theorem wpIn_loop_of {F : Fence} {n : Nat} {c : Code} {Q : Exit → Act → World → Prop} {a : Act} {w : World} (h : c.wpIn F n P (Exit.then (InLoop F n P c Q) Q) a w) : (Code.loop c).wpIn F n P Q a w :=
  fun b k cs hro hb hr => let ⟨e, a', w', hq, harr⟩ := loop_arrives h b k cs hro hb hr; ⟨e, a', w', hq, .of_steps (.one (fenced_calm hb hr rfl) stepR_loop) harr⟩

def AgainOk (P : Program) (N : Nat) (again : Nat → Option Nat → FuncId → List Nat → Code → CAct → CSt → Option (CEx × CAct × CSt)) : Prop :=
  ∀ ro round fn p c a s e a2 s2, codeAt P fn p = some c → again ro round fn p c a s = some (e, a2, s2) →
    ∀ (i : Inj) (w : World) (a' : Act) (rd : Option Nat), SRel P N i s w → ActRel i a a' → RdRel i round rd →
      ∀ n, InLoop (FW rd) n P c (ExecPost P N ro i s w e a2 s2) a' w

structure SelfOk (P : Program) (N : Nat) (sf : Self) : Prop where
  call : CallOk P N sf.call
  exec : ExecOk P N sf.exec
  again : AgainOk P N sf.again

/-- No function of the program is answered by name. -/
def plainNames (P : Program) : Bool := P.funcs.all fun fn => !(fn.name == "runtime.NumGoroutine")

theorem run_enter (hP : plainNames P = true) {f : FuncId} {fn : Func} {c : Code} (hf : P.funcs[f]? = some fn) (hb : fn.body = some c) (args : Array Value) (w : World) :
    (callFunc f args).run P w = .ok (.enter f args) w := by
  have hn : (fn.name == "runtime.NumGoroutine") = false := by
    have := Array.all_eq_true_iff_forall_mem.1 hP fn (Array.mem_of_getElem? hf)
    simpa using this
  have h1 : fn.name ≠ "runtime.NumGoroutine" := by simpa using hn
  simp [callFunc, hf, h1, hb, mark]

theorem SRel.set {i : Inj} {s : CSt} {w w' : World} {b : Nat} {o : CObj} (h : SRel P N i s w) (hr : Rel P N i (fset s.heap.get b o) w') : SRel P N i { s with heap := s.heap.set b o } w' :=
  ⟨by show Rel P N i (s.heap.set b o).get w'; rw [get_fset]; exact hr, h.fresh⟩

theorem putObj_other (w : World) (r : Nat) (o : Obj) (B : Nat) (h : B ≠ r) : (w.putObj r o).heap[B]? = w.heap[B]? := World.putObj_heap_other h

/-- A loop's record turned. -/
theorem loop_put {i : Inj} {s : CSt} {w : World} {ro l : Nat} {st st2 : LoopState} {pe pe2 : Option Code} {fn : FuncId} {tms : List CV} {po : List Nat} {de : Nat} {g : Img}
    (h : SRel P N i s w) (hl : s.heap.get l = some (.loop st pe fn tms po de)) (hg : i l = some g) (hro : ro ≤ l) :
    ∃ (f : Operand) (ps : Array Tmp) (asg bd : Code) (fn' : FuncId) (tms' : Array Value) (gd : Img), codeAt P fn po = some (.rangeFunc f ps asg bd) ∧ w.heap[g.B]? = some (.loop { state := st, pending := pe, fn := fn', tmps := tms', params := ps, assign := asg, body := bd, defers := gd.B }) ∧ LRel i tms tms'.toList ∧ i de = some gd ∧
      After P N ro i s w i { s with heap := s.heap.set l (.loop st2 pe2 fn tms po de) } (w.putObj g.B (.loop { state := st2, pending := pe2, fn := fn', tmps := tms', params := ps, assign := asg, body := bd, defers := gd.B })) := by
  obtain ⟨h1, f, ps, asg, bd, fn', tms', gd, h0, h2, h3, h4⟩ := h.rel.obj l _ g hl hg
  refine ⟨f, ps, asg, bd, fn', tms', gd, h0, h2, h3, h4, ?_⟩
  have hlt := h.rel.bnd l g hg
  have := h.rel.put (ro := ro) (o2 := .loop st2 pe2 fn tms po de) (w' := w.putObj g.B (.loop { state := st2, pending := pe2, fn := fn', tmps := tms', params := ps, assign := asg, body := bd, defers := gd.B })) hl hg hro rfl
    (by simp) rfl rfl rfl (fun B _ hne => putObj_other w g.B _ B hne) ⟨h1, f, ps, asg, bd, fn', tms', gd, h0, World.putObj_heap_same hlt, h3, h4⟩
  exact ⟨h.set this.1, by show Step ro i s.heap.get w i (s.heap.set l _).get _; rw [get_fset]; exact this.2, fun _ _ => ⟨rfl, rfl⟩, Nat.le_refl _⟩

theorem zip_setParams {i : Inj} : ∀ (ps : List Tmp) {vs ts : List CV} {vs' ts' : List Value}, LRel i vs vs' → LRel i ts ts' → LRel i (setParams ps vs ts) ((ps.zip vs').foldl (fun t (p, v) => t.set p v) ts')
  | [], vs, ts, vs', ts', hv, ht => by cases vs <;> simpa [setParams] using ht
  | p :: ps, vs, ts, vs', ts', hv, ht => by
    cases vs with
    | nil => have := hv.nil_inv; subst this; simpa [setParams] using ht
    | cons v vs =>
      obtain ⟨v', vs2, rfl, h1, h2⟩ := hv.cons_inv
      simp only [setParams, List.zip_cons_cons, List.foldl_cons]
      exact zip_setParams ps h2 (ht.set p h1)

theorem foldl_toList (ps : List (Tmp × Value)) (ts : Array Value) : (ps.foldl (fun (t : Array Value) (x : Tmp × Value) => t.setIfInBounds x.1 x.2) ts).toList = ps.foldl (fun t x => t.set x.1 x.2) ts.toList := by
  induction ps generalizing ts with
  | nil => rfl
  | cons p ps ih => simp only [List.foldl_cons]; rw [ih]; simp

end Go.Proofs.YtkdjllolnlndkaaD
