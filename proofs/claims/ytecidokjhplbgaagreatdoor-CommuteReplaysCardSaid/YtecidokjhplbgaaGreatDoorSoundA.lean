/-
  What the reference run comes to, the model's run comes to: calls and code.
  What the reference run comes to, the model's run comes to: rounds, calls, regions, code.
  What the reference run comes to, the model's run comes to: operations in a region, loops over functions, code; the theorem.
-/
import Derived.Test.YtecidokjhplbgaaGreatDoorTOpsA
import Derived.RangeFuncNested
import Derived.Laws.Externs
import Derived.Lib.Bytealg
set_option linter.unusedVariables false
set_option linter.unusedSimpArgs false
namespace Go.Proofs.YtecidokjhplbgaaGreatDoorD
open Go Go.RowKit

variable {P : Program} {N : Nat}

def FW (rd : Option Nat) : Fence := { Fence.wide with round := rd }
theorem FW_calls {rd rd' : Option Nat} {n n' : Nat} {f : FuncId} {args : Array Value} {w : World} {R : Ending → World → Prop} (h : CallsIn (FW rd) n P f args w R) : CallsIn (FW rd') n' P f args w R :=
  ⟨trivial, fun cs _ => h.2 cs (fun d hd => by cases hd)⟩

structure SRel (P : Program) (N : Nat) (i : Inj) (s : CSt) (w : World) : Prop where
  rel : Rel P N i s.heap.get w
  fresh : ∀ b, s.next ≤ b → i.free b

inductive MRel (i : Inj) : List Nat → List Deferred → Prop
  | nil : MRel i [] []
  | cons {d : Nat} {g : Img} {ds : List Nat} {rs : List Deferred} (h : i d = some g) (h' : MRel i ds rs) : MRel i (d :: ds) ({ target := .collected g.B, args := #[] } :: rs)

theorem MRel.mono {i j : Inj} (h : i.le j) {ds : List Nat} {rs : List Deferred} (m : MRel i ds rs) : MRel j ds rs := by
  induction m with
  | nil => exact .nil
  | cons hd _ ih => exact .cons (h.blk _ _ hd) ih
theorem MRel.append {i : Inj} {a b : List Nat} {c d : List Deferred} (m : MRel i a c) (n : MRel i b d) : MRel i (a ++ b) (c ++ d) := by
  induction m with
  | nil => exact n
  | cons hd _ ih => exact .cons hd ih

structure ActRel (i : Inj) (a : CAct) (a' : Act) : Prop where
  tmps : LRel i a.tmps a'.tmps.toList
  marks : MRel i a.marks a'.defers

theorem ActRel.mono {i j : Inj} (h : i.le j) {a : CAct} {a' : Act} (r : ActRel i a a') : ActRel j a a' := ⟨r.tmps.mono h, r.marks.mono h⟩

theorem ActRel.put {i : Inj} {a : CAct} {a' : Act} (r : ActRel i a a') (dst : Option Tmp) {v : CV} {v' : Value} (hv : VRel i v v') : ActRel i (a.put dst v) (a'.put dst v') := by
  cases dst with
  | none => exact r
  | some d => exact ⟨by simpa [CAct.put, Act.put] using r.tmps.set d hv, r.marks⟩

theorem ceval_rel {i : Inj} {a : CAct} {a' : Act} (r : ActRel i a a') (x : Operand) (v : CV) (e : ceval a.tmps x = some v) : VRel i v (a'.eval x) := by
  cases x with
  | tmp t =>
    simp only [ceval] at e
    cases e
    simp only [Act.eval]
    by_cases ht : t < a.tmps.length
    · have ht' : t < a'.tmps.toList.length := by rw [← r.tmps.len]; exact ht
      have h1 : a.tmps.getD t cundef = a.tmps[t] := by simp [List.getD, ht]
      have h2 : a'.tmps.getD t undef = a'.tmps.toList[t] := by simp at ht'; simp [Array.getD, ht']
      rw [h1, h2]
      exact r.tmps.at_ t _ _ (List.getElem?_eq_getElem ht) (List.getElem?_eq_getElem ht')
    · have ht' : ¬ t < a'.tmps.size := by rw [← Array.length_toList, ← r.tmps.len]; exact ht
      have h1 : a.tmps.getD t cundef = cundef := by simp [List.getD, ht]
      have h2 : a'.tmps.getD t undef = undef := by simp [Array.getD, ht']
      rw [h1, h2]; exact .undef i
  | const v' =>
    simp only [ceval] at e
    cases hf : vflat v' with
    | false => simp [hf] at e
    | true => simp [hf] at e; subst e; exact .of_vflat i _ hf
  | global g => simp [ceval] at e
  | func f => simp only [ceval] at e; cases e; exact .func (as := []) (bs := []) (cs := []) (ds := []) rfl (fun k x y hx => by simp at hx) rfl (fun k x y hx => by simp at hx)

theorem wanted_rel {i : Inj} {a : CAct} {a' : Act} (r : ActRel i a a') (ops : Array Oper) (o : Oper) (hf : gfine ops o a.tmps = true) : Region.wanted o (cyielded ops a.tmps) = Region.wanted o (yielded ops a'.tmps) := by
  unfold Region.wanted
  unfold gfine at hf
  cases hg : o.guard with
  | none => rfl
  | some gw =>
    obtain ⟨j, want⟩ := gw
    rw [hg] at hf
    simp only [] at hf ⊢
    unfold cyielded yielded
    cases hd : (ops[j]?).bind (·.dst) with
    | none => rfl
    | some t =>
      rw [hd] at hf
      simp only [Option.bind_some] at hf ⊢
      cases hx : a.tmps[t]? with
      | none =>
        have : a'.tmps[t]? = none := by
          have h1 := List.getElem?_eq_none_iff.1 hx
          rw [r.tmps.len] at h1
          exact Array.getElem?_eq_none (by simpa using h1)
        rw [this]
      | some x =>
        rw [hx] at hf
        obtain ⟨y, hy, hv⟩ := r.tmps.get hx
        have hy' : a'.tmps[t]? = some y := by simpa using hy
        rw [hy']
        cases hv <;> first | rfl | (cases hf; done)

def toExit : CEx → Exit
  | .normal => .normal
  | .exit id => .exit id
  | .ret => .ret

structure After (P : Program) (N ro : Nat) (i : Inj) (s : CSt) (w : World) (i' : Inj) (s' : CSt) (w' : World) : Prop where
  srel : SRel P N i' s' w'
  step : Step ro i s.heap.get w i' s'.heap.get w'
  low : ∀ b, b < s.next → i' b = i b ∧ i'.void b = i.void b
  nx : s.next ≤ s'.next

theorem After.trans {ro : Nat} {i i' i'' : Inj} {s s' s'' : CSt} {w w' w'' : World} (a : After P N ro i s w i' s' w') (b : After P N ro i' s' w' i'' s'' w'') : After P N ro i s w i'' s'' w'' :=
  ⟨b.srel, a.step.trans b.step, fun k hk => ⟨(b.low k (Nat.lt_of_lt_of_le hk a.nx)).1.trans (a.low k hk).1, (b.low k (Nat.lt_of_lt_of_le hk a.nx)).2.trans (a.low k hk).2⟩, Nat.le_trans a.nx b.nx⟩
theorem After.refl {ro : Nat} {i : Inj} {s : CSt} {w : World} (h : SRel P N i s w) : After P N ro i s w i s w := ⟨h, .refl _ _ _ _, fun _ _ => ⟨rfl, rfl⟩, Nat.le_refl _⟩

def CallOk (P : Program) (N : Nat) (call : Nat → FuncId → List CV → CSt → Option (CV × CSt)) : Prop :=
  ∀ ro f args s v s', call ro f args s = some (v, s') → (∃ fn c, P.funcs[f]? = some fn ∧ fn.body = some c) ∧
    ∀ (i : Inj) (w : World) (args' : Array Value), SRel P N i s w → LRel i args args'.toList →
      CallsIn (FW none) 0 P f args' w fun e w' => ∃ i' v', e = .returned v' ∧ VRel i' v v' ∧ After P N ro i s w i' s' w'

def RdRel (i : Inj) (round rd : Option Nat) : Prop := (round = none ∧ rd = none) ∨ ∃ l g, round = some l ∧ i l = some g ∧ rd = some g.B
theorem RdRel.mono {i j : Inj} (h : i.le j) {round rd : Option Nat} (r : RdRel i round rd) : RdRel j round rd :=
  r.imp id fun ⟨l, g, h1, h2, h3⟩ => ⟨l, g, h1, h.blk _ _ h2, h3⟩

def ExecPost (P : Program) (N ro : Nat) (i : Inj) (s : CSt) (w : World) (e : CEx) (a2 : CAct) (s2 : CSt) : Exit → Act → World → Prop :=
  fun ex a2' w2 => ∃ i2, ex = toExit e ∧ ActRel i2 a2 a2' ∧ After P N ro i s w i2 s2 w2

def ExecOk (P : Program) (N : Nat) (exec : Nat → Option Nat → FuncId → List Nat → Code → CAct → CSt → Option (CEx × CAct × CSt)) : Prop :=
  ∀ ro round fn p c a s e a2 s2, codeAt P fn p = some c → exec ro round fn p c a s = some (e, a2, s2) →
    ∀ (i : Inj) (w : World) (a' : Act) (rd : Option Nat), SRel P N i s w → ActRel i a a' → RdRel i round rd →
      ∀ n, c.wpIn (FW rd) n P (ExecPost P N ro i s w e a2 s2) a' w

def InLoop (F : Fence) (n : Nat) (P : Program) (c : Code) (Q : Exit → Act → World → Prop) (a : Act) (w : World) : Prop :=
  ∀ (b : Frame) (k : List Item) (cs : List Frame), b.roundOf = F.round → F.fn b.fn → F.room (cs.length + 1 + n) →
    ∃ e a' w', Q e a' w' ∧ ArrivesIn (Machine.fenced P F) P (lone (b.atR a (.inLoop c :: k)) cs w) b k cs e a' w'

theorem InLoop.mono {F : Fence} {n : Nat} {c : Code} {Q Q' : Exit → Act → World → Prop} {a : Act} {w : World} (h : InLoop F n P c Q a w) (hq : ∀ e a w, Q e a w → Q' e a w) : InLoop F n P c Q' a w :=
  fun b k cs hro hb hr => let ⟨e, a', w', q, r⟩ := h b k cs hro hb hr; ⟨e, a', w', hq _ _ _ q, r⟩

theorem loop_arrives {F : Fence} {n : Nat} {c : Code} {Q : Exit → Act → World → Prop} {a : Act} {w : World} (h : c.wpIn F n P (Exit.then (InLoop F n P c Q) Q) a w) :
    ∀ (b : Frame) (k : List Item) (cs : List Frame), b.roundOf = F.round → F.fn b.fn → F.room (cs.length + 1 + n) →
      ∃ e a' w', Q e a' w' ∧ ArrivesIn (Machine.fenced P F) P (lone (b.atR a (.code c :: .inLoop c :: k)) cs w) b k cs e a' w' := by
  intro b k cs hro hb hr
  obtain ⟨e, a₁, w₁, hq, harr⟩ := h b (.inLoop c :: k) cs hro hb hr
  cases e with
  | normal =>
    obtain ⟨e₂, a₂, w₂, hq₂, harr₂⟩ := hq b k cs hro hb hr
    exact ⟨e₂, a₂, w₂, hq₂, .of_steps harr harr₂⟩
  | exit id => exact ⟨_, a₁, w₁, hq, .pass (x := .inLoop c) rfl (fun _ _ => .inl (by simp)) harr⟩
  | goto l => exact ⟨_, a₁, w₁, hq, .pass (x := .inLoop c) rfl (fun _ _ => .inl (by simp)) harr⟩
  | ret => exact ⟨_, a₁, w₁, hq, .pass (x := .inLoop c) rfl (fun _ _ => .inl (by simp)) harr⟩
  | panic ch => exact ⟨_, a₁, w₁, hq, .pass (x := .inLoop c) rfl (fun _ _ => .inl (by simp)) harr⟩
  | outgrown => exact ⟨_, a₁, w₁, hq, .pass (x := .inLoop c) rfl (fun _ _ => .inl (by simp)) harr⟩

theorem InLoop.round {F : Fence} {n : Nat} {c : Code} {Q : Exit → Act → World → Prop} {a : Act} {w : World} (h : c.wpIn F n P (Exit.then (InLoop F n P c Q) Q) a w) : InLoop F n P c Q a w :=
  fun b k cs hro hb hr => let ⟨e, a', w', hq, harr⟩ := loop_arrives h b k cs hro hb hr; ⟨e, a', w', hq, .of_steps (.one (fenced_calm hb hr rfl) stepR_inLoop) harr⟩

theorem wpIn_loop_of {F : Fence} {n : Nat} {c : Code} {Q : Exit → Act → World → Prop} {a : Act} {w : World} (h : c.wpIn F n P (Exit.then (InLoop F n P c Q) Q) a w) : (Code.loop c).wpIn F n P Q a w :=
  fun b k cs hro hb hr => let ⟨e, a', w', hq, harr⟩ := loop_arrives h b k cs hro hb hr; ⟨e, a', w', hq, .of_steps (.one (fenced_calm hb hr rfl) stepR_loop) harr⟩

def AgainOk (P : Program) (N : Nat) (again : Nat → Option Nat → FuncId → List Nat → Code → CAct → CSt → Option (CEx × CAct × CSt)) : Prop :=
  ∀ ro round fn p c a s e a2 s2, codeAt P fn p = some c → again ro round fn p c a s = some (e, a2, s2) →
    ∀ (i : Inj) (w : World) (a' : Act) (rd : Option Nat), SRel P N i s w → ActRel i a a' → RdRel i round rd →
      ∀ n, InLoop (FW rd) n P c (ExecPost P N ro i s w e a2 s2) a' w

structure SelfOk (P : Program) (N : Nat) (sf : Self) : Prop where
  call : CallOk P N sf.call
  exec : ExecOk P N sf.exec
  again : AgainOk P N sf.again

def plainNames (P : Program) : Bool := P.funcs.all fun fn => !(fn.name == "runtime.NumGoroutine")

theorem run_enter (hP : plainNames P = true) {f : FuncId} {fn : Func} {c : Code} (hf : P.funcs[f]? = some fn) (hb : fn.body = some c) (args : Array Value) (w : World) :
    (callFunc f args).run P w = .ok (.enter f args) w := by
  have hn : (fn.name == "runtime.NumGoroutine") = false := by
    have := Array.all_eq_true_iff_forall_mem.1 hP fn (Array.mem_of_getElem? hf)
    simpa using this
  have h1 : fn.name ≠ "runtime.NumGoroutine" := by simpa using hn
  simp [callFunc, hf, h1, hb, mark]

theorem SRel.set {i : Inj} {s : CSt} {w w' : World} {b : Nat} {o : CObj} (h : SRel P N i s w) (hr : Rel P N i (fset s.heap.get b o) w') : SRel P N i { s with heap := s.heap.set b o } w' :=
  ⟨by show Rel P N i (s.heap.set b o).get w'; rw [get_fset]; exact hr, h.fresh⟩

theorem putObj_other (w : World) (r : Nat) (o : Obj) (B : Nat) (h : B ≠ r) : (w.putObj r o).heap[B]? = w.heap[B]? := World.putObj_heap_other h

theorem loop_put {i : Inj} {s : CSt} {w : World} {ro l : Nat} {st st2 : LoopState} {pe pe2 : Option Code} {fn : FuncId} {tms : List CV} {po : List Nat} {de : Nat} {g : Img}
    (h : SRel P N i s w) (hl : s.heap.get l = some (.loop st pe fn tms po de)) (hg : i l = some g) (hro : ro ≤ l) :
    ∃ (f : Operand) (ps : Array Tmp) (asg bd : Code) (fn' : FuncId) (tms' : Array Value) (gd : Img), codeAt P fn po = some (.rangeFunc f ps asg bd) ∧ w.heap[g.B]? = some (.loop { state := st, pending := pe, fn := fn', tmps := tms', params := ps, assign := asg, body := bd, defers := gd.B }) ∧ LRel i tms tms'.toList ∧ i de = some gd ∧
      After P N ro i s w i { s with heap := s.heap.set l (.loop st2 pe2 fn tms po de) } (w.putObj g.B (.loop { state := st2, pending := pe2, fn := fn', tmps := tms', params := ps, assign := asg, body := bd, defers := gd.B })) := by
  obtain ⟨h1, f, ps, asg, bd, fn', tms', gd, h0, h2, h3, h4⟩ := h.rel.obj l _ g hl hg
  refine ⟨f, ps, asg, bd, fn', tms', gd, h0, h2, h3, h4, ?_⟩
  have hlt := h.rel.bnd l g hg
  have := h.rel.put (ro := ro) (o2 := .loop st2 pe2 fn tms po de) (w' := w.putObj g.B (.loop { state := st2, pending := pe2, fn := fn', tmps := tms', params := ps, assign := asg, body := bd, defers := gd.B })) hl hg hro rfl
    (by simp) rfl rfl rfl (fun B _ hne => putObj_other w g.B _ B hne) ⟨h1, f, ps, asg, bd, fn', tms', gd, h0, World.putObj_heap_same hlt, h3, h4⟩
  exact ⟨h.set this.1, by show Step ro i s.heap.get w i (s.heap.set l _).get _; rw [get_fset]; exact this.2, fun _ _ => ⟨rfl, rfl⟩, Nat.le_refl _⟩

theorem zip_setParams {i : Inj} : ∀ (ps : List Tmp) {vs ts : List CV} {vs' ts' : List Value}, LRel i vs vs' → LRel i ts ts' → LRel i (setParams ps vs ts) ((ps.zip vs').foldl (fun t (p, v) => t.set p v) ts')
  | [], vs, ts, vs', ts', hv, ht => by cases vs <;> simpa [setParams] using ht
  | p :: ps, vs, ts, vs', ts', hv, ht => by
    cases vs with
    | nil => have := hv.nil_inv; subst this; simpa [setParams] using ht
    | cons v vs =>
      obtain ⟨v', vs2, rfl, h1, h2⟩ := hv.cons_inv
      simp only [setParams, List.zip_cons_cons, List.foldl_cons]
      exact zip_setParams ps h2 (ht.set p h1)

theorem foldl_toList (ps : List (Tmp × Value)) (ts : Array Value) : (ps.foldl (fun (t : Array Value) (x : Tmp × Value) => t.setIfInBounds x.1 x.2) ts).toList = ps.foldl (fun t x => t.set x.1 x.2) ts.toList := by
  induction ps generalizing ts with
  | nil => rfl
  | cons p ps ih => simp only [List.foldl_cons]; rw [ih]; simp

end Go.Proofs.YtecidokjhplbgaaGreatDoorD

set_option linter.unusedVariables false
set_option linter.unusedSimpArgs false
namespace Go.Proofs.YtecidokjhplbgaaGreatDoorD
open Go Go.RowKit

variable {P : Program} {N : Nat}

theorem codeAt_kid {f : FuncId} {p : List Nat} {c x : Code} {d : Nat} (h : codeAt P f p = some c) (hk : kid d c = some x) : codeAt P f (d :: p) = some x := by
  unfold codeAt at h ⊢
  cases hf : P.funcs[f]? with
  | none => rw [hf] at h; cases h
  | some fn =>
    rw [hf] at h
    simp only [] at h ⊢
    cases hb : fn.body with
    | none => rw [hb] at h; cases h
    | some b =>
      rw [hb] at h
      simp only [] at h ⊢
      simp only [codeIn, h, hk]

theorem cround_sound {self : Self} (hself : SelfOk P N self) {ro l : Nat} {args : List CV} {s s' : CSt} {v : CV} (e : cround self P ro l args s = some (v, s')) {i : Inj} {w : World} {args' : Array Value} {g : Img}
    (hs : SRel P N i s w) (hl : LRel i args args'.toList) (hg : i l = some g) :
    ∃ fn tms asg bd, (Instr.yield g.B args').run P w = .ok (.round g.B fn tms asg bd) w ∧
      ∀ n rd, RoundIn (FW rd) n P g.B fn tms asg bd w fun e w' => ∃ i' v', e = .returned v' ∧ VRel i' v v' ∧ After P N ro i s w i' s' w' := by
  unfold cround at e
  split at e
  · rename_i st pe fn tmps pos de hget
    split at e
    · rename_i f params assign body hcode
      have hk0 : codeAt P fn (0 :: pos) = some assign := codeAt_kid hcode rfl
      have hk1 : codeAt P fn (1 :: pos) = some body := codeAt_kid hcode rfl
      rw [nbeq, nble] at e
      by_cases hc : args.length = params.size ∧ ro ≤ l
      · obtain ⟨hc1, hc2⟩ := hc
        simp only [hc1, hc2, decide_true, Bool.and_self, cond_true] at e
        obtain ⟨_, f0, ps0, asg0, bd0, fn', tms', gd, h0, h2, h3, h4⟩ := hs.rel.obj l _ g hget hg
        rw [hcode] at h0
        cases h0
        have hsz : args'.size = params.size := by rw [← hc1, hl.len]; simp
        refine ⟨_, _, _, _, run_yield h2 (by simpa using hsz), fun n rd => ?_⟩
        split at e
        · rename_i a1 s1 hex
          split at e
          · rename_i pe1 fn1 tm1 po1 de1 hm1 hget1
            split at e
            · rename_i ex a2 s2 hex2
              split at e
              · rename_i st2 pe2 fn2 tm2 po2 de2 hm2 hget2
                refine roundIn_of_wpIn (F := FW rd) trivial ?_
                have hact : ActRel i { tmps := setParams params.toList args tmps, marks := [] } { tmps := (params.zip args').foldl (fun tmps (t, a) => tmps.setIfInBounds t a) tms', defers := [] } := by
                  refine ⟨?_, .nil⟩
                  have := zip_setParams params.toList hl h3
                  simp only [← Array.foldl_toList, Array.toList_zip]
                  rw [foldl_toList]
                  exact this
                refine wpIn_mono (hself.exec ro (some l) fn _ assign _ s .normal a1 s1 hk0 hex i w _ (some g.B) hs hact (.inr ⟨l, g, rfl, hg, rfl⟩) n) ?_
                rintro ex1 a1' w1 ⟨i1, rfl, hr1, ha1⟩
                simp only [toExit, Exit.then]
                have hg1 := ha1.step.ext.blk _ _ hg
                obtain ⟨f5, ps5, asg5, bd5, fnb, tmb, gdb, q0, q1, q2, q3, q4⟩ := loop_put (st2 := .busy) (pe2 := pe1) ha1.srel hget1 hg1 hc2
                refine ⟨_, run_beginRound q1 rfl, ?_⟩
                refine wpIn_mono (hself.exec ro (some l) fn _ body a1 _ ex a2 s2 hk1 hex2 i1 _ a1' (some g.B) q4.srel hr1 (.inr ⟨l, g, rfl, hg1, rfl⟩) n) ?_
                rintro ex2 a2' w2 ⟨i2, rfl, hr2, ha2⟩
                have hg2 := ha2.step.ext.blk _ _ hg1
                have hall := (ha1.trans q4).trans ha2
                cases ex with
                | normal =>
                  simp only [] at e; cases e
                  obtain ⟨f6, ps6, asg6, bd6, f3, t3, g3, z0, z1, z2, z3, z4⟩ := loop_put (st2 := .ready) (pe2 := none) ha2.srel hget2 hg2 hc2
                  exact ⟨_, _, run_endRound none z1, i2, _, rfl, .bool true, hall.trans z4⟩
                | ret =>
                  simp only [] at e; cases e
                  obtain ⟨f6, ps6, asg6, bd6, f3, t3, g3, z0, z1, z2, z3, z4⟩ := loop_put (st2 := .done) (pe2 := some .ret) ha2.srel hget2 hg2 hc2
                  exact ⟨_, _, run_endRound (some .ret) z1, i2, _, rfl, .bool false, hall.trans z4⟩
                | exit id =>
                  simp only [] at e; cases e
                  obtain ⟨f6, ps6, asg6, bd6, f3, t3, g3, z0, z1, z2, z3, z4⟩ := loop_put (st2 := .done) (pe2 := some (.exit id)) ha2.srel hget2 hg2 hc2
                  exact ⟨_, _, run_endRound (some (.exit id)) z1, i2, _, rfl, .bool false, hall.trans z4⟩
              · cases e
            · cases e
          · cases e
        · cases e
      · have : (decide (args.length = params.size) && decide (ro ≤ l)) = false := by simpa using hc
        rw [this] at e; cases e
    · cases e
  · cases e

def singleV : List Value → Value
  | [v] => v
  | vs => .tuple vs.toArray

def resVar (ts : Array Value) : ResultVar → Sem Value
  | .tmp t => pure (ts.getD t undef)
  | .cell a t => do loadVar t (← asAddr (ts.getD a undef))
theorem results_eq (fn : Func) (ts : Array Value) : results fn ts = (do
    let vs ← fn.results.mapM (resVar ts)
    Pure.pure (if h : vs.size = 1 then vs[0] else Value.tuple vs)) := rfl

theorem callC_sound {L : List (Nat × List Nat × LoopFn)} {self : Self} (hself : SelfOk P N self)
    (hC : ∀ ro round fn p c a s e a2 s2, codeAt P fn p = some c → execC L self P ro round fn p c a s = some (e, a2, s2) →
      ∀ (i : Inj) (w : World) (a' : Act) (rd : Option Nat), SRel P N i s w → ActRel i a a' → RdRel i round rd → ∀ n, c.wpIn (FW rd) n P (ExecPost P N ro i s w e a2 s2) a' w) :
    CallOk P N (callC L self P) := by
  intro ro f args s v s' e
  unfold callC at e
  split at e
  · rename_i fn hf
    split at e
    · rename_i c hb
      refine ⟨⟨fn, c, hf, hb⟩, fun i w args' hs hl => ?_⟩
      refine callsIn_of_wp_marks (F := FW none) hf hb trivial ?_ rfl
      have hact : ActRel i { tmps := args ++ List.replicate (fn.ntmps - args.length) cundef, marks := [] } { tmps := args' ++ Array.replicate (fn.ntmps - args'.size) undef, defers := [] } := by
        refine ⟨?_, .nil⟩
        have hsz : args'.size = args.length := by rw [hl.len]; simp
        rw [hsz]
        simp only [Array.toList_append, Array.toList_replicate]
        refine hl.append ?_
        generalize fn.ntmps - args.length = k
        induction k with
        | zero => exact .nil i
        | succ k ih => rw [List.replicate_succ, List.replicate_succ]; exact .cons (.undef i) ih
      -- how a body ends
      have fin : ∀ (a : CAct) (s2 : CSt) (i2 : Inj) (w2 : World) (a2' : Act), ActRel i2 a a2' → After P N ro i s w i2 s2 w2 →
          (match cmarks ro a.marks s2.heap with
           | some h => match cresults P a.tmps h.get fn.results.toList with
             | some vs => some (single vs, { s2 with heap := h })
             | none => none
           | none => none) = some (v, s') →
          LeavesInM (FW none) 0 P fn a2'.tmps (fun e w' => ∃ i' v', e = .returned v' ∧ VRel i' v v' ∧ After P N ro i s w i' s' w') a2'.defers .returning w2 := by
        intro a s2 i2 w2 a2' hr ha he
        obtain ⟨ts, ms⟩ := a
        obtain ⟨ts', ds⟩ := a2'
        obtain ⟨hts, hms⟩ := hr
        simp only [] at he hts hms ⊢
        induction hms generalizing s2 w2 with
        | nil =>
          simp only [cmarks] at he
          split at he
          · rename_i vs hvs
            cases he
            have hres : ∀ (l : List ResultVar) (vs : List CV), cresults P ts s2.heap.get l = some vs →
                ∃ vs', (l.mapM (resVar ts')).run P w2 = .ok vs' w2 ∧ LRel i2 vs vs' := by
              intro l
              induction l with
              | nil => intro vs h; simp [cresults] at h; subst h; exact ⟨[], rfl, .nil i2⟩
              | cons r l ih =>
                intro vs h
                simp only [cresults] at h
                split at h
                · cases h
                · rename_i x hx
                  split at h
                  · cases h
                  · rename_i xs hxs
                    cases h
                    obtain ⟨ys, h1, h2⟩ := ih xs hxs
                    have hget : ∀ t, VRel i2 (ts.getD t cundef) (ts'.getD t undef) := fun t => by
                      have := ceval_rel (a := ⟨ts, []⟩) (a' := ⟨ts', []⟩) ⟨hts, .nil⟩ (.tmp t) (ts.getD t cundef) rfl
                      exact this
                    have hone : ∃ y, (resVar ts' r).run P w2 = .ok y w2 ∧ VRel i2 x y := by
                      cases r with
                      | tmp t => simp only [cresult] at hx; cases hx; exact ⟨_, rfl, hget t⟩
                      | cell t ty =>
                        simp only [cresult] at hx
                        split at hx
                        · rename_i b o hb2
                          have hp := hget t
                          rw [hb2] at hp
                          obtain ⟨gg, hgg, hpe⟩ := hp.ptr_inv
                          obtain ⟨y, h3, h4⟩ := cload_run ha.srel.rel hgg hx
                          exact ⟨y, by simp [resVar, Sem.run_bind, hpe, asAddr, Result.andThen, h3], h4⟩
                        · cases hx
                    obtain ⟨y, h3, h4⟩ := hone
                    refine ⟨y :: ys, ?_, .cons h4 h2⟩
                    rw [List.mapM_cons]
                    simp only [Sem.run_bind, h3, h1, Result.andThen_ok, Sem.run_pure]
            obtain ⟨vs', h1, h2⟩ := hres _ _ hvs
            have hr1 : (results fn ts').run P w2 = .ok (singleV vs') w2 := by
              rw [results_eq, Sem.run_bind]
              have h3 : (fn.results.mapM (resVar ts')).run P w2 = .ok vs'.toArray w2 := by
                rw [Array.mapM_eq_mapM_toList, map_eq_pure_bind, Sem.run_bind, h1]; rfl
              rw [h3]
              match vs' with
              | [] => rfl
              | [x] => rfl
              | x :: y :: r => simp [Result.andThen, singleV]
            show LeavesIn (FW none) 0 P fn ts' _ [] .returning w2
            refine ⟨singleV vs', hr1, i2, singleV vs', rfl, ?_, ha⟩
            have hsin : ∀ {a : List CV} {b : List Value}, LRel i2 a b → VRel i2 (single a) (singleV b) := fun {a b} hab => by
              match a, b, hab with
              | [], [], _ => exact .tuple' (.nil i2)
              | [x], [y], hab => exact hab.head
              | x :: x2 :: xs, y :: y2 :: ys, hab => exact .tuple' hab
              | [], y :: ys, hab => have := hab.len; simp at this
              | x :: xs, [], hab => have := hab.len; simp at this
              | [x], y :: y2 :: ys, hab => have := hab.len; simp at this
              | x :: x2 :: xs, [y], hab => have := hab.len; simp at this
            exact hsin h2
          · cases he
        | cons hd hrest ih =>
          rename_i d g ds' rs
          simp only [cmarks] at he
          cases hgd : s2.heap.get d with
          | none => rw [hgd] at he; cases he
          | some o =>
            cases o <;> rw [hgd] at he <;> simp only [] at he <;> first | (cases he; done) | skip
            rw [nble] at he
            by_cases hro : ro ≤ d
            · simp only [hro, decide_true, cond_true] at he
              obtain ⟨_, hdef⟩ := ha.srel.rel.obj d _ g hgd hd
              have hlt := ha.srel.rel.bnd d g hd
              have hput := ha.srel.rel.put (ro := ro) (o2 := .dead) (w' := w2.putObj g.B (.deferred none)) hgd hd hro rfl (by simp) rfl rfl rfl (fun B _ hne => putObj_other w2 g.B _ B hne) trivial
              have ha2 : After P N ro i s w i2 { s2 with heap := s2.heap.set d .dead } (w2.putObj g.B (.deferred none)) :=
                ha.trans ⟨ha.srel.set hput.1, by show Step ro i2 s2.heap.get w2 i2 (s2.heap.set d _).get _; rw [get_fset]; exact hput.2, fun _ _ => ⟨rfl, rfl⟩, Nat.le_refl _⟩
              exact ⟨by simp, .inl ⟨g.B, _, rfl, run_takeDeferred hdef, ih _ _ ha2 he⟩⟩
            · simp [hro] at he
      split at e
      · rename_i a s2 hex
        refine wpIn_mono (hC _ _ _ [] _ _ _ _ _ _ (by unfold codeAt; rw [hf]; simp only [hb]; rfl) hex i w _ none hs hact (.inl ⟨rfl, rfl⟩) 0) ?_
        rintro ex a2' w2 ⟨i2, rfl, hr, ha⟩
        exact fin _ _ _ _ _ hr ha e
      · rename_i a s2 hex
        refine wpIn_mono (hC _ _ _ [] _ _ _ _ _ _ (by unfold codeAt; rw [hf]; simp only [hb]; rfl) hex i w _ none hs hact (.inl ⟨rfl, rfl⟩) 0) ?_
        rintro ex a2' w2 ⟨i2, rfl, hr, ha⟩
        exact fin _ _ _ _ _ hr ha e
      · cases e
    · cases e
  · cases e

end Go.Proofs.YtecidokjhplbgaaGreatDoorD

set_option linter.unusedVariables false
set_option linter.unusedSimpArgs false
namespace Go.Proofs.YtecidokjhplbgaaGreatDoorD
open Go Go.RowKit

variable {P : Program} {N : Nat}

structure AfterOp (P : Program) (N ro id : Nat) (i : Inj) (s : CSt) (w : World) (i' : Inj) (s' : CSt) (w' : World) : Prop where
  srel : SRel P N i' s' w'
  step : Step ro i s.heap.get w i' s'.heap.get w'
  low : ∀ b, b < s.next → b ≠ id → i' b = i b ∧ i'.void b = i.void b
  nx : s.next ≤ s'.next

theorem wpIn_of_run {o : Oper} {a : Act} {w w' : World} {nx : Next} {v : Value} {n : Nat} {rd : Option Nat} {K : Act → World → Prop} {Q : Exit → Act → World → Prop} (hdef : ∀ c, o.op ≠ .defer c)
    (hr : (execOp a.eval o).run P w = .ok nx w') (hnx : nx = .value v ∨ (nx = .skip ∧ v = undef)) (hK : K (a.put o.dst v) w') : o.wpIn (FW rd) n P a w K Q := by
  refine ⟨fun _ _ => trivial, ?_⟩
  rw [Oper.semAt_eq _ _ _ hdef, hr]
  rcases hnx with rfl | ⟨rfl, rfl⟩ <;> exact hK

theorem not_defer {self : Self} {ro id : Nat} {a : CAct} {o : Oper} {s s' : CSt} {v : CV} (e : cOper self P ro id a o s = some (v, s')) : ∀ c, o.op ≠ .defer c := by
  intro c hc
  simp [cOper, tmem_eq, tmem0, cmem_eq, cmem0, cpure_eq, cpure0, hc, T.of, T.ev] at e

theorem SRel.setAll {i : Inj} {s : CSt} {w : World} {ef : Eff} (hr : Rel P N i (eall s.heap.get ef) w) (hf : ∀ b, s.next ≤ b → i.free b) : SRel P N i { s with heap := Go.Proofs.YtecidokjhplbgaaGreatDoorD.setAll s.heap ef } w :=
  ⟨by show Rel P N i (Go.Proofs.YtecidokjhplbgaaGreatDoorD.setAll s.heap ef).get w; rw [get_setAll]; exact hr, hf⟩

theorem add64_find {fn : Func} (h : isAdd64 fn = true) : fn.body.isNone = true ∧ (fn.name == "runtime.NumGoroutine") = false ∧ Extern.findNext fn = none ∧ Extern.find fn = some add64Entry := by
  simp only [isAdd64, Bool.and_eq_true, beq_iff_eq] at h
  obtain ⟨h1, h2, h3⟩ := h
  refine ⟨h1, by rw [h2]; decide, ?_, ?_⟩
  · unfold Extern.findNext; simp only [h2, h3]; kernel_rfl
  · unfold Extern.find; simp only [h2, h3]; kernel_rfl
theorem countS_find {fn : Func} (h : isCountS fn = true) : fn.body.isNone = true ∧ (fn.name == "runtime.NumGoroutine") = false ∧ Extern.findNext fn = none ∧ Extern.find fn = some Extern.BytealgCount.count := by
  simp only [isCountS, Bool.and_eq_true, beq_iff_eq] at h
  obtain ⟨h1, h2, h3⟩ := h
  refine ⟨h1, by rw [h2]; decide, ?_, ?_⟩
  · unfold Extern.findNext; simp only [h2, h3]; kernel_rfl
  · unfold Extern.find; simp only [h2, h3]; kernel_rfl
theorem indexS_find {fn : Func} (h : isIndexS fn = true) : fn.body.isNone = true ∧ (fn.name == "runtime.NumGoroutine") = false ∧ Extern.findNext fn = none ∧ Extern.find fn = some Extern.BytealgIndexByte.indexByte := by
  simp only [isIndexS, Bool.and_eq_true, beq_iff_eq] at h
  obtain ⟨h1, h2, h3⟩ := h
  refine ⟨h1, by rw [h2]; decide, ?_, ?_⟩
  · unfold Extern.findNext; simp only [h2, h3]; kernel_rfl
  · unfold Extern.find; simp only [h2, h3]; kernel_rfl
theorem idxByte_eq (c : UInt8) : ∀ (l : List UInt8) (k : Nat), idxByte c l k = if Lib.indexByte l c = -1 then -1 else Lib.indexByte l c + k
  | [], k => by simp [idxByte, Lib.indexByte]
  | b :: l, k => by
    rw [idxByte, Lib.indexByte, idxByte_eq c l (k + 1)]
    have := Lib.indexByte_ge l c
    cases b == c with
    | true => simp
    | false =>
      simp only [Bool.false_eq_true, if_false, beq_iff_eq]
      by_cases h : Lib.indexByte l c = -1
      · simp [h]
      · simp only [h, if_false]
        rw [if_neg (by omega)]; omega
theorem func_bare {f : FuncId} {i : Inj} {fv : Value} (hg : VRel i (.func (.func f) ⟨[]⟩ ⟨[]⟩) fv) : fv = .func (.func f) #[] #[] := by
  generalize hge : CV.func (.func f) ⟨[]⟩ ⟨[]⟩ = gg at hg
  cases hg with
  | func l1 l2 l3 l4 =>
    rename_i as cs bs ds
    injection hge with e1 e2 e3
    have ea : as = [] := by have := congrArg Array.toList e2; simpa using this.symm
    have ec : cs = [] := by have := congrArg Array.toList e3; simpa using this.symm
    injection e1 with e1
    subst e1; subst ea; subst ec
    have eb : bs = [] := List.eq_nil_of_length_eq_zero l1.symm
    have ed : ds = [] := List.eq_nil_of_length_eq_zero l3.symm
    subst eb; subst ed; rfl
  | _ => cases hge
theorem tintr_sound {vs : List CV} {g v : CV} {t : T CV} {i : Inj} {w : World} {fv : Value} {xs : List Value} (h : tintr P vs g = some t) (hv : t.ev = some v) (hg : VRel i g fv) (hl : LRel i vs xs) :
    ∃ f v', fv = .func (.func f) #[] #[] ∧ (callFunc f xs.toArray).run P w = .ok (.value v') w ∧ VRel i v v' := by
  unfold tintr at h
  split at h
  · rename_i x y c f
    split at h
    · rename_i fn hf
      cases ha : isAdd64 fn with
      | false => rw [ha] at h; cases h
      | true =>
        rw [ha] at h
        cases h
        obtain ⟨hc, h1⟩ := ev_when hv
        cases ev_ret h1
        simp only [Bool.and_eq_true, decide_eq_true_eq] at hc
        obtain ⟨a1, a2, a3, a4⟩ := add64_find ha
        obtain ⟨y1, r1, rfl, hy1, hr⟩ := hl.cons_inv
        obtain ⟨y2, r2, rfl, hy2, hr2⟩ := hr.cons_inv
        obtain ⟨y3, r3, rfl, hy3, hr3⟩ := hr2.cons_inv
        have := hr3.nil_inv; subst this
        cases hy1; cases hy2; cases hy3
        have hfv := func_bare hg
        refine ⟨f, .tuple #[.int .u64 ((x + y + c) % 18446744073709551616), .int .u64 ((x + y + c) / 18446744073709551616)], hfv, ?_, ?_⟩
        · rw [run_callFunc_extern hf a2 a1 a3 a4, run_add64 x y c hc.1.1 hc.1.2 hc.2.1 hc.2.2]
          rfl
        · exact VRel.tuple (LRel.cons (.int _ _) (.cons (.int _ _) (.nil i))).len (LRel.cons (.int _ _) (.cons (.int _ _) (.nil i))).at_
    · cases h
  · rename_i b c f
    split at h
    · rename_i fn hf
      have args : ∃ c', xs = [.string b, .int .u8 c] ∧ c' = c := by
        obtain ⟨y1, r1, rfl, hy1, hr⟩ := hl.cons_inv
        obtain ⟨y2, r2, rfl, hy2, hr2⟩ := hr.cons_inv
        have := hr2.nil_inv; subst this
        cases hy1; cases hy2
        exact ⟨c, rfl, rfl⟩
      obtain ⟨_, rfl, _⟩ := args
      have hfv := func_bare hg
      cases ha : isCountS fn with
      | true =>
        rw [ha] at h
        cases h
        cases ev_ret hv
        obtain ⟨a1, a2, a3, a4⟩ := countS_find ha
        refine ⟨f, .int .i64 (b.data.toList.count c.toNat.toUInt8 : Nat), hfv, ?_, .int _ _⟩
        rw [run_callFunc_extern hf a2 a1 a3 a4, show [Value.string b, Value.int .u8 c].toArray = #[.string b, .int .u8 c] from rfl, Lib.run_countString]
        rfl
      | false =>
        rw [ha] at h
        cases hb : isIndexS fn with
        | false => rw [hb] at h; cases h
        | true =>
          rw [hb] at h
          cases h
          cases ev_ret hv
          obtain ⟨a1, a2, a3, a4⟩ := indexS_find hb
          refine ⟨f, .int .i64 (idxByte c.toNat.toUInt8 b.data.toList 0), hfv, ?_, .int _ _⟩
          rw [run_callFunc_extern hf a2 a1 a3 a4, show [Value.string b, Value.int .u8 c].toArray = #[.string b, .int .u8 c] from rfl, Lib.run_indexByteString, idxByte_eq]
          by_cases hx : Lib.indexByte b.data.toList c.toNat.toUInt8 = -1
          · rw [if_pos hx, hx]; rfl
          · rw [if_neg hx, show Lib.indexByte b.data.toList c.toNat.toUInt8 + ((0 : Nat) : Int) = Lib.indexByte b.data.toList c.toNat.toUInt8 by omega]; rfl
    · cases h
  · cases h

theorem cOper_sound (hP : plainNames P = true) {self : Self} (hself : SelfOk P N self) {ro id : Nat} {a : CAct} {o : Oper} {s s' : CSt} {v : CV} (e : cOper self P ro id a o s = some (v, s'))
    {i : Inj} {w : World} {a' : Act} {rd : Option Nat} {n : Nat} (hs : SRel P N i s w) (ha : ActRel i a a') (hid : i.free id) (hlt : id < s.next) {K : Act → World → Prop} {Q : Exit → Act → World → Prop}
    (hK : ∀ i' w' v', VRel i' v v' → AfterOp P N ro id i s w i' s' w' → K (a'.put o.dst v') w') : o.wpIn (FW rd) n P a' w K Q := by
  have hdef := not_defer e
  unfold cOper at e
  split at e
  · rename_i f args ts hop
    split at e
    · rename_i g vs hg hvs
      have hf := ceval_rel ha f g hg
      have hl := evals_rel (ceval_rel ha) _ hvs
      cases hin : tintr P vs g with
      | some t =>
        rw [hin] at e
        simp only [] at e
        split at e
        · rename_i u hu
          cases e
          obtain ⟨q, v', h1, h2, h3⟩ := tintr_sound (w := w) hin hu hf hl
          refine wpIn_of_run hdef (nx := .value v') (w' := w) ?_ (.inl rfl) (hK i w v' h3 ⟨hs, .refl _ _ _ _, fun _ _ _ => ⟨rfl, rfl⟩, Nat.le_refl _⟩)
          obtain ⟨dst, op, type, pos, after, guard⟩ := o
          simp only [] at hop
          subst hop
          simp only [execOp, resolve, h1, Deferred.ofValue, Sem.run_bind, Sem.run_pure, Result.andThen_ok, invoke]
          have e2 : (List.map a'.eval args.toList).toArray = #[] ++ args.map a'.eval ++ #[] := by apply Array.ext'; simp
          rw [e2] at h2
          exact h2
        · cases e
      | none =>
      rw [hin] at e
      simp only [] at e
      unfold ccallv at e
      split at e
      · rename_i q first captured
        obtain ⟨⟨fn, c, h1, h2⟩, h3⟩ := hself.call _ _ _ _ _ _ e
        generalize hfe : a'.eval f = fv at hf
        cases hf with
        | func l1 l2 l3 l4 =>
          rename_i as cs bs ds
          have hargs : LRel i (as ++ vs ++ cs) (((bs.toArray ++ args.map a'.eval) ++ ds.toArray).toList) := by
            simp only [Array.toList_append, Array.toList_map]
            exact (LRel.append ⟨l1, l2⟩ hl).append ⟨l3, l4⟩
          have hcall := h3 i w ((bs.toArray ++ args.map a'.eval) ++ ds.toArray) hs hargs
          refine ⟨fun _ _ => trivial, ?_⟩
          rw [Oper.semAt_eq _ _ _ hdef]
          have hrun : (execOp a'.eval o).run P w = .ok (.enter q ((bs.toArray ++ args.map a'.eval) ++ ds.toArray)) w := by
            obtain ⟨dst, op, type, pos, after, guard⟩ := o
            simp only [] at hop
            subst hop
            simp only [execOp, resolve, hfe, Deferred.ofValue, Sem.run_bind, Sem.run_pure, Result.andThen_ok, invoke]
            exact run_enter hP h1 h2 _ w
          rw [hrun]
          refine ⟨fun hd => (by cases hd), ?_⟩
          refine (FW_calls hcall).mono ?_
          rintro e w' ⟨i', v', rfl, hv, haf⟩
          exact hK i' w' v' hv ⟨haf.srel, haf.step, fun b hb _ => haf.low b hb, haf.nx⟩
      · rename_i l first captured
        generalize hfe : a'.eval f = fv at hf
        cases hf with
        | yield hgl =>
          rename_i g
          have hargs : LRel i vs ((#[] ++ args.map a'.eval).toList) := by simpa using hl
          obtain ⟨fn, tms, asg, bd, h1, h2⟩ := cround_sound hself (by simpa using e) hs hargs hgl
          refine ⟨fun _ _ => trivial, ?_⟩
          rw [Oper.semAt_eq _ _ _ hdef]
          have hrun : (execOp a'.eval o).run P w = .ok (.round g.B fn tms asg bd) w := by
            obtain ⟨dst, op, type, pos, after, guard⟩ := o
            simp only [] at hop
            subst hop
            simp only [execOp, resolve, hfe, Deferred.ofValue, Sem.run_bind, Sem.run_pure, Result.andThen_ok, invoke]
            exact h1
          rw [hrun]
          refine ⟨fun hd => (by cases hd), ?_⟩
          refine (h2 (n - 1) rd).mono ?_
          rintro e w' ⟨i', v', rfl, hv, haf⟩
          exact hK i' w' v' hv ⟨haf.srel, haf.step, fun b hb _ => haf.low b hb, haf.nx⟩
      · cases e
    · cases e
  · split at e
    · rename_i u ef hm
      cases e
      obtain ⟨nx, i', w', v', d1, d2, d3, d4, d5, d6⟩ := tmem_sound hs.rel (ceval_rel ha) hid hm
      refine wpIn_of_run hdef d1 d2 (hK i' w' v' d3 ⟨.setAll d4 (fun b hb => ?_), ?_, fun b _ hb => d6 b hb, Nat.le_refl _⟩)
      · have h1 := d6 b (by omega)
        have h2 := hs.fresh b hb
        exact ⟨h1.1.trans h2.1, h1.2.trans h2.2⟩
      · show Step ro i s.heap.get w i' (setAll s.heap ef).get w'
        rw [get_setAll]; exact d5
    · cases e

theorem cOps_sound (hP : plainNames P = true) {self : Self} (hself : SelfOk P N self) {ro b : Nat} {ops : Array Oper} {rd : Option Nat} {n : Nat} {Q : Exit → Act → World → Prop} :
    ∀ (l : List Oper) (k : Nat) (a : CAct) (s : CSt) {a2 : CAct} {s2 : CSt}, cOps self P ro b ops l k a s = some (a2, s2) → (∀ j, l[j]? = ops[k + j]?) → b + (k + l.length) ≤ s.next →
      ∀ (i : Inj) (w : World) (a' : Act), SRel P N i s w → ActRel i a a' → (∀ j, k ≤ j → j < k + l.length → i.free (b + j)) →
        (∀ i2 w2 a2', ActRel i2 a2 a2' → SRel P N i2 s2 w2 → Step ro i s.heap.get w i2 s2.heap.get w2 → (∀ c, c < b + k → i2 c = i c ∧ i2.void c = i.void c) → s.next ≤ s2.next → Q .normal a2' w2) →
        wpOpsIn (FW rd) n P ops Q (List.range' k l.length) a' w
  | [], k, a, s, a2, s2, e, hl, hb, i, w, a', hs, ha, hfr, hQ => by
    simp only [cOps] at e; cases e
    exact hQ i w a' ha hs (.refl _ _ _ _) (fun _ _ => ⟨rfl, rfl⟩) (Nat.le_refl _)
  | o :: r, k, a, s, a2, s2, e, hl, hb, i, w, a', hs, ha, hfr, hQ => by
    have h0 : ops[k]? = some o := by simpa using (hl 0).symm
    have hl' : ∀ j, r[j]? = ops[k + 1 + j]? := fun j => by have := hl (j + 1); simpa [Nat.add_assoc, Nat.add_comm 1 j] using this
    simp only [List.length_cons] at hb ⊢
    rw [List.range'_succ]
    simp only [wpOpsIn, h0]
    simp only [cOps] at e
    cases hgf : gfine ops o a.tmps with
    | false => rw [hgf] at e; cases e
    | true =>
    rw [hgf] at e
    simp only [cond_true] at e
    rw [wanted_rel ha ops o hgf] at e
    cases hw : Region.wanted o (yielded ops a'.tmps) with
    | true =>
      rw [hw] at e
      simp only [cond_true] at e
      simp only [if_true]
      split at e
      · rename_i v s1 ho
        refine cOper_sound hP hself ho hs ha (hfr k (Nat.le_refl k) (by simp)) (by omega) ?_
        intro i' w' v' hv haf
        refine cOps_sound hP hself r (k + 1) _ s1 e hl' (by have := haf.nx; omega) i' w' _ haf.srel ((ha.mono haf.step.ext).put o.dst hv) (fun j hj hj2 => ?_) ?_
        · have h1 := haf.low (b + j) (by omega) (by omega)
          have h2 := hfr j (by omega) (by simp; omega)
          exact ⟨h1.1.trans h2.1, h1.2.trans h2.2⟩
        · intro i2 w2 a2' q1 q2 q3 q4 q5
          exact hQ i2 w2 a2' q1 q2 (haf.step.trans q3) (fun c hc => ⟨(q4 c (by omega)).1.trans (haf.low c (by omega) (by omega)).1, (q4 c (by omega)).2.trans (haf.low c (by omega) (by omega)).2⟩) (Nat.le_trans haf.nx q5)
      · cases e
    | false =>
      rw [hw] at e
      simp only [cond_false] at e
      simp only [Bool.false_eq_true, if_false]
      refine ⟨fun _ _ => trivial, ?_⟩
      refine cOps_sound hP hself r (k + 1) _ s e hl' (by omega) i w _ hs (ha.put o.dst (.undef i)) (fun j hj hj2 => hfr j (by omega) (by simp; omega)) ?_
      intro i2 w2 a2' q1 q2 q3 q4 q5
      exact hQ i2 w2 a2' q1 q2 q3 (fun c hc => q4 c (by omega)) q5

theorem region_sound (hP : plainNames P = true) {self : Self} (hself : SelfOk P N self) {ro id : Nat} {ops : Array Oper} {a a2 : CAct} {s s2 : CSt}
    (e : cOps self P ro s.next ops ops.toList 0 a { s with next := s.next + ops.size } = some (a2, s2)) {i : Inj} {w : World} {a' : Act} {rd : Option Nat} {n : Nat} (hs : SRel P N i s w) (ha : ActRel i a a') :
    (Code.region id ops false).wpIn (FW rd) n P (ExecPost P N ro i s w .normal a2 s2) a' w := by
  refine wpIn_region ?_
  have hs0 : SRel P N i { s with next := s.next + ops.size } w := ⟨hs.rel, fun b hb => hs.fresh b (by simp only [] at hb; omega)⟩
  have := cOps_sound hP hself (rd := rd) (n := n) (Q := ExecPost P N ro i s w .normal a2 s2) ops.toList 0 a { s with next := s.next + ops.size } e (by simp) (by simp) i w a' hs0 ha (fun j _ _ => hs.fresh _ (by omega))
    (fun i2 w2 a2' q1 q2 q3 q4 q5 => ⟨i2, rfl, q1, q2, q3, fun c hc => q4 c (by omega), by simp only [] at q5; omega⟩)
  rw [List.range_eq_range']
  simpa using this

end Go.Proofs.YtecidokjhplbgaaGreatDoorD
