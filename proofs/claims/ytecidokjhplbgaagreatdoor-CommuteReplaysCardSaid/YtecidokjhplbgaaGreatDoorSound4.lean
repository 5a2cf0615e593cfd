/-
  What the reference run comes to, the model's run comes to: loops over functions, code; the theorem.
-/
import Derived.Test.YtecidokjhplbgaaGreatDoorDrawnA
set_option linter.unusedVariables false
set_option linter.unusedSimpArgs false
namespace Go.Proofs.YtecidokjhplbgaaGreatDoorD
open Go Go.RowKit

variable {P : Program} {N : Nat}

theorem range_sound (hP : plainNames P = true) {self : Self} (hself : SelfOk P N self) {ro : Nat} {round : Option Nat} {fn : FuncId} {p : List Nat} {f : Operand} {params : Array Tmp} {assign body : Code} {a a2 : CAct} {s s2 : CSt} {ex : CEx} (hcode : codeAt P fn p = some (.rangeFunc f params assign body))
    (e : cRange self P ro round fn p f a s = some (ex, a2, s2)) {i : Inj} {w : World} {a' : Act} {rd : Option Nat} {n : Nat} (hs : SRel P N i s w) (ha : ActRel i a a') (hr : RdRel i round rd) :
    (Code.rangeFunc f params assign body).wpIn (FW rd) n P (ExecPost P N ro i s w ex a2 s2) a' w := by
  unfold cRange at e
  split at e
  · rename_i g first captured hg
    have hf := ceval_rel ha f _ hg
    generalize hfe : a'.eval f = fv at hf
    cases hf with
    | func l1 l2 l3 l4 =>
      rename_i as cs bs ds
      -- what stands behind the record's making
      have main : ∀ (L : Nat) (ms : List Nat) (s1 : CSt) (i1 : Inj) (w1 : World) (gL : Img) (mark : List Deferred) (fn' : FuncId), i1 L = some gL → After P N ro i s w i1 s1 w1 → MRel i1 ms mark →
          (Instr.enterLoop fn' a'.tmps params assign body rd).run P w = .ok (gL.B, mark) w1 →
          cRangeGo self ro a g as cs L ms s1 = some (ex, a2, s2) →
          ∃ (l : Nat) (mark : List Deferred) (w₁ : World) (d : Deferred) (w₁' : World) (f' : FuncId) (args : Array Value) (w₂ : World),
            (Instr.enterLoop fn' a'.tmps params assign body (FW rd).round).run P w = .ok (l, mark) w₁ ∧
            (resolve a'.eval (rangeCall f l) 0).run P w₁ = .ok d w₁' ∧
            (∀ f', Target.leads P w₁' d.target d.args = some f' → (FW rd).fn f') ∧
            (invoke d.target d.args).run P w₁' = .ok (.enter f' args) w₂ ∧
            ((FW rd).depth.isSome = true → 1 ≤ n) ∧
            CallsIn (FW rd) (n - 1) P f' args w₂ (rangePost (FW rd) n P l (ExecPost P N ro i s w ex a2 s2) { a' with defers := mark ++ a'.defers }) := by
        intro L ms s1 i1 w1 gL mark fn' hL haf hm hen hgo
        unfold cRangeGo at hgo
        split at hgo
        · rename_i v s3 hcall
          obtain ⟨⟨fn2, c2, h1, h2⟩, h3⟩ := hself.call _ _ _ _ _ _ hcall
          have hyl : VRel i1 (.func (.yield L) #[] #[]) (.func (.yield gL.B) #[] #[]) := .yield hL
          have hargs : LRel i1 (as ++ [CV.func (.yield L) #[] #[]] ++ cs) (((bs.toArray ++ #[Value.func (.yield gL.B) #[] #[]]) ++ ds.toArray).toList) := by
            simp only [Array.toList_append]
            exact ((LRel.mono haf.step.ext ⟨l1, l2⟩).append (.cons hyl (.nil i1))).append (LRel.mono haf.step.ext ⟨l3, l4⟩)
          refine ⟨gL.B, mark, w1, { target := .fn (.func g) ds.toArray, args := bs.toArray ++ #[Value.func (.yield gL.B) #[] #[]] }, w1, g, (bs.toArray ++ #[Value.func (.yield gL.B) #[] #[]]) ++ ds.toArray, w1, hen, ?_, fun _ _ => trivial, ?_, fun hd => (by cases hd), ?_⟩
          · have hy : a'.eval (.const (.func (.yield gL.B) #[] #[])) = Value.func (.yield gL.B) #[] #[] := rfl
            simp only [rangeCall, resolve, hfe, Deferred.ofValue, List.map_toArray, List.map_cons, List.map_nil, hy, Sem.run_pure]
          · simp only [invoke]; exact run_enter hP h1 h2 _ w1
          · refine (FW_calls (h3 i1 w1 ((bs.toArray ++ #[Value.func (.yield gL.B) #[] #[]]) ++ ds.toArray) haf.srel hargs)).mono ?_
            rintro e3 w3 ⟨i3, v3, rfl, hv3, haf3⟩
            split at hgo
            · rename_i st pe fn3 tm3 po3 de3 hget
              have hg3 := haf3.step.ext.blk _ _ hL
              rw [nble] at hgo
              cases hc : (!(isBusy st) && decide (ro ≤ L)) with
              | false => rw [hc] at hgo; cases hgo
              | true =>
              rw [hc] at hgo
              simp only [Bool.and_eq_true, Bool.not_eq_true', decide_eq_true_eq] at hc
              have hro : ro ≤ L := hc.2
              have hst : st ≠ .busy := by
                intro hh; subst hh; exact absurd hc.1 (by simp [isBusy])
              simp only [cond_true] at hgo
              obtain ⟨f7, ps7, asg7, bd7, f4, t4, g4, z0, z1, z2, z3, z4⟩ := loop_put (st2 := .exhausted) (pe2 := pe) haf3.srel hget hg3 hro
              have hend := run_endLoop (P := P) z1 hst
              have hall := (haf.trans haf3).trans z4
              have hact : ActRel i3 { a with marks := ms ++ a.marks } { a' with defers := mark ++ a'.defers } :=
                ⟨ha.tmps.mono hall.step.ext, (hm.mono haf3.step.ext).append (ha.marks.mono hall.step.ext)⟩
              refine ⟨pe, _, hend, ?_⟩
              split at hgo
              · rename_i ex' hj
                cases hgo
                cases pe with
                | none => simp only [jumpOf] at hj; cases hj; exact ⟨i3, rfl, hact, hall⟩
                | some cd =>
                  cases cd <;> simp only [jumpOf] at hj <;> first | (cases hj; done) | skip
                  · cases hj; exact wpIn_exit ⟨i3, rfl, hact, hall⟩
                  · cases hj; exact wpIn_ret ⟨i3, rfl, hact, hall⟩
              · cases hgo
            · cases hgo
        · cases hgo
      refine wpIn_rangeFunc ?_
      intro fn' _
      split at e
      · -- an outermost loop
        rename_i hround
        split at e
        · rename_i hn1 hn2
          have hrd : rd = none := by rcases hr with ⟨_, h⟩ | ⟨l, g, h, _⟩ <;> first | exact h | cases h
          subst hrd
          have hi1 : i.free s.next := hs.fresh _ (Nat.le_refl _)
          obtain ⟨R1, S1⟩ := hs.rel.alloc ro hn1 hi1 .defs (.deferred (some [])) ⟨w.heap.size, 0, 0, false, 0, 0⟩ rfl ⟨hs.rel.hN, World.alloc_heap_new w _⟩
          have hid2 : fset s.heap.get s.next .defs (s.next + 1) = none := by rw [fset_ne _ _ (by omega)]; exact hn2
          have hi2 : (upd i s.next ⟨w.heap.size, 0, 0, false, 0, 0⟩).free (s.next + 1) := upd_free _ (hs.fresh _ (by omega)) (by omega)
          obtain ⟨R2, S2⟩ := R1.alloc ro hid2 hi2 (.loop .ready none fn a.tmps p s.next) (.loop { state := .ready, pending := none, fn := fn', tmps := a'.tmps, params := params, assign := assign, body := body, defers := w.heap.size })
            ⟨w.heap.size + 1, 0, 0, false, 0, 0⟩ (by simp) (by
              refine ⟨by have := hs.rel.hN; show N ≤ w.heap.size + 1; omega, f, params, assign, body, fn', a'.tmps, ⟨w.heap.size, 0, 0, false, 0, 0⟩, hcode, ?_, ha.tmps.mono (Inj.le_trans (le_upd _ hi1.1) (le_upd _ hi2.1)), ?_⟩
              · have := World.alloc_heap_new (w.alloc (.deferred (some []))) (.loop { state := .ready, pending := none, fn := fn', tmps := a'.tmps, params := params, assign := assign, body := body, defers := w.heap.size })
                rwa [World.size_alloc] at this
              · rw [upd_ne _ _ (by omega), upd_same])
          refine main (s.next + 1) [s.next] _ (upd (upd i s.next ⟨w.heap.size, 0, 0, false, 0, 0⟩) (s.next + 1) ⟨w.heap.size + 1, 0, 0, false, 0, 0⟩) _ ⟨w.heap.size + 1, 0, 0, false, 0, 0⟩ [{ target := .collected w.heap.size, args := #[] }] fn' (upd_same _ _ _) ⟨⟨?_, ?_⟩, ?_, ?_, ?_⟩ ?_ (run_enterLoop_outer fn' a'.tmps params assign body) e
          · show Rel P N _ ((s.heap.set s.next .defs).set (s.next + 1) _).get _
            rw [get_fset, get_fset]; exact R2
          · intro b hb
            simp only [] at hb
            exact upd_free _ (upd_free _ (hs.fresh b (by omega)) (by omega)) (by omega)
          · show Step ro i s.heap.get w _ ((s.heap.set s.next .defs).set (s.next + 1) _).get _
            rw [get_fset, get_fset]; exact S1.trans S2
          · intro b hb
            exact ⟨by rw [upd_ne _ _ (by omega), upd_ne _ _ (by omega)], rfl⟩
          · show s.next ≤ s.next + 2; omega
          · exact .cons (g := ⟨w.heap.size, 0, 0, false, 0, 0⟩) (by rw [upd_ne _ _ (by omega), upd_same]) .nil
        · cases e
      · rename_i l0
        split at e
        · rename_i st0 pe0 fn0 tm0 po0 de hget0 hn1
          obtain ⟨l, g0, h1, hg0, hrd⟩ : ∃ (l : Nat) (g : Img), some l0 = some l ∧ i l = some g ∧ rd = some g.B := by
            rcases hr with ⟨h, _⟩ | h
            · cases h
            · exact h
          cases h1
          subst hrd
          obtain ⟨_, f9, ps9, asg9, bd9, fnx, tmx, gd, q1, q2, q3, q4⟩ := hs.rel.obj l0 _ g0 hget0 hg0
          have hi1 : i.free s.next := hs.fresh _ (Nat.le_refl _)
          obtain ⟨R1, S1⟩ := hs.rel.alloc ro hn1 hi1 (.loop .ready none fn a.tmps p de) (.loop { state := .ready, pending := none, fn := fn', tmps := a'.tmps, params := params, assign := assign, body := body, defers := gd.B })
            ⟨w.heap.size, 0, 0, false, 0, 0⟩ rfl ⟨hs.rel.hN, f, params, assign, body, fn', a'.tmps, gd, hcode, World.alloc_heap_new w _, ha.tmps.mono (le_upd _ hi1.1), (le_upd _ hi1.1).blk _ _ q4⟩
          refine main s.next [] _ (upd i s.next ⟨w.heap.size, 0, 0, false, 0, 0⟩) _ ⟨w.heap.size, 0, 0, false, 0, 0⟩ [] fn' (upd_same _ _ _) ⟨⟨?_, ?_⟩, ?_, ?_, ?_⟩ .nil (run_enterLoop_inner q2 fn' a'.tmps params assign body) e
          · show Rel P N _ (s.heap.set s.next _).get _
            rw [get_fset]; exact R1
          · intro b hb
            simp only [] at hb
            exact upd_free _ (hs.fresh b (by omega)) (by omega)
          · show Step ro i s.heap.get w _ (s.heap.set s.next _).get _
            rw [get_fset]; exact S1
          · intro b hb
            exact ⟨upd_ne _ _ (by omega), rfl⟩
          · show s.next ≤ s.next + 1; omega
        · cases e
  · cases e

def LoopOk1 (P : Program) (N : Nat) (fn : FuncId) (p : List Nat) (F : LoopFn) : Prop :=
  ∀ c ro round a s e a2 s2, codeAt P fn p = some (.loop c) → (F ro round a s).ev = some (e, a2, s2) →
    ∀ (i : Inj) (w : World) (a' : Act) (rd : Option Nat), SRel P N i s w → ActRel i a a' → RdRel i round rd → ∀ n, (Code.loop c).wpIn (FW rd) n P (ExecPost P N ro i s w e a2 s2) a' w
def LoopsOk (P : Program) (N : Nat) (L : List (Nat × List Nat × LoopFn)) : Prop := ∀ fn p F, findLoop L fn p = some F → LoopOk1 P N fn p F
theorem loopsOk_nil : LoopsOk P N [] := fun fn p F h => by simp [findLoop] at h

theorem cThen_sound {L : List (Nat × List Nat × LoopFn)} {self : Self} (hself : SelfOk P N self) {ro : Nat} {round : Option Nat} {fn : FuncId} {p : List Nat} {x : Code} {a : CAct} {s : CSt} (hcode : codeAt P fn p = some x)
    (ih : ∀ (i : Inj) (w : World) (a' : Act) (rd : Option Nat), SRel P N i s w → ActRel i a a' → RdRel i round rd → ∀ n e1 a1 s1, execC L self P ro round fn p x a s = some (e1, a1, s1) → x.wpIn (FW rd) n P (ExecPost P N ro i s w e1 a1 s1) a' w)
    {e : CEx} {a2 : CAct} {s2 : CSt} (h : cThen (execC L self P ro round fn p x a s) (self.again ro round fn p x) = some (e, a2, s2)) {i : Inj} {w : World} {a' : Act} {rd : Option Nat} (hs : SRel P N i s w) (ha : ActRel i a a') (hr : RdRel i round rd) (n : Nat) :
    x.wpIn (FW rd) n P (Exit.then (InLoop (FW rd) n P x (ExecPost P N ro i s w e a2 s2)) (ExecPost P N ro i s w e a2 s2)) a' w := by
  simp only [cThen] at h
  split at h
  · rename_i a1 s1 hx
    refine wpIn_mono (ih i w a' rd hs ha hr n _ _ _ hx) ?_
    rintro ex a1' w1 ⟨i1, rfl, hr1, ha1⟩
    simp only [toExit, Exit.then]
    refine (hself.again _ _ _ _ _ _ _ _ _ _ hcode h i1 w1 a1' rd ha1.srel hr1 (hr.mono ha1.step.ext) n).mono ?_
    rintro ex a3' w3 ⟨i3, rfl, hr3, ha3⟩
    exact ⟨i3, rfl, hr3, ha1.trans ha3⟩
  · rename_i hno
    refine wpIn_mono (ih i w a' rd hs ha hr n _ _ _ h) ?_
    rintro ex a1' w1 ⟨i1, rfl, hr1, ha1⟩
    cases e with
    | normal => exact (hno a2 s2 h).elim
    | exit id => exact ⟨i1, rfl, hr1, ha1⟩
    | ret => exact ⟨i1, rfl, hr1, ha1⟩

theorem stepR_scope {b : Frame} {a : Act} {k : List Item} {cs : List Frame} {w : World} {c : Code} : step P (lone (b.atR a (.code (.scope c) :: k)) cs w) = .next (lone (b.atR a (.code c :: .inScope c :: k)) cs w) :=
  step_lone_go (by simp [stepG, stepG.exec, Frame.atR])
theorem stepR_inScope {b : Frame} {a : Act} {k : List Item} {cs : List Frame} {w : World} {c : Code} : step P (lone (b.atR a (.inScope c :: k)) cs w) = .next (lone (b.atR a k) cs w) :=
  step_lone_go (by simp [stepG, stepG.exec, Frame.atR])

theorem wpIn_scope {F : Fence} {n : Nat} {c : Code} {Q Q' : Exit → Act → World → Prop} {a : Act} {w : World} (h : c.wpIn F n P Q' a w) (hq : ∀ e a w, Q' e a w → (∀ l, e ≠ .goto l) ∧ Q e a w) : (Code.scope c).wpIn F n P Q a w := by
  intro b k cs hro hb hr
  have h0 : (lone (b.atR a (.code (.scope c) :: k)) cs w).fenced P F := fenced_calm hb hr rfl
  obtain ⟨e, a₁, w₁, hq', harr⟩ := h b (.inScope c :: k) cs hro hb hr
  obtain ⟨hng, hq1⟩ := hq _ _ _ hq'
  cases e with
  | normal => exact ⟨.normal, a₁, w₁, hq1, .head h0 stepR_scope (StepsIn.trans harr (.one (fenced_calm hb hr rfl) stepR_inScope))⟩
  | exit id' =>
    have hx : exitTo id' (.inScope c :: k) = exitTo id' k := by simp [exitTo]
    exact ⟨.exit id', a₁, w₁, hq1, fun k' hk => .head h0 stepR_scope (harr.1 k' (by rw [hx]; exact hk)),
      fun hr' hk => let ⟨k₁, h1, h2⟩ := harr.2 hr' (by rw [hx]; exact hk); ⟨k₁, h1, .head h0 stepR_scope h2⟩⟩
  | goto l => exact (hng l rfl).elim
  | ret => exact ⟨_, a₁, w₁, hq1, .of_steps (.one h0 stepR_scope) harr⟩
  | panic ch => exact ⟨_, a₁, w₁, hq1, .of_steps (.one h0 stepR_scope) harr⟩
  | outgrown => exact ⟨_, a₁, w₁, hq1, .of_steps (.one h0 stepR_scope) harr⟩

theorem execC_sound (hP : plainNames P = true) (hM : P.follows .mixedOrders = true) {L : List (Nat × List Nat × LoopFn)} (hL : LoopsOk P N L) {self : Self} (hself : SelfOk P N self) : ∀ (c : Code) (ro : Nat) (round : Option Nat) (fn : FuncId) (p : List Nat) (a : CAct) (s : CSt) (e : CEx) (a2 : CAct) (s2 : CSt),
    codeAt P fn p = some c → execC L self P ro round fn p c a s = some (e, a2, s2) →
      ∀ (i : Inj) (w : World) (a' : Act) (rd : Option Nat), SRel P N i s w → ActRel i a a' → RdRel i round rd → ∀ n, c.wpIn (FW rd) n P (ExecPost P N ro i s w e a2 s2) a' w := by
  intro c
  induction c with
  | skip => intro ro round fn p a s e a2 s2 hcode h i w a' rd hs ha hr n; simp only [execC] at h; cases h; exact wpIn_skip ⟨i, rfl, ha, .refl hs⟩
  | label l => intro ro round fn p a s e a2 s2 hcode h i w a' rd hs ha hr n; simp only [execC] at h; cases h; exact wpIn_label ⟨i, rfl, ha, .refl hs⟩
  | region id ops draw =>
    intro ro round fn p a s e a2 s2 hcode h i w a' rd hs ha hr n
    simp only [execC, cRegion] at h
    cases draw with
    | true =>
      simp only [cond_true] at h
      split at h
      · rename_i a3 s3 h3
        cases h
        exact dRegion_sound hP hM hself h3 hs ha
      · cases h
    | false =>
      simp only [cond_false] at h
      split at h
      · rename_i a3 s3 h3
        cases h
        exact region_sound hP hself h3 hs ha
      · cases h
  | seq x y ihx ihy =>
    intro ro round fn p a s e a2 s2 hcode h i w a' rd hs ha hr n
    simp only [execC, cThen] at h
    refine wpIn_seq ?_
    split at h
    · rename_i a1 s1 hx
      refine wpIn_mono (ihx _ _ _ _ _ _ _ _ _ (codeAt_kid hcode rfl) hx i w a' rd hs ha hr n) ?_
      rintro ex a1' w1 ⟨i1, rfl, hr1, ha1⟩
      simp only [toExit, Exit.then]
      refine wpIn_mono (ihy _ _ _ _ _ _ _ _ _ (codeAt_kid hcode rfl) h i1 w1 a1' rd ha1.srel hr1 (hr.mono ha1.step.ext) n) ?_
      rintro ex a3' w3 ⟨i3, rfl, hr3, ha3⟩
      exact ⟨i3, rfl, hr3, ha1.trans ha3⟩
    · rename_i hno
      refine wpIn_mono (ihx _ _ _ _ _ _ _ _ _ (codeAt_kid hcode rfl) h i w a' rd hs ha hr n) ?_
      rintro ex a1' w1 ⟨i1, rfl, hr1, ha1⟩
      cases e with
      | normal => exact (hno a2 s2 h).elim
      | exit id => exact ⟨i1, rfl, hr1, ha1⟩
      | ret => exact ⟨i1, rfl, hr1, ha1⟩
  | cond c x y ihx ihy =>
    intro ro round fn p a s e a2 s2 hcode h i w a' rd hs ha hr n
    simp only [execC] at h
    split at h
    · rename_i t hc
      have hc' := (ceval_rel ha c _ hc).bool_inv
      cases t with
      | true => exact wpIn_cond_true hc' (ihx _ _ _ _ _ _ _ _ _ (codeAt_kid hcode rfl) (by simpa using h) i w a' rd hs ha hr n)
      | false => exact wpIn_cond_false hc' (ihy _ _ _ _ _ _ _ _ _ (codeAt_kid hcode rfl) (by simpa using h) i w a' rd hs ha hr n)
    · cases h
  | block id x ih =>
    intro ro round fn p a s e a2 s2 hcode h i w a' rd hs ha hr n
    simp only [execC] at h
    refine wpIn_block ?_
    split at h
    · rename_i j a1 s1 hx
      refine wpIn_mono (ih _ _ _ _ _ _ _ _ _ (codeAt_kid hcode rfl) hx i w a' rd hs ha hr n) ?_
      rintro ex a1' w1 ⟨i1, rfl, hr1, ha1⟩
      simp only [toExit, Exit.inBlock]
      rw [nbeq] at h
      by_cases hj : j = id
      · simp only [hj, decide_true, cond_true] at h
        cases h
        rw [if_pos hj]; exact ⟨i1, rfl, hr1, ha1⟩
      · simp only [hj, decide_false, cond_false] at h
        cases h
        rw [if_neg hj]; exact ⟨i1, rfl, hr1, ha1⟩
    · rename_i hno
      refine wpIn_mono (ih _ _ _ _ _ _ _ _ _ (codeAt_kid hcode rfl) h i w a' rd hs ha hr n) ?_
      rintro ex a1' w1 ⟨i1, rfl, hr1, ha1⟩
      cases e with
      | normal => exact ⟨i1, rfl, hr1, ha1⟩
      | exit j => exact absurd h (hno j a2 s2)
      | ret => exact ⟨i1, rfl, hr1, ha1⟩
  | loop x ih =>
    intro ro round fn p a s e a2 s2 hcode h i w a' rd hs ha hr n
    simp only [execC] at h
    split at h
    · rename_i F hF
      exact hL fn p F hF x ro round a s e a2 s2 hcode h i w a' rd hs ha hr n
    · exact wpIn_loop_of (cThen_sound hself (codeAt_kid hcode rfl) (fun i w a' rd hs ha hr n e1 a1 s1 hx => ih _ _ _ _ _ _ _ _ _ (codeAt_kid hcode rfl) hx i w a' rd hs ha hr n) h hs ha hr n)
  | rangeFunc f ps asg bd _ _ =>
    intro ro round fn p a s e a2 s2 hcode h i w a' rd hs ha hr n
    simp only [execC] at h
    exact range_sound hP hself hcode h hs ha hr
  | exit id => intro ro round fn p a s e a2 s2 hcode h i w a' rd hs ha hr n; simp only [execC] at h; cases h; exact wpIn_exit ⟨i, rfl, ha, .refl hs⟩
  | ret => intro ro round fn p a s e a2 s2 hcode h i w a' rd hs ha hr n; simp only [execC] at h; cases h; exact wpIn_ret ⟨i, rfl, ha, .refl hs⟩
  | scope x ih =>
    intro ro round fn p a s e a2 s2 hcode h i w a' rd hs ha hr n
    simp only [execC] at h
    refine wpIn_scope (ih _ _ _ _ _ _ _ _ _ (codeAt_kid hcode rfl) h i w a' rd hs ha hr n) ?_
    rintro ex a1' w1 ⟨i1, rfl, hr1, ha1⟩
    exact ⟨fun l hl => (by cases e <;> cases hl), i1, rfl, hr1, ha1⟩
  | goto l => intro ro round fn p a s e a2 s2 hcode h i w a' rd hs ha hr n; simp [execC] at h
  | refuse r => intro ro round fn p a s e a2 s2 hcode h i w a' rd hs ha hr n; simp [execC] at h

def ExtOk1 (P : Program) (N : Nat) (f : FuncId) (x : ExtFn) : Prop :=
  (∃ fn c, P.funcs[f]? = some fn ∧ fn.body = some c) ∧
    ∀ ro args s v s', (x ro args s).ev = some (v, s') → ∀ (i : Inj) (w : World) (args' : Array Value), SRel P N i s w → LRel i args args'.toList →
      CallsIn (FW none) 0 P f args' w fun e w' => ∃ i' v', e = .returned v' ∧ VRel i' v v' ∧ After P N ro i s w i' s' w'
def ExtsOk (P : Program) (N : Nat) (E : List (Nat × ExtFn)) : Prop := ∀ f x, findExt E f = some x → ExtOk1 P N f x

theorem extsOk_nil : ExtsOk P N [] := fun f x h => by simp [findExt] at h

theorem callE_sound {E : List (Nat × ExtFn)} (hE : ExtsOk P N E) {L : List (Nat × List Nat × LoopFn)} {self : Self} (h : CallOk P N (callC L self P)) : CallOk P N (callE E L self P) := by
  intro ro f args s v s' e
  unfold callE at e
  split at e
  · rename_i x hx
    exact ⟨(hE f x hx).1, (hE f x hx).2 ro args s v s' e⟩
  · exact h ro f args s v s' e

theorem den_sound (hP : plainNames P = true) (hM : P.follows .mixedOrders = true) {E : List (Nat × ExtFn)} (hE : ExtsOk P N E) {L : List (Nat × List Nat × LoopFn)} (hL : LoopsOk P N L) : ∀ k, SelfOk P N (den P E L k)
  | 0 => ⟨fun _ _ _ _ _ _ h => by simp [den] at h, fun _ _ _ _ _ _ _ _ _ _ _ h => by simp [den] at h, fun _ _ _ _ _ _ _ _ _ _ _ h => by simp [den] at h⟩
  | k + 1 => ⟨callE_sound hE (callC_sound (den_sound hP hM hE hL k) (fun ro round fn p c => execC_sound hP hM hL (den_sound hP hM hE hL k) c ro round fn p)), fun ro round fn p c => execC_sound hP hM hL (den_sound hP hM hE hL k) c ro round fn p,
    fun ro round fn p c a s e a2 s2 hcode h i w a' rd hs ha hr n => InLoop.round (cThen_sound (den_sound hP hM hE hL k) hcode (fun i w a' rd hs ha hr n e1 a1 s1 hx => execC_sound hP hM hL (den_sound hP hM hE hL k) c ro round fn p _ _ _ _ _ hcode hx i w a' rd hs ha hr n) h hs ha hr n)⟩

end Go.Proofs.YtecidokjhplbgaaGreatDoorD
