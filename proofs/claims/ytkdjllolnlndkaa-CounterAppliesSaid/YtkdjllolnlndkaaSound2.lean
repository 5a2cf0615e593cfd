/-
  What the reference run comes to, the model's run comes to: rounds, calls, regions, code.
-/
import Derived.Test.YtkdjllolnlndkaaSound
set_option linter.unusedVariables false
set_option linter.unusedSimpArgs false
namespace Go.Proofs.YtkdjllolnlndkaaD
open Go Go.RowKit

variable {P : Program} {N : Nat}

theorem codeAt_kid {f : FuncId} {p : List Nat} {c x : Code} {d : Nat} (h : codeAt P f p = some c) (hk : kid d c = some x) : codeAt P f (d :: p) = some x := by
  unfold codeAt at h ⊢
  cases hf : P.funcs[f]? with
  | none => rw [hf] at h; cases h
  | some fn =>
    rw [hf] at h
    simp only [] at h ⊢
    cases hb : fn.body with
    | none => rw [hb] at h; cases h
    | some b =>
      rw [hb] at h
      simp only [] at h ⊢
      simp only [codeIn, h, hk]

/-- One round of a loop over a function. -/
theorem cround_sound {self : Self} (hself : SelfOk P N self) {ro l : Nat} {args : List CV} {s s' : CSt} {v : CV} (e : cround self P ro l args s = some (v, s')) {i : Inj} {w : World} {args' : Array Value} {g : Img}
    (hs : SRel P N i s w) (hl : LRel i args args'.toList) (hg : i l = some g) :
    ∃ fn tms asg bd, (Instr.yield g.B args').run P w = .ok (.round g.B fn tms asg bd) w ∧
      ∀ n rd, RoundIn (FW rd) n P g.B fn tms asg bd w fun e w' => ∃ i' v', e = .returned v' ∧ VRel i' v v' ∧ After P N ro i s w i' s' w' := by
  unfold cround at e
  split at e
  · rename_i st pe fn tmps pos de hget
    split at e
    · rename_i f params assign body hcode
      have hk0 : codeAt P fn (0 :: pos) = some assign := codeAt_kid hcode rfl
      have hk1 : codeAt P fn (1 :: pos) = some body := codeAt_kid hcode rfl
      rw [nbeq, nble] at e
      by_cases hc : args.length = params.size ∧ ro ≤ l
      · obtain ⟨hc1, hc2⟩ := hc
        simp only [hc1, hc2, decide_true, Bool.and_self, cond_true] at e
        obtain ⟨_, f0, ps0, asg0, bd0, fn', tms', gd, h0, h2, h3, h4⟩ := hs.rel.obj l _ g hget hg
        rw [hcode] at h0
        cases h0
        have hsz : args'.size = params.size := by rw [← hc1, hl.len]; simp
        refine ⟨_, _, _, _, run_yield h2 (by simpa using hsz), fun n rd => ?_⟩
        split at e
        · rename_i a1 s1 hex
          split at e
          · rename_i pe1 fn1 tm1 po1 de1 hm1 hget1
            split at e
            · rename_i ex a2 s2 hex2
              split at e
              · rename_i st2 pe2 fn2 tm2 po2 de2 hm2 hget2
                refine roundIn_of_wpIn (F := FW rd) trivial ?_
                have hact : ActRel i { tmps := setParams params.toList args tmps, marks := [] } { tmps := (params.zip args').foldl (fun tmps (t, a) => tmps.setIfInBounds t a) tms', defers := [] } := by
                  refine ⟨?_, .nil⟩
                  have := zip_setParams params.toList hl h3
                  simp only [← Array.foldl_toList, Array.toList_zip]
                  rw [foldl_toList]
                  exact this
                refine wpIn_mono (hself.exec ro (some l) fn _ assign _ s .normal a1 s1 hk0 hex i w _ (some g.B) hs hact (.inr ⟨l, g, rfl, hg, rfl⟩) n) ?_
                rintro ex1 a1' w1 ⟨i1, rfl, hr1, ha1⟩
                simp only [toExit, Exit.then]
                have hg1 := ha1.step.ext.blk _ _ hg
                obtain ⟨f5, ps5, asg5, bd5, fnb, tmb, gdb, q0, q1, q2, q3, q4⟩ := loop_put (st2 := .busy) (pe2 := pe1) ha1.srel hget1 hg1 hc2
                refine ⟨_, run_beginRound q1 rfl, ?_⟩
                refine wpIn_mono (hself.exec ro (some l) fn _ body a1 _ ex a2 s2 hk1 hex2 i1 _ a1' (some g.B) q4.srel hr1 (.inr ⟨l, g, rfl, hg1, rfl⟩) n) ?_
                rintro ex2 a2' w2 ⟨i2, rfl, hr2, ha2⟩
                have hg2 := ha2.step.ext.blk _ _ hg1
                have hall := (ha1.trans q4).trans ha2
                cases ex with
                | normal =>
                  simp only [] at e; cases e
                  obtain ⟨f6, ps6, asg6, bd6, f3, t3, g3, z0, z1, z2, z3, z4⟩ := loop_put (st2 := .ready) (pe2 := none) ha2.srel hget2 hg2 hc2
                  exact ⟨_, _, run_endRound none z1, i2, _, rfl, .bool true, hall.trans z4⟩
                | ret =>
                  simp only [] at e; cases e
                  obtain ⟨f6, ps6, asg6, bd6, f3, t3, g3, z0, z1, z2, z3, z4⟩ := loop_put (st2 := .done) (pe2 := some .ret) ha2.srel hget2 hg2 hc2
                  exact ⟨_, _, run_endRound (some .ret) z1, i2, _, rfl, .bool false, hall.trans z4⟩
                | exit id =>
                  simp only [] at e; cases e
                  obtain ⟨f6, ps6, asg6, bd6, f3, t3, g3, z0, z1, z2, z3, z4⟩ := loop_put (st2 := .done) (pe2 := some (.exit id)) ha2.srel hget2 hg2 hc2
                  exact ⟨_, _, run_endRound (some (.exit id)) z1, i2, _, rfl, .bool false, hall.trans z4⟩
              · cases e
            · cases e
          · cases e
        · cases e
      · have : (decide (args.length = params.size) && decide (ro ≤ l)) = false := by simpa using hc
        rw [this] at e; cases e
    · cases e
  · cases e

/-- What results come to, in the model. -/
def singleV : List Value → Value
  | [v] => v
  | vs => .tuple vs.toArray

def resVar (ts : Array Value) : ResultVar → Sem Value
  | .tmp t => pure (ts.getD t undef)
  | .cell a t => do loadVar t (← asAddr (ts.getD a undef))
theorem results_eq (fn : Func) (ts : Array Value) : results fn ts = (do
    let vs ← fn.results.mapM (resVar ts)
    Pure.pure (if h : vs.size = 1 then vs[0] else Value.tuple vs)) := rfl

/-- A call. -/
theorem callC_sound {L : List (Nat × List Nat × LoopFn)} {self : Self} (hself : SelfOk P N self)
    (hC : ∀ ro round fn p c a s e a2 s2, codeAt P fn p = some c → execC L self P ro round fn p c a s = some (e, a2, s2) →
      ∀ (i : Inj) (w : World) (a' : Act) (rd : Option Nat), SRel P N i s w → ActRel i a a' → RdRel i round rd → ∀ n, c.wpIn (FW rd) n P (ExecPost P N ro i s w e a2 s2) a' w) :
    CallOk P N (callC L self P) := by
  intro ro f args s v s' e
  unfold callC at e
  split at e
  · rename_i fn hf
    split at e
    · rename_i c hb
      refine ⟨⟨fn, c, hf, hb⟩, fun i w args' hs hl => ?_⟩
      refine callsIn_of_wp_marks (F := FW none) hf hb trivial ?_ rfl
      have hact : ActRel i { tmps := args ++ List.replicate (fn.ntmps - args.length) cundef, marks := [] } { tmps := args' ++ Array.replicate (fn.ntmps - args'.size) undef, defers := [] } := by
        refine ⟨?_, .nil⟩
        have hsz : args'.size = args.length := by rw [hl.len]; simp
        rw [hsz]
        simp only [Array.toList_append, Array.toList_replicate]
        refine hl.append ?_
        generalize fn.ntmps - args.length = k
        induction k with
        | zero => exact .nil i
        | succ k ih => rw [List.replicate_succ, List.replicate_succ]; exact .cons (.undef i) ih
      -- how a body ends
      have fin : ∀ (a : CAct) (s2 : CSt) (i2 : Inj) (w2 : World) (a2' : Act), ActRel i2 a a2' → After P N ro i s w i2 s2 w2 →
          (match cmarks ro a.marks s2.heap with
           | some h => match cresults P a.tmps h.get fn.results.toList with
             | some vs => some (single vs, { s2 with heap := h })
             | none => none
           | none => none) = some (v, s') →
          LeavesInM (FW none) 0 P fn a2'.tmps (fun e w' => ∃ i' v', e = .returned v' ∧ VRel i' v v' ∧ After P N ro i s w i' s' w') a2'.defers .returning w2 := by
        intro a s2 i2 w2 a2' hr ha he
        obtain ⟨ts, ms⟩ := a
        obtain ⟨ts', ds⟩ := a2'
        obtain ⟨hts, hms⟩ := hr
        simp only [] at he hts hms ⊢
        induction hms generalizing s2 w2 with
        | nil =>
          simp only [cmarks] at he
          split at he
          · rename_i vs hvs
            cases he
            have hres : ∀ (l : List ResultVar) (vs : List CV), cresults P ts s2.heap.get l = some vs →
                ∃ vs', (l.mapM (resVar ts')).run P w2 = .ok vs' w2 ∧ LRel i2 vs vs' := by
              intro l
              induction l with
              | nil => intro vs h; simp [cresults] at h; subst h; exact ⟨[], rfl, .nil i2⟩
              | cons r l ih =>
                intro vs h
                simp only [cresults] at h
                split at h
                · cases h
                · rename_i x hx
                  split at h
                  · cases h
                  · rename_i xs hxs
                    cases h
                    obtain ⟨ys, h1, h2⟩ := ih xs hxs
                    have hget : ∀ t, VRel i2 (ts.getD t cundef) (ts'.getD t undef) := fun t => by
                      have := ceval_rel (a := ⟨ts, []⟩) (a' := ⟨ts', []⟩) ⟨hts, .nil⟩ (.tmp t) (ts.getD t cundef) rfl
                      exact this
                    have hone : ∃ y, (resVar ts' r).run P w2 = .ok y w2 ∧ VRel i2 x y := by
                      cases r with
                      | tmp t => simp only [cresult] at hx; cases hx; exact ⟨_, rfl, hget t⟩
                      | cell t ty =>
                        simp only [cresult] at hx
                        split at hx
                        · rename_i b o hb2
                          have hp := hget t
                          rw [hb2] at hp
                          obtain ⟨gg, hgg, hpe⟩ := hp.ptr_inv
                          obtain ⟨y, h3, h4⟩ := cload_run ha.srel.rel hgg hx
                          exact ⟨y, by simp [resVar, Sem.run_bind, hpe, asAddr, Result.andThen, h3], h4⟩
                        · cases hx
                    obtain ⟨y, h3, h4⟩ := hone
                    refine ⟨y :: ys, ?_, .cons h4 h2⟩
                    rw [List.mapM_cons]
                    simp only [Sem.run_bind, h3, h1, Result.andThen_ok, Sem.run_pure]
            obtain ⟨vs', h1, h2⟩ := hres _ _ hvs
            have hr1 : (results fn ts').run P w2 = .ok (singleV vs') w2 := by
              rw [results_eq, Sem.run_bind]
              have h3 : (fn.results.mapM (resVar ts')).run P w2 = .ok vs'.toArray w2 := by
                rw [Array.mapM_eq_mapM_toList, map_eq_pure_bind, Sem.run_bind, h1]; rfl
              rw [h3]
              match vs' with
              | [] => rfl
              | [x] => rfl
              | x :: y :: r => simp [Result.andThen, singleV]
            show LeavesIn (FW none) 0 P fn ts' _ [] .returning w2
            refine ⟨singleV vs', hr1, i2, singleV vs', rfl, ?_, ha⟩
            have hsin : ∀ {a : List CV} {b : List Value}, LRel i2 a b → VRel i2 (single a) (singleV b) := fun {a b} hab => by
              match a, b, hab with
              | [], [], _ => exact .tuple' (.nil i2)
              | [x], [y], hab => exact hab.head
              | x :: x2 :: xs, y :: y2 :: ys, hab => exact .tuple' hab
              | [], y :: ys, hab => have := hab.len; simp at this
              | x :: xs, [], hab => have := hab.len; simp at this
              | [x], y :: y2 :: ys, hab => have := hab.len; simp at this
              | x :: x2 :: xs, [y], hab => have := hab.len; simp at this
            exact hsin h2
          · cases he
        | cons hd hrest ih =>
          rename_i d g ds' rs
          simp only [cmarks] at he
          cases hgd : s2.heap.get d with
          | none => rw [hgd] at he; cases he
          | some o =>
            cases o <;> rw [hgd] at he <;> simp only [] at he <;> first | (cases he; done) | skip
            rw [nble] at he
            by_cases hro : ro ≤ d
            · simp only [hro, decide_true, cond_true] at he
              obtain ⟨_, hdef⟩ := ha.srel.rel.obj d _ g hgd hd
              have hlt := ha.srel.rel.bnd d g hd
              have hput := ha.srel.rel.put (ro := ro) (o2 := .dead) (w' := w2.putObj g.B (.deferred none)) hgd hd hro rfl (by simp) rfl rfl rfl (fun B _ hne => putObj_other w2 g.B _ B hne) trivial
              have ha2 : After P N ro i s w i2 { s2 with heap := s2.heap.set d .dead } (w2.putObj g.B (.deferred none)) :=
                ha.trans ⟨ha.srel.set hput.1, by show Step ro i2 s2.heap.get w2 i2 (s2.heap.set d _).get _; rw [get_fset]; exact hput.2, fun _ _ => ⟨rfl, rfl⟩, Nat.le_refl _⟩
              exact ⟨by simp, .inl ⟨g.B, _, rfl, run_takeDeferred hdef, ih _ _ ha2 he⟩⟩
            · simp [hro] at he
      split at e
      · rename_i a s2 hex
        refine wpIn_mono (hC _ _ _ [] _ _ _ _ _ _ (by unfold codeAt; rw [hf]; simp only [hb]; rfl) hex i w _ none hs hact (.inl ⟨rfl, rfl⟩) 0) ?_
        rintro ex a2' w2 ⟨i2, rfl, hr, ha⟩
        exact fin _ _ _ _ _ hr ha e
      · rename_i a s2 hex
        refine wpIn_mono (hC _ _ _ [] _ _ _ _ _ _ (by unfold codeAt; rw [hf]; simp only [hb]; rfl) hex i w _ none hs hact (.inl ⟨rfl, rfl⟩) 0) ?_
        rintro ex a2' w2 ⟨i2, rfl, hr, ha⟩
        exact fin _ _ _ _ _ hr ha e
      · cases e
    · cases e
  · cases e

end Go.Proofs.YtkdjllolnlndkaaD
