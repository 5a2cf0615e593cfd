/-
  What the reference run comes to, the model's run comes to: operations in a region, loops over functions, code; the theorem.
-/
import Derived.Test.YtkdjllolnlndkaaSound2
set_option linter.unusedVariables false
set_option linter.unusedSimpArgs false
namespace Go.Proofs.YtkdjllolnlndkaaD
open Go Go.RowKit

variable {P : Program} {N : Nat}

structure AfterOp (P : Program) (N ro id : Nat) (i : Inj) (s : CSt) (w : World) (i' : Inj) (s' : CSt) (w' : World) : Prop where
  srel : SRel P N i' s' w'
  step : Step ro i s.heap.get w i' s'.heap.get w'
  low : ∀ b, b < s.next → b ≠ id → i' b = i b ∧ i'.void b = i.void b
  nx : s.next ≤ s'.next

theorem wpIn_of_run {o : Oper} {a : Act} {w w' : World} {nx : Next} {v : Value} {n : Nat} {rd : Option Nat} {K : Act → World → Prop} {Q : Exit → Act → World → Prop} (hdef : ∀ c, o.op ≠ .defer c)
    (hr : (execOp a.eval o).run P w = .ok nx w') (hnx : nx = .value v ∨ (nx = .skip ∧ v = undef)) (hK : K (a.put o.dst v) w') : o.wpIn (FW rd) n P a w K Q := by
  refine ⟨fun _ _ => trivial, ?_⟩
  rw [Oper.semAt_eq _ _ _ hdef, hr]
  rcases hnx with rfl | ⟨rfl, rfl⟩ <;> exact hK

theorem not_defer {self : Self} {ro id : Nat} {a : CAct} {o : Oper} {s s' : CSt} {v : CV} (e : cOper self P ro id a o s = some (v, s')) : ∀ c, o.op ≠ .defer c := by
  intro c hc
  simp [cOper, tmem, cmem, cpure, hc, T.of, T.ev] at e

theorem SRel.setAll {i : Inj} {s : CSt} {w : World} {ef : Eff} (hr : Rel P N i (eall s.heap.get ef) w) (hf : ∀ b, s.next ≤ b → i.free b) : SRel P N i { s with heap := Go.Proofs.YtkdjllolnlndkaaD.setAll s.heap ef } w :=
  ⟨by show Rel P N i (Go.Proofs.YtkdjllolnlndkaaD.setAll s.heap ef).get w; rw [get_setAll]; exact hr, hf⟩

theorem cOper_sound (hP : plainNames P = true) {self : Self} (hself : SelfOk P N self) {ro id : Nat} {a : CAct} {o : Oper} {s s' : CSt} {v : CV} (e : cOper self P ro id a o s = some (v, s'))
    {i : Inj} {w : World} {a' : Act} {rd : Option Nat} {n : Nat} (hs : SRel P N i s w) (ha : ActRel i a a') (hid : i.free id) (hlt : id < s.next) {K : Act → World → Prop} {Q : Exit → Act → World → Prop}
    (hK : ∀ i' w' v', VRel i' v v' → AfterOp P N ro id i s w i' s' w' → K (a'.put o.dst v') w') : o.wpIn (FW rd) n P a' w K Q := by
  have hdef := not_defer e
  unfold cOper at e
  split at e
  · rename_i f args ts hop
    split at e
    · rename_i g vs hg hvs
      have hf := ceval_rel ha f g hg
      have hl := evals_rel (ceval_rel ha) _ hvs
      unfold ccallv at e
      split at e
      · rename_i q first captured
        obtain ⟨⟨fn, c, h1, h2⟩, h3⟩ := hself.call _ _ _ _ _ _ e
        generalize hfe : a'.eval f = fv at hf
        cases hf with
        | func l1 l2 l3 l4 =>
          rename_i as cs bs ds
          have hargs : LRel i (as ++ vs ++ cs) (((bs.toArray ++ args.map a'.eval) ++ ds.toArray).toList) := by
            simp only [Array.toList_append, Array.toList_map]
            exact (LRel.append ⟨l1, l2⟩ hl).append ⟨l3, l4⟩
          have hcall := h3 i w ((bs.toArray ++ args.map a'.eval) ++ ds.toArray) hs hargs
          refine ⟨fun _ _ => trivial, ?_⟩
          rw [Oper.semAt_eq _ _ _ hdef]
          have hrun : (execOp a'.eval o).run P w = .ok (.enter q ((bs.toArray ++ args.map a'.eval) ++ ds.toArray)) w := by
            obtain ⟨dst, op, type, pos, after, guard⟩ := o
            simp only [] at hop
            subst hop
            simp only [execOp, resolve, hfe, Deferred.ofValue, Sem.run_bind, Sem.run_pure, Result.andThen_ok, invoke]
            exact run_enter hP h1 h2 _ w
          rw [hrun]
          refine ⟨fun hd => (by cases hd), ?_⟩
          refine (FW_calls hcall).mono ?_
          rintro e w' ⟨i', v', rfl, hv, haf⟩
          exact hK i' w' v' hv ⟨haf.srel, haf.step, fun b hb _ => haf.low b hb, haf.nx⟩
      · rename_i l first captured
        generalize hfe : a'.eval f = fv at hf
        cases hf with
        | yield hgl =>
          rename_i g
          have hargs : LRel i vs ((#[] ++ args.map a'.eval).toList) := by simpa using hl
          obtain ⟨fn, tms, asg, bd, h1, h2⟩ := cround_sound hself (by simpa using e) hs hargs hgl
          refine ⟨fun _ _ => trivial, ?_⟩
          rw [Oper.semAt_eq _ _ _ hdef]
          have hrun : (execOp a'.eval o).run P w = .ok (.round g.B fn tms asg bd) w := by
            obtain ⟨dst, op, type, pos, after, guard⟩ := o
            simp only [] at hop
            subst hop
            simp only [execOp, resolve, hfe, Deferred.ofValue, Sem.run_bind, Sem.run_pure, Result.andThen_ok, invoke]
            exact h1
          rw [hrun]
          refine ⟨fun hd => (by cases hd), ?_⟩
          refine (h2 (n - 1) rd).mono ?_
          rintro e w' ⟨i', v', rfl, hv, haf⟩
          exact hK i' w' v' hv ⟨haf.srel, haf.step, fun b hb _ => haf.low b hb, haf.nx⟩
      · cases e
    · cases e
  · split at e
    · rename_i u ef hm
      cases e
      obtain ⟨nx, i', w', v', d1, d2, d3, d4, d5, d6⟩ := tmem_sound hs.rel (ceval_rel ha) hid hm
      refine wpIn_of_run hdef d1 d2 (hK i' w' v' d3 ⟨.setAll d4 (fun b hb => ?_), ?_, fun b _ hb => d6 b hb, Nat.le_refl _⟩)
      · have h1 := d6 b (by omega)
        have h2 := hs.fresh b hb
        exact ⟨h1.1.trans h2.1, h1.2.trans h2.2⟩
      · show Step ro i s.heap.get w i' (setAll s.heap ef).get w'
        rw [get_setAll]; exact d5
    · cases e

theorem cOps_sound (hP : plainNames P = true) {self : Self} (hself : SelfOk P N self) {ro b : Nat} {ops : Array Oper} {rd : Option Nat} {n : Nat} {Q : Exit → Act → World → Prop} :
    ∀ (l : List Oper) (k : Nat) (a : CAct) (s : CSt) {a2 : CAct} {s2 : CSt}, cOps self P ro b ops l k a s = some (a2, s2) → (∀ j, l[j]? = ops[k + j]?) → b + (k + l.length) ≤ s.next →
      ∀ (i : Inj) (w : World) (a' : Act), SRel P N i s w → ActRel i a a' → (∀ j, k ≤ j → j < k + l.length → i.free (b + j)) →
        (∀ i2 w2 a2', ActRel i2 a2 a2' → SRel P N i2 s2 w2 → Step ro i s.heap.get w i2 s2.heap.get w2 → (∀ c, c < b + k → i2 c = i c ∧ i2.void c = i.void c) → s.next ≤ s2.next → Q .normal a2' w2) →
        wpOpsIn (FW rd) n P ops Q (List.range' k l.length) a' w
  | [], k, a, s, a2, s2, e, hl, hb, i, w, a', hs, ha, hfr, hQ => by
    simp only [cOps] at e; cases e
    exact hQ i w a' ha hs (.refl _ _ _ _) (fun _ _ => ⟨rfl, rfl⟩) (Nat.le_refl _)
  | o :: r, k, a, s, a2, s2, e, hl, hb, i, w, a', hs, ha, hfr, hQ => by
    have h0 : ops[k]? = some o := by simpa using (hl 0).symm
    have hl' : ∀ j, r[j]? = ops[k + 1 + j]? := fun j => by have := hl (j + 1); simpa [Nat.add_assoc, Nat.add_comm 1 j] using this
    simp only [List.length_cons] at hb ⊢
    rw [List.range'_succ]
    simp only [wpOpsIn, h0]
    simp only [cOps] at e
    cases hgf : gfine ops o a.tmps with
    | false => rw [hgf] at e; cases e
    | true =>
    rw [hgf] at e
    simp only [cond_true] at e
    rw [wanted_rel ha ops o hgf] at e
    cases hw : Region.wanted o (yielded ops a'.tmps) with
    | true =>
      rw [hw] at e
      simp only [cond_true] at e
      simp only [if_true]
      split at e
      · rename_i v s1 ho
        refine cOper_sound hP hself ho hs ha (hfr k (Nat.le_refl k) (by simp)) (by omega) ?_
        intro i' w' v' hv haf
        refine cOps_sound hP hself r (k + 1) _ s1 e hl' (by have := haf.nx; omega) i' w' _ haf.srel ((ha.mono haf.step.ext).put o.dst hv) (fun j hj hj2 => ?_) ?_
        · have h1 := haf.low (b + j) (by omega) (by omega)
          have h2 := hfr j (by omega) (by simp; omega)
          exact ⟨h1.1.trans h2.1, h1.2.trans h2.2⟩
        · intro i2 w2 a2' q1 q2 q3 q4 q5
          exact hQ i2 w2 a2' q1 q2 (haf.step.trans q3) (fun c hc => ⟨(q4 c (by omega)).1.trans (haf.low c (by omega) (by omega)).1, (q4 c (by omega)).2.trans (haf.low c (by omega) (by omega)).2⟩) (Nat.le_trans haf.nx q5)
      · cases e
    | false =>
      rw [hw] at e
      simp only [cond_false] at e
      simp only [Bool.false_eq_true, if_false]
      refine ⟨fun _ _ => trivial, ?_⟩
      refine cOps_sound hP hself r (k + 1) _ s e hl' (by omega) i w _ hs (ha.put o.dst (.undef i)) (fun j hj hj2 => hfr j (by omega) (by simp; omega)) ?_
      intro i2 w2 a2' q1 q2 q3 q4 q5
      exact hQ i2 w2 a2' q1 q2 q3 (fun c hc => q4 c (by omega)) q5

/-- A region that does not draw its order. -/
theorem region_sound (hP : plainNames P = true) {self : Self} (hself : SelfOk P N self) {ro id : Nat} {ops : Array Oper} {a a2 : CAct} {s s2 : CSt}
    (e : cOps self P ro s.next ops ops.toList 0 a { s with next := s.next + ops.size } = some (a2, s2)) {i : Inj} {w : World} {a' : Act} {rd : Option Nat} {n : Nat} (hs : SRel P N i s w) (ha : ActRel i a a') :
    (Code.region id ops false).wpIn (FW rd) n P (ExecPost P N ro i s w .normal a2 s2) a' w := by
  refine wpIn_region ?_
  have hs0 : SRel P N i { s with next := s.next + ops.size } w := ⟨hs.rel, fun b hb => hs.fresh b (by simp only [] at hb; omega)⟩
  have := cOps_sound hP hself (rd := rd) (n := n) (Q := ExecPost P N ro i s w .normal a2 s2) ops.toList 0 a { s with next := s.next + ops.size } e (by simp) (by simp) i w a' hs0 ha (fun j _ _ => hs.fresh _ (by omega))
    (fun i2 w2 a2' q1 q2 q3 q4 q5 => ⟨i2, rfl, q1, q2, q3, fun c hc => q4 c (by omega), by simp only [] at q5; omega⟩)
  rw [List.range_eq_range']
  simpa using this

end Go.Proofs.YtkdjllolnlndkaaD
