/-
  The operations that make and write nothing: the law.
-/
import Derived.Test.YtkdjllolnlndkaaOps1
set_option linter.unusedVariables false
set_option linter.unusedSimpArgs false
namespace Go.Proofs.YtkdjllolnlndkaaD
open Go Go.RowKit

variable {P : Program} {N : Nat} {i : Inj} {h : HF} {w : World}

theorem run_v {s : Sem Value} {x : Value} {w w' : World} (e : s.run P w = .ok x w') : (do pure (Next.value (← s)) : Sem Next).run P w = .ok (.value x) w' := by
  simp [Sem.run_bind, e, Result.andThen]

theorem run_eqGuard_plain (op : BinOp) (t : TypeId) (x y : Operand) (a b : Value) (w : World) (ha : ∀ cs, a ≠ .agg cs) (hn : a ≠ .nilIface) : (eqGuard op t x y a b).run P w = .ok () w := by
  unfold eqGuard
  cases op <;> simp [Sem.run_bind, Result.andThen] <;> (cases a <;> first | rfl | exact absurd rfl (ha _) | exact absurd rfl hn)

theorem stillF_run (s : Sem Value) {v : CV} (e : stillF P s = some v) (w : World) : s.run P w = .ok v.toV w ∧ flat v = true := by
  unfold stillF at e
  cases hs : still P s with
  | none => rw [hs] at e; cases e
  | some u =>
    rw [hs] at e
    cases hf : vflat u with
    | false => simp [hf] at e
    | true =>
      simp [hf] at e; subst e
      obtain ⟨h1, h2⟩ := toV_ofV u hf
      exact ⟨by rw [h1]; exact still_run _ hs w, h2⟩

theorem bin_int (op : BinOp) (t : TypeId) (k k' : IntKind) (a b : Int) {v : CV} (e : cint P t op k a k' b = some v) (w : World) : (binOp op t (.int k a) (.int k' b)).run P w = .ok v.toV w := by
  cases op <;> simp only [cint] at e <;> first
    | exact (stillF_run _ e w).1
    | (split at e <;> first
        | (cases e; rename_i hk; subst hk; simp [binOp, Op.intArith, Op.intCmp, CV.toV])
        | cases e)

theorem run_nilCmp {t : TypeId} {a b : CV} {a' b' : Value} (hn : nilCmp P t a b = true) (hab : VRel i a a') (hbb : VRel i b b') (w : World) : (Op.equal t a' b').run P w = .ok false w ∧ (∀ cs, a' ≠ .agg cs) ∧ a' ≠ .nilIface ∧ (∀ k n, a' ≠ .int k n) ∧ (∀ k n, b' ≠ .int k n) ∧ (∀ k n, a' ≠ .float k n) ∧ (∀ s, a' ≠ .string s) ∧ (∀ k m n, a' ≠ .complex k m n) := by
  unfold nilCmp at hn
  split at hn
  all_goals first
    | (cases hn; done)
    | (rename_i hu
       cases hbb <;> cases hab <;>
       (refine ⟨?_, by simp, by simp, by simp, by simp, by simp, by simp, by simp⟩
        rw [Op.equal, Op.maxDepth, show (10000 : Nat) = 9999 + 1 from rfl, Op.equalIn]
        simp only [Sem.run_bind, run_underlying hu, Result.andThen_ok]
        try rfl))

theorem binOp_eql {t : TypeId} {a b : Value} {r : Bool} {w w' : World} (e : (Op.equal t a b).run P w = .ok r w') (h1 : ∀ k n, a ≠ .int k n) (h2 : ∀ k n, b ≠ .int k n) (h3 : ∀ k n, a ≠ .float k n) (h4 : ∀ s, a ≠ .string s) (h5 : ∀ k m n, a ≠ .complex k m n) :
    (binOp .eql t a b).run P w = .ok (.bool r) w' ∧ (binOp .neq t a b).run P w = .ok (.bool !r) w' := by
  unfold binOp
  cases a <;> first | exact absurd rfl (h1 _ _) | exact absurd rfl (h3 _ _) | exact absurd rfl (h4 _) | exact absurd rfl (h5 _ _ _) | skip
  all_goals (cases b <;> first | exact absurd rfl (h2 _ _) | (constructor <;> simp only [Sem.run_bind, e, Result.andThen_ok] <;> rfl))

theorem cbinF_sound {op : BinOp} {t : TypeId} {x y : Operand} {a b v : CV} {a' b' : Value} (ha : VRel i a a') (hb : VRel i b b') (e : cbinF P op t x y a b = some v) (w : World) :
    ∃ v', (do eqGuard op t x y a' b'; binOp op t a' b' : Sem Value).run P w = .ok v' w ∧ VRel i v v' := by
  unfold cbinF at e
  by_cases hff : (flat a && flat b) = true
  · rw [hff] at e
    simp only [Bool.and_eq_true] at hff
    have e1 := ha.flat_eq hff.1
    have e2 := hb.flat_eq hff.2
    subst e1; subst e2
    simp only [cond_true] at e
    exact ⟨v.toV, (stillF_run _ e w).1, .of_flat i v (stillF_run _ e w).2⟩
  · simp only [hff] at e
    by_cases hn : nilCmp P t a b = true
    · simp only [hn, cond_true, cond_false] at e
      obtain ⟨h1, h2, h3, h4, h5, h6, h7, h8⟩ := run_nilCmp hn ha hb w
      have hq := binOp_eql h1 h4 h5 h6 h7 h8
      have hg := fun op => run_eqGuard_plain (P := P) op t x y a' b' w h2 h3
      cases op <;> simp only [] at e <;> first | (cases e; done) | skip
      · cases e; exact ⟨_, by simp only [Sem.run_bind, hg, Result.andThen_ok, hq.1], .bool _⟩
      · cases e; exact ⟨_, by simp only [Sem.run_bind, hg, Result.andThen_ok, hq.2]; rfl, .bool _⟩
    · simp [hn] at e

theorem eqInts_run {xs ys : Array CV} {xs' ys' : Array Value} (hx : LRel i xs.toList xs'.toList) (hy : LRel i ys.toList ys'.toList) (d : Nat) : ∀ (fs : List Field) (c : Bool), eqInts P xs ys fs = some c → ∀ w : World, (Op.eqFields (d + 1) xs' ys' fs).run P w = .ok c w
  | [], c, e, w => by simp only [eqInts, Option.some.injEq] at e; subst e; rfl
  | f :: r, c, e, w => by
    simp only [eqInts] at e
    cases hn : (f.name == "_") with
    | true => rw [hn] at e; cases e
    | false =>
      rw [hn] at e
      simp only [cond_false] at e
      have hne : f.name ≠ "_" := by simpa using hn
      split at e
      · rename_i kk k a l b hu hxa hyb
        by_cases hkl : k = l
        · subst hkl
          simp only [decide_true, cond_true] at e
          split at e
          · rename_i c' hc
            cases e
            have ih := eqInts_run hx hy d r c' hc
            obtain ⟨u, hu1, hv1⟩ := hx.get (k := f.offset) (by simpa using hxa)
            obtain ⟨u2, hu2, hv2⟩ := hy.get (k := f.offset) (by simpa using hyb)
            cases hv1; cases hv2
            have hpa : pAgg P f.type = some false := by simp [pAgg, hu]
            have p1 : (part f.type xs' f.offset).run P w = .ok (.int k a) w := by
              have : xs'[f.offset]? = some (.int k a) := by simpa using hu1
              simp [part, Sem.run_bind, run_pAgg hpa, Result.andThen, this]
            have p2 : (part f.type ys' f.offset).run P w = .ok (.int k b) w := by
              have : ys'[f.offset]? = some (.int k b) := by simpa using hu2
              simp [part, Sem.run_bind, run_pAgg hpa, Result.andThen, this]
            simp only [Op.eqFields, hne, ne_eq, not_false_eq_true, if_true, Sem.run_bind, p1, p2, Result.andThen_ok, run_equalIn_int w d f.type k kk a b hu]
            cases hab : (a == b) with
            | true => simp only [Bool.not_true, Bool.false_eq_true, if_false, Bool.true_and]; exact ih w
            | false => simp only [Bool.not_false, if_true, Bool.false_and]; rfl
          · cases e
        · simp [hkl] at e
      · cases e

theorem cbin_sound {op : BinOp} {t : TypeId} {x y : Operand} {a b v : CV} {a' b' : Value} (ha : VRel i a a') (hb : VRel i b b') (e : cbin P op t x y a b = some v) (w : World) :
    ∃ v', (do eqGuard op t x y a' b'; binOp op t a' b' : Sem Value).run P w = .ok v' w ∧ VRel i v v' := by
  unfold cbin at e
  split at e
  · cases ha; cases hb
    have h1 := bin_int op t _ _ _ _ e w
    refine ⟨v.toV, by simp only [Sem.run_bind, run_eqGuard_plain op t x y (.int _ _) _ w (by simp) (by simp), Result.andThen_ok, h1], ?_⟩
    have hf : flat v = true := by
      cases op <;> simp only [cint] at e <;> first
        | (split at e <;> first | (cases e; rfl) | cases e)
        | exact (stillF_run _ e default).2
    exact .of_flat i v hf
  · rename_i xs ys
    have hF : ∀ op, cbinF P op t x y (.agg xs) (.agg ys) = some v → ∃ v', (do eqGuard op t x y a' b'; binOp op t a' b' : Sem Value).run P w = .ok v' w ∧ VRel i v v' := fun op e => cbinF_sound ha hb e w
    have main : ∀ c, structEq P t xs ys = some c → ∃ xs' ys', a' = .agg xs' ∧ b' = .agg ys' ∧ (∀ op, (op = .eql ∨ op = .neq) → (eqGuard op t x y a' b').run P w = .ok () w) ∧ (Op.equal t a' b').run P w = .ok c w := by
      intro c hc
      obtain ⟨xs', rfl, hx⟩ := ha.agg_inv
      obtain ⟨ys', rfl, hy⟩ := hb.agg_inv
      unfold structEq at hc
      split at hc
      · rename_i fs hu
        cases hg : (!(P.stoodInHeld t) && !(P.eqGuardType P.depth t)) with
        | false => rw [hg] at hc; cases hc
        | true =>
          rw [hg] at hc
          simp only [cond_true] at hc
          simp only [Bool.and_eq_true, Bool.not_eq_true'] at hg
          have hf : P.fieldsOf t = fs := by simp [Program.fieldsOf, hu]
          refine ⟨xs', ys', rfl, rfl, fun op hop => ?_, ?_⟩
          · rcases hop with rfl | rfl <;> simp [eqGuard, Sem.run_bind, run_program, Result.andThen, hg.2]
          · show (Op.equalIn 10000 t (.agg xs') (.agg ys')).run P w = _
            rw [run_equalIn_struct w 9999 t xs' ys' (by rw [hf]; exact hu) hg.1, hf]
            exact eqInts_run hx hy 9998 fs.toList c hc w
      · cases hc
    split at e
    · rename_i c hc
      cases e
      obtain ⟨xs', ys', rfl, rfl, h1, h2⟩ := main c hc
      exact ⟨_, by simp only [Sem.run_bind, h1 _ (.inl rfl), Result.andThen_ok, binOp, h2]; rfl, .bool _⟩
    · rename_i c hc
      cases e
      obtain ⟨xs', ys', rfl, rfl, h1, h2⟩ := main c hc
      exact ⟨_, by simp only [Sem.run_bind, h1 _ (.inr rfl), Result.andThen_ok, binOp, h2]; rfl, .bool _⟩
    · exact hF _ e
  · exact cbinF_sound ha hb e w


theorem cpart_sound {t : TypeId} {cs : Array CV} {ds : Array Value} {o : Nat} {v : CV} (hl : LRel i cs.toList ds.toList) (e : cpart P t cs o = some v) (w : World) : ∃ v', (part t ds o).run P w = .ok v' w ∧ VRel i v v' := by
  unfold cpart at e
  split at e
  · rename_i ha
    split at e
    · rename_i n hn
      cases e
      refine ⟨.agg (ds.extract o (o + n)), by simp [part, Sem.run_bind, run_pAgg ha, run_pSize hn, Result.andThen], ?_⟩
      have h2 := (hl.drop o).take n
      have hx : ∀ a : Array Value, a.extract o (o + n) = ((a.toList.drop o).take n).toArray := fun a => by
        apply Array.ext'
        simp [Array.toList_extract, List.extract]
      have hy : ∀ a : Array CV, a.extract o (o + n) = ((a.toList.drop o).take n).toArray := fun a => by
        apply Array.ext'
        simp [Array.toList_extract, List.extract]
      rw [hx, hy]
      exact .agg' h2
    · cases e
  · rename_i ha
    obtain ⟨y, hy, hv⟩ := hl.get (k := o) (by simpa using e)
    refine ⟨y, ?_, hv⟩
    have hy' : ds[o]? = some y := by simpa using hy
    simp [part, Sem.run_bind, run_pAgg ha, Result.andThen, hy']
  · cases e

theorem fieldOf_under {t : TypeId} {k : Nat} {f : Field} (e : fieldOf P t k = some f) : ∃ fs, P.underlying t = some (.struct fs) ∧ fs[k]? = some f := by
  unfold fieldOf at e
  split at e
  · rename_i fs hu; exact ⟨fs, hu, e⟩
  · cases e

theorem inRange_iff {n : Int} {m : Nat} : inRange n m = true ↔ 0 ≤ n ∧ n < (m : Int) := by simp [inRange]

theorem bound_run {v : Option CV} {y d m : Nat} (w : World) (e : cbd v y d = some m) :
    (v = none ∧ m = d) ∨ ∃ k n, v = some (.int k n) ∧ m ≤ y ∧ ∀ (y' : Nat) (code : BoundsCode), y ≤ y' → (Instr.sliceBound (.int k n) y' code).run P w = .ok m w := by
  unfold cbd at e
  cases v with
  | none => simp at e; exact .inl ⟨rfl, e.symm⟩
  | some v =>
    cases v <;> simp only [] at e <;> first | (cases e; done) | skip
    rename_i k n
    by_cases hc : 0 ≤ n ∧ n ≤ (y : Int)
    · simp [hc.1, hc.2] at e
      exact .inr ⟨k, n, rfl, by omega, fun y' code hy => by rw [run_sliceBound w k n y' code hc.1 (by omega), e]⟩
    · have : (decide (0 ≤ n) && decide (n ≤ (y : Int))) = false := by simpa using hc
      simp [this] at e

theorem cbounds_run {isS : Bool} {len cap cap' l hh m : Nat} {lo hi mx : Option CV} (e : cbounds len cap lo hi mx = some (l, hh, m)) (hcap : cap ≤ cap') (w : World) :
    (Instr.sliceBounds isS len cap' (lo.map CV.toV) (hi.map CV.toV) (mx.map CV.toV)).run P w = .ok (l, hh, if mx = none then cap' else m) w ∧ l ≤ hh ∧ hh ≤ m ∧ m ≤ cap ∧ (mx = none → m = cap) := by
  unfold cbounds at e
  split at e
  · cases e
  · rename_i m' hm'
    split at e
    · cases e
    · rename_i h' hh'
      split at e
      · cases e
      · rename_i l' hl'
        have b1 := bound_run (P := P) w hm'
        have b2 := bound_run (P := P) w hh'
        have b3 := bound_run (P := P) w hl'
        rw [nble, nble] at e
        by_cases hc : (decide (h' ≤ m') && decide (l' ≤ h') && !noHigh hi mx) = true
        · rw [hc] at e
          cases e
          simp only [Bool.and_eq_true, decide_eq_true_eq, Bool.not_eq_true'] at hc
          obtain ⟨⟨c1, c2⟩, c3⟩ := hc
          unfold Instr.sliceBounds
          rcases b1 with ⟨rfl, rfl⟩ | ⟨k1, n1, rfl, e1, r1⟩
          · refine ⟨?_, c2, c1, Nat.le_refl _, fun _ => rfl⟩
            rcases b2 with ⟨rfl, rfl⟩ | ⟨k2, n2, rfl, e2, r2⟩
            · rcases b3 with ⟨rfl, rfl⟩ | ⟨k3, n3, rfl, e3, r3⟩
              · simp [Sem.run_bind, Result.andThen]
              · simp [CV.toV, Sem.run_bind, Result.andThen, r3]
            · rcases b3 with ⟨rfl, rfl⟩ | ⟨k3, n3, rfl, e3, r3⟩
              · simp [CV.toV, Sem.run_bind, Result.andThen, r2 cap' _ hcap]
              · simp [CV.toV, Sem.run_bind, Result.andThen, r2 cap' _ hcap, r3]
          · refine ⟨?_, c2, c1, e1, fun hn => by cases hn⟩
            rcases b2 with ⟨rfl, rfl⟩ | ⟨k2, n2, rfl, e2, r2⟩
            · simp [noHigh] at c3
            · rcases b3 with ⟨rfl, rfl⟩ | ⟨k3, n3, rfl, e3, r3⟩
              · simp [CV.toV, Sem.run_bind, Result.andThen, r1 cap' _ hcap, r2]
              · simp [CV.toV, Sem.run_bind, Result.andThen, r1 cap' _ hcap, r2, r3]
        · simp only [Bool.not_eq_true] at hc
          rw [hc] at e; cases e

theorem optEval_rel {ρ : Operand → Option CV} {ρ' : Operand → Value} (hρ : ∀ x v, ρ x = some v → VRel i v (ρ' x)) {x : Option Operand} {v : Option CV} (e : optEval ρ x = some v)
    (hint : ∀ u, v = some u → ∃ k n, u = .int k n) : x.map ρ' = v.map CV.toV := by
  cases x with
  | none => simp [optEval] at e; subst e; rfl
  | some x =>
    simp only [optEval] at e
    split at e
    · rename_i u hu
      cases e
      obtain ⟨k, n, rfl⟩ := hint u rfl
      have := hρ _ _ hu
      cases h2 : ρ' x <;> rw [h2] at this <;> cases this
      simp [h2, CV.toV]
    · cases e

theorem cbounds_int {len cap l hh m : Nat} {lo hi mx : Option CV} (e : cbounds len cap lo hi mx = some (l, hh, m)) :
    (∀ u, lo = some u → ∃ k n, u = .int k n) ∧ (∀ u, hi = some u → ∃ k n, u = .int k n) ∧ (∀ u, mx = some u → ∃ k n, u = .int k n) := by
  have key : ∀ {v : Option CV} {y d m : Nat}, cbd v y d = some m → ∀ u, v = some u → ∃ k n, u = .int k n := fun {v y d m} e u hu => by
    subst hu; cases u <;> simp only [cbd] at e <;> first | (cases e; done) | exact ⟨_, _, rfl⟩
  unfold cbounds at e
  split at e
  · cases e
  · rename_i m' hm'
    split at e
    · cases e
    · rename_i h' hh'
      split at e
      · cases e
      · rename_i l' hl'
        exact ⟨key hl', key hh', key hm'⟩

end Go.Proofs.YtkdjllolnlndkaaD
