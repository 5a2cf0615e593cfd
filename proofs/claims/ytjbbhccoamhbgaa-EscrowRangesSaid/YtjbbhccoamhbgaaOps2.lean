/-
  The operations that make and write nothing: the law.
-/
import Derived.Test.YtjbbhccoamhbgaaOps1
set_option linter.unusedVariables false
set_option linter.unusedSimpArgs false
namespace Go.Proofs.YtjbbhccoamhbgaaD
open Go Go.RowKit

variable {P : Program} {N : Nat} {i : Inj} {h : HF} {w : World}

theorem run_v {s : Sem Value} {x : Value} {w w' : World} (e : s.run P w = .ok x w') : (do pure (Next.value (← s)) : Sem Next).run P w = .ok (.value x) w' := by
  simp [Sem.run_bind, e, Result.andThen]

theorem run_eqGuard_plain (op : BinOp) (t : TypeId) (x y : Operand) (a b : Value) (w : World) (ha : ∀ cs, a ≠ .agg cs) (hn : a ≠ .nilIface) : (eqGuard op t x y a b).run P w = .ok () w := by
  unfold eqGuard
  cases op <;> simp [Sem.run_bind, Result.andThen] <;> (cases a <;> first | rfl | exact absurd rfl (ha _) | exact absurd rfl hn)

theorem stillF_run (s : Sem Value) {v : Value} (e : stillF P s = some v) (w : World) : s.run P w = .ok v w ∧ flat v = true := by
  unfold stillF at e
  cases hs : still P s with
  | none => rw [hs] at e; cases e
  | some u =>
    rw [hs] at e
    cases hf : flat u with
    | false => simp [hf] at e
    | true => simp [hf] at e; subst e; exact ⟨still_run _ hs w, hf⟩

theorem bin_int (op : BinOp) (t : TypeId) (k k' : IntKind) (a b : Int) {v : Value} (e : cint P t op k a k' b = some v) (w : World) : (binOp op t (.int k a) (.int k' b)).run P w = .ok v w := by
  cases op <;> simp only [cint] at e <;> first
    | exact (stillF_run _ e w).1
    | (split at e <;> first
        | (cases e; rename_i hk; subst hk; simp [binOp, Op.intArith, Op.intCmp])
        | cases e)

theorem run_nilCmp {t : TypeId} {a b a' : Value} (hn : nilCmp P t a b = true) (hab : VRel i a a') (w : World) : (Op.equal t a' b).run P w = .ok false w ∧ (∀ cs, a' ≠ .agg cs) ∧ a' ≠ .nilIface ∧ (∀ k n, a' ≠ .int k n) ∧ (∀ k n, b ≠ .int k n) ∧ (∀ k n, a' ≠ .float k n) ∧ (∀ s, a' ≠ .string s) ∧ (∀ k m n, a' ≠ .complex k m n) := by
  unfold nilCmp at hn
  split at hn
  all_goals first
    | (cases hn; done)
    | (rename_i hu
       cases hab <;>
       (refine ⟨?_, by simp, by simp, by simp, by simp, by simp, by simp, by simp⟩
        rw [Op.equal, Op.maxDepth, show (10000 : Nat) = 9999 + 1 from rfl, Op.equalIn]
        simp only [Sem.run_bind, run_underlying hu, Result.andThen_ok]
        try rfl))

theorem binOp_eql {t : TypeId} {a b : Value} {r : Bool} {w w' : World} (e : (Op.equal t a b).run P w = .ok r w') (h1 : ∀ k n, a ≠ .int k n) (h2 : ∀ k n, b ≠ .int k n) (h3 : ∀ k n, a ≠ .float k n) (h4 : ∀ s, a ≠ .string s) (h5 : ∀ k m n, a ≠ .complex k m n) :
    (binOp .eql t a b).run P w = .ok (.bool r) w' ∧ (binOp .neq t a b).run P w = .ok (.bool !r) w' := by
  unfold binOp
  cases a <;> first | exact absurd rfl (h1 _ _) | exact absurd rfl (h3 _ _) | exact absurd rfl (h4 _) | exact absurd rfl (h5 _ _ _) | skip
  all_goals (cases b <;> first | exact absurd rfl (h2 _ _) | (constructor <;> simp only [Sem.run_bind, e, Result.andThen_ok] <;> rfl))

theorem cbin_sound {op : BinOp} {t : TypeId} {x y : Operand} {a b a' b' v : Value} (ha : VRel i a a') (hb : VRel i b b') (e : cbin P op t x y a b = some v) (w : World) :
    ∃ v', (do eqGuard op t x y a' b'; binOp op t a' b' : Sem Value).run P w = .ok v' w ∧ VRel i v v' := by
  unfold cbin at e
  split at e
  · cases ha; cases hb
    have h1 := bin_int op t _ _ _ _ e w
    refine ⟨v, by simp only [Sem.run_bind, run_eqGuard_plain op t x y (.int _ _) _ w (by simp) (by simp), Result.andThen_ok, h1], ?_⟩
    have hf : flat v = true := by
      cases op <;> simp only [cint] at e <;> first
        | (split at e <;> first | (cases e; rfl) | cases e)
        | exact (stillF_run _ e default).2
    exact .of_flat i v hf
  · rename_i hnot
    by_cases hff : (flat a && flat b) = true
    · rw [hff] at e
      simp only [Bool.and_eq_true] at hff
      have e1 := ha.flat_eq hff.1
      have e2 := hb.flat_eq hff.2
      subst e1; subst e2
      simp only [cond_true] at e
      exact ⟨v, (stillF_run _ e w).1, .of_flat i v (stillF_run _ e w).2⟩
    · simp only [hff] at e
      by_cases hn : nilCmp P t a b = true
      · simp only [hn, cond_true, cond_false] at e
        obtain ⟨h1, h2, h3, h4, h5, h6, h7, h8⟩ := run_nilCmp hn ha w
        have hbb : b' = b := by
          unfold nilCmp at hn
          split at hn
          all_goals first | (cases hn; done) | (cases hb; rfl)
        subst hbb
        have hq := binOp_eql h1 h4 h5 h6 h7 h8
        have hg := fun op => run_eqGuard_plain (P := P) op t x y a' b' w h2 h3
        cases op <;> simp only [] at e <;> first | (cases e; done) | skip
        · cases e; exact ⟨_, by simp only [Sem.run_bind, hg, Result.andThen_ok, hq.1], .bool _⟩
        · cases e; exact ⟨_, by simp only [Sem.run_bind, hg, Result.andThen_ok, hq.2]; rfl, .bool _⟩
      · simp [hn] at e


theorem cpart_sound {t : TypeId} {cs ds : Array Value} {o : Nat} {v : Value} (hl : LRel i cs.toList ds.toList) (e : cpart P t cs o = some v) (w : World) : ∃ v', (part t ds o).run P w = .ok v' w ∧ VRel i v v' := by
  unfold cpart at e
  split at e
  · rename_i ha
    split at e
    · rename_i n hn
      cases e
      refine ⟨.agg (ds.extract o (o + n)), by simp [part, Sem.run_bind, run_pAgg ha, run_pSize hn, Result.andThen], ?_⟩
      have h2 := (hl.drop o).take n
      have hx : ∀ a : Array Value, a.extract o (o + n) = ((a.toList.drop o).take n).toArray := fun a => by
        apply Array.ext'
        simp [Array.toList_extract, List.extract]
      rw [hx, hx]
      exact .agg' h2
    · cases e
  · rename_i ha
    obtain ⟨y, hy, hv⟩ := hl.get (k := o) (by simpa using e)
    refine ⟨y, ?_, hv⟩
    have hy' : ds[o]? = some y := by simpa using hy
    simp [part, Sem.run_bind, run_pAgg ha, Result.andThen, hy']
  · cases e

theorem fieldOf_under {t : TypeId} {k : Nat} {f : Field} (e : fieldOf P t k = some f) : ∃ fs, P.underlying t = some (.struct fs) ∧ fs[k]? = some f := by
  unfold fieldOf at e
  split at e
  · rename_i fs hu; exact ⟨fs, hu, e⟩
  · cases e

theorem inRange_iff {n : Int} {m : Nat} : inRange n m = true ↔ 0 ≤ n ∧ n < (m : Int) := by simp [inRange]

theorem bound_run {v : Option Value} {y d m : Nat} (w : World) (e : cbd v y d = some m) :
    (v = none ∧ m = d) ∨ ∃ k n, v = some (.int k n) ∧ m ≤ y ∧ ∀ (y' : Nat) (code : BoundsCode), y ≤ y' → (Instr.sliceBound (.int k n) y' code).run P w = .ok m w := by
  unfold cbd at e
  cases v with
  | none => simp at e; exact .inl ⟨rfl, e.symm⟩
  | some v =>
    cases v <;> simp only [] at e <;> first | (cases e; done) | skip
    rename_i k n
    by_cases hc : 0 ≤ n ∧ n ≤ (y : Int)
    · simp [hc.1, hc.2] at e
      exact .inr ⟨k, n, rfl, by omega, fun y' code hy => by rw [run_sliceBound w k n y' code hc.1 (by omega), e]⟩
    · have : (decide (0 ≤ n) && decide (n ≤ (y : Int))) = false := by simpa using hc
      simp [this] at e

theorem cbounds_run {isS : Bool} {len cap cap' l hh m : Nat} {lo hi mx : Option Value} (e : cbounds len cap lo hi mx = some (l, hh, m)) (hcap : cap ≤ cap') (w : World) :
    (Instr.sliceBounds isS len cap' lo hi mx).run P w = .ok (l, hh, if mx = none then cap' else m) w ∧ l ≤ hh ∧ hh ≤ m ∧ m ≤ cap ∧ (mx = none → m = cap) := by
  unfold cbounds at e
  split at e
  · cases e
  · rename_i m' hm'
    split at e
    · cases e
    · rename_i h' hh'
      split at e
      · cases e
      · rename_i l' hl'
        have b1 := bound_run (P := P) w hm'
        have b2 := bound_run (P := P) w hh'
        have b3 := bound_run (P := P) w hl'
        rw [nble, nble] at e
        by_cases hc : (decide (h' ≤ m') && decide (l' ≤ h') && !noHigh hi mx) = true
        · rw [hc] at e
          cases e
          simp only [Bool.and_eq_true, decide_eq_true_eq, Bool.not_eq_true'] at hc
          obtain ⟨⟨c1, c2⟩, c3⟩ := hc
          unfold Instr.sliceBounds
          rcases b1 with ⟨rfl, rfl⟩ | ⟨k1, n1, rfl, e1, r1⟩
          · refine ⟨?_, c2, c1, Nat.le_refl _, fun _ => rfl⟩
            rcases b2 with ⟨rfl, rfl⟩ | ⟨k2, n2, rfl, e2, r2⟩
            · rcases b3 with ⟨rfl, rfl⟩ | ⟨k3, n3, rfl, e3, r3⟩
              · simp [Sem.run_bind, Result.andThen]
              · simp [Sem.run_bind, Result.andThen, r3]
            · rcases b3 with ⟨rfl, rfl⟩ | ⟨k3, n3, rfl, e3, r3⟩
              · simp [Sem.run_bind, Result.andThen, r2 cap' _ hcap]
              · simp [Sem.run_bind, Result.andThen, r2 cap' _ hcap, r3]
          · refine ⟨?_, c2, c1, e1, fun hn => by cases hn⟩
            rcases b2 with ⟨rfl, rfl⟩ | ⟨k2, n2, rfl, e2, r2⟩
            · simp [noHigh] at c3
            · rcases b3 with ⟨rfl, rfl⟩ | ⟨k3, n3, rfl, e3, r3⟩
              · simp [Sem.run_bind, Result.andThen, r1 cap' _ hcap, r2]
              · simp [Sem.run_bind, Result.andThen, r1 cap' _ hcap, r2, r3]
        · simp only [Bool.not_eq_true] at hc
          rw [hc] at e; cases e

theorem optEval_rel {ρ : Operand → Option Value} {ρ' : Operand → Value} (hρ : ∀ x v, ρ x = some v → VRel i v (ρ' x)) {x : Option Operand} {v : Option Value} (e : optEval ρ x = some v)
    (hint : ∀ u, v = some u → ∃ k n, u = .int k n) : x.map ρ' = v := by
  cases x with
  | none => simp [optEval] at e; simp [e]
  | some x =>
    simp only [optEval] at e
    split at e
    · rename_i u hu
      cases e
      obtain ⟨k, n, rfl⟩ := hint u rfl
      have := hρ _ _ hu
      cases h2 : ρ' x <;> rw [h2] at this <;> cases this
      simp [h2]
    · cases e

theorem cbounds_int {len cap l hh m : Nat} {lo hi mx : Option Value} (e : cbounds len cap lo hi mx = some (l, hh, m)) :
    (∀ u, lo = some u → ∃ k n, u = .int k n) ∧ (∀ u, hi = some u → ∃ k n, u = .int k n) ∧ (∀ u, mx = some u → ∃ k n, u = .int k n) := by
  have key : ∀ {v : Option Value} {y d m : Nat}, cbd v y d = some m → ∀ u, v = some u → ∃ k n, u = .int k n := fun {v y d m} e u hu => by
    subst hu; cases u <;> simp only [cbd] at e <;> first | (cases e; done) | exact ⟨_, _, rfl⟩
  unfold cbounds at e
  split at e
  · cases e
  · rename_i m' hm'
    split at e
    · cases e
    · rename_i h' hh'
      split at e
      · cases e
      · rename_i l' hl'
        exact ⟨key hl', key hh', key hm'⟩

end Go.Proofs.YtjbbhccoamhbgaaD
