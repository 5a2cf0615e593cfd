/-
  The operations that make and write nothing: all of them.
-/
import Derived.Test.YtkdjllolnlndkaaOps3
set_option linter.unusedVariables false
set_option linter.unusedSimpArgs false
namespace Go.Proofs.YtkdjllolnlndkaaD
open Go Go.RowKit

variable {P : Program} {N : Nat} {i : Inj} {h : HF} {w : World}

theorem map_toArray (l : Array Operand) (f : Operand → Value) : l.map f = (l.toList.map f).toArray := by
  apply Array.ext'; simp

theorem clen_sound (R : Rel P N i h w) {t : TypeId} {ts : Array TypeId} {ty : TypeId} {x v : CV} {y : Value} (ht : ts[0]? = some t) (hx : VRel i x y) (e : clen P h t x = some v) :
    (Builtin.len_ ts ty #[y]).run P w = .ok v.toV w ∧ VRel i v v.toV := by
  unfold clen at e
  split at e
  · rename_i s hu; have := hx.string_inv; subst this; cases e
    exact ⟨by simp [Builtin.len_, ht, Sem.run_bind, run_underlying hu, Result.andThen, goInt, CV.toV], .int _ _⟩
  · rename_i e' a n c hu
    cases e
    cases a with
    | none => obtain ⟨rfl, rfl, rfl⟩ := hx.nilSlice_inv; exact ⟨by simp [Builtin.len_, ht, Sem.run_bind, run_underlying hu, Result.andThen, goInt, CV.toV], .int _ _⟩
    | some a =>
      cases hx
      exact ⟨by simp [Builtin.len_, ht, Sem.run_bind, run_underlying hu, Result.andThen, goInt, CV.toV], .int _ _⟩
  · rename_i n e' hu
    cases e
    exact ⟨by simp [Builtin.len_, ht, Sem.run_bind, run_underlying hu, Result.andThen, goInt, CV.toV], .int _ _⟩
  · rename_i k e' hu
    cases e; cases hx
    exact ⟨by simp [Builtin.len_, ht, Sem.run_bind, run_underlying hu, Result.andThen, goInt, CV.toV], .int _ _⟩
  · rename_i k e' r hu
    split at e
    · rename_i es hr
      cases e
      cases hx with
      | map hg =>
        obtain ⟨_, es', cl, h2, h3⟩ := R.obj r _ _ hr hg
        exact ⟨by simp [Builtin.len_, ht, Sem.run_bind, run_underlying hu, Result.andThen, goInt, getObj, Sem.run, h2, h3.len, CV.toV], .int _ _⟩
    · cases e
  · cases e

set_option maxHeartbeats 1600000 in
theorem cpure_sound (R : Rel P N i h w) {ρ : Operand → Option CV} {ρ' : Operand → Value} (hρ : ∀ x v, ρ x = some v → VRel i v (ρ' x)) {o : Oper} {v : CV} (e : cpure P ρ h o = some v) :
    ∃ v', (execOp ρ' o).run P w = .ok (.value v') w ∧ VRel i v v' := by
  obtain ⟨dst, op, type, pos, after, guard⟩ := o
  unfold cpure at e
  split at e
  · rename_i x hop; simp only [] at hop; subst hop
    exact ⟨ρ' x, rfl, hρ _ _ e⟩
  · rename_i x hop; simp only [] at hop; subst hop
    exact ⟨ρ' x, rfl, hρ _ _ e⟩
  · rename_i c a b hop; simp only [] at hop; subst hop
    split at e
    · rename_i t hc
      have hc' := (hρ _ _ hc).bool_inv
      cases t with
      | true => exact ⟨ρ' a, by simp [execOp, Sem.run_bind, hc', asBool, Result.andThen], hρ _ _ (by simpa using e)⟩
      | false => exact ⟨ρ' b, by simp [execOp, Sem.run_bind, hc', asBool, Result.andThen], hρ _ _ (by simpa using e)⟩
    · cases e
  · rename_i t parts hop; simp only [] at hop; subst hop
    split at e
    · rename_i ps z hps hz
      cases hf : sure ps with
      | false => simp [hf] at e
      | true =>
        simp only [hf, cond_true] at e
        split at e
        · rename_i cs hb
          cases e
          obtain ⟨ds, hd, hl⟩ := built_rel (evalsP_rel hρ _ hps) hz hf hb
          refine ⟨.agg ds, ?_, by simpa using VRel.agg' hl⟩
          refine run_v ?_
          refine run_build w t _ ds ?_
          simpa using hd
        · cases e
    · cases e
  · rename_i t a hop; simp only [] at hop; subst hop
    split at e
    · rename_i b o ha
      obtain ⟨g, hg, he⟩ := (hρ _ _ ha).ptr_inv
      obtain ⟨v', h1, h2⟩ := cload_run R hg e
      exact ⟨v', run_v (by simp [Instr.loadAt, he, Instr.sureAddr, Sem.run_bind, Result.andThen, h1]), h2⟩
    · cases e
  · rename_i x hop; simp only [] at hop; subst hop
    split at e
    · rename_i a hx
      cases e
      have hr := hρ _ _ hx
      generalize hy : ρ' x = y at hr
      cases hr with | ptr hb => refine ⟨_, ?_, .ptr hb⟩; simp [execOp, hy]
    · rename_i f a b hx
      cases e
      have hr := hρ _ _ hx
      generalize hy : ρ' x = y at hr
      cases hr with | func h1 h2 h3 h4 => refine ⟨_, ?_, .func h1 h2 h3 h4⟩; simp [execOp, hy]
    · rename_i f a b hx
      cases e
      have hr := hρ _ _ hx
      generalize hy : ρ' x = y at hr
      cases hr with | yield hb => refine ⟨_, ?_, .yield hb⟩; simp [execOp, hy]
    · cases e
  · rename_i op t x y yt hop; simp only [] at hop; subst hop
    split at e
    · rename_i a b ha hb
      obtain ⟨v', h1, h2⟩ := cbin_sound (x := x) (y := y) (hρ _ _ ha) (hρ _ _ hb) e w
      exact ⟨v', run_v h1, h2⟩
    · cases e
  · rename_i op t x hop; simp only [] at hop; subst hop
    split at e
    · rename_i u hu
      cases hf : flat u with
      | false => simp [hf] at e
      | true =>
        simp only [hf, cond_true] at e
        have := (hρ _ _ hu).flat_eq hf
        rw [← this] at e
        exact ⟨v.toV, run_v (stillF_run _ e w).1, .of_flat i v (stillF_run _ e w).2⟩
    · cases e
  · rename_i src dst x hop; simp only [] at hop; subst hop
    split at e
    · rename_i u hu
      cases hf : flat u with
      | false => simp [hf] at e
      | true =>
        simp only [hf, cond_true] at e
        have := (hρ _ _ hu).flat_eq hf
        rw [← this] at e
        exact ⟨v.toV, run_v (stillF_run _ e w).1, .of_flat i v (stillF_run _ e w).2⟩
    · cases e
  · rename_i fn first captured hop; simp only [] at hop; subst hop
    split at e
    · rename_i f
      split at e
      · rename_i a b ha hb
        cases e
        have h1 := evals_rel hρ _ ha
        have h2 := evals_rel hρ _ hb
        refine ⟨.func (.func f) (first.map ρ') (captured.map ρ'), rfl, ?_⟩
        rw [map_toArray, map_toArray]
        exact .func h1.len h1.at_ h2.len h2.at_
      · cases e
    · cases e
  · rename_i t x hop; simp only [] at hop; subst hop
    split at e
    · rename_i u hu
      cases hc : P.concrete t with
      | false => simp [hc] at e
      | true =>
        simp only [hc, cond_true] at e
        cases e
        exact ⟨_, run_v (run_makeInterface w t _ hc), .iface (hρ _ _ hu)⟩
    · cases e
  · rename_i t x k hop; simp only [] at hop; subst hop
    split at e
    · rename_i b o hx
      obtain ⟨g, hg, he⟩ := (hρ _ _ hx).ptr_inv
      split at e
      · rename_i f hf
        obtain ⟨fs, hu, hk⟩ := fieldOf_under hf
        split at e
        · rename_i z hz
          cases e
          refine ⟨.pointer (some ⟨g.B, g.off + (o + f.offset), none⟩), run_v ?_, .ptr hg⟩
          simp [Instr.fieldAt, Sem.run_bind, run_underlying hu, Result.andThen, hk, he, Instr.sureAddr, fieldPlace, run_pSize hz, Addr.add_mk, Nat.add_assoc]
        · cases e
      · cases e
    · cases e
  · rename_i t x k hop; simp only [] at hop; subst hop
    split at e
    · rename_i cs hx
      obtain ⟨ds, he, hl⟩ := (hρ _ _ hx).agg_inv
      split at e
      · rename_i f hf
        obtain ⟨fs, hu, hk⟩ := fieldOf_under hf
        obtain ⟨v', h1, h2⟩ := cpart_sound hl e w
        refine ⟨v', run_v ?_, h2⟩
        simp [Instr.field, Sem.run_bind, run_underlying hu, Result.andThen, hk, he, asAgg, h1]
      · cases e
    · cases e
  · rename_i t x ix hop; simp only [] at hop; subst hop
    split at e
    · rename_i b o len cap k n hx hn
      obtain ⟨g, a', cap', he, hg, hc, ha, hl⟩ := (hρ _ _ hx).slice_inv
      have hn' := (hρ _ _ hn).int_inv
      split at e
      · rename_i e' hu
        split at e
        · rename_i z hz
          cases hir : inRange n len with
          | false => simp [hir] at e
          | true =>
            simp only [hir, cond_true] at e
            cases e
            obtain ⟨h0, h1⟩ := inRange_iff.1 hir
            have hcap : cap' ≠ 0 := by rcases hc with rfl | ⟨_, _, h3, _⟩ <;> omega
            have ha' := ha hcap
            subst ha'
            refine ⟨.pointer (some ⟨g.B, g.off + (o + n.toNat * z), none⟩), run_v ?_, .ptr hg⟩
            simp [Instr.indexAt, Sem.run_bind, hn', asIntOf, he, run_underlying hu, Result.andThen, h0, h1, run_pSize hz, Addr.add_mk, Nat.add_assoc]
        · cases e
      · cases e
    · rename_i b o k n hx hn
      obtain ⟨g, hg, he⟩ := (hρ _ _ hx).ptr_inv
      have hn' := (hρ _ _ hn).int_inv
      split at e
      · rename_i len e' hu
        split at e
        · rename_i z hz
          cases hir : inRange n len with
          | false => simp [hir] at e
          | true =>
            simp only [hir, cond_true] at e
            cases e
            obtain ⟨h0, h1⟩ := inRange_iff.1 hir
            refine ⟨.pointer (some ⟨g.B, g.off + (o + n.toNat * z), none⟩), run_v ?_, .ptr hg⟩
            simp [Instr.indexAt, Sem.run_bind, hn', asIntOf, he, run_underlying hu, Result.andThen, Instr.sureAddr, h0, h1, run_pSize hz, Addr.add_mk, Nat.add_assoc]
        · cases e
      · cases e
    · cases e
  · rename_i t x ix hop; simp only [] at hop; subst hop
    split at e
    · rename_i cs k n hx hn
      obtain ⟨ds, he, hl⟩ := (hρ _ _ hx).agg_inv
      have hn' := (hρ _ _ hn).int_inv
      split at e
      · rename_i len e' hu
        split at e
        · rename_i z hz
          cases hir : inRange n len with
          | false => simp [hir] at e
          | true =>
            simp only [hir, cond_true] at e
            obtain ⟨h0, h1⟩ := inRange_iff.1 hir
            obtain ⟨v', h2, h3⟩ := cpart_sound hl e w
            refine ⟨v', run_v ?_, h3⟩
            simp [Instr.index, Sem.run_bind, hn', asIntOf, he, run_underlying hu, Result.andThen, h0, h1, run_pSize hz, h2]
        · cases e
      · cases e
    · rename_i s k n hx hn
      have he := (hρ _ _ hx).string_inv
      have hn' := (hρ _ _ hn).int_inv
      split at e
      · rename_i hu
        by_cases h0 : 0 ≤ n
        · simp only [h0, decide_true, cond_true] at e
          split at e
          · rename_i b hb
            cases e
            exact ⟨_, run_v (by simp [Instr.index, Sem.run_bind, hn', asIntOf, he, run_underlying hu, Result.andThen, h0, hb]), .int _ _⟩
          · cases e
        · simp [h0] at e
      · cases e
    · cases e
  · rename_i t x lo hi mx hop; simp only [] at hop; subst hop
    split at e
    · rename_i u l hh m hx hl hhh hm
      have hr := hρ _ _ hx
      have hint : (∀ u, l = some u → ∃ k n, u = .int k n) ∧ (∀ u, hh = some u → ∃ k n, u = .int k n) ∧ (∀ u, m = some u → ∃ k n, u = .int k n) := by
        unfold cslice at e
        repeat' split at e
        all_goals first | (cases e; done) | exact cbounds_int ‹cbounds _ _ _ _ _ = some _›
      have e1 := optEval_rel hρ hl hint.1
      have e2 := optEval_rel hρ hhh hint.2.1
      have e3 := optEval_rel hρ hm hint.2.2
      obtain ⟨v', h1, h2⟩ := cslice_sound R hr e
      refine ⟨v', run_v ?_, h2⟩
      show (Instr.sliceAt t (ρ' x) (lo.map ρ') (hi.map ρ') (mx.map ρ')).run P w = _
      rw [e1, e2, e3]; exact h1
    · cases e
  · rename_i x k hop; simp only [] at hop; subst hop
    split at e
    · rename_i vs hx
      obtain ⟨ds, he, hl⟩ := (hρ _ _ hx).tuple_inv
      obtain ⟨y, hy, hv⟩ := hl.get (k := k) (by simpa using e)
      have hy' : ds[k]? = some y := by simpa using hy
      exact ⟨y, run_v (by simp [Instr.extract, he, hy']), hv⟩
    · cases e
  · rename_i args ts hop; simp only [] at hop; subst hop
    split at e
    · rename_i x t hx ht
      obtain ⟨y, ys, h1, h2, h3⟩ := (evals_rel hρ _ hx).cons_inv
      have := h3.nil_inv; subst this
      obtain ⟨h4, h5⟩ := clen_sound (ty := type) R ht h2 e
      refine ⟨v.toV, ?_, h5⟩
      have hmap : args.map ρ' = #[y] := by rw [map_toArray, h1]
      simp [execOp, resolve, invoke, builtin, Sem.run_bind, Result.andThen, hmap, h4]
    · cases e
  · rename_i args ts hop; simp only [] at hop; subst hop
    split at e
    · rename_i vs hx
      have hl := evals_rel hρ _ hx
      cases hf : flatL vs with
      | false => simp [hf] at e
      | true =>
        simp only [hf, cond_true] at e
        have heq : args.map ρ' = (toVL vs).toArray := by
          rw [map_toArray]; congr 1
          have := (VRel.agg' hl).flat_eq (by simpa [flat, flatA] using hf)
          simpa [CV.toV, toVA] using this
        refine ⟨v.toV, ?_, .of_flat i v (stillF_run _ e w).2⟩
        have h4 := (stillF_run _ e w).1
        simp [execOp, resolve, invoke, builtin, Sem.run_bind, Result.andThen, heq, h4]
    · cases e
  · rename_i args ts hop; simp only [] at hop; subst hop
    split at e
    · rename_i vs hx
      have hl := evals_rel hρ _ hx
      cases hf : flatL vs with
      | false => simp [hf] at e
      | true =>
        simp only [hf, cond_true] at e
        have heq : args.map ρ' = (toVL vs).toArray := by
          rw [map_toArray]; congr 1
          have := (VRel.agg' hl).flat_eq (by simpa [flat, flatA] using hf)
          simpa [CV.toV, toVA] using this
        refine ⟨v.toV, ?_, .of_flat i v (stillF_run _ e w).2⟩
        have h4 := (stillF_run _ e w).1
        simp [execOp, resolve, invoke, builtin, Sem.run_bind, Result.andThen, heq, h4]
    · cases e
  · cases e

end Go.Proofs.YtkdjllolnlndkaaD
