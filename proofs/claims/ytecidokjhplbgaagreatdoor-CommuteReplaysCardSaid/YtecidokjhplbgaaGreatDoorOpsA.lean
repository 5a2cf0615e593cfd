/-
  The operations that make and write nothing: what the reference run tells of them, the model's run tells.
  The operations that make and write nothing: the law.
  The operations that make and write nothing: the law, operation by operation.
  The operations that make and write nothing: all of them.
  The operations that make or write memory: what the pieces do.
  The operations that make or write memory: the law.
  append, as the reference run has it.
  The operations that make or write memory: all of them.
-/
import Derived.Test.YtecidokjhplbgaaGreatDoorHeap
set_option linter.unusedVariables false
set_option linter.unusedSimpArgs false
namespace Go.Proofs.YtecidokjhplbgaaGreatDoorD
open Go Go.RowKit

variable {P : Program} {N : Nat} {i : Inj} {h : HF} {w : World}

theorem run_pSize {t : TypeId} {n : Nat} (e : pSize P t = some n) (w : World) : (sizeOf t).run P w = .ok n w := by
  unfold pSize at e
  cases hi : P.info? t with
  | none => rw [hi] at e; cases e
  | some x => rw [hi] at e; cases e; rw [run_sizeOf w hi]; simp [Program.cellsOf, hi]
theorem zeroOf_inv {it : TypeInfo} {z : CV} (e : zeroOf it = some z) : ∃ z', it.zero = some z' ∧ vflat z' = true ∧ z = .ofV z' ∧ z.toV = z' ∧ flat z = true := by
  unfold zeroOf at e
  split at e
  · rename_i z' hz
    cases hf : vflat z' with
    | false => rw [hf] at e; cases e
    | true =>
      rw [hf] at e
      simp only [cond_true, Option.some.injEq] at e
      subst e
      obtain ⟨h1, h2⟩ := toV_ofV z' hf
      exact ⟨z', hz, hf, rfl, h1, h2⟩
  · cases e
theorem run_pZero {t : TypeId} {z : CV} (e : pZero P t = some z) (w : World) : (zeroValue t).run P w = .ok z.toV w ∧ flat z = true := by
  unfold pZero at e
  cases hi : P.info? t with
  | none => rw [hi] at e; cases e
  | some x =>
    rw [hi] at e; simp only [] at e
    obtain ⟨z', h1, h2, h3, h4, h5⟩ := zeroOf_inv e
    exact ⟨by simp [zeroValue, Sem.run_bind, run_typeInfo w hi, Result.andThen, h1, h4], h5⟩
theorem run_pAgg {t : TypeId} {b : Bool} (e : pAgg P t = some b) (w : World) : (isAgg t).run P w = .ok b w := by
  unfold pAgg at e
  cases hu : P.underlying t with
  | none => rw [hu] at e; cases e
  | some d => rw [hu] at e; cases d <;> cases e <;> simp [isAgg, Sem.run_bind, run_underlying hu, Result.andThen]

theorem Addr.add_mk (b o n : Nat) : (⟨b, o, none⟩ : Addr).add n = ⟨b, o + n, none⟩ := by unfold Addr.add; split <;> simp_all

theorem CRel.cell {b o : Nat} {vs : List CV} {e m : Nat} {g : Img} (hR : CRel N i w g vs e m) {x : CV} (hx : vs[o]? = some x) :
    ∃ y, w.cell? ⟨g.B, g.off + o, none⟩ = some y ∧ VRel i x y := by
  obtain ⟨_, _, _, ⟨vs', hl, hc⟩, _⟩ := hR
  obtain ⟨y, hy, hv⟩ := hl.get hx
  exact ⟨y, hc o y hy, hv⟩

theorem Rel.cell (R : Rel P N i h w) {b o : Nat} {vs : List CV} {e m : Nat} {g : Img} (hb : h b = some (.cells vs e m)) (hg : i b = some g) {x : CV} (hx : vs[o]? = some x) :
    ∃ y, w.cell? ⟨g.B, g.off + o, none⟩ = some y ∧ VRel i x y := CRel.cell (b := b) (R.obj b _ g hb hg) hx

theorem CRel.cellsAt {o n : Nat} {vs : List CV} {e m : Nat} {g : Img} (hR : CRel N i w g vs e m) (hn : o + n ≤ vs.length) :
    ∃ ys, LRel i ((vs.drop o).take n) ys ∧ ys.length = n ∧ ∀ k v, ys[k]? = some v → w.cell? ⟨g.B, g.off + o + k, none⟩ = some v := by
  obtain ⟨_, _, _, ⟨vs', hl, hc⟩, _⟩ := hR
  refine ⟨(vs'.drop o).take n, (hl.drop o).take n, by have := hl.len; simp; omega, fun k v hv => ?_⟩
  rw [List.getElem?_take] at hv
  split at hv
  · rw [List.getElem?_drop] at hv
    have := hc _ v hv
    rwa [show g.off + (o + k) = g.off + o + k by omega] at this
  · cases hv

theorem Rel.cellsAt (R : Rel P N i h w) {b o n : Nat} {vs : List CV} {e m : Nat} {g : Img} (hb : h b = some (.cells vs e m)) (hg : i b = some g) (hn : o + n ≤ vs.length) :
    ∃ ys, LRel i ((vs.drop o).take n) ys ∧ ys.length = n ∧ ∀ k v, ys[k]? = some v → w.cell? ⟨g.B, g.off + o + k, none⟩ = some v := CRel.cellsAt (R.obj b _ g hb hg) hn

theorem cload_run (R : Rel P N i h w) {t : TypeId} {b o : Nat} {v : CV} {g : Img} (hg : i b = some g) (e : cload P h t b o = some v) :
    ∃ v', (loadVar t ⟨g.B, g.off + o, none⟩).run P w = .ok v' w ∧ VRel i v v' := by
  unfold cload at e
  split at e
  · rename_i vs ez m hb
    split at e
    · rename_i ha
      split at e
      · rename_i n hn
        rw [nble] at e
        by_cases hle : o + n ≤ vs.length
        · simp [hle] at e
          subst e
          obtain ⟨ys, hl, hlen, hc⟩ := R.cellsAt hb hg hle
          refine ⟨.agg ys.toArray, ?_, .agg' hl⟩
          have hr : (loadCells ⟨g.B, g.off + o, none⟩ n).run P w = .ok ys.toArray w := by
            rw [← hlen]
            exact run_loadCells_list (P := P) w _ ys (fun j v hv => by rw [Addr.add_mk]; exact hc j v hv)
          simp [loadVar, Sem.run_bind, run_pAgg ha, run_pSize hn, Result.andThen, hr]
        · simp [hle] at e
      · cases e
    · rename_i ha
      obtain ⟨y, hy, hv⟩ := R.cell hb hg e
      exact ⟨y, by simp [loadVar, Sem.run_bind, run_pAgg ha, Result.andThen, hy], hv⟩
    · cases e
  · cases e

theorem evals_rel {ρ : Operand → Option CV} {ρ' : Operand → Value} (hρ : ∀ x v, ρ x = some v → VRel i v (ρ' x)) : ∀ (l : List Operand) {vs : List CV}, evals ρ l = some vs → LRel i vs (l.map ρ')
  | [], vs, e => by simp [evals] at e; subst e; exact .nil i
  | x :: r, vs, e => by
    simp only [evals] at e
    split at e
    · cases e
    · rename_i v hv
      split at e
      · cases e
      · rename_i vs' hvs
        cases e
        exact .cons (hρ _ _ hv) (evals_rel hρ r hvs)

inductive PRel (i : Inj) : List (Nat × CV) → List (Nat × Value) → Prop
  | nil : PRel i [] []
  | cons {j : Nat} {x : CV} {y : Value} {ps : List (Nat × CV)} {qs : List (Nat × Value)} (h : VRel i x y) (h' : PRel i ps qs) : PRel i ((j, x) :: ps) ((j, y) :: qs)

theorem evalsP_rel {ρ : Operand → Option CV} {ρ' : Operand → Value} (hρ : ∀ x v, ρ x = some v → VRel i v (ρ' x)) : ∀ (l : List (Nat × Operand)) {vs : List (Nat × CV)}, evalsP ρ l = some vs →
    PRel i vs (l.map fun (j, x) => (j, ρ' x))
  | [], vs, e => by simp [evalsP] at e; subst e; exact .nil
  | (j, x) :: r, vs, e => by
    simp only [evalsP] at e
    split at e
    · cases e
    · rename_i v hv
      split at e
      · cases e
      · rename_i vs' hvs
        cases e
        exact .cons (hρ _ _ hv) (evalsP_rel hρ r hvs)

theorem fillOne_rel (off : Nat) : ∀ (xs : List CV) (ys : List Value) (n : Nat) (cs : Array CV) (ds : Array Value), LRel i xs ys → LRel i cs.toList ds.toList →
    LRel i ((xs.zipIdx n).foldl (fun cs (c, j) => cs.setIfInBounds (off + j) c) cs).toList ((ys.zipIdx n).foldl (fun cs (c, j) => cs.setIfInBounds (off + j) c) ds).toList
  | [], ys, n, cs, ds, hx, hc => by have := hx.nil_inv; subst this; simpa using hc
  | x :: xs, ys, n, cs, ds, hx, hc => by
    obtain ⟨y, ys', rfl, hv, ht⟩ := hx.cons_inv
    simp only [List.zipIdx_cons, List.foldl_cons]
    exact fillOne_rel off xs ys' (n + 1) _ _ ht (by simpa using hc.set (off + n) hv)

theorem size_cells {i : Inj} {x : CV} {y : Value} (h : VRel i x y) (hx : x ≠ .junk) : y.cells.size = x.cells.size := by
  have := (h.cells hx).len
  simpa using this.symm

theorem fill_rel (place : Nat → Option (Nat × Nat)) : ∀ {ps : List (Nat × CV)} {qs : List (Nat × Value)} {cs rs : Array CV} {ds : Array Value}, PRel i ps qs → LRel i cs.toList ds.toList → sure ps = true → cfill place cs ps = some rs →
    ∃ ss, Instr.fill place ds qs = some ss ∧ LRel i rs.toList ss.toList
  | [], _, cs, rs, ds, .nil, hc, _, e => by simp [cfill] at e; subst e; exact ⟨ds, rfl, hc⟩
  | (j, x) :: ps, _, cs, rs, ds, .cons (y := y) (qs := qs) hv ht, hc, hs, e => by
    simp only [cfill] at e
    simp only [Instr.fill]
    have hxj : x ≠ .junk := fun hh => by subst hh; simp [sure] at hs
    have hs' : sure ps = true := by cases x <;> simp_all [sure]
    cases hp : place j with
    | none => rw [hp] at e; cases e
    | some os =>
      obtain ⟨off, size⟩ := os
      rw [hp] at e
      simp only [] at e ⊢
      have hl := size_cells hv hxj
      have hl2 := hc.len
      simp only [Array.length_toList] at hl2
      rw [nbeq, nble] at e
      rw [hl, ← hl2]
      by_cases hif : x.cells.size = size ∧ off + x.cells.size ≤ cs.size
      · rw [if_neg (by simp; omega)]
        have hcf : (!decide (x.cells.size = size) || !decide (off + x.cells.size ≤ cs.size)) = false := by
          simp; omega
        rw [hcf] at e
        simp only [cond_false] at e
        refine fill_rel place ht ?_ hs' e
        have := fillOne_rel off x.cells.toList y.cells.toList 0 cs ds (hv.cells hxj) hc
        rw [← Array.foldl_toList, ← Array.foldl_toList, Array.toList_zipIdx, Array.toList_zipIdx]
        exact this
      · have : (!decide (x.cells.size = size) || !decide (off + x.cells.size ≤ cs.size)) = true := by
          simp; omega
        rw [this] at e; cases e

theorem LRel.of_flat {l : List CV} (hf : flatL l = true) (i : Inj) : LRel i l (toVL l) :=
  ⟨by simp [toVL_eq], fun k x y hx hy => by rw [toVL_eq, List.getElem?_map, hx] at hy; cases hy; exact .of_flat i x (flatL_mem hf hx)⟩
theorem flat_not_junk {x : CV} (h : flat x = true) : x ≠ .junk := fun e => by subst e; simp [flat] at h
theorem toV_cells {z : CV} : z ≠ .junk → flat z = true → z.toV.cells.toList = toVL z.cells.toList := by
  intro hj hf
  cases z <;> simp [CV.toV, CV.cells, Value.cells, toVL_eq, toVA_eq] <;> first | rfl | (simp [flat] at hf; done) | skip
  · rename_i a; cases a <;> first | rfl | simp [flat] at hf
  · rename_i a l c; cases a <;> cases l <;> cases c <;> first | rfl | simp [flat] at hf
  · rename_i a; cases a <;> first | rfl | simp [flat] at hf
theorem LRel.cells_flat {z : CV} (hf : flat z = true) (i : Inj) : LRel i z.cells.toList z.toV.cells.toList := (VRel.of_flat i z hf).cells (flat_not_junk hf)

theorem built_rel {t : TypeId} {ps : List (Nat × CV)} {qs : List (Nat × Value)} {z : CV} {cs : Array CV} (hp : PRel i ps qs) (hz : pZero P t = some z) (hs : sure ps = true) (e : cbuilt P t ps = some cs) :
    ∃ ds, P.built t qs = some ds ∧ LRel i cs.toList ds.toList := by
  unfold cbuilt at e
  unfold Program.built
  unfold pZero at hz
  cases hi : P.info? t with
  | none => rw [hi] at hz; cases hz
  | some it =>
    rw [hi] at hz e
    simp only [] at hz
    obtain ⟨z', h1, h2, h3, h4, h5⟩ := zeroOf_inv hz
    have hl := LRel.cells_flat h5 i
    rw [h4] at hl
    cases hu : P.underlying t with
    | none => rw [hu] at e; cases e
    | some d =>
      rw [hu] at e
      cases d <;> simp only [] at e ⊢ <;> first | (cases e; done) | skip
      · rw [hz] at e; rw [h1]
        split at e
        · rename_i za pl q1 q2
          cases q1
          rw [q2]
          exact fill_rel _ hp hl hs e
        · cases e
      · rw [hz] at e; rw [h1]
        split at e
        · rename_i za pl q1 q2
          cases q1
          rw [q2]
          exact fill_rel _ hp hl hs e
        · cases e

end Go.Proofs.YtecidokjhplbgaaGreatDoorD

set_option linter.unusedVariables false
set_option linter.unusedSimpArgs false
namespace Go.Proofs.YtecidokjhplbgaaGreatDoorD
open Go Go.RowKit

variable {P : Program} {N : Nat} {i : Inj} {h : HF} {w : World}

theorem run_v {s : Sem Value} {x : Value} {w w' : World} (e : s.run P w = .ok x w') : (do pure (Next.value (← s)) : Sem Next).run P w = .ok (.value x) w' := by
  simp [Sem.run_bind, e, Result.andThen]

theorem run_eqGuard_plain (op : BinOp) (t : TypeId) (x y : Operand) (a b : Value) (w : World) (ha : ∀ cs, a ≠ .agg cs) (hn : a ≠ .nilIface) : (eqGuard op t x y a b).run P w = .ok () w := by
  unfold eqGuard
  cases op <;> simp [Sem.run_bind, Result.andThen] <;> (cases a <;> first | rfl | exact absurd rfl (ha _) | exact absurd rfl hn)

theorem stillF_run (s : Sem Value) {v : CV} (e : stillF P s = some v) (w : World) : s.run P w = .ok v.toV w ∧ flat v = true := by
  unfold stillF at e
  cases hs : still P s with
  | none => rw [hs] at e; cases e
  | some u =>
    rw [hs] at e
    cases hf : vflat u with
    | false => simp [hf] at e
    | true =>
      simp [hf] at e; subst e
      obtain ⟨h1, h2⟩ := toV_ofV u hf
      exact ⟨by rw [h1]; exact still_run _ hs w, h2⟩

theorem bin_int (op : BinOp) (t : TypeId) (k k' : IntKind) (a b : Int) {v : CV} (e : cint P t op k a k' b = some v) (w : World) : (binOp op t (.int k a) (.int k' b)).run P w = .ok v.toV w := by
  cases op <;> simp only [cint] at e <;> first
    | exact (stillF_run _ e w).1
    | (split at e <;> first
        | (cases e; rename_i hk; subst hk; simp [binOp, Op.intArith, Op.intCmp, CV.toV])
        | cases e)

theorem run_nilCmp {t : TypeId} {a b : CV} {a' b' : Value} (hn : nilCmp P t a b = true) (hab : VRel i a a') (hbb : VRel i b b') (w : World) : (Op.equal t a' b').run P w = .ok false w ∧ (∀ cs, a' ≠ .agg cs) ∧ a' ≠ .nilIface ∧ (∀ k n, a' ≠ .int k n) ∧ (∀ k n, b' ≠ .int k n) ∧ (∀ k n, a' ≠ .float k n) ∧ (∀ s, a' ≠ .string s) ∧ (∀ k m n, a' ≠ .complex k m n) := by
  unfold nilCmp at hn
  split at hn
  all_goals first
    | (cases hn; done)
    | (rename_i hu
       cases hbb <;> cases hab <;>
       (refine ⟨?_, by simp, by simp, by simp, by simp, by simp, by simp, by simp⟩
        rw [Op.equal, Op.maxDepth, show (10000 : Nat) = 9999 + 1 from rfl, Op.equalIn]
        simp only [Sem.run_bind, run_underlying hu, Result.andThen_ok]
        try rfl))

theorem binOp_eql {t : TypeId} {a b : Value} {r : Bool} {w w' : World} (e : (Op.equal t a b).run P w = .ok r w') (h1 : ∀ k n, a ≠ .int k n) (h2 : ∀ k n, b ≠ .int k n) (h3 : ∀ k n, a ≠ .float k n) (h4 : ∀ s, a ≠ .string s) (h5 : ∀ k m n, a ≠ .complex k m n) :
    (binOp .eql t a b).run P w = .ok (.bool r) w' ∧ (binOp .neq t a b).run P w = .ok (.bool !r) w' := by
  unfold binOp
  cases a <;> first | exact absurd rfl (h1 _ _) | exact absurd rfl (h3 _ _) | exact absurd rfl (h4 _) | exact absurd rfl (h5 _ _ _) | skip
  all_goals (cases b <;> first | exact absurd rfl (h2 _ _) | (constructor <;> simp only [Sem.run_bind, e, Result.andThen_ok] <;> rfl))

theorem cbinF_sound {op : BinOp} {t : TypeId} {x y : Operand} {a b v : CV} {a' b' : Value} (ha : VRel i a a') (hb : VRel i b b') (e : cbinF P op t x y a b = some v) (w : World) :
    ∃ v', (do eqGuard op t x y a' b'; binOp op t a' b' : Sem Value).run P w = .ok v' w ∧ VRel i v v' := by
  unfold cbinF at e
  by_cases hff : (flat a && flat b) = true
  · rw [hff] at e
    simp only [Bool.and_eq_true] at hff
    have e1 := ha.flat_eq hff.1
    have e2 := hb.flat_eq hff.2
    subst e1; subst e2
    simp only [cond_true] at e
    exact ⟨v.toV, (stillF_run _ e w).1, .of_flat i v (stillF_run _ e w).2⟩
  · simp only [hff] at e
    by_cases hn : nilCmp P t a b = true
    · simp only [hn, cond_true, cond_false] at e
      obtain ⟨h1, h2, h3, h4, h5, h6, h7, h8⟩ := run_nilCmp hn ha hb w
      have hq := binOp_eql h1 h4 h5 h6 h7 h8
      have hg := fun op => run_eqGuard_plain (P := P) op t x y a' b' w h2 h3
      cases op <;> simp only [] at e <;> first | (cases e; done) | skip
      · cases e; exact ⟨_, by simp only [Sem.run_bind, hg, Result.andThen_ok, hq.1], .bool _⟩
      · cases e; exact ⟨_, by simp only [Sem.run_bind, hg, Result.andThen_ok, hq.2]; rfl, .bool _⟩
    · simp [hn] at e

theorem eqInts_run {xs ys : Array CV} {xs' ys' : Array Value} (hx : LRel i xs.toList xs'.toList) (hy : LRel i ys.toList ys'.toList) (d : Nat) : ∀ (fs : List Field) (c : Bool), eqInts P xs ys fs = some c → ∀ w : World, (Op.eqFields (d + 1) xs' ys' fs).run P w = .ok c w
  | [], c, e, w => by simp only [eqInts, Option.some.injEq] at e; subst e; rfl
  | f :: r, c, e, w => by
    simp only [eqInts] at e
    cases hn : (f.name == "_") with
    | true => rw [hn] at e; cases e
    | false =>
      rw [hn] at e
      simp only [cond_false] at e
      have hne : f.name ≠ "_" := by simpa using hn
      split at e
      · rename_i kk k a l b hu hxa hyb
        by_cases hkl : k = l
        · subst hkl
          simp only [decide_true, cond_true] at e
          split at e
          · rename_i c' hc
            cases e
            have ih := eqInts_run hx hy d r c' hc
            obtain ⟨u, hu1, hv1⟩ := hx.get (k := f.offset) (by simpa using hxa)
            obtain ⟨u2, hu2, hv2⟩ := hy.get (k := f.offset) (by simpa using hyb)
            cases hv1; cases hv2
            have hpa : pAgg P f.type = some false := by simp [pAgg, hu]
            have p1 : (part f.type xs' f.offset).run P w = .ok (.int k a) w := by
              have : xs'[f.offset]? = some (.int k a) := by simpa using hu1
              simp [part, Sem.run_bind, run_pAgg hpa, Result.andThen, this]
            have p2 : (part f.type ys' f.offset).run P w = .ok (.int k b) w := by
              have : ys'[f.offset]? = some (.int k b) := by simpa using hu2
              simp [part, Sem.run_bind, run_pAgg hpa, Result.andThen, this]
            simp only [Op.eqFields, hne, ne_eq, not_false_eq_true, if_true, Sem.run_bind, p1, p2, Result.andThen_ok, run_equalIn_int w d f.type k kk a b hu]
            cases hab : (a == b) with
            | true => simp only [Bool.not_true, Bool.false_eq_true, if_false, Bool.true_and]; exact ih w
            | false => simp only [Bool.not_false, if_true, Bool.false_and]; rfl
          · cases e
        · simp [hkl] at e
      · cases e

theorem cpart_sound {t : TypeId} {cs : Array CV} {ds : Array Value} {o : Nat} {v : CV} (hl : LRel i cs.toList ds.toList) (e : cpart P t cs o = some v) (w : World) : ∃ v', (part t ds o).run P w = .ok v' w ∧ VRel i v v' := by
  unfold cpart at e
  split at e
  · rename_i ha
    split at e
    · rename_i n hn
      cases e
      refine ⟨.agg (ds.extract o (o + n)), by simp [part, Sem.run_bind, run_pAgg ha, run_pSize hn, Result.andThen], ?_⟩
      have h2 := (hl.drop o).take n
      have hx : ∀ a : Array Value, a.extract o (o + n) = ((a.toList.drop o).take n).toArray := fun a => by
        apply Array.ext'
        simp [Array.toList_extract, List.extract]
      have hy : ∀ a : Array CV, a.extract o (o + n) = ((a.toList.drop o).take n).toArray := fun a => by
        apply Array.ext'
        simp [Array.toList_extract, List.extract]
      rw [hx, hy]
      exact .agg' h2
    · cases e
  · rename_i ha
    obtain ⟨y, hy, hv⟩ := hl.get (k := o) (by simpa using e)
    refine ⟨y, ?_, hv⟩
    have hy' : ds[o]? = some y := by simpa using hy
    simp [part, Sem.run_bind, run_pAgg ha, Result.andThen, hy']
  · cases e

theorem eqParts_run {xs ys : Array CV} {xs' ys' : Array Value} (hx : LRel i xs.toList xs'.toList) (hy : LRel i ys.toList ys'.toList) (d : Nat) : ∀ (fs : List Field) (c : Bool), eqParts P xs ys fs = some c → ∀ w : World, (Op.eqFields (d + 3) xs' ys' fs).run P w = .ok c w
  | [], c, e, w => by simp only [eqParts, Option.some.injEq] at e; subst e; rfl
  | f :: r, c, e, w => by
    simp only [eqParts] at e
    cases hn : (f.name == "_") with
    | true => rw [hn] at e; cases e
    | false =>
      rw [hn] at e
      simp only [cond_false] at e
      have hne : f.name ≠ "_" := by simpa using hn
      split at e
      · rename_i kk hu
        split at e
        · rename_i k a l b hxa hyb
          by_cases hkl : k = l
          · subst hkl
            simp only [decide_true, cond_true] at e
            split at e
            · rename_i c' hc
              cases e
              have ih := eqParts_run hx hy d r c' hc
              obtain ⟨u, hu1, hv1⟩ := hx.get (k := f.offset) (by simpa using hxa)
              obtain ⟨u2, hu2, hv2⟩ := hy.get (k := f.offset) (by simpa using hyb)
              cases hv1; cases hv2
              have hpa : pAgg P f.type = some false := by simp [pAgg, hu]
              have p1 : (part f.type xs' f.offset).run P w = .ok (.int k a) w := by
                have : xs'[f.offset]? = some (.int k a) := by simpa using hu1
                simp [part, Sem.run_bind, run_pAgg hpa, Result.andThen, this]
              have p2 : (part f.type ys' f.offset).run P w = .ok (.int k b) w := by
                have : ys'[f.offset]? = some (.int k b) := by simpa using hu2
                simp [part, Sem.run_bind, run_pAgg hpa, Result.andThen, this]
              simp only [Op.eqFields, hne, ne_eq, not_false_eq_true, if_true, Sem.run_bind, p1, p2, Result.andThen_ok, run_equalIn_int w (d + 2) f.type k kk a b hu]
              cases hab : (a == b) with
              | true => simp only [Bool.not_true, Bool.false_eq_true, if_false, Bool.true_and]; exact ih w
              | false => simp only [Bool.not_false, if_true, Bool.false_and]; rfl
            · cases e
          · simp [hkl] at e
        · cases e
      · rename_i hu
        split at e
        · rename_i a b hxa hyb
          split at e
          · rename_i c' hc
            cases e
            have ih := eqParts_run hx hy d r c' hc
            obtain ⟨u, hu1, hv1⟩ := hx.get (k := f.offset) (by simpa using hxa)
            obtain ⟨u2, hu2, hv2⟩ := hy.get (k := f.offset) (by simpa using hyb)
            cases hv1; cases hv2
            have hpa : pAgg P f.type = some false := by simp [pAgg, hu]
            have p1 : (part f.type xs' f.offset).run P w = .ok (.bool a) w := by
              have : xs'[f.offset]? = some (.bool a) := by simpa using hu1
              simp [part, Sem.run_bind, run_pAgg hpa, Result.andThen, this]
            have p2 : (part f.type ys' f.offset).run P w = .ok (.bool b) w := by
              have : ys'[f.offset]? = some (.bool b) := by simpa using hu2
              simp [part, Sem.run_bind, run_pAgg hpa, Result.andThen, this]
            simp only [Op.eqFields, hne, ne_eq, not_false_eq_true, if_true, Sem.run_bind, p1, p2, Result.andThen_ok, run_equalIn_bool' w (d + 2) f.type a b hu]
            cases hab : (a == b) with
            | true => simp only [Bool.not_true, Bool.false_eq_true, if_false, Bool.true_and]; exact ih w
            | false => simp only [Bool.not_false, if_true, Bool.false_and]; rfl
          · cases e
        · cases e
      · rename_i gs hu
        cases hst : P.stoodInHeld f.type with
        | true => rw [hst] at e; cases e
        | false =>
          rw [hst] at e
          simp only [Bool.not_false, cond_true] at e
          split at e
          · rename_i x2 y2 hxa hyb
            split at e
            · rename_i c1 c' h1 hc
              cases e
              have ih := eqParts_run hx hy d r c' hc
              obtain ⟨u, p1, hv1⟩ := cpart_sound hx hxa w
              obtain ⟨u2, p2, hv2⟩ := cpart_sound hy hyb w
              obtain ⟨x2', rfl, hx2⟩ := hv1.agg_inv
              obtain ⟨y2', rfl, hy2⟩ := hv2.agg_inv
              have hf : P.fieldsOf f.type = gs := by simp [Program.fieldsOf, hu]
              have h3 : (Op.equalIn (d + 3) f.type (.agg x2') (.agg y2')).run P w = .ok c1 w := by
                rw [run_equalIn_struct w (d + 2) f.type x2' y2' (by rw [hf]; exact hu) hst, hf]
                exact eqInts_run hx2 hy2 (d + 1) gs.toList c1 h1 w
              simp only [Op.eqFields, hne, ne_eq, not_false_eq_true, if_true, Sem.run_bind, p1, p2, Result.andThen_ok, h3]
              cases c1 with
              | true => simp only [Bool.not_true, Bool.false_eq_true, if_false, Bool.true_and]; exact ih w
              | false => simp only [Bool.not_false, if_true, Bool.false_and]; rfl
            · cases e
          · cases e
      · cases e

theorem eqParts2_run {xs ys : Array CV} {xs' ys' : Array Value} (hx : LRel i xs.toList xs'.toList) (hy : LRel i ys.toList ys'.toList) (d : Nat) : ∀ (fs : List Field) (c : Bool), eqParts2 P xs ys fs = some c → ∀ w : World, (Op.eqFields (d + 4) xs' ys' fs).run P w = .ok c w
  | [], c, e, w => by simp only [eqParts2, Option.some.injEq] at e; subst e; rfl
  | f :: r, c, e, w => by
    simp only [eqParts2] at e
    cases hn : (f.name == "_") with
    | true => rw [hn] at e; cases e
    | false =>
      rw [hn] at e
      simp only [cond_false] at e
      have hne : f.name ≠ "_" := by simpa using hn
      split at e
      · rename_i kk hu
        split at e
        · rename_i k a l b hxa hyb
          by_cases hkl : k = l
          · subst hkl
            simp only [decide_true, cond_true] at e
            split at e
            · rename_i c' hc
              cases e
              have ih := eqParts2_run hx hy d r c' hc
              obtain ⟨u, hu1, hv1⟩ := hx.get (k := f.offset) (by simpa using hxa)
              obtain ⟨u2, hu2, hv2⟩ := hy.get (k := f.offset) (by simpa using hyb)
              cases hv1; cases hv2
              have hpa : pAgg P f.type = some false := by simp [pAgg, hu]
              have p1 : (part f.type xs' f.offset).run P w = .ok (.int k a) w := by
                have : xs'[f.offset]? = some (.int k a) := by simpa using hu1
                simp [part, Sem.run_bind, run_pAgg hpa, Result.andThen, this]
              have p2 : (part f.type ys' f.offset).run P w = .ok (.int k b) w := by
                have : ys'[f.offset]? = some (.int k b) := by simpa using hu2
                simp [part, Sem.run_bind, run_pAgg hpa, Result.andThen, this]
              simp only [Op.eqFields, hne, ne_eq, not_false_eq_true, if_true, Sem.run_bind, p1, p2, Result.andThen_ok, run_equalIn_int w (d + 3) f.type k kk a b hu]
              cases hab : (a == b) with
              | true => simp only [Bool.not_true, Bool.false_eq_true, if_false, Bool.true_and]; exact ih w
              | false => simp only [Bool.not_false, if_true, Bool.false_and]; rfl
            · cases e
          · simp [hkl] at e
        · cases e
      · rename_i hu
        split at e
        · rename_i a b hxa hyb
          split at e
          · rename_i c' hc
            cases e
            have ih := eqParts2_run hx hy d r c' hc
            obtain ⟨u, hu1, hv1⟩ := hx.get (k := f.offset) (by simpa using hxa)
            obtain ⟨u2, hu2, hv2⟩ := hy.get (k := f.offset) (by simpa using hyb)
            cases hv1; cases hv2
            have hpa : pAgg P f.type = some false := by simp [pAgg, hu]
            have p1 : (part f.type xs' f.offset).run P w = .ok (.bool a) w := by
              have : xs'[f.offset]? = some (.bool a) := by simpa using hu1
              simp [part, Sem.run_bind, run_pAgg hpa, Result.andThen, this]
            have p2 : (part f.type ys' f.offset).run P w = .ok (.bool b) w := by
              have : ys'[f.offset]? = some (.bool b) := by simpa using hu2
              simp [part, Sem.run_bind, run_pAgg hpa, Result.andThen, this]
            simp only [Op.eqFields, hne, ne_eq, not_false_eq_true, if_true, Sem.run_bind, p1, p2, Result.andThen_ok, run_equalIn_bool' w (d + 3) f.type a b hu]
            cases hab : (a == b) with
            | true => simp only [Bool.not_true, Bool.false_eq_true, if_false, Bool.true_and]; exact ih w
            | false => simp only [Bool.not_false, if_true, Bool.false_and]; rfl
          · cases e
        · cases e
      · rename_i gs hu
        cases hst : P.stoodInHeld f.type with
        | true => rw [hst] at e; cases e
        | false =>
          rw [hst] at e
          simp only [Bool.not_false, cond_true] at e
          split at e
          · rename_i x2 y2 hxa hyb
            split at e
            · rename_i c1 c' h1 hc
              cases e
              have ih := eqParts2_run hx hy d r c' hc
              obtain ⟨u, p1, hv1⟩ := cpart_sound hx hxa w
              obtain ⟨u2, p2, hv2⟩ := cpart_sound hy hyb w
              obtain ⟨x2', rfl, hx2⟩ := hv1.agg_inv
              obtain ⟨y2', rfl, hy2⟩ := hv2.agg_inv
              have hf : P.fieldsOf f.type = gs := by simp [Program.fieldsOf, hu]
              have h3 : (Op.equalIn (d + 4) f.type (.agg x2') (.agg y2')).run P w = .ok c1 w := by
                rw [run_equalIn_struct w (d + 3) f.type x2' y2' (by rw [hf]; exact hu) hst, hf]
                exact eqParts_run hx2 hy2 d gs.toList c1 h1 w
              simp only [Op.eqFields, hne, ne_eq, not_false_eq_true, if_true, Sem.run_bind, p1, p2, Result.andThen_ok, h3]
              cases c1 with
              | true => simp only [Bool.not_true, Bool.false_eq_true, if_false, Bool.true_and]; exact ih w
              | false => simp only [Bool.not_false, if_true, Bool.false_and]; rfl
            · cases e
          · cases e
      · cases e

theorem cbin_sound {op : BinOp} {t : TypeId} {x y : Operand} {a b v : CV} {a' b' : Value} (ha : VRel i a a') (hb : VRel i b b') (e : cbin P op t x y a b = some v) (w : World) :
    ∃ v', (do eqGuard op t x y a' b'; binOp op t a' b' : Sem Value).run P w = .ok v' w ∧ VRel i v v' := by
  unfold cbin at e
  split at e
  · cases ha; cases hb
    have h1 := bin_int op t _ _ _ _ e w
    refine ⟨v.toV, by simp only [Sem.run_bind, run_eqGuard_plain op t x y (.int _ _) _ w (by simp) (by simp), Result.andThen_ok, h1], ?_⟩
    have hf : flat v = true := by
      cases op <;> simp only [cint] at e <;> first
        | (split at e <;> first | (cases e; rfl) | cases e)
        | exact (stillF_run _ e default).2
    exact .of_flat i v hf
  · rename_i xs ys
    have hF : ∀ op, cbinF P op t x y (.agg xs) (.agg ys) = some v → ∃ v', (do eqGuard op t x y a' b'; binOp op t a' b' : Sem Value).run P w = .ok v' w ∧ VRel i v v' := fun op e => cbinF_sound ha hb e w
    have main : ∀ c, structEq P t xs ys = some c → ∃ xs' ys', a' = .agg xs' ∧ b' = .agg ys' ∧ (∀ op, (op = .eql ∨ op = .neq) → (eqGuard op t x y a' b').run P w = .ok () w) ∧ (Op.equal t a' b').run P w = .ok c w := by
      intro c hc
      obtain ⟨xs', rfl, hx⟩ := ha.agg_inv
      obtain ⟨ys', rfl, hy⟩ := hb.agg_inv
      unfold structEq at hc
      split at hc
      · rename_i fs hu
        cases hg : (!(P.stoodInHeld t) && !(P.eqGuardType P.depth t)) with
        | false => rw [hg] at hc; cases hc
        | true =>
          rw [hg] at hc
          simp only [cond_true] at hc
          simp only [Bool.and_eq_true, Bool.not_eq_true'] at hg
          have hf : P.fieldsOf t = fs := by simp [Program.fieldsOf, hu]
          refine ⟨xs', ys', rfl, rfl, fun op hop => ?_, ?_⟩
          · rcases hop with rfl | rfl <;> simp [eqGuard, Sem.run_bind, run_program, Result.andThen, hg.2]
          · show (Op.equalIn 10000 t (.agg xs') (.agg ys')).run P w = _
            rw [run_equalIn_struct w 9999 t xs' ys' (by rw [hf]; exact hu) hg.1, hf]
            exact eqParts2_run hx hy 9995 fs.toList c hc w
      · cases hc
    split at e
    · rename_i c hc
      cases e
      obtain ⟨xs', ys', rfl, rfl, h1, h2⟩ := main c hc
      exact ⟨_, by simp only [Sem.run_bind, h1 _ (.inl rfl), Result.andThen_ok, binOp, h2]; rfl, .bool _⟩
    · rename_i c hc
      cases e
      obtain ⟨xs', ys', rfl, rfl, h1, h2⟩ := main c hc
      exact ⟨_, by simp only [Sem.run_bind, h1 _ (.inr rfl), Result.andThen_ok, binOp, h2]; rfl, .bool _⟩
    · exact hF _ e
  · exact cbinF_sound ha hb e w


theorem fieldOf_under {t : TypeId} {k : Nat} {f : Field} (e : fieldOf P t k = some f) : ∃ fs, P.underlying t = some (.struct fs) ∧ fs[k]? = some f := by
  unfold fieldOf at e
  split at e
  · rename_i fs hu; exact ⟨fs, hu, e⟩
  · cases e

theorem inRange_iff {n : Int} {m : Nat} : inRange n m = true ↔ 0 ≤ n ∧ n < (m : Int) := by simp [inRange]

theorem bound_run {v : Option CV} {y d m : Nat} (w : World) (e : cbd v y d = some m) :
    (v = none ∧ m = d) ∨ ∃ k n, v = some (.int k n) ∧ m ≤ y ∧ ∀ (y' : Nat) (code : BoundsCode), y ≤ y' → (Instr.sliceBound (.int k n) y' code).run P w = .ok m w := by
  unfold cbd at e
  cases v with
  | none => simp at e; exact .inl ⟨rfl, e.symm⟩
  | some v =>
    cases v <;> simp only [] at e <;> first | (cases e; done) | skip
    rename_i k n
    by_cases hc : 0 ≤ n ∧ n ≤ (y : Int)
    · simp [hc.1, hc.2] at e
      exact .inr ⟨k, n, rfl, by omega, fun y' code hy => by rw [run_sliceBound w k n y' code hc.1 (by omega), e]⟩
    · have : (decide (0 ≤ n) && decide (n ≤ (y : Int))) = false := by simpa using hc
      simp [this] at e

theorem cbounds_run {isS : Bool} {len cap cap' l hh m : Nat} {lo hi mx : Option CV} (e : cbounds len cap lo hi mx = some (l, hh, m)) (hcap : cap ≤ cap') (w : World) :
    (Instr.sliceBounds isS len cap' (lo.map CV.toV) (hi.map CV.toV) (mx.map CV.toV)).run P w = .ok (l, hh, if mx = none then cap' else m) w ∧ l ≤ hh ∧ hh ≤ m ∧ m ≤ cap ∧ (mx = none → m = cap) := by
  unfold cbounds at e
  split at e
  · cases e
  · rename_i m' hm'
    split at e
    · cases e
    · rename_i h' hh'
      split at e
      · cases e
      · rename_i l' hl'
        have b1 := bound_run (P := P) w hm'
        have b2 := bound_run (P := P) w hh'
        have b3 := bound_run (P := P) w hl'
        rw [nble, nble] at e
        by_cases hc : (decide (h' ≤ m') && decide (l' ≤ h') && !noHigh hi mx) = true
        · rw [hc] at e
          cases e
          simp only [Bool.and_eq_true, decide_eq_true_eq, Bool.not_eq_true'] at hc
          obtain ⟨⟨c1, c2⟩, c3⟩ := hc
          unfold Instr.sliceBounds
          rcases b1 with ⟨rfl, rfl⟩ | ⟨k1, n1, rfl, e1, r1⟩
          · refine ⟨?_, c2, c1, Nat.le_refl _, fun _ => rfl⟩
            rcases b2 with ⟨rfl, rfl⟩ | ⟨k2, n2, rfl, e2, r2⟩
            · rcases b3 with ⟨rfl, rfl⟩ | ⟨k3, n3, rfl, e3, r3⟩
              · simp [Sem.run_bind, Result.andThen]
              · simp [CV.toV, Sem.run_bind, Result.andThen, r3]
            · rcases b3 with ⟨rfl, rfl⟩ | ⟨k3, n3, rfl, e3, r3⟩
              · simp [CV.toV, Sem.run_bind, Result.andThen, r2 cap' _ hcap]
              · simp [CV.toV, Sem.run_bind, Result.andThen, r2 cap' _ hcap, r3]
          · refine ⟨?_, c2, c1, e1, fun hn => by cases hn⟩
            rcases b2 with ⟨rfl, rfl⟩ | ⟨k2, n2, rfl, e2, r2⟩
            · simp [noHigh] at c3
            · rcases b3 with ⟨rfl, rfl⟩ | ⟨k3, n3, rfl, e3, r3⟩
              · simp [CV.toV, Sem.run_bind, Result.andThen, r1 cap' _ hcap, r2]
              · simp [CV.toV, Sem.run_bind, Result.andThen, r1 cap' _ hcap, r2, r3]
        · simp only [Bool.not_eq_true] at hc
          rw [hc] at e; cases e

theorem optEval_rel {ρ : Operand → Option CV} {ρ' : Operand → Value} (hρ : ∀ x v, ρ x = some v → VRel i v (ρ' x)) {x : Option Operand} {v : Option CV} (e : optEval ρ x = some v)
    (hint : ∀ u, v = some u → ∃ k n, u = .int k n) : x.map ρ' = v.map CV.toV := by
  cases x with
  | none => simp [optEval] at e; subst e; rfl
  | some x =>
    simp only [optEval] at e
    split at e
    · rename_i u hu
      cases e
      obtain ⟨k, n, rfl⟩ := hint u rfl
      have := hρ _ _ hu
      cases h2 : ρ' x <;> rw [h2] at this <;> cases this
      simp [h2, CV.toV]
    · cases e

theorem cbounds_int {len cap l hh m : Nat} {lo hi mx : Option CV} (e : cbounds len cap lo hi mx = some (l, hh, m)) :
    (∀ u, lo = some u → ∃ k n, u = .int k n) ∧ (∀ u, hi = some u → ∃ k n, u = .int k n) ∧ (∀ u, mx = some u → ∃ k n, u = .int k n) := by
  have key : ∀ {v : Option CV} {y d m : Nat}, cbd v y d = some m → ∀ u, v = some u → ∃ k n, u = .int k n := fun {v y d m} e u hu => by
    subst hu; cases u <;> simp only [cbd] at e <;> first | (cases e; done) | exact ⟨_, _, rfl⟩
  unfold cbounds at e
  split at e
  · cases e
  · rename_i m' hm'
    split at e
    · cases e
    · rename_i h' hh'
      split at e
      · cases e
      · rename_i l' hl'
        exact ⟨key hl', key hh', key hm'⟩

end Go.Proofs.YtecidokjhplbgaaGreatDoorD

set_option linter.unusedVariables false
set_option linter.unusedSimpArgs false
namespace Go.Proofs.YtecidokjhplbgaaGreatDoorD
open Go Go.RowKit

variable {P : Program} {N : Nat} {i : Inj} {h : HF} {w : World}

theorem VRel.int_inv {k : IntKind} {n : Int} {y : Value} (h : VRel i (.int k n) y) : y = .int k n := by cases h; rfl
theorem VRel.bool_inv {b : Bool} {y : Value} (h : VRel i (.bool b) y) : y = .bool b := by cases h; rfl
theorem VRel.string_inv {s : ByteArray} {y : Value} (h : VRel i (.string s) y) : y = .string s := by cases h; rfl
theorem VRel.ptr_inv {b o : Nat} {y : Value} (h : VRel i (.pointer (some ⟨b, o, none⟩)) y) : ∃ g, i b = some g ∧ y = .pointer (some ⟨g.B, g.off + o, none⟩) := by cases h with | ptr hb => exact ⟨_, hb, rfl⟩
theorem VRel.slice_inv {b o len cap : Nat} {y : Value} (h : VRel i (.slice (some ⟨b, o, none⟩) len cap) y) :
    ∃ g a' cap', y = .slice (some a') len cap' ∧ i b = some g ∧ CapOk g o cap cap' ∧ (cap' ≠ 0 → a' = ⟨g.B, g.off + o, none⟩) ∧ len ≤ cap := by
  cases h with | slice hb hc ha hl => exact ⟨_, _, _, rfl, hb, hc, ha, hl⟩
theorem VRel.nilSlice_inv {len cap : Nat} {y : Value} (h : VRel i (.slice none len cap) y) : len = 0 ∧ cap = 0 ∧ y = .slice none 0 0 := by cases h; exact ⟨rfl, rfl, rfl⟩

theorem sliceOk_img (R : Rel P N i h w) {b z : Nat} {g : Img} (hs : sliceOk h b z = true) (hg : i b = some g) : g.grown = true → g.esz = z := by
  unfold sliceOk at hs
  split at hs
  · rename_i vs ez md hb
    obtain ⟨_, h2, h3, _⟩ := R.obj b _ g hb hg
    intro hgr
    rw [h3] at hgr
    simp [hgr] at hs
    rw [h2]; exact hs
  · cases hs

theorem cslice_sound (R : Rel P N i h w) {t : TypeId} {x : CV} {y : Value} {lo hi mx : Option CV} {v : CV} (hx : VRel i x y) (e : cslice P h t x lo hi mx = some v) :
    ∃ v', (Instr.sliceAt t y (lo.map CV.toV) (hi.map CV.toV) (mx.map CV.toV)).run P w = .ok v' w ∧ VRel i v v' := by
  unfold cslice at e
  split at e
  · -- a string
    rename_i s hu
    have := hx.string_inv; subst this
    split at e
    · cases e
    · split at e
      · rename_i l hh m hb
        cases e
        have := (cbounds_run (P := P) (isS := false) hb (Nat.le_refl _) w).1
        rw [Option.map_none] at this
        exact ⟨_, by simp [Instr.sliceAt, Instr.slice, Sem.run_bind, run_underlying hu, Result.andThen, this], .string _⟩
      · cases e
  · rename_i e' len cap hu
    obtain ⟨rfl, rfl, rfl⟩ := hx.nilSlice_inv
    split at e
    · rename_i l hh m z hb hz
      cases e
      obtain ⟨h1, h2, h3, h4, h5⟩ := cbounds_run (P := P) (isS := true) hb (Nat.le_refl _) w
      have e1 : m = 0 := by omega
      have e2 : hh = 0 := by omega
      have e3 : l = 0 := by omega
      subst e1; subst e2; subst e3
      simp only [ite_self] at h1
      have hr : (Instr.sliceAt t (.slice none 0 0) (lo.map CV.toV) (hi.map CV.toV) (mx.map CV.toV)).run P w = .ok (.slice none 0 0) w := by
        simp only [Instr.sliceAt, Instr.slice, Sem.run_bind, run_underlying hu, Result.andThen_ok, h1, run_pSize hz, Sem.run_pure]; rfl
      exact ⟨_, hr, .nilSlice⟩
    · cases e
  · rename_i e' b o len cap hu
    obtain ⟨g, a', cap', rfl, hg, hc, ha, hl⟩ := hx.slice_inv
    split at e
    · rename_i l hh m z hb hz
      cases hok : sliceOk h b z with
      | false => simp [hok] at e
      | true =>
        simp [hok] at e
        subst e
        have himg := sliceOk_img R hok hg
        have hcc : cap ≤ cap' := by rcases hc with rfl | ⟨_, _, h3, _⟩ <;> omega
        obtain ⟨h1, h2, h3, h4, h5⟩ := cbounds_run (P := P) (isS := true) hb hcc w
        have hr : (Instr.sliceAt t (.slice (some a') len cap') (lo.map CV.toV) (hi.map CV.toV) (mx.map CV.toV)).run P w = .ok (.slice (if (if mx = none then cap' else m) = l then some a' else (some a').map (·.add (l * z))) (hh - l) ((if mx = none then cap' else m) - l)) w := by
          simp only [Instr.sliceAt, Instr.slice, Sem.run_bind, run_underlying hu, Result.andThen_ok, h1, run_pSize hz, Sem.run_pure]
        refine ⟨_, hr, ?_⟩
        have hres : ∀ m' : Nat, m ≤ m' → (m' = m ∨ (mx = none ∧ m' = cap')) → m' ≤ cap' →
            VRel i (.slice (some ⟨b, o + l * z, none⟩) (hh - l) (m - l)) (.slice (if m' = l then some a' else (some a').map (·.add (l * z))) (hh - l) (m' - l)) := by
          intro m' hm1 hm2 hm3
          have hsome : ∃ a'', (if m' = l then some a' else (some a').map (·.add (l * z))) = some a'' ∧ (m' - l ≠ 0 → a'' = ⟨g.B, g.off + (o + l * z), none⟩) := by
            by_cases hml : m' = l
            · rw [if_pos hml]; exact ⟨a', rfl, fun hne => by omega⟩
            · rw [if_neg hml]
              refine ⟨_, rfl, fun hne => ?_⟩
              rw [ha (by omega)]; show (⟨g.B, g.off + o, none⟩ : Addr).add (l * z) = _; rw [Addr.add_mk]; congr 1; omega
          obtain ⟨a'', e1, e2⟩ := hsome
          rw [e1]
          refine .slice hg ?_ e2 (by omega)
          rcases hm2 with rfl | ⟨hmn, rfl⟩
          · exact .inl rfl
          · rcases hc with rfl | ⟨hgr, h6, h7, h8, h9⟩
            · have := h5 hmn; subst this; exact .inl rfl
            · have e3 := himg hgr
              have := h5 hmn; subst this
              refine .inr ⟨hgr, ?_, by omega, ?_, by omega⟩
              · rw [e3] at h6 ⊢
                have : l * z + (m - l) * z = m * z := by rw [← Nat.add_mul]; congr 1; omega
                omega
              · rw [e3] at h8 ⊢
                have : l * z + (m' - l) * z = m' * z := by rw [← Nat.add_mul]; congr 1; omega
                omega
        by_cases hmn : mx = none
        · simp only [hmn, if_true]
          have := h5 hmn
          exact hres cap' (by omega) (.inr ⟨hmn, rfl⟩) (Nat.le_refl _)
        · simp only [hmn, if_false]
          exact hres m (Nat.le_refl _) (.inl rfl) (by omega)
    · cases e
  · rename_i a b o hu
    obtain ⟨g, hg, rfl⟩ := hx.ptr_inv
    split at e
    · rename_i n e' hu2
      split at e
      · rename_i l hh m z hb hz
        cases e
        obtain ⟨h1, h2, h3, h4, h5⟩ := cbounds_run (P := P) (isS := false) hb (Nat.le_refl _) w
        have hm : (if mx = none then n else m) = m := by
          by_cases hmn : mx = none
          · rw [if_pos hmn, h5 hmn]
          · rw [if_neg hmn]
        rw [hm] at h1
        have hr : (Instr.sliceAt t (.pointer (some ⟨g.B, g.off + o, none⟩)) (lo.map CV.toV) (hi.map CV.toV) (mx.map CV.toV)).run P w = .ok (.slice (some (if m = l then (⟨g.B, g.off + o, none⟩ : Addr) else (⟨g.B, g.off + o, none⟩ : Addr).add (l * z))) (hh - l) (m - l)) w := by
          simp only [Instr.sliceAt, Instr.slice, Sem.run_bind, run_underlying hu, run_underlying hu2, Result.andThen_ok, h1, run_pSize hz, Sem.run_pure, asAddr]
        refine ⟨_, hr, ?_⟩
        have hc' : ∃ a'', (if m = l then (⟨g.B, g.off + o, none⟩ : Addr) else (⟨g.B, g.off + o, none⟩ : Addr).add (l * z)) = a'' ∧ (m - l ≠ 0 → a'' = ⟨g.B, g.off + (o + l * z), none⟩) := by
          by_cases hml : m = l
          · rw [if_pos hml]; exact ⟨_, rfl, fun hne => by omega⟩
          · rw [if_neg hml, Addr.add_mk]; exact ⟨_, rfl, fun _ => by congr 1; omega⟩
        obtain ⟨a'', e1, e2⟩ := hc'
        rw [e1]
        exact .slice hg (.inl rfl) e2 (by omega)
      · cases e
    · cases e
  · rename_i n e' b o hu
    obtain ⟨g, hg, rfl⟩ := hx.ptr_inv
    split at e
    · rename_i l hh m z hb hz
      cases e
      obtain ⟨h1, h2, h3, h4, h5⟩ := cbounds_run (P := P) (isS := false) hb (Nat.le_refl _) w
      have hm : (if mx = none then n else m) = m := by
        by_cases hmn : mx = none
        · rw [if_pos hmn, h5 hmn]
        · rw [if_neg hmn]
      rw [hm] at h1
      have hr : (Instr.sliceAt t (.pointer (some ⟨g.B, g.off + o, none⟩)) (lo.map CV.toV) (hi.map CV.toV) (mx.map CV.toV)).run P w = .ok (.slice (some (if m = l then (⟨g.B, g.off + o, none⟩ : Addr) else (⟨g.B, g.off + o, none⟩ : Addr).add (l * z))) (hh - l) (m - l)) w := by
        simp only [Instr.sliceAt, Instr.sureAddr, Sem.run_bind, run_underlying hu, Result.andThen_ok, h1, run_pSize hz, Sem.run_pure]
      refine ⟨_, hr, ?_⟩
      have hc' : ∃ a'', (if m = l then (⟨g.B, g.off + o, none⟩ : Addr) else (⟨g.B, g.off + o, none⟩ : Addr).add (l * z)) = a'' ∧ (m - l ≠ 0 → a'' = ⟨g.B, g.off + (o + l * z), none⟩) := by
        by_cases hml : m = l
        · rw [if_pos hml]; exact ⟨_, rfl, fun hne => by omega⟩
        · rw [if_neg hml, Addr.add_mk]; exact ⟨_, rfl, fun _ => by congr 1; omega⟩
      obtain ⟨a'', e1, e2⟩ := hc'
      rw [e1]
      exact .slice hg (.inl rfl) e2 (by omega)
    · cases e
  · cases e

end Go.Proofs.YtecidokjhplbgaaGreatDoorD

set_option linter.unusedVariables false
set_option linter.unusedSimpArgs false
namespace Go.Proofs.YtecidokjhplbgaaGreatDoorD
open Go Go.RowKit

variable {P : Program} {N : Nat} {i : Inj} {h : HF} {w : World}

theorem map_toArray (l : Array Operand) (f : Operand → Value) : l.map f = (l.toList.map f).toArray := by
  apply Array.ext'; simp

theorem clen_sound (R : Rel P N i h w) {t : TypeId} {ts : Array TypeId} {ty : TypeId} {x v : CV} {y : Value} (ht : ts[0]? = some t) (hx : VRel i x y) (e : clen P h t x = some v) :
    (Builtin.len_ ts ty #[y]).run P w = .ok v.toV w ∧ VRel i v v.toV := by
  unfold clen at e
  split at e
  · rename_i s hu; have := hx.string_inv; subst this; cases e
    exact ⟨by simp [Builtin.len_, ht, Sem.run_bind, run_underlying hu, Result.andThen, goInt, CV.toV], .int _ _⟩
  · rename_i e' a n c hu
    cases e
    cases a with
    | none => obtain ⟨rfl, rfl, rfl⟩ := hx.nilSlice_inv; exact ⟨by simp [Builtin.len_, ht, Sem.run_bind, run_underlying hu, Result.andThen, goInt, CV.toV], .int _ _⟩
    | some a =>
      cases hx
      exact ⟨by simp [Builtin.len_, ht, Sem.run_bind, run_underlying hu, Result.andThen, goInt, CV.toV], .int _ _⟩
  · rename_i n e' hu
    cases e
    exact ⟨by simp [Builtin.len_, ht, Sem.run_bind, run_underlying hu, Result.andThen, goInt, CV.toV], .int _ _⟩
  · rename_i k e' hu
    cases e; cases hx
    exact ⟨by simp [Builtin.len_, ht, Sem.run_bind, run_underlying hu, Result.andThen, goInt, CV.toV], .int _ _⟩
  · rename_i k e' r hu
    split at e
    · rename_i es hr
      cases e
      cases hx with
      | map hg =>
        obtain ⟨_, es', cl, h2, h3⟩ := R.obj r _ _ hr hg
        exact ⟨by simp [Builtin.len_, ht, Sem.run_bind, run_underlying hu, Result.andThen, goInt, getObj, Sem.run, h2, h3.len, CV.toV], .int _ _⟩
    · cases e
  · cases e

set_option maxHeartbeats 1600000 in
theorem cpure_sound (R : Rel P N i h w) {ρ : Operand → Option CV} {ρ' : Operand → Value} (hρ : ∀ x v, ρ x = some v → VRel i v (ρ' x)) {o : Oper} {v : CV} (e : cpure P ρ h o = some v) :
    ∃ v', (execOp ρ' o).run P w = .ok (.value v') w ∧ VRel i v v' := by
  obtain ⟨dst, op, type, pos, after, guard⟩ := o
  rw [cpure_eq] at e
  unfold cpure0 at e
  split at e
  · rename_i x hop; simp only [] at hop; subst hop
    exact ⟨ρ' x, rfl, hρ _ _ e⟩
  · rename_i x hop; simp only [] at hop; subst hop
    exact ⟨ρ' x, rfl, hρ _ _ e⟩
  · rename_i c a b hop; simp only [] at hop; subst hop
    split at e
    · rename_i t hc
      have hc' := (hρ _ _ hc).bool_inv
      cases t with
      | true => exact ⟨ρ' a, by simp [execOp, Sem.run_bind, hc', asBool, Result.andThen], hρ _ _ (by simpa using e)⟩
      | false => exact ⟨ρ' b, by simp [execOp, Sem.run_bind, hc', asBool, Result.andThen], hρ _ _ (by simpa using e)⟩
    · cases e
  · rename_i t parts hop; simp only [] at hop; subst hop
    split at e
    · rename_i ps z hps hz
      cases hf : sure ps with
      | false => simp [hf] at e
      | true =>
        simp only [hf, cond_true] at e
        split at e
        · rename_i cs hb
          cases e
          obtain ⟨ds, hd, hl⟩ := built_rel (evalsP_rel hρ _ hps) hz hf hb
          refine ⟨.agg ds, ?_, by simpa using VRel.agg' hl⟩
          refine run_v ?_
          refine run_build w t _ ds ?_
          simpa using hd
        · cases e
    · cases e
  · rename_i t a hop; simp only [] at hop; subst hop
    split at e
    · rename_i b o ha
      obtain ⟨g, hg, he⟩ := (hρ _ _ ha).ptr_inv
      obtain ⟨v', h1, h2⟩ := cload_run R hg e
      exact ⟨v', run_v (by simp [Instr.loadAt, he, Instr.sureAddr, Sem.run_bind, Result.andThen, h1]), h2⟩
    · cases e
  · rename_i x hop; simp only [] at hop; subst hop
    split at e
    · rename_i a hx
      cases e
      have hr := hρ _ _ hx
      generalize hy : ρ' x = y at hr
      cases hr with | ptr hb => refine ⟨_, ?_, .ptr hb⟩; simp [execOp, hy]
    · rename_i f a b hx
      cases e
      have hr := hρ _ _ hx
      generalize hy : ρ' x = y at hr
      cases hr with | func h1 h2 h3 h4 => refine ⟨_, ?_, .func h1 h2 h3 h4⟩; simp [execOp, hy]
    · rename_i f a b hx
      cases e
      have hr := hρ _ _ hx
      generalize hy : ρ' x = y at hr
      cases hr with | yield hb => refine ⟨_, ?_, .yield hb⟩; simp [execOp, hy]
    · cases e
  · rename_i op t x y yt hop; simp only [] at hop; subst hop
    split at e
    · rename_i a b ha hb
      obtain ⟨v', h1, h2⟩ := cbin_sound (x := x) (y := y) (hρ _ _ ha) (hρ _ _ hb) e w
      exact ⟨v', run_v h1, h2⟩
    · cases e
  · rename_i op t x hop; simp only [] at hop; subst hop
    split at e
    · rename_i u hu
      cases hf : flat u with
      | false => simp [hf] at e
      | true =>
        simp only [hf, cond_true] at e
        have := (hρ _ _ hu).flat_eq hf
        rw [← this] at e
        exact ⟨v.toV, run_v (stillF_run _ e w).1, .of_flat i v (stillF_run _ e w).2⟩
    · cases e
  · rename_i src dst x hop; simp only [] at hop; subst hop
    split at e
    · rename_i u hu
      cases hf : flat u with
      | false => simp [hf] at e
      | true =>
        simp only [hf, cond_true] at e
        have := (hρ _ _ hu).flat_eq hf
        rw [← this] at e
        exact ⟨v.toV, run_v (stillF_run _ e w).1, .of_flat i v (stillF_run _ e w).2⟩
    · cases e
  · rename_i fn first captured hop; simp only [] at hop; subst hop
    split at e
    · rename_i f
      split at e
      · rename_i a b ha hb
        cases e
        have h1 := evals_rel hρ _ ha
        have h2 := evals_rel hρ _ hb
        refine ⟨.func (.func f) (first.map ρ') (captured.map ρ'), rfl, ?_⟩
        rw [map_toArray, map_toArray]
        exact .func h1.len h1.at_ h2.len h2.at_
      · cases e
    · cases e
  · rename_i t x hop; simp only [] at hop; subst hop
    split at e
    · rename_i u hu
      cases hc : P.concrete t with
      | false => simp [hc] at e
      | true =>
        simp only [hc, cond_true] at e
        cases e
        exact ⟨_, run_v (run_makeInterface w t _ hc), .iface (hρ _ _ hu)⟩
    · cases e
  · rename_i t x k hop; simp only [] at hop; subst hop
    split at e
    · rename_i b o hx
      obtain ⟨g, hg, he⟩ := (hρ _ _ hx).ptr_inv
      split at e
      · rename_i f hf
        obtain ⟨fs, hu, hk⟩ := fieldOf_under hf
        split at e
        · rename_i z hz
          cases e
          refine ⟨.pointer (some ⟨g.B, g.off + (o + f.offset), none⟩), run_v ?_, .ptr hg⟩
          simp [Instr.fieldAt, Sem.run_bind, run_underlying hu, Result.andThen, hk, he, Instr.sureAddr, fieldPlace, run_pSize hz, Addr.add_mk, Nat.add_assoc]
        · cases e
      · cases e
    · cases e
  · rename_i t x k hop; simp only [] at hop; subst hop
    split at e
    · rename_i cs hx
      obtain ⟨ds, he, hl⟩ := (hρ _ _ hx).agg_inv
      split at e
      · rename_i f hf
        obtain ⟨fs, hu, hk⟩ := fieldOf_under hf
        obtain ⟨v', h1, h2⟩ := cpart_sound hl e w
        refine ⟨v', run_v ?_, h2⟩
        simp [Instr.field, Sem.run_bind, run_underlying hu, Result.andThen, hk, he, asAgg, h1]
      · cases e
    · cases e
  · rename_i t x ix hop; simp only [] at hop; subst hop
    split at e
    · rename_i b o len cap k n hx hn
      obtain ⟨g, a', cap', he, hg, hc, ha, hl⟩ := (hρ _ _ hx).slice_inv
      have hn' := (hρ _ _ hn).int_inv
      split at e
      · rename_i e' hu
        split at e
        · rename_i z hz
          cases hir : inRange n len with
          | false => simp [hir] at e
          | true =>
            simp only [hir, cond_true] at e
            cases e
            obtain ⟨h0, h1⟩ := inRange_iff.1 hir
            have hcap : cap' ≠ 0 := by rcases hc with rfl | ⟨_, _, h3, _⟩ <;> omega
            have ha' := ha hcap
            subst ha'
            refine ⟨.pointer (some ⟨g.B, g.off + (o + n.toNat * z), none⟩), run_v ?_, .ptr hg⟩
            simp [Instr.indexAt, Sem.run_bind, hn', asIntOf, he, run_underlying hu, Result.andThen, h0, h1, run_pSize hz, Addr.add_mk, Nat.add_assoc]
        · cases e
      · cases e
    · rename_i b o k n hx hn
      obtain ⟨g, hg, he⟩ := (hρ _ _ hx).ptr_inv
      have hn' := (hρ _ _ hn).int_inv
      split at e
      · rename_i len e' hu
        split at e
        · rename_i z hz
          cases hir : inRange n len with
          | false => simp [hir] at e
          | true =>
            simp only [hir, cond_true] at e
            cases e
            obtain ⟨h0, h1⟩ := inRange_iff.1 hir
            refine ⟨.pointer (some ⟨g.B, g.off + (o + n.toNat * z), none⟩), run_v ?_, .ptr hg⟩
            simp [Instr.indexAt, Sem.run_bind, hn', asIntOf, he, run_underlying hu, Result.andThen, Instr.sureAddr, h0, h1, run_pSize hz, Addr.add_mk, Nat.add_assoc]
        · cases e
      · cases e
    · cases e
  · rename_i t x ix hop; simp only [] at hop; subst hop
    split at e
    · rename_i cs k n hx hn
      obtain ⟨ds, he, hl⟩ := (hρ _ _ hx).agg_inv
      have hn' := (hρ _ _ hn).int_inv
      split at e
      · rename_i len e' hu
        split at e
        · rename_i z hz
          cases hir : inRange n len with
          | false => simp [hir] at e
          | true =>
            simp only [hir, cond_true] at e
            obtain ⟨h0, h1⟩ := inRange_iff.1 hir
            obtain ⟨v', h2, h3⟩ := cpart_sound hl e w
            refine ⟨v', run_v ?_, h3⟩
            simp [Instr.index, Sem.run_bind, hn', asIntOf, he, run_underlying hu, Result.andThen, h0, h1, run_pSize hz, h2]
        · cases e
      · cases e
    · rename_i s k n hx hn
      have he := (hρ _ _ hx).string_inv
      have hn' := (hρ _ _ hn).int_inv
      split at e
      · rename_i hu
        by_cases h0 : 0 ≤ n
        · simp only [h0, decide_true, cond_true] at e
          split at e
          · rename_i b hb
            cases e
            exact ⟨_, run_v (by simp [Instr.index, Sem.run_bind, hn', asIntOf, he, run_underlying hu, Result.andThen, h0, hb]), .int _ _⟩
          · cases e
        · simp [h0] at e
      · cases e
    · cases e
  · rename_i t x lo hi mx hop; simp only [] at hop; subst hop
    split at e
    · rename_i u l hh m hx hl hhh hm
      have hr := hρ _ _ hx
      have hint : (∀ u, l = some u → ∃ k n, u = .int k n) ∧ (∀ u, hh = some u → ∃ k n, u = .int k n) ∧ (∀ u, m = some u → ∃ k n, u = .int k n) := by
        unfold cslice at e
        repeat' split at e
        all_goals first | (cases e; done) | exact cbounds_int ‹cbounds _ _ _ _ _ = some _›
      have e1 := optEval_rel hρ hl hint.1
      have e2 := optEval_rel hρ hhh hint.2.1
      have e3 := optEval_rel hρ hm hint.2.2
      obtain ⟨v', h1, h2⟩ := cslice_sound R hr e
      refine ⟨v', run_v ?_, h2⟩
      show (Instr.sliceAt t (ρ' x) (lo.map ρ') (hi.map ρ') (mx.map ρ')).run P w = _
      rw [e1, e2, e3]; exact h1
    · cases e
  · rename_i x k hop; simp only [] at hop; subst hop
    split at e
    · rename_i vs hx
      obtain ⟨ds, he, hl⟩ := (hρ _ _ hx).tuple_inv
      obtain ⟨y, hy, hv⟩ := hl.get (k := k) (by simpa using e)
      have hy' : ds[k]? = some y := by simpa using hy
      exact ⟨y, run_v (by simp [Instr.extract, he, hy']), hv⟩
    · cases e
  · rename_i args ts hop; simp only [] at hop; subst hop
    split at e
    · rename_i x t hx ht
      obtain ⟨y, ys, h1, h2, h3⟩ := (evals_rel hρ _ hx).cons_inv
      have := h3.nil_inv; subst this
      obtain ⟨h4, h5⟩ := clen_sound (ty := type) R ht h2 e
      refine ⟨v.toV, ?_, h5⟩
      have hmap : args.map ρ' = #[y] := by rw [map_toArray, h1]
      simp [execOp, resolve, invoke, builtin, Sem.run_bind, Result.andThen, hmap, h4]
    · cases e
  · rename_i args ts hop; simp only [] at hop; subst hop
    split at e
    · rename_i vs hx
      have hl := evals_rel hρ _ hx
      cases hf : flatL vs with
      | false => simp [hf] at e
      | true =>
        simp only [hf, cond_true] at e
        have heq : args.map ρ' = (toVL vs).toArray := by
          rw [map_toArray]; congr 1
          have := (VRel.agg' hl).flat_eq (by simpa [flat, flatA] using hf)
          simpa [CV.toV, toVA] using this
        refine ⟨v.toV, ?_, .of_flat i v (stillF_run _ e w).2⟩
        have h4 := (stillF_run _ e w).1
        simp [execOp, resolve, invoke, builtin, Sem.run_bind, Result.andThen, heq, h4]
    · cases e
  · rename_i args ts hop; simp only [] at hop; subst hop
    split at e
    · rename_i vs hx
      have hl := evals_rel hρ _ hx
      cases hf : flatL vs with
      | false => simp [hf] at e
      | true =>
        simp only [hf, cond_true] at e
        have heq : args.map ρ' = (toVL vs).toArray := by
          rw [map_toArray]; congr 1
          have := (VRel.agg' hl).flat_eq (by simpa [flat, flatA] using hf)
          simpa [CV.toV, toVA] using this
        refine ⟨v.toV, ?_, .of_flat i v (stillF_run _ e w).2⟩
        have h4 := (stillF_run _ e w).1
        simp [execOp, resolve, invoke, builtin, Sem.run_bind, Result.andThen, heq, h4]
    · cases e
  · cases e

end Go.Proofs.YtecidokjhplbgaaGreatDoorD

set_option linter.unusedVariables false
set_option linter.unusedSimpArgs false
namespace Go.Proofs.YtecidokjhplbgaaGreatDoorD
open Go Go.RowKit

variable {P : Program} {N : Nat} {i : Inj} {h : HF} {w : World}

def eall : HF → Eff → HF
  | h, [] => h
  | h, (b, o) :: r => eall (fset h b o) r

theorem get_setAll : ∀ (t : Tr CObj) (e : Eff), (setAll t e).get = eall t.get e
  | t, [] => rfl
  | t, (b, o) :: r => by simp only [setAll, eall]; rw [get_setAll, get_fset]

theorem setR_get : ∀ (xs vs : List CV) (o : Nat), o + xs.length ≤ vs.length → ∀ k, (setR vs o xs)[k]? = if o ≤ k ∧ k < o + xs.length then xs[k - o]? else vs[k]?
  | [], vs, o, hle, k => by simp [setR]; omega
  | x :: xs, vs, o, hle, k => by
    simp only [setR, List.length_cons] at hle ⊢
    rw [setR_get xs (vs.set o x) (o + 1) (by simp; omega)]
    by_cases h1 : o + 1 ≤ k ∧ k < o + 1 + xs.length
    · rw [if_pos h1, if_pos (by omega), show k - o = (k - (o + 1)) + 1 by omega]; simp
    · rw [if_neg h1, List.getElem?_set]
      by_cases h2 : o = k
      · subst h2
        rw [if_pos rfl, if_pos (by omega), if_pos (by omega)]; simp
      · rw [if_neg h2, if_neg (by omega)]
theorem setR_length : ∀ (xs vs : List CV) (o : Nat), (setR vs o xs).length = vs.length
  | [], vs, o => rfl
  | x :: xs, vs, o => by simp only [setR]; rw [setR_length]; simp

theorem setV_get : ∀ (xs vs : List Value) (o : Nat), o + xs.length ≤ vs.length → ∀ k, (setV vs o xs)[k]? = if o ≤ k ∧ k < o + xs.length then xs[k - o]? else vs[k]?
  | [], vs, o, hle, k => by simp [setV]; omega
  | x :: xs, vs, o, hle, k => by
    simp only [setV, List.length_cons] at hle ⊢
    rw [setV_get xs (vs.set o x) (o + 1) (by simp; omega)]
    by_cases h1 : o + 1 ≤ k ∧ k < o + 1 + xs.length
    · rw [if_pos h1, if_pos (by omega), show k - o = (k - (o + 1)) + 1 by omega]; simp
    · rw [if_neg h1, List.getElem?_set]
      by_cases h2 : o = k
      · subst h2
        rw [if_pos rfl, if_pos (by omega), if_pos (by omega)]; simp
      · rw [if_neg h2, if_neg (by omega)]
theorem setCells_size (b : Nat) : ∀ (vs : List Value) (o : Nat) (w : World), (w.setCells b o vs).heap.size = w.heap.size
  | [], o, w => rfl
  | v :: r, o, w => by rw [World.setCells, setCells_size]; simp
theorem setCells_tape (b : Nat) : ∀ (vs : List Value) (o : Nat) (w : World), (w.setCells b o vs).tape = w.tape
  | [], o, w => rfl
  | v :: r, o, w => by rw [World.setCells, setCells_tape]; rfl

theorem setCells_os (b : Nat) : ∀ (vs : List Value) (o : Nat) (w : World), (w.setCells b o vs).os = w.os
  | [], o, w => rfl
  | v :: r, o, w => by rw [World.setCells, setCells_os]; rfl
theorem setCells_output (b : Nat) : ∀ (vs : List Value) (o : Nat) (w : World), (w.setCells b o vs).output = w.output
  | [], o, w => rfl
  | v :: r, o, w => by rw [World.setCells, setCells_output]; rfl
theorem setCells_other (b : Nat) {B : Nat} (hne : B ≠ b) : ∀ (vs : List Value) (o : Nat) (w : World), (w.setCells b o vs).heap[B]? = w.heap[B]?
  | [], o, w => rfl
  | v :: r, o, w => by rw [World.setCells, setCells_other b hne, Below.heap_setCell _ _ _ _ (by simpa using hne)]

theorem cellOk_one {v : Value} (e : vcellOk v = true) : v.oneCell' = true := by cases v <;> first | rfl | simp [vcellOk] at e

theorem LRel.cellOk {xs : List CV} {ys : List Value} (hl : LRel i xs ys) (e : xs.all Go.Proofs.YtecidokjhplbgaaGreatDoorD.cellOk = true) : ∀ v ∈ ys, v.oneCell' = true := by
  intro v hv
  obtain ⟨k, hk, hkv⟩ := List.mem_iff_getElem.1 hv
  have hk' : k < xs.length := by rw [hl.len]; exact hk
  have := hl.at_ k xs[k] v (List.getElem?_eq_getElem hk') (by rw [List.getElem?_eq_getElem hk, hkv])
  exact cellOk_one (cellOk_rel this (List.all_eq_true.1 e _ (List.getElem_mem hk')))

theorem CRel.store (R : Rel P N i h w) {ro b o ez m : Nat} {ob ob2 : CObj} {vs xs : List CV} {ys : List Value} {g : Img} (hb : h b = some ob) (hg : i b = some g) (hro : ro ≤ b) (hwr : wr ob = true)
    (hc : CRel N i w g vs ez m) (h2c : ∀ {w' : World}, CRel N i w' g (setR vs o xs) ez m → ORel P N i w' g ob2) (hm : m ≠ 2) (hle : o + xs.length ≤ vs.length) (hok : xs.all cellOk = true) (hl : LRel i xs ys) :
    ∃ w', (storeCells ⟨g.B, g.off + o, none⟩ ys).run P w = .ok () w' ∧ Rel P N i (fset h b ob2) w' ∧ Step ro i h w i (fset h b ob2) w' := by
  obtain ⟨h1, h2, h3, ⟨vs', h4, h5⟩, h6⟩ := hc
  obtain ⟨h7, h8, h9, h10⟩ := h6 hm
  have hlen := hl.len
  have hsome : ∀ j, j < ys.length → (w.cell? ⟨g.B, g.off + o + 0 + j, none⟩).isSome = true := fun j hj => by
    have := h9 (o + j) (by omega)
    rwa [show g.off + (o + j) = g.off + o + 0 + j by omega] at this
  have hfr : ∀ j, j < ys.length → w.frozen? ⟨g.B, g.off + o + 0 + j, none⟩ = false := fun j hj => by
    exact h10 _
  have hrun := run_storeCells_cells (P := P) g.B (g.off + o) ys 0 w hsome hfr (hl.cellOk hok)
  refine ⟨w.setCells g.B (g.off + o + 0) ys, hrun, ?_⟩
  have hin := fun k => World.cell?_setCells_in g.B ys (g.off + o + 0) w hsome k
  refine R.put hb hg hro hwr (setCells_size _ _ _ _) (setCells_os _ _ _ _) (setCells_tape _ _ _ _) (setCells_output _ _ _ _)
    (fun B hB hne => setCells_other g.B hne ys _ w) (h2c ?_)
  refine ⟨by rw [h1, setR_length], h2, h3, ⟨setV vs' o ys, h4.setR o hl, fun k v hv => ?_⟩, fun _ => ⟨h7, by rw [setR_length]; exact h8, fun k hk => World.isSome_setCells g.B ys _ w _ (h9 k hk), fun k => by rw [World.frozen?_setCells]; exact h10 k⟩⟩
  · rw [setV_get ys vs' o (by rw [← h4.len, ← hlen]; exact hle)] at hv
    split at hv
    · rename_i hc
      have hk : k - o < ys.length := by omega
      have := hin (k - o) hk
      rw [show g.off + o + 0 + (k - o) = g.off + k by omega] at this
      rw [this]
      rw [List.getElem?_eq_getElem hk] at hv; exact hv
    · rename_i hc
      rw [World.cell?_setCells_out g.B ys (g.off + o + 0) w ⟨g.B, g.off + k, none⟩ (fun _ _ => by simp only []; omega)]
      exact h5 k v hv

theorem store_sound (R : Rel P N i h w) {ro b o ez m : Nat} {vs xs : List CV} {ys : List Value} {g : Img} (hb : h b = some (.cells vs ez m)) (hg : i b = some g) (hro : ro ≤ b) (hm : m ≠ 2)
    (hle : o + xs.length ≤ vs.length) (hok : xs.all cellOk = true) (hl : LRel i xs ys) :
    ∃ w', (storeCells ⟨g.B, g.off + o, none⟩ ys).run P w = .ok () w' ∧ Rel P N i (fset h b (.cells (setR vs o xs) ez m)) w' ∧ Step ro i h w i (fset h b (.cells (setR vs o xs) ez m)) w' :=
  CRel.store R hb hg hro (by simp [wr, nbeq, hm]) (R.obj b _ g hb hg) (fun h => h) hm hle hok hl

theorem new_sound (R : Rel P N i h w) (ro : Nat) {id : Nat} (hid : h id = none) (hi : i.free id) (t : TypeId) {vs : List CV} (ez m : Nat) {ys rest : List Value} (hl : LRel i vs ys) :
    Rel P N (upd i id ⟨w.heap.size, 0, (ys ++ rest).length, Nat.beq m 1, vs.length, ez⟩) (fset h id (.cells vs ez m)) (w.alloc (.cells (ys ++ rest).toArray t)) ∧
    Step ro i h w (upd i id ⟨w.heap.size, 0, (ys ++ rest).length, Nat.beq m 1, vs.length, ez⟩) (fset h id (.cells vs ez m)) (w.alloc (.cells (ys ++ rest).toArray t)) := by
  refine R.alloc ro hid hi _ _ _ rfl ?_
  refine ⟨rfl, rfl, rfl, ⟨ys, hl.mono (le_upd _ hi.1), fun k v hv => ?_⟩, fun _ => ⟨R.hN, by simp [hl.len], fun k hk => ?_, fun k => by rw [World.frozen?_alloc_new]⟩⟩
  · rw [Nat.zero_add, World.cell?_alloc_new]
    have : k < ys.length := (List.getElem?_eq_some_iff.1 hv).1
    simp [List.getElem?_append, this, (List.getElem?_eq_some_iff.1 hv).2]
  · rw [Nat.zero_add, World.cell?_alloc_new]
    simp only [List.getElem?_toArray, List.getElem?_eq_getElem hk, Option.isSome_some]

theorem new_rows (R : Rel P N i h w) (ro : Nat) {id : Nat} (hid : h id = none) (hi : i.free id) (t : TypeId) (r : RC) {l : List r.den} {ys rest : List Value} (hl : LRel i (r.all l) ys) :
    Rel P N (upd i id ⟨w.heap.size, 0, (ys ++ rest).length, true, (r.all l).length, r.z⟩) (fset h id (.rows r l)) (w.alloc (.cells (ys ++ rest).toArray t)) ∧
    Step ro i h w (upd i id ⟨w.heap.size, 0, (ys ++ rest).length, true, (r.all l).length, r.z⟩) (fset h id (.rows r l)) (w.alloc (.cells (ys ++ rest).toArray t)) := by
  refine R.alloc ro hid hi _ _ _ rfl ?_
  refine ⟨rfl, rfl, rfl, ⟨ys, hl.mono (le_upd _ hi.1), fun k v hv => ?_⟩, fun _ => ⟨R.hN, by simp [hl.len], fun k hk => ?_, fun k => by rw [World.frozen?_alloc_new]⟩⟩
  · rw [Nat.zero_add, World.cell?_alloc_new]
    have : k < ys.length := (List.getElem?_eq_some_iff.1 hv).1
    simp [List.getElem?_append, this, (List.getElem?_eq_some_iff.1 hv).2]
  · rw [Nat.zero_add, World.cell?_alloc_new]
    simp only [List.getElem?_toArray, List.getElem?_eq_getElem hk, Option.isSome_some]

def zeroV (z : List Value) : Nat → List Value
  | 0 => []
  | n + 1 => z ++ zeroV z n
theorem zeroRow_get (z : List Value) : ∀ (n : Nat), zeroV z n = (List.range (n * z.length)).map fun j => z[j % z.length]!
  | 0 => by simp [zeroV]
  | n + 1 => by
    rw [zeroV, zeroRow_get z n]
    apply List.ext_getElem?
    intro k
    rw [List.getElem?_append]
    by_cases hk : k < z.length
    · have hk2 : k < (n + 1) * z.length := by rw [Nat.add_mul]; omega
      simp [hk, hk2, Nat.mod_eq_of_lt hk]
    · rw [if_neg hk]
      by_cases hk2 : k - z.length < n * z.length
      · have hk3 : k < (n + 1) * z.length := by rw [Nat.add_mul]; omega
        have hm : (k - z.length) % z.length = k % z.length := (Nat.mod_eq_sub_mod (by omega)).symm
        simp [hk2, hk3, hm]
      · have hk3 : ¬ k < (n + 1) * z.length := by rw [Nat.add_mul]; omega
        simp [hk2, hk3]

theorem zeroRow_array (z : Array Value) (n : Nat) : ((Array.range (n * z.size)).map fun j => z[j % z.size]!) = (zeroV z.toList n).toArray := by
  rw [zeroRow_get]
  apply Array.ext'
  simp [Array.getElem!_eq_getD]

theorem flatL_append : ∀ (a b : List CV), flatL (a ++ b) = (flatL a && flatL b)
  | [], b => by simp [flatL]
  | x :: a, b => by simp [flatL, flatL_append a b, Bool.and_assoc]
theorem flatL_zeroRow {z : List CV} (hz : flatL z = true) : ∀ n, flatL (zeroRow z n) = true
  | 0 => rfl
  | n + 1 => by rw [zeroRow, flatL_append, hz, flatL_zeroRow hz n]; rfl
theorem flat_cells {z : CV} (hz : flat z = true) : flatL z.cells.toList = true := by
  cases z <;> simp_all [CV.cells, flatL, flat, flatA_eq]
theorem toVL_zeroRow (z : List CV) : ∀ n, toVL (zeroRow z n) = zeroV (toVL z) n
  | 0 => rfl
  | n + 1 => by
    have := toVL_zeroRow z n
    rw [zeroRow, zeroV, ← this]
    simp [toVL_eq]
theorem zeroRow_rel {z : CV} (hz : flat z = true) (i : Inj) (n : Nat) : LRel i (zeroRow z.cells.toList n) (zeroV z.toV.cells.toList n) := by
  have h := LRel.of_flat (flatL_zeroRow (flat_cells hz) n) i
  rw [toVL_zeroRow, ← toV_cells (flat_not_junk hz) hz] at h
  exact h

end Go.Proofs.YtecidokjhplbgaaGreatDoorD

set_option linter.unusedVariables false
set_option linter.unusedSimpArgs false
namespace Go.Proofs.YtecidokjhplbgaaGreatDoorD
open Go Go.RowKit

variable {P : Program} {N : Nat} {i : Inj} {h : HF} {w : World}

def Does (P : Program) (N ro id : Nat) (i : Inj) (h : HF) (w : World) (s : Sem Next) (v : CV) (h' : HF) : Prop :=
  ∃ nx i' w' v', s.run P w = .ok nx w' ∧ (nx = .value v' ∨ (nx = .skip ∧ v' = undef)) ∧ VRel i' v v' ∧ Rel P N i' h' w' ∧ Step ro i h w i' h' w' ∧ (∀ b, b ≠ id → i' b = i b ∧ i'.void b = i.void b)

theorem run_newVar (t : TypeId) (v : Value) (w : World) : (newVar t v).run P w = .ok ⟨w.heap.size, 0, none⟩ (w.alloc (.cells v.cells t)) := by
  rfl

theorem does_box (R : Rel P N i h w) (ro : Nat) {id : Nat} (hi : i.free id) {s : Sem Next} {t : TypeId} {x : CV} {y : Value} (hv : VRel i x y) (hj : x ≠ .junk) {v : CV} {ef : Eff}
    (hs : s.run P w = .ok (.value (.pointer (some ⟨w.heap.size, 0, none⟩))) (w.alloc (.cells y.cells t)))
    (e : cnew h id (.cells x.cells.toList 1 0) (.pointer (some ⟨id, 0, none⟩)) = some (v, ef)) : Does P N ro id i h w s v (eall h ef) := by
  unfold cnew at e
  split at e
  · rename_i hid
    cases e
    obtain ⟨R', S'⟩ := new_sound R ro hid hi t 1 0 (rest := []) (hv.cells hj)
    simp only [List.append_nil, Array.toArray_toList] at R' S'
    refine ⟨_, _, _, _, hs, .inl rfl, ?_, R', S', fun b hb => ⟨upd_ne i _ hb, rfl⟩⟩
    exact VRel.ptr (g := ⟨w.heap.size, 0, _, _, _, _⟩) (upd_same i id _)
  · cases e

theorem csrc_sound (R : Rel P N i h w) {z n len : Nat} {x : CV} {y : Value} {xs : List CV} (hv : VRel i x y) (hlen : clenOf x = some len) (hn : n ≤ len) (e : csrc h z n x = some xs) :
    ∃ ys, (∀ w' : World, w'.heap = w.heap → (Builtin.firstCells z n y).run P w' = .ok ys.toArray w') ∧ LRel i xs ys ∧ xs.length = n * z := by
  unfold csrc at e
  split at e
  · rename_i l c
    obtain ⟨rfl, rfl, rfl⟩ := hv.nilSlice_inv
    simp [clenOf] at hlen
    have : n = 0 := by omega
    subst this
    simp [nbeq] at e; subst e
    exact ⟨[], fun _ _ => rfl, .nil i, by simp⟩
  · rename_i b o l c
    obtain ⟨g, a', cap', rfl, hg, hc, ha, hl⟩ := hv.slice_inv
    split at e
    · rename_i vs ez m hb
      rw [nble, nble] at e
      by_cases hle : n ≤ l ∧ o + n * z ≤ vs.length
      · simp [hle.1, hle.2] at e
        subst e
        by_cases hc0 : cap' = 0
        · have hcl : l = 0 := by rcases hc with rfl | ⟨_, _, h3, _⟩ <;> omega
          have : n = 0 := by omega
          subst this
          exact ⟨[], fun _ _ => by simp [Builtin.firstCells, loadCells, loadCellsFrom], by simpa using LRel.nil i, by simp⟩
        · have := ha hc0; subst this
          obtain ⟨ys, h1, h2, h3⟩ := R.cellsAt hb hg hle.2
          refine ⟨ys, fun w' hw => ?_, h1, by rw [h1.len, h2]⟩
          simp only [Builtin.firstCells]
          rw [← h2]
          exact run_loadCells_list (P := P) w' _ ys (fun j v hv => by rw [Addr.add_mk, World.cell?_of_block (w := w) (by rw [hw])]; exact h3 j v hv)
      · have : (decide (n ≤ l) && decide (o + n * z ≤ vs.length)) = false := by simpa using hle
        simp [this] at e
    · cases e
  · rename_i s
    have := hv.string_inv; subst this
    rw [nbeq, nble] at e
    by_cases hc : z = 1 ∧ n ≤ s.size
    · simp [hc.1, hc.2] at e
      subst e
      obtain ⟨rfl, hc2⟩ := hc
      refine ⟨(toVL (bytesVals s)).take n, fun w' _ => ?_, LRel.take (LRel.of_flat ?_ i) n, ?_⟩
      · simp only [Builtin.firstCells, Sem.run_pure]
        congr 1
        apply Array.ext'
        simp [bytesVals, toVL_eq, Function.comp_def, CV.toV, ByteArray.data_extract, Array.toList_extract, List.extract, List.map_take]
      · unfold bytesVals
        generalize s.data.toList = l
        induction l with
        | nil => rfl
        | cons a r ih => simp [flatL, flat, ih]
      · simp [bytesVals]
        have : s.data.size = s.size := rfl
        omega
    · have : (decide (z = 1) && decide (n ≤ s.size)) = false := by simpa using hc
      simp [this] at e
  · cases e

theorem growBy_le (n : Nat) : ∀ (r c : Nat), c < n → Builtin.growBy n r c ≤ 2 * n + 200
  | 0, c, h => by simp [Builtin.growBy]; omega
  | r + 1, c, h => by
    simp only [Builtin.growBy]
    split
    · omega
    · by_cases h2 : c + (c + 768) / 4 < n
      · exact growBy_le n r _ h2
      · have : ∀ r, Builtin.growBy n r (c + (c + 768) / 4) = c + (c + 768) / 4 := fun r => by
          cases r with
          | zero => rfl
          | succ r => simp only [Builtin.growBy]; rw [if_pos (by omega)]
        rw [this]; omega

theorem nextcap_le {n c : Nat} (h : c < n) : Builtin.nextslicecap n c ≤ 2 * n + 200 := by
  unfold Builtin.nextslicecap
  split
  · omega
  · split
    · omega
    · exact growBy_le n 4 c h

def isIntD : TypeDesc → Bool
  | .int _ => true
  | _ => false

theorem append_new_run {ts : Array TypeId} {t u e ty : TypeId} {d : TypeDesc} {it : TypeInfo} {z : Value} (h0 : ts[0]? = some t) (h1 : ts[1]? = some u) (hu : P.underlying t = some (.slice e)) (hd : P.underlying u = some d)
    (hnd : isIntD d = false) (hi : P.info? e = some it) (hz : it.zero = some z) {base : Option Addr} {len cap n : Nat} {y : Value} {old new : List Value}
    (hn : (Builtin.lenOf y).run P w = .ok n w) (hcap : cap < len + n) (hb : (len + n) * it.bytes ≤ 2 ^ 40) (hb1 : 1 ≤ it.bytes) (hb2 : it.bytes ≤ 2 ^ 20)
    (hold : ∀ w', w'.heap = w.heap → (Builtin.firstCells it.size len (.slice base len cap)).run P w' = .ok old.toArray w')
    (hnew : ∀ w', w'.heap = w.heap → (Builtin.firstCells it.size n y).run P w' = .ok new.toArray w') :
    ∃ newCap, (len + n ≤ newCap ∧ newCap ≤ 9223372036854775807) ∧ (Builtin.append_ ts ty #[.slice base len cap, y]).run P w =
      .ok (.slice (some ⟨w.heap.size, 0, none⟩) (len + n) newCap) ({ w with drawn := w.drawn + 1 }.alloc (.cells ((old ++ new) ++ (Builtin.zeroCells z.cells (newCap - (len + n))).toList).toArray e)) := by
  have hnc := nextcap_le hcap
  have hlim : ¬ Builtin.nextslicecap (len + n) cap * it.bytes > 2 ^ 48 := by
    have h2 : Builtin.nextslicecap (len + n) cap * it.bytes ≤ (2 * (len + n) + 200) * it.bytes := Nat.mul_le_mul_right _ hnc
    have h3 : (2 * (len + n) + 200) * it.bytes = 2 * ((len + n) * it.bytes) + 200 * it.bytes := by rw [Nat.add_mul, Nat.mul_assoc]
    omega
  have hmax : len + n ≤ 2 ^ 40 := Nat.le_trans (Nat.le_mul_of_pos_right _ hb1) hb
  refine ⟨(Question.appendCap (len + n) cap e).cut (w.tape w.drawn (.appendCap (len + n) cap e)), ⟨by simp [Question.cut], by
    have hlt := Nat.mod_lt (w.tape w.drawn (.appendCap (len + n) cap e)) (show 0 < 2 ^ 63 - (len + n) by omega)
    simp only [Question.cut]
    omega⟩, ?_⟩
  have hw1 : ({ w with drawn := w.drawn + 1 } : World).heap = w.heap := rfl
  have hch : ∀ q, Question.forced q = false → (choose q).run P w = .ok (q.cut (w.tape w.drawn q)) { w with drawn := w.drawn + 1 } := fun q hq => by simp [choose, Sem.run, hq]
  unfold Builtin.append_
  have hcs : P.cellsOf e = it.size := by simp [Program.cellsOf, hi]
  have hb0 : ¬ it.bytes = 0 := by omega
  have hle : ¬ len + n ≤ cap := by omega
  have hzv : ∀ w : World, (zeroValue e).run P w = .ok z w := fun w => by simp [zeroValue, Sem.run_bind, run_typeInfo w hi, Result.andThen, hz]
  have harr : ∀ c : Array Value, old.toArray ++ new.toArray ++ c = ((old ++ new) ++ c.toList).toArray := fun c => by apply Array.ext'; simp
  cases d <;> first | (cases hnd; done) | skip
  all_goals
    simp only [h0, h1, List.getElem?_toArray, List.getElem?_cons_zero, List.getElem?_cons_succ, Sem.run_bind, run_underlying hu, run_underlying hd, run_typeInfo w hi, Result.andThen_ok, run_sizeOf w hi, Sem.run_pure, Bool.false_eq_true, if_false, hn, hle, false_or, hb0, and_false, hlim, hcs]
    rw [hch _ rfl]
    simp only [Result.andThen_ok, Sem.run_bind, run_typeInfo _ hi, run_askRoom, hold _ hw1, hnew _ hw1, Bool.not_false, if_true, hzv, newRow, Sem.run_pure, run_newObj_alloc, harr]
    try rfl

theorem append_room_run {ts : Array TypeId} {t u e ty : TypeId} {d : TypeDesc} {it : TypeInfo} (h0 : ts[0]? = some t) (h1 : ts[1]? = some u) (hu : P.underlying t = some (.slice e)) (hd : P.underlying u = some d)
    (hnd : isIntD d = false) (hi : P.info? e = some it) {base : Option Addr} {len cap n : Nat} {y : Value} {new : List Value} {w w' : World}
    (hn : (Builtin.lenOf y).run P w = .ok n w) (hcap : len + n ≤ cap)
    (hnew : (Builtin.firstCells it.size n y).run P w = .ok new.toArray w)
    (hst : ∀ a, base = some a → (storeCells (a.add (len * it.size)) new).run P w = .ok () w') (hno : base = none → w' = w) :
    (Builtin.append_ ts ty #[.slice base len cap, y]).run P w = .ok (.slice base (len + n) cap) w' := by
  unfold Builtin.append_
  have hcs : P.cellsOf e = it.size := by simp [Program.cellsOf, hi]
  cases d <;> first | (cases hnd; done) | skip
  all_goals
    simp only [h0, h1, List.getElem?_toArray, List.getElem?_cons_zero, List.getElem?_cons_succ, Sem.run_bind, run_underlying hu, run_underlying hd, run_typeInfo w hi, Result.andThen_ok, run_sizeOf w hi, Sem.run_pure, Bool.false_eq_true, if_false, hn, hcap, if_true, hcs, Bool.not_false, hnew]
    cases base with
    | none => rw [hno rfl]; rfl
    | some a => simp only [Sem.run_bind, hst a rfl, Result.andThen_ok, Sem.run_pure]

end Go.Proofs.YtecidokjhplbgaaGreatDoorD

set_option linter.unusedVariables false
set_option linter.unusedSimpArgs false
namespace Go.Proofs.YtecidokjhplbgaaGreatDoorD
open Go Go.RowKit

variable {P : Program} {N : Nat} {i : Inj} {h : HF} {w : World}

theorem isIntT_false {u : TypeId} (e : isIntT P u = false) : ∃ d, P.underlying u = some d ∧ isIntD d = false := by
  unfold isIntT at e
  cases hu : P.underlying u with
  | none => rw [hu] at e; cases e
  | some d => rw [hu] at e; exact ⟨d, rfl, by cases d <;> first | rfl | (cases e; done)⟩

theorem cstoreCells_inv {ro b o : Nat} {xs : List CV} {ef : Eff} (e : cstoreCells ro h b o xs = some ef) :
    ∃ vs ez m, h b = some (.cells vs ez m) ∧ ro ≤ b ∧ m ≠ 2 ∧ o + xs.length ≤ vs.length ∧ xs.all cellOk = true ∧ ef = [(b, .cells (setR vs o xs) ez m)] := by
  unfold cstoreCells at e
  split at e
  · rename_i vs ez m hb
    rw [nble, nbeq, nble] at e
    by_cases hc : ro ≤ b ∧ m ≠ 2 ∧ o + xs.length ≤ vs.length ∧ xs.all cellOk = true
    · obtain ⟨c1, c2, c3, c4⟩ := hc
      simp only [c1, c2, c3, c4, decide_true, decide_false, Bool.not_false, Bool.and_self, cond_true] at e
      cases e
      exact ⟨vs, ez, m, hb, c1, c2, c3, c4, rfl⟩
    · have : (decide (ro ≤ b) && !decide (m = 2) && decide (o + xs.length ≤ vs.length) && xs.all cellOk) = false := by
        rw [Bool.eq_false_iff]; intro hh; simp only [Bool.and_eq_true, decide_eq_true_eq, Bool.not_eq_true', decide_eq_false_iff_not] at hh
        exact hc ⟨hh.1.1.1, hh.1.1.2, hh.1.2, hh.2⟩
      rw [this] at e; cases e
  · cases e

theorem csrc_inv {z n b o l c : Nat} {xs vs : List CV} {ez m : Nat} (e : csrc h z n (.slice (some ⟨b, o, none⟩) l c) = some xs) (hb : h b = some (.cells vs ez m)) :
    n ≤ l ∧ o + n * z ≤ vs.length ∧ xs = (vs.drop o).take (n * z) := by
  simp only [csrc, hb] at e
  rw [nble, nble] at e
  by_cases hle : n ≤ l ∧ o + n * z ≤ vs.length
  · simp [hle.1, hle.2] at e
    exact ⟨hle.1, hle.2, e.symm⟩
  · have : (decide (n ≤ l) && decide (o + n * z ≤ vs.length)) = false := by simpa using hle
    simp [this] at e

theorem lenOf_run {x : CV} {y : Value} {n : Nat} (hv : VRel i x y) (e : clenOf x = some n) (w : World) : (Builtin.lenOf y).run P w = .ok n w := by
  unfold clenOf at e
  split at e
  · cases e; cases hv <;> rfl
  · cases e; cases hv; rfl
  · cases e

theorem Rel.other {w' : World} (R : Rel P N i h w) (e : w'.heap = w.heap) : Rel P N i h w' := R.drawn e

theorem does_new (R : Rel P N i h w) (ro : Nat) {id : Nat} (hid : h id = none) (hi : i.free id) {s : Sem Next} {t : TypeId} {vs : List CV} {ys rest : List Value} {ez need cap' : Nat} (hl : LRel i vs ys) (hlen : vs.length = need * ez)
    (hrest : (ys ++ rest).length = cap' * ez) (hcc : need ≤ cap' ∧ cap' ≤ 9223372036854775807)
    (hs : s.run P w = .ok (.value (.slice (some ⟨w.heap.size, 0, none⟩) need cap')) ({ w with drawn := w.drawn + 1 }.alloc (.cells (ys ++ rest).toArray t))) :
    Does P N ro id i h w s (.slice (some ⟨id, 0, none⟩) need need) (fset h id (.cells vs ez 1)) := by
  have R1 : Rel P N i h { w with drawn := w.drawn + 1 } := R.drawn rfl
  obtain ⟨R', S'⟩ := new_sound R1 ro hid hi t ez 1 (rest := rest) hl
  have S0 : Step ro i h w i h { w with drawn := w.drawn + 1 } := Step.drawn rfl rfl rfl rfl
  refine ⟨_, _, _, _, hs, .inl rfl, ?_, R', S0.trans S', fun b hb => ⟨upd_ne i _ hb, rfl⟩⟩
  refine .slice (upd_same i id _) ?_ (fun _ => rfl) (Nat.le_refl _)
  exact .inr ⟨rfl, by simp [hlen], hcc.1, by simp only [Nat.zero_add]; rw [hrest]; exact Nat.le_refl _, hcc.2⟩

theorem zeroCells_size (z : Array Value) (n : Nat) : (Builtin.zeroCells z n).toList.length = n * z.size := by simp [Builtin.zeroCells]

set_option maxHeartbeats 1000000 in
theorem cappend_sound (R : Rel P N i h w) {ro id : Nat} (hi : i.free id) {ts : Array TypeId} {ty : TypeId} {x y v : CV} {x' y' : Value} {ef : Eff} (hx : VRel i x x') (hy : VRel i y y')
    (e : cappend P ro id ts x y h = some (v, ef)) : Does P N ro id i h w (do pure (Next.value (← Builtin.append_ ts ty #[x', y']))) v (eall h ef) := by
  unfold cappend at e
  split at e
  · rename_i t u base len cap h0 h1
    split at e
    · rename_i e' hu hnt
      obtain ⟨d, hd, hnd⟩ := isIntT_false hnt
      split at e
      · rename_i it n hit hn
        split at e
        · cases e
        · rename_i new hnew
          obtain ⟨ys, hr1, hl1, hlen1⟩ := csrc_sound R hy hn (Nat.le_refl n) hnew
          have hnr := fun w => lenOf_run (P := P) hy hn w
          rw [nble] at e
          by_cases hcap : len + n ≤ cap
          · simp only [hcap, decide_true, cond_true] at e
            rcases base with _ | ⟨b, o, _ | sp⟩
            rotate_left
            · simp only [] at e
              obtain ⟨g, a', cap', rfl, hg, hc, ha, hl⟩ := hx.slice_inv
              have hcc : cap ≤ cap' := by rcases hc with rfl | ⟨_, _, h3, _⟩ <;> omega
              rw [nbeq] at e
              by_cases hn0 : n = 0
              · simp only [hn0, decide_true, cond_true] at e
                cases e
                subst hn0
                have hys : ys = [] := by have := hl1.len; rw [hlen1] at this; cases ys <;> simp_all
                subst hys
                have hr := append_room_run (ty := ty) h0 h1 hu hd hnd hit (base := some a') (w' := w) (hnr w) (Nat.le_trans hcap hcc) (hr1 w rfl) (fun a _ => rfl) (fun _ => rfl)
                exact ⟨_, i, w, _, run_v hr, .inl rfl, .slice hg hc ha (by omega), R, .refl _ _ _ _, fun _ _ => ⟨rfl, rfl⟩⟩
              · simp only [hn0, decide_false, cond_false] at e
                split at e
                · rename_i ef' hst
                  cases e
                  obtain ⟨vs, ez, m, hb, c1, c2, c3, c4, rfl⟩ := cstoreCells_inv hst
                  have hcap0 : cap' ≠ 0 := by omega
                  have := ha hcap0; subst this
                  obtain ⟨w', h2, h3, h4⟩ := store_sound (P := P) R hb hg c1 c2 c3 c4 hl1
                  have hr := append_room_run (ty := ty) h0 h1 hu hd hnd hit (base := some ⟨g.B, g.off + o, none⟩) (w' := w') (hnr w) (Nat.le_trans hcap hcc) (hr1 w rfl) (fun a hh => by cases hh; rw [Addr.add_mk, Nat.add_assoc]; exact h2) (fun hh => by cases hh)
                  exact ⟨_, i, w', _, run_v hr, .inl rfl, .slice hg hc ha (by omega), h3, h4, fun _ _ => ⟨rfl, rfl⟩⟩
                · cases e
            · cases hx
            · simp only [] at e
              cases e
              obtain ⟨rfl, rfl, rfl⟩ := hx.nilSlice_inv
              have hn0 : n = 0 := by omega
              subst hn0
              have hr := append_room_run (ty := ty) h0 h1 hu hd hnd hit (base := none) (w' := w) (hnr w) hcap (hr1 w rfl) (fun a hh => by cases hh) (fun _ => rfl)
              exact ⟨_, i, w, _, run_v hr, .inl rfl, .nilSlice, R, .refl _ _ _ _, fun _ _ => ⟨rfl, rfl⟩⟩
          · simp only [hcap, decide_false, cond_false] at e
            rw [nble, nble, nble, nble] at e
            by_cases hcond : (decide ((len + n) * it.bytes ≤ 2 ^ 40) && decide (1 ≤ it.bytes) && decide (it.bytes ≤ 2 ^ 20) && decide (1 ≤ it.size) && new.all cellOk) = true
            · rw [hcond] at e
              simp only [cond_true] at e
              simp only [Bool.and_eq_true, decide_eq_true_eq] at hcond
              obtain ⟨⟨⟨⟨q1, q2⟩, q3⟩, q4⟩, q5⟩ := hcond
              split at e
              · rename_i z old hz hold
                rw [nbeq] at e
                obtain ⟨zv, hzv, hzf, hze, hzt, hzl⟩ := zeroOf_inv hz
                have hzsz : zv.cells.size = z.cells.size := by
                  have := (LRel.cells_flat hzl i).len
                  rw [hzt] at this
                  simpa using this.symm
                by_cases hzs : z.cells.size = it.size
                · simp only [hzs, decide_true, cond_true] at e
                  rw [hzs] at hzsz
                  -- what a new array comes to
                  have key : ∀ (base' : Option Addr) (cap' : Nat), x' = .slice base' len cap' → cap' < len + n → h id = none → Does P N ro id i h w (do pure (Next.value (← Builtin.append_ ts ty #[x', y']))) (.slice (some ⟨id, 0, none⟩) (len + n) (len + n)) (fset h id (.cells (old ++ new) it.size 1)) := by
                    intro base' cap' hx' hlt hid
                    subst hx'
                    obtain ⟨os, hr2, hl2, hlen2⟩ := csrc_sound R hx rfl (Nat.le_refl len) hold
                    obtain ⟨nc, hnc, hrun⟩ := append_new_run (ty := ty) h0 h1 hu hd hnd hit hzv (hnr w) hlt q1 q2 q3 hr2 hr1
                    refine does_new R ro hid hi (hl2.append hl1) (by rw [List.length_append, hlen1, hlen2, ← Nat.add_mul]) ?_ hnc (run_v hrun)
                    have l1 := hl1.len
                    have l2 := hl2.len
                    simp only [List.length_append, zeroCells_size, hzsz]
                    rw [← l1, ← l2, hlen1, hlen2, ← Nat.add_mul, ← Nat.add_mul]
                    congr 1; omega
                  rcases base with _ | ⟨b, o, _ | sp⟩
                  rotate_left
                  · simp only [] at e
                    obtain ⟨g, a', cap', rfl, hg, hc, ha, hl⟩ := hx.slice_inv
                    split at e
                    · rename_i vs ez m hb
                      obtain ⟨g1, g2, g3, ⟨vs', g4, g5⟩, g6⟩ := R.obj b _ g hb hg
                      have hlow : ∀ hid : h id = none, cap' = cap → Does P N ro id i h w (do pure (Next.value (← Builtin.append_ ts ty #[.slice (some a') len cap', y']))) (.slice (some ⟨id, 0, none⟩) (len + n) (len + n)) (fset h id (.cells (old ++ new) it.size 1)) :=
                        fun hid hce => key (some a') cap' rfl (by omega) hid
                      rw [nbeq, nbeq, nble, nbeq, nbeq, nble] at e
                      by_cases hgr : m = 1 ∧ o + cap * it.size = vs.length
                      · obtain ⟨hm1, hend⟩ := hgr
                        simp only [hm1, hend, decide_true, Bool.and_self, cond_true] at e
                        by_cases hk : ro ≤ b ∧ ez = it.size ∧ id ≠ b ∧ cap ≤ 4611686018427387904
                        · obtain ⟨k1, k2, k3, k4⟩ := hk
                          simp only [k1, k2, k3, k4, decide_true, decide_false, Bool.not_false, Bool.and_self, cond_true] at e
                          split at e
                          · rename_i hid
                            cases e
                            subst hm1
                            obtain ⟨g7, g8, g9, g10⟩ := g6 (by decide)
                            obtain ⟨_, hob, hoe⟩ := csrc_inv hold hb
                            obtain ⟨os, hl2, hol, hcells⟩ := R.cellsAt hb hg hob
                            rw [← hoe] at hl2
                            have hlen2 : old.length = len * it.size := by rw [hl2.len, hol]
                            by_cases hroom : len + n ≤ cap'
                            · -- in its place
                              have hcap0 : cap' ≠ 0 := by omega
                              have := ha hcap0; subst this
                              have hgrown : g.grown = true := by rw [g3]; rfl
                              have hck : o + cap' * it.size ≤ g.total := by
                                rcases hc with hce | ⟨c1, c2, c3, c4, c5⟩
                                · rw [hce, hend]; exact g8
                                · rw [g2, k2] at c4; exact c4
                              have hys : ys.length = n * it.size := by rw [← hl1.len]; exact hlen1
                              have hmul : len * it.size + n * it.size ≤ cap' * it.size := by rw [← Nat.add_mul]; exact Nat.mul_le_mul_right _ hroom
                              have hsome : ∀ j, j < ys.length → (w.cell? ⟨g.B, g.off + (o + len * it.size) + 0 + j, none⟩).isSome = true := fun j hj => by
                                have := g9 (o + len * it.size + j) (by omega)
                                rwa [show g.off + (o + len * it.size + j) = g.off + (o + len * it.size) + 0 + j by omega] at this
                              have hfr : ∀ j, j < ys.length → w.frozen? ⟨g.B, g.off + (o + len * it.size) + 0 + j, none⟩ = false := fun j hj => by
                                exact g10 _
                              have hrun := run_storeCells_cells (P := P) g.B (g.off + (o + len * it.size)) ys 0 w hsome hfr (hl1.cellOk q5)
                              have hr := append_room_run (ty := ty) h0 h1 hu hd hnd hit (base := some ⟨g.B, g.off + o, none⟩) (w' := w.setCells g.B (g.off + (o + len * it.size) + 0) ys) (hnr w) hroom (hr1 w rfl)
                                (fun a hh => by cases hh; rw [Addr.add_mk, Nat.add_assoc]; exact hrun) (fun hh => by cases hh)
                              have hcin := fun k => World.cell?_setCells_in g.B ys (g.off + (o + len * it.size) + 0) w hsome k
                              have hRG := R.regrow (w' := w.setCells g.B (g.off + (o + len * it.size) + 0) ys) (ro := ro) (b := b) (id := id) (g2 := ⟨g.B, g.off + o, g.total - o, true, (len + n) * it.size, it.size⟩) hb hg k1 (by simp [wr, nbeq]) hid hi (setCells_size _ _ _ _) (setCells_os _ _ _ _) (setCells_tape _ _ _ _) (setCells_output _ _ _ _)
                                (fun B hB hne => setCells_other g.B hne ys _ w) rfl (ob := .cells (old ++ new) it.size 1) (by
                                  refine ⟨by simp [hlen1, hlen2, Nat.add_mul], rfl, rfl, ⟨os ++ ys, (hl2.append hl1).mono (le_upd _ hi.1), fun k v hv => ?_⟩, fun _ => ⟨g7, by simp [hlen1, hlen2]; omega, fun k hk => ?_, fun k => by rw [World.frozen?_setCells]; exact g10 k⟩⟩
                                  · rw [List.getElem?_append] at hv
                                    split at hv
                                    · rename_i hk
                                      rw [World.cell?_setCells_out g.B ys _ w _ (fun _ _ => by simp only []; omega)]
                                      exact hcells k v hv
                                    · rename_i hk
                                      have hk2 : k - os.length < ys.length := (List.getElem?_eq_some_iff.1 hv).1
                                      have := hcin (k - os.length) hk2
                                      rw [show g.off + (o + len * it.size) + 0 + (k - os.length) = g.off + o + k by omega] at this
                                      rw [this, ← (List.getElem?_eq_some_iff.1 hv).2]
                                  · have := g9 (o + k) (by simp at hk; omega)
                                    rw [← Nat.add_assoc] at this
                                    exact World.isSome_setCells g.B ys _ w _ this)
                              refine ⟨_, _, _, _, run_v hr, .inl rfl, ?_, hRG.1, hRG.2, fun b hb => ⟨upd_ne i _ hb, rfl⟩⟩
                              refine VRel.slice (upd_same i id _) (.inr ⟨rfl, by simp, hroom, ?_, ?_⟩) (fun _ => by simp) (Nat.le_refl _)
                              · simp only [Nat.zero_add]
                                omega
                              · rcases hc with hce | ⟨c1, c2, c3, c4, c5⟩
                                · omega
                                · exact c5
                            · -- in a new array
                              obtain ⟨os2, hr2, hl2', hlen2'⟩ := csrc_sound R hx rfl (Nat.le_refl len) hold
                              obtain ⟨nc, hnc, hrun⟩ := append_new_run (ty := ty) h0 h1 hu hd hnd hit hzv (hnr w) (by omega) q1 q2 q3 hr2 hr1
                              obtain ⟨Rd, Sd⟩ := R.put (ro := ro) (o2 := .dead) (w' := w) hb hg k1 (by simp [wr, nbeq]) rfl rfl rfl rfl (fun _ _ _ => rfl) trivial
                              have hid' : fset h b .dead id = none := by rw [fset_ne h _ k3]; exact hid
                              obtain ⟨nx, i', w', v', d1, d2, d3, d4, d5, d6⟩ := does_new Rd ro hid' hi (hl2'.append hl1) (by rw [List.length_append, hlen1, hlen2', ← Nat.add_mul]) (by
                                have l1 := hl1.len
                                have l2 := hl2'.len
                                simp only [List.length_append, zeroCells_size, hzsz]
                                rw [← l1, ← l2, hlen1, hlen2', ← Nat.add_mul, ← Nat.add_mul]
                                congr 1; omega) hnc (run_v hrun)
                              exact ⟨nx, i', w', v', d1, d2, d3, d4, Sd.trans d5, d6⟩
                          · cases e
                        · have : (decide (ro ≤ b) && decide (ez = it.size) && !decide (id = b) && decide (cap ≤ 4611686018427387904)) = false := by
                            rw [Bool.eq_false_iff]; intro hh; simp only [Bool.and_eq_true, decide_eq_true_eq, Bool.not_eq_true', decide_eq_false_iff_not] at hh
                            exact hk ⟨hh.1.1.1, hh.1.1.2, hh.1.2, hh.2⟩
                          rw [this] at e; cases e
                      · have hf : (decide (m = 1) && decide (o + cap * it.size = vs.length)) = false := by
                          rw [Bool.eq_false_iff]; intro hh; simp only [Bool.and_eq_true, decide_eq_true_eq] at hh; exact hgr hh
                        rw [hf] at e
                        simp only [cond_false] at e
                        by_cases hk : m = 1 ∧ ez ≠ it.size
                        · simp [hk.1, hk.2] at e
                        · have hf2 : (decide (m = 1) && !decide (ez = it.size)) = false := by
                            rw [Bool.eq_false_iff]; intro hh; simp only [Bool.and_eq_true, decide_eq_true_eq, Bool.not_eq_true', decide_eq_false_iff_not] at hh; exact hk hh
                          rw [hf2] at e
                          simp only [cond_false] at e
                          unfold cnew at e
                          split at e
                          · rename_i hid
                            cases e
                            refine hlow hid ?_
                            rcases hc with hc | ⟨c1, c2, c3, c4, c5⟩
                            · exact hc
                            · exfalso
                              rw [g3, nbeq] at c1
                              simp only [decide_eq_true_eq] at c1
                              have : ez = it.size := Classical.byContradiction fun hh => hk ⟨c1, hh⟩
                              rw [g2, this, g1] at c2
                              exact hgr ⟨c1, c2⟩
                          · cases e
                    · cases e
                  · cases hx
                  · simp only [] at e
                    have e2 := e
                    clear e
                    obtain ⟨rfl, rfl, rfl⟩ := hx.nilSlice_inv
                    unfold cnew at e2
                    split at e2
                    · rename_i hid
                      cases e2
                      exact key none 0 rfl (by omega) hid
                    · cases e2
                · simp [hzs] at e
              · cases e
            · simp only [Bool.not_eq_true] at hcond
              rw [hcond] at e; cases e
      · cases e
    · cases e
  · cases e

end Go.Proofs.YtecidokjhplbgaaGreatDoorD

set_option linter.unusedVariables false
set_option linter.unusedSimpArgs false
namespace Go.Proofs.YtecidokjhplbgaaGreatDoorD
open Go Go.RowKit

variable {P : Program} {N : Nat} {i : Inj} {h : HF} {w : World}

theorem does_row (R : Rel P N i h w) (ro : Nat) {id : Nat} (hi : i.free id) {s : Sem Next} {t : TypeId} {vs : List CV} {ys : List Value} {ez n c : Nat} (hl : LRel i vs ys) (hn : n ≤ c) {v : CV} {ef : Eff}
    (hs : s.run P w = .ok (.value (.slice (some ⟨w.heap.size, 0, none⟩) n c)) (w.alloc (.cells ys.toArray t)))
    (e : cnew h id (.cells vs ez 0) (.slice (some ⟨id, 0, none⟩) n c) = some (v, ef)) : Does P N ro id i h w s v (eall h ef) := by
  unfold cnew at e
  split at e
  · rename_i hid
    cases e
    obtain ⟨R', S'⟩ := new_sound R ro hid hi t ez 0 (rest := []) hl
    simp only [List.append_nil] at R' S'
    exact ⟨_, _, _, _, hs, .inl rfl, .slice (upd_same i id _) (.inl rfl) (fun _ => rfl) hn, R', S', fun b hb => ⟨upd_ne i _ hb, rfl⟩⟩
  · cases e

theorem cstore_does (R : Rel P N i h w) {ro id b o : Nat} {g : Img} (hg : i b = some g) {xs : List CV} {ys : List Value} {ef : Eff} (hl : LRel i xs ys) (e : cstoreCells ro h b o xs = some ef) :
    ∃ w', (storeCells ⟨g.B, g.off + o, none⟩ ys).run P w = .ok () w' ∧ Rel P N i (eall h ef) w' ∧ Step ro i h w i (eall h ef) w' := by
  obtain ⟨vs, ez, m, hb, c1, c2, c3, c4, rfl⟩ := cstoreCells_inv e
  obtain ⟨w', s1, s2, s3⟩ := store_sound (P := P) R hb hg c1 c2 c3 c4 hl
  exact ⟨w', s1, s2, s3⟩

theorem wrap_small {n : Int} (h0 : 0 ≤ n) (h1 : n ≤ 2 ^ 40) : IntKind.i64.wrap n = n := by
  unfold IntKind.wrap
  have e : n % (2 ^ IntKind.i64.bits : Int) = n := Int.emod_eq_of_lt h0 (by show n < 2 ^ 64; omega)
  simp only [e]
  rw [if_neg]
  have : ¬ n ≥ (2 ^ (IntKind.i64.bits - 1) : Int) := by show ¬ n ≥ (2 ^ 63 : Int); omega
  simp [this]

theorem zeroCells_row (z : Value) (n : Nat) : Builtin.zeroCells z.cells n = (zeroV z.cells.toList n).toArray := zeroRow_array z.cells n

set_option maxHeartbeats 1600000 in
theorem cmem_sound (R : Rel P N i h w) {ρ : Operand → Option CV} {ρ' : Operand → Value} (hρ : ∀ x v, ρ x = some v → VRel i v (ρ' x)) {ro id : Nat} (hi : i.free id) {o : Oper} {v : CV} {ef : Eff}
    (e : cmem P ρ ro id o h = some (v, ef)) : Does P N ro id i h w (execOp ρ' o) v (eall h ef) := by
  have hpure : ∀ {o : Oper} {v : CV} {ef : Eff}, (match cpure P ρ h o with | some v => some (v, []) | none => none) = some (v, ef) → Does P N ro id i h w (execOp ρ' o) v (eall h ef) := by
    intro o v ef e
    split at e
    · rename_i u hu
      cases e
      obtain ⟨v', h1, h2⟩ := cpure_sound R hρ hu
      exact ⟨_, i, w, v', h1, .inl rfl, h2, R, .refl _ _ _ _, fun _ _ => ⟨rfl, rfl⟩⟩
    · cases e
  obtain ⟨dst, op, type, pos, after, guard⟩ := o
  rw [cmem_eq] at e
  unfold cmem0 at e
  split at e
  · rename_i t hop; simp only [] at hop; subst hop
    split at e
    · rename_i z hz
      cases hf : (flat z && z.cells.toList.all cellOk) with
      | false => rw [hf] at e; cases e
      | true =>
        rw [hf] at e
        simp only [Bool.and_eq_true] at hf
        simp only [cond_true] at e
        refine does_box R ro hi (VRel.of_flat i z hf.1) (flat_not_junk hf.1) (t := t) (run_v ?_) e
        simp [Instr.alloc, Sem.run_bind, (run_pZero hz w).1, Result.andThen, run_newVar]
    · cases e
  · rename_i t x hop; simp only [] at hop; subst hop
    split at e
    · rename_i u hu
      cases hf : u.cells.toList.all cellOk with
      | false => rw [hf] at e; cases e
      | true =>
        rw [hf] at e
        simp only [cond_true] at e
        refine does_box R ro hi (hρ _ _ hu) (fun hh => by subst hh; simp [CV.cells, cellOk] at hf) (t := t) (run_v ?_) e
        simp [Instr.box, Sem.run_bind, Result.andThen, run_newVar]
    · cases e
  · rename_i t n parts hop; simp only [] at hop; subst hop
    split at e
    · rename_i e' hu
      split at e
      · rename_i it ps hit hps
        split at e
        · rename_i z hz
          rw [nble, nbeq] at e
          obtain ⟨zv, hzv, hzf, hze, hzt, hzl⟩ := zeroOf_inv hz
          have hzsz : zv.cells.size = z.cells.size := by
            have := (LRel.cells_flat hzl i).len
            rw [hzt] at this
            simpa using this.symm
          have hzr := zeroRow_rel hzl i n
          rw [hzt] at hzr
          cases hc : (decide (n * it.size ≤ 2 ^ 24) && sure ps && decide (z.cells.size = it.size)) with
          | false => rw [hc] at e; cases e
          | true =>
            rw [hc] at e
            simp only [Bool.and_eq_true, decide_eq_true_eq] at hc
            obtain ⟨⟨c1, c2⟩, c3⟩ := hc
            simp only [cond_true] at e
            split at e
            · rename_i cs hcs
              cases hok : cs.toList.all cellOk with
              | false => rw [hok] at e; cases e
              | true =>
                rw [hok] at e
                simp only [cond_true] at e
                rw [c3] at hzsz
                obtain ⟨ds, hd, hl⟩ := fill_rel (i := i) (cs := (zeroRow z.cells.toList n).toArray) (ds := (zeroV zv.cells.toList n).toArray) _ (evalsP_rel hρ _ hps) (by simpa using hzr) c2 hcs
                refine does_row R ro hi hl (Nat.le_refl n) (t := e') (run_v ?_) e
                have hsz : P.cellsOf e' = it.size := by simp [Program.cellsOf, hit]
                have hrow : ((Array.range (n * it.size)).map fun x => (zv.cells)[x % zv.cells.size]!) = (zeroV zv.cells.toList n).toArray := by
                  rw [← hzsz]; exact zeroRow_array zv.cells n
                have hnot : ¬ n * it.size > 2 ^ 24 := by omega
                have hz0 : ∀ zz : Array Value, n * it.size = 0 → Array.map (fun x => zz[x % zz.size]!) (Array.range (n * it.size)) = (zeroV zv.cells.toList n).toArray := fun zz h0 => by
                  rw [← hrow]; simp [h0]
                have hzv : ∀ w : World, (zeroValue e').run P w = .ok zv w := fun w => by simp [zeroValue, Sem.run_bind, run_typeInfo w hit, Result.andThen, hzv]
                have hd' : Instr.fill (fun j => some (j * it.size, it.size)) (zeroV zv.cells.toList n).toArray (parts.map fun x => (x.1, ρ' x.2)).toList = some ds := by
                  rw [← hd]; congr 1; simp
                simp only [Instr.buildSlice, Sem.run_bind, run_underlying hu, Result.andThen_ok, run_sizeOf w hit, hsz, if_neg hnot]
                by_cases h0 : n * it.size = 0
                · simp only [if_pos h0, Sem.run_bind, Sem.run_pure, Result.andThen_ok, hz0 _ h0, hd', newRow, run_newObj_alloc]
                · simp only [if_neg h0, Sem.run_bind, Sem.run_pure, Result.andThen_ok, hzv, hrow, hd', newRow, run_newObj_alloc]
            · cases e
        · cases e
      · cases e
    · cases e
  · rename_i t l c hop; simp only [] at hop; subst hop
    split at e
    · rename_i e' k1 n k2 m hu hn hm
      split at e
      · rename_i it hit
        split at e
        · rename_i z hz
          rw [nbeq] at e
          obtain ⟨zv, hzv, hzf, hze, hzt, hzl⟩ := zeroOf_inv hz
          have hzsz : zv.cells.size = z.cells.size := by
            have := (LRel.cells_flat hzl i).len
            rw [hzt] at this
            simpa using this.symm
          have hzr := zeroRow_rel hzl i m.toNat
          rw [hzt] at hzr
          cases hc : (decide (0 ≤ n) && decide (n ≤ m) && decide (m * it.bytes ≤ 2 ^ 40) && decide (m ≤ 2 ^ 40) && flat z && z.cells.toList.all cellOk && decide (z.cells.size = it.size)) with
          | false => rw [hc] at e; cases e
          | true =>
            rw [hc] at e
            simp only [Bool.and_eq_true, decide_eq_true_eq] at hc
            obtain ⟨⟨⟨⟨⟨⟨c1, c2⟩, c3⟩, c4⟩, c5⟩, c6⟩, c7⟩ := hc
            simp only [cond_true] at e
            have hn' := (hρ _ _ hn).int_inv
            have hm' := (hρ _ _ hm).int_inv
            rw [c7] at hzsz
            refine does_row R ro hi hzr (by omega) (t := e') (run_v ?_) e
            have w1 := wrap_small c1 (Int.le_trans c2 c4)
            have w2 := wrap_small (Int.le_trans c1 c2) c4
            have hsz : P.cellsOf e' = it.size := by simp [Program.cellsOf, hit]
            have hrow : ((Array.range (m.toNat * it.size)).map fun x => (zv.cells)[x % zv.cells.size]!) = (zeroV zv.cells.toList m.toNat).toArray := by
              rw [← hzsz]; exact zeroRow_array zv.cells m.toNat
            have hz0 : ∀ zz : Array Value, m.toNat * it.size = 0 → Array.map (fun x => zz[x % zz.size]!) (Array.range (m.toNat * it.size)) = (zeroV zv.cells.toList m.toNat).toArray := fun zz h0 => by
              rw [← hrow]; simp [h0]
            have hzv : ∀ w : World, (zeroValue e').run P w = .ok zv w := fun w => by simp [zeroValue, Sem.run_bind, run_typeInfo w hit, Result.andThen, hzv]
            have hbig : (decide (m < 0) || decide ((it.bytes : Int) * m > 2 ^ 48)) = false := by
              have : (it.bytes : Int) * m ≤ 2 ^ 40 := by rw [Int.mul_comm]; exact c3
              simp; omega
            have hno : (decide (m < 0) || decide ((it.bytes : Int) * m > 2 ^ 48) || decide (n < 0) || decide (n > m)) = false := by
              rw [hbig]; simp; omega
            simp only [Instr.makeSlice, Sem.run_bind, run_underlying hu, Result.andThen_ok, hn', hm', asInt, asIntOf, Sem.run_pure, run_typeInfo w hit, w1, w2, hno, Bool.false_eq_true, if_false, run_askRoom, run_sizeOf w hit, hsz]
            by_cases h0 : m.toNat * it.size = 0
            · simp only [if_pos h0, Sem.run_bind, Sem.run_pure, Result.andThen_ok, hz0 _ h0, newRow, run_newObj_alloc]
            · simp only [if_neg h0, Sem.run_bind, Sem.run_pure, Result.andThen_ok, hzv, hrow, newRow, run_newObj_alloc]
        · cases e
      · cases e
    · cases e
  · rename_i t a x hop; simp only [] at hop; subst hop
    split at e
    · rename_i b o u ha hx
      split at e
      · rename_i n hn
        rw [nbeq] at e
        by_cases hsz : u.cells.size = n
        · simp only [hsz, decide_true, cond_true] at e
          split at e
          · rename_i ef' hst
            cases e
            obtain ⟨g, hg, he⟩ := (hρ _ _ ha).ptr_inv
            have hxr := hρ _ _ hx
            have huj : u ≠ .junk := fun hh => by
              subst hh
              obtain ⟨_, _, _, _, _, _, _, c4, _⟩ := cstoreCells_inv hst
              simp [CV.cells, cellOk] at c4
            obtain ⟨w', h1, h2, h3⟩ := cstore_does (P := P) (id := id) R hg (hxr.cells huj) hst
            have hsz' : (ρ' x).cells.size = n := by rw [size_cells hxr huj]; exact hsz
            refine ⟨.skip, i, w', undef, ?_, .inr ⟨rfl, rfl⟩, .undef i, h2, h3, fun _ _ => ⟨rfl, rfl⟩⟩
            have hq : ¬ (ρ' x).cells.size ≠ n := by simpa using hsz'
            simp [execOp, Instr.storeAt, he, Instr.sureAddr, storeVar, Sem.run_bind, Result.andThen, run_pSize hn, hsz', h1]
          · cases e
        · simp [hsz] at e
      · cases e
    · cases e
  · rename_i args ts hop; simp only [] at hop; subst hop
    split at e
    · rename_i x y hxy
      obtain ⟨x', r1, e1, hx, hr⟩ := (evals_rel hρ _ hxy).cons_inv
      obtain ⟨y', r2, e2, hy, hr2⟩ := hr.cons_inv
      have := hr2.nil_inv; subst this; subst e2
      have hmap : args.map ρ' = #[x', y'] := by rw [map_toArray, e1]
      obtain ⟨nx, i', w', v', d1, d2⟩ := cappend_sound (ty := type) R hi hx hy e
      refine ⟨nx, i', w', v', ?_, d2⟩
      rw [← d1]
      simp [execOp, resolve, invoke, builtin, Sem.run_bind, Result.andThen, hmap]
    · cases e
  · rename_i args ts hop; simp only [] at hop; subst hop
    split at e
    · rename_i base n c y t hxy ht
      obtain ⟨x', r1, e1, hx, hr⟩ := (evals_rel hρ _ hxy).cons_inv
      obtain ⟨y', r2, e2, hy, hr2⟩ := hr.cons_inv
      have := hr2.nil_inv; subst this; subst e2
      have hmap : args.map ρ' = #[x', y'] := by rw [map_toArray, e1]
      split at e
      · rename_i e' hu
        split at e
        · rename_i z m hz hm
          split at e
          · rename_i xs hxs
            obtain ⟨ys, q1, q2, q3⟩ := csrc_sound (P := P) R hy hm (Nat.min_le_left m n) hxs
            have hlo := lenOf_run (P := P) hy hm w
            have hex : ∀ (B : Option Addr) (c' : Nat) (w' : World), x' = .slice B n c' → (∀ a, B = some a → (storeCells a ys).run P w = .ok () w') → (B = none → w' = w) →
                (execOp ρ' { dst := dst, op := .call { callee := .builtin .copy, args := args, argTypes := ts }, type := type, pos := pos, after := after, guard := guard }).run P w = .ok (.value (.int .i64 (Nat.min m n))) w' := by
              intro B c' w' hB h1 h2
              subst hB
              cases B with
              | none => rw [h2 rfl]; simp [execOp, resolve, invoke, builtin, Builtin.copy_, Sem.run_bind, Result.andThen, hmap, ht, run_underlying hu, hlo, run_pSize hz, q1 w rfl, goInt]
              | some a => simp [execOp, resolve, invoke, builtin, Builtin.copy_, Sem.run_bind, Result.andThen, hmap, ht, run_underlying hu, hlo, run_pSize hz, q1 w rfl, h1 a rfl, goInt]
            rcases base with _ | ⟨b, o, _ | sp⟩
            · simp only [] at e
              cases e
              obtain ⟨rfl, rfl, rfl⟩ := hx.nilSlice_inv
              exact ⟨_, i, w, _, hex none 0 w rfl (fun a ha => by cases ha) (fun _ => rfl), .inl rfl, .int _ _, R, .refl _ _ _ _, fun _ _ => ⟨rfl, rfl⟩⟩
            · simp only [] at e
              split at e
              · rename_i ef' hst
                cases e
                obtain ⟨g, a', cap', rfl, hg, hc, ha, hl⟩ := hx.slice_inv
                by_cases hc0 : cap' = 0
                · have hn0 : n = 0 := by rcases hc with rfl | ⟨_, _, h3, _⟩ <;> omega
                  subst hn0
                  have hys : ys = [] := by have := q2.len; rw [q3] at this; cases ys <;> simp_all
                  subst hys
                  obtain ⟨w', s1, s2, s3⟩ := cstore_does (P := P) (id := id) R hg q2 hst
                  have : w' = w := by simp [storeCells] at s1; exact s1.symm
                  subst this
                  exact ⟨_, i, w', _, hex (some a') cap' w' rfl (fun a _ => rfl) (fun _ => rfl), .inl rfl, .int _ _, s2, s3, fun _ _ => ⟨rfl, rfl⟩⟩
                · have := ha hc0; subst this
                  obtain ⟨w', s1, s2, s3⟩ := cstore_does (P := P) (id := id) R hg q2 hst
                  exact ⟨_, i, w', _, hex (some ⟨g.B, g.off + o, none⟩) cap' w' rfl (fun a ha => by cases ha; exact s1) (fun ha => by cases ha), .inl rfl, .int _ _, s2, s3, fun _ _ => ⟨rfl, rfl⟩⟩
              · cases e
            · cases hx
          · cases e
        · cases e
      · cases e
    · cases e
  · rename_i args ts hop; simp only [] at hop; subst hop
    split at e
    · rename_i base n c t hxy ht
      obtain ⟨x', r1, e1, hx, hr⟩ := (evals_rel hρ _ hxy).cons_inv
      have := hr.nil_inv; subst this
      have hmap : args.map ρ' = #[x'] := by rw [map_toArray, e1]
      split at e
      · rename_i e' hu
        split at e
        · rename_i z u hz hzv
          rcases base with _ | ⟨b, o, _ | sp⟩
          · simp only [] at e
            cases e
            obtain ⟨rfl, rfl, rfl⟩ := hx.nilSlice_inv
            exact ⟨_, i, w, _, (by simp [execOp, resolve, invoke, builtin, Builtin.clear_, Sem.run_bind, Result.andThen, hmap, ht, run_underlying hu]; rfl), .inl rfl, .undef i, R, .refl _ _ _ _, fun _ _ => ⟨rfl, rfl⟩⟩
          · simp only [] at e
            obtain ⟨g, a', cap', rfl, hg, hc, ha, hl⟩ := hx.slice_inv
            rw [nbeq, nbeq] at e
            by_cases hn0 : n = 0
            · simp only [hn0, decide_true, cond_true] at e
              cases e
              subst hn0
              exact ⟨_, i, w, _, (by simp [execOp, resolve, invoke, builtin, Builtin.clear_, Sem.run_bind, Result.andThen, hmap, ht, run_underlying hu]; rfl), .inl rfl, .undef i, R, .refl _ _ _ _, fun _ _ => ⟨rfl, rfl⟩⟩
            · simp only [hn0, decide_false, cond_false] at e
              cases hcc : (decide (u.cells.size = z) && flat u) with
              | false => rw [hcc] at e; cases e
              | true =>
                rw [hcc] at e
                simp only [Bool.and_eq_true, decide_eq_true_eq] at hcc
                simp only [cond_true] at e
                split at e
                · rename_i ef' hst
                  cases e
                  have hc0 : cap' ≠ 0 := by rcases hc with rfl | ⟨_, _, h3, _⟩ <;> omega
                  have := ha hc0; subst this
                  obtain ⟨w', s1, s2, s3⟩ := cstore_does (P := P) (id := id) R hg (zeroRow_rel hcc.2 i n) hst
                  refine ⟨_, i, w', _, ?_, .inl rfl, .undef i, s2, s3, fun _ _ => ⟨rfl, rfl⟩⟩
                  obtain ⟨n', rfl⟩ : ∃ k, n = k + 1 := ⟨n - 1, by omega⟩
                  have hzr : (Builtin.zeroCells u.toV.cells (n' + 1)).toList = zeroV u.toV.cells.toList (n' + 1) := by rw [zeroCells_row]
                  simp [execOp, resolve, invoke, builtin, Builtin.clear_, Sem.run_bind, Result.andThen, hmap, ht, run_underlying hu, (run_pZero hzv w).1, hzr, s1]
                  rfl
                · cases e
          · cases hx
        · cases e
      · cases e
    · cases e
  · exact hpure e

end Go.Proofs.YtecidokjhplbgaaGreatDoorD
