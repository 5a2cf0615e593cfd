/-
  The operations that make and write nothing: what the reference run tells of them, the model's run tells.
-/
import Derived.Test.YtkdjllolnlndkaaHeap
set_option linter.unusedVariables false
set_option linter.unusedSimpArgs false
namespace Go.Proofs.YtkdjllolnlndkaaD
open Go Go.RowKit

variable {P : Program} {N : Nat} {i : Inj} {h : HF} {w : World}

theorem run_pSize {t : TypeId} {n : Nat} (e : pSize P t = some n) (w : World) : (sizeOf t).run P w = .ok n w := by
  unfold pSize at e
  cases hi : P.info? t with
  | none => rw [hi] at e; cases e
  | some x => rw [hi] at e; cases e; rw [run_sizeOf w hi]; simp [Program.cellsOf, hi]
theorem zeroOf_inv {it : TypeInfo} {z : CV} (e : zeroOf it = some z) : ∃ z', it.zero = some z' ∧ vflat z' = true ∧ z = .ofV z' ∧ z.toV = z' ∧ flat z = true := by
  unfold zeroOf at e
  split at e
  · rename_i z' hz
    cases hf : vflat z' with
    | false => rw [hf] at e; cases e
    | true =>
      rw [hf] at e
      simp only [cond_true, Option.some.injEq] at e
      subst e
      obtain ⟨h1, h2⟩ := toV_ofV z' hf
      exact ⟨z', hz, hf, rfl, h1, h2⟩
  · cases e
theorem run_pZero {t : TypeId} {z : CV} (e : pZero P t = some z) (w : World) : (zeroValue t).run P w = .ok z.toV w ∧ flat z = true := by
  unfold pZero at e
  cases hi : P.info? t with
  | none => rw [hi] at e; cases e
  | some x =>
    rw [hi] at e; simp only [] at e
    obtain ⟨z', h1, h2, h3, h4, h5⟩ := zeroOf_inv e
    exact ⟨by simp [zeroValue, Sem.run_bind, run_typeInfo w hi, Result.andThen, h1, h4], h5⟩
theorem run_pAgg {t : TypeId} {b : Bool} (e : pAgg P t = some b) (w : World) : (isAgg t).run P w = .ok b w := by
  unfold pAgg at e
  cases hu : P.underlying t with
  | none => rw [hu] at e; cases e
  | some d => rw [hu] at e; cases d <;> cases e <;> simp [isAgg, Sem.run_bind, run_underlying hu, Result.andThen]

theorem Addr.add_mk (b o n : Nat) : (⟨b, o, none⟩ : Addr).add n = ⟨b, o + n, none⟩ := by unfold Addr.add; split <;> simp_all

/-- A block's cells, read in the model. -/
theorem CRel.cell {b o : Nat} {vs : List CV} {e m : Nat} {g : Img} (hR : CRel N i w g vs e m) {x : CV} (hx : vs[o]? = some x) :
    ∃ y, w.cell? ⟨g.B, g.off + o, none⟩ = some y ∧ VRel i x y := by
  obtain ⟨_, _, _, ⟨vs', hl, hc⟩, _⟩ := hR
  obtain ⟨y, hy, hv⟩ := hl.get hx
  exact ⟨y, hc o y hy, hv⟩

theorem Rel.cell (R : Rel P N i h w) {b o : Nat} {vs : List CV} {e m : Nat} {g : Img} (hb : h b = some (.cells vs e m)) (hg : i b = some g) {x : CV} (hx : vs[o]? = some x) :
    ∃ y, w.cell? ⟨g.B, g.off + o, none⟩ = some y ∧ VRel i x y := CRel.cell (b := b) (R.obj b _ g hb hg) hx

theorem CRel.cellsAt {o n : Nat} {vs : List CV} {e m : Nat} {g : Img} (hR : CRel N i w g vs e m) (hn : o + n ≤ vs.length) :
    ∃ ys, LRel i ((vs.drop o).take n) ys ∧ ys.length = n ∧ ∀ k v, ys[k]? = some v → w.cell? ⟨g.B, g.off + o + k, none⟩ = some v := by
  obtain ⟨_, _, _, ⟨vs', hl, hc⟩, _⟩ := hR
  refine ⟨(vs'.drop o).take n, (hl.drop o).take n, by have := hl.len; simp; omega, fun k v hv => ?_⟩
  rw [List.getElem?_take] at hv
  split at hv
  · rw [List.getElem?_drop] at hv
    have := hc _ v hv
    rwa [show g.off + (o + k) = g.off + o + k by omega] at this
  · cases hv

theorem Rel.cellsAt (R : Rel P N i h w) {b o n : Nat} {vs : List CV} {e m : Nat} {g : Img} (hb : h b = some (.cells vs e m)) (hg : i b = some g) (hn : o + n ≤ vs.length) :
    ∃ ys, LRel i ((vs.drop o).take n) ys ∧ ys.length = n ∧ ∀ k v, ys[k]? = some v → w.cell? ⟨g.B, g.off + o + k, none⟩ = some v := CRel.cellsAt (R.obj b _ g hb hg) hn

theorem cload_run (R : Rel P N i h w) {t : TypeId} {b o : Nat} {v : CV} {g : Img} (hg : i b = some g) (e : cload P h t b o = some v) :
    ∃ v', (loadVar t ⟨g.B, g.off + o, none⟩).run P w = .ok v' w ∧ VRel i v v' := by
  unfold cload at e
  split at e
  · rename_i vs ez m hb
    split at e
    · rename_i ha
      split at e
      · rename_i n hn
        rw [nble] at e
        by_cases hle : o + n ≤ vs.length
        · simp [hle] at e
          subst e
          obtain ⟨ys, hl, hlen, hc⟩ := R.cellsAt hb hg hle
          refine ⟨.agg ys.toArray, ?_, .agg' hl⟩
          have hr : (loadCells ⟨g.B, g.off + o, none⟩ n).run P w = .ok ys.toArray w := by
            rw [← hlen]
            exact run_loadCells_list (P := P) w _ ys (fun j v hv => by rw [Addr.add_mk]; exact hc j v hv)
          simp [loadVar, Sem.run_bind, run_pAgg ha, run_pSize hn, Result.andThen, hr]
        · simp [hle] at e
      · cases e
    · rename_i ha
      obtain ⟨y, hy, hv⟩ := R.cell hb hg e
      exact ⟨y, by simp [loadVar, Sem.run_bind, run_pAgg ha, Result.andThen, hy], hv⟩
    · cases e
  · cases e

theorem evals_rel {ρ : Operand → Option CV} {ρ' : Operand → Value} (hρ : ∀ x v, ρ x = some v → VRel i v (ρ' x)) : ∀ (l : List Operand) {vs : List CV}, evals ρ l = some vs → LRel i vs (l.map ρ')
  | [], vs, e => by simp [evals] at e; subst e; exact .nil i
  | x :: r, vs, e => by
    simp only [evals] at e
    split at e
    · cases e
    · rename_i v hv
      split at e
      · cases e
      · rename_i vs' hvs
        cases e
        exact .cons (hρ _ _ hv) (evals_rel hρ r hvs)

inductive PRel (i : Inj) : List (Nat × CV) → List (Nat × Value) → Prop
  | nil : PRel i [] []
  | cons {j : Nat} {x : CV} {y : Value} {ps : List (Nat × CV)} {qs : List (Nat × Value)} (h : VRel i x y) (h' : PRel i ps qs) : PRel i ((j, x) :: ps) ((j, y) :: qs)

theorem evalsP_rel {ρ : Operand → Option CV} {ρ' : Operand → Value} (hρ : ∀ x v, ρ x = some v → VRel i v (ρ' x)) : ∀ (l : List (Nat × Operand)) {vs : List (Nat × CV)}, evalsP ρ l = some vs →
    PRel i vs (l.map fun (j, x) => (j, ρ' x))
  | [], vs, e => by simp [evalsP] at e; subst e; exact .nil
  | (j, x) :: r, vs, e => by
    simp only [evalsP] at e
    split at e
    · cases e
    · rename_i v hv
      split at e
      · cases e
      · rename_i vs' hvs
        cases e
        exact .cons (hρ _ _ hv) (evalsP_rel hρ r hvs)

theorem fillOne_rel (off : Nat) : ∀ (xs : List CV) (ys : List Value) (n : Nat) (cs : Array CV) (ds : Array Value), LRel i xs ys → LRel i cs.toList ds.toList →
    LRel i ((xs.zipIdx n).foldl (fun cs (c, j) => cs.setIfInBounds (off + j) c) cs).toList ((ys.zipIdx n).foldl (fun cs (c, j) => cs.setIfInBounds (off + j) c) ds).toList
  | [], ys, n, cs, ds, hx, hc => by have := hx.nil_inv; subst this; simpa using hc
  | x :: xs, ys, n, cs, ds, hx, hc => by
    obtain ⟨y, ys', rfl, hv, ht⟩ := hx.cons_inv
    simp only [List.zipIdx_cons, List.foldl_cons]
    exact fillOne_rel off xs ys' (n + 1) _ _ ht (by simpa using hc.set (off + n) hv)

theorem size_cells {i : Inj} {x : CV} {y : Value} (h : VRel i x y) (hx : x ≠ .junk) : y.cells.size = x.cells.size := by
  have := (h.cells hx).len
  simpa using this.symm

theorem fill_rel (place : Nat → Option (Nat × Nat)) : ∀ {ps : List (Nat × CV)} {qs : List (Nat × Value)} {cs rs : Array CV} {ds : Array Value}, PRel i ps qs → LRel i cs.toList ds.toList → sure ps = true → cfill place cs ps = some rs →
    ∃ ss, Instr.fill place ds qs = some ss ∧ LRel i rs.toList ss.toList
  | [], _, cs, rs, ds, .nil, hc, _, e => by simp [cfill] at e; subst e; exact ⟨ds, rfl, hc⟩
  | (j, x) :: ps, _, cs, rs, ds, .cons (y := y) (qs := qs) hv ht, hc, hs, e => by
    simp only [cfill] at e
    simp only [Instr.fill]
    have hxj : x ≠ .junk := fun hh => by subst hh; simp [sure] at hs
    have hs' : sure ps = true := by cases x <;> simp_all [sure]
    cases hp : place j with
    | none => rw [hp] at e; cases e
    | some os =>
      obtain ⟨off, size⟩ := os
      rw [hp] at e
      simp only [] at e ⊢
      have hl := size_cells hv hxj
      have hl2 := hc.len
      simp only [Array.length_toList] at hl2
      rw [nbeq, nble] at e
      rw [hl, ← hl2]
      by_cases hif : x.cells.size = size ∧ off + x.cells.size ≤ cs.size
      · rw [if_neg (by simp; omega)]
        have hcf : (!decide (x.cells.size = size) || !decide (off + x.cells.size ≤ cs.size)) = false := by
          simp; omega
        rw [hcf] at e
        simp only [cond_false] at e
        refine fill_rel place ht ?_ hs' e
        have := fillOne_rel off x.cells.toList y.cells.toList 0 cs ds (hv.cells hxj) hc
        rw [← Array.foldl_toList, ← Array.foldl_toList, Array.toList_zipIdx, Array.toList_zipIdx]
        exact this
      · have : (!decide (x.cells.size = size) || !decide (off + x.cells.size ≤ cs.size)) = true := by
          simp; omega
        rw [this] at e; cases e

theorem LRel.of_flat {l : List CV} (hf : flatL l = true) (i : Inj) : LRel i l (toVL l) :=
  ⟨by simp [toVL_eq], fun k x y hx hy => by rw [toVL_eq, List.getElem?_map, hx] at hy; cases hy; exact .of_flat i x (flatL_mem hf hx)⟩
theorem flat_not_junk {x : CV} (h : flat x = true) : x ≠ .junk := fun e => by subst e; simp [flat] at h
theorem toV_cells {z : CV} : z ≠ .junk → flat z = true → z.toV.cells.toList = toVL z.cells.toList := by
  intro hj hf
  cases z <;> simp [CV.toV, CV.cells, Value.cells, toVL_eq, toVA_eq] <;> first | rfl | (simp [flat] at hf; done) | skip
  · rename_i a; cases a <;> first | rfl | simp [flat] at hf
  · rename_i a l c; cases a <;> cases l <;> cases c <;> first | rfl | simp [flat] at hf
  · rename_i a; cases a <;> first | rfl | simp [flat] at hf
theorem LRel.cells_flat {z : CV} (hf : flat z = true) (i : Inj) : LRel i z.cells.toList z.toV.cells.toList := (VRel.of_flat i z hf).cells (flat_not_junk hf)

theorem built_rel {t : TypeId} {ps : List (Nat × CV)} {qs : List (Nat × Value)} {z : CV} {cs : Array CV} (hp : PRel i ps qs) (hz : pZero P t = some z) (hs : sure ps = true) (e : cbuilt P t ps = some cs) :
    ∃ ds, P.built t qs = some ds ∧ LRel i cs.toList ds.toList := by
  unfold cbuilt at e
  unfold Program.built
  unfold pZero at hz
  cases hi : P.info? t with
  | none => rw [hi] at hz; cases hz
  | some it =>
    rw [hi] at hz e
    simp only [] at hz
    obtain ⟨z', h1, h2, h3, h4, h5⟩ := zeroOf_inv hz
    have hl := LRel.cells_flat h5 i
    rw [h4] at hl
    cases hu : P.underlying t with
    | none => rw [hu] at e; cases e
    | some d =>
      rw [hu] at e
      cases d <;> simp only [] at e ⊢ <;> first | (cases e; done) | skip
      · rw [hz] at e; rw [h1]
        split at e
        · rename_i za pl q1 q2
          cases q1
          rw [q2]
          exact fill_rel _ hp hl hs e
        · cases e
      · rw [hz] at e; rw [h1]
        split at e
        · rename_i za pl q1 q2
          cases q1
          rw [q2]
          exact fill_rel _ hp hl hs e
        · cases e

end Go.Proofs.YtkdjllolnlndkaaD
