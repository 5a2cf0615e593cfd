/-
  The operations that make or write memory: all of them.
-/
import Derived.Test.YtkdjllolnlndkaaOps7
set_option linter.unusedVariables false
set_option linter.unusedSimpArgs false
namespace Go.Proofs.YtkdjllolnlndkaaD
open Go Go.RowKit

variable {P : Program} {N : Nat} {i : Inj} {h : HF} {w : World}

/-- A new array of known length. -/
theorem does_row (R : Rel P N i h w) (ro : Nat) {id : Nat} (hi : i.free id) {s : Sem Next} {t : TypeId} {vs : List CV} {ys : List Value} {ez n c : Nat} (hl : LRel i vs ys) (hn : n ≤ c) {v : CV} {ef : Eff}
    (hs : s.run P w = .ok (.value (.slice (some ⟨w.heap.size, 0, none⟩) n c)) (w.alloc (.cells ys.toArray t)))
    (e : cnew h id (.cells vs ez 0) (.slice (some ⟨id, 0, none⟩) n c) = some (v, ef)) : Does P N ro id i h w s v (eall h ef) := by
  unfold cnew at e
  split at e
  · rename_i hid
    cases e
    obtain ⟨R', S'⟩ := new_sound R ro hid hi t ez 0 (rest := []) hl
    simp only [List.append_nil] at R' S'
    exact ⟨_, _, _, _, hs, .inl rfl, .slice (upd_same i id _) (.inl rfl) (fun _ => rfl) hn, R', S', fun b hb => ⟨upd_ne i _ hb, rfl⟩⟩
  · cases e

theorem cstore_does (R : Rel P N i h w) {ro id b o : Nat} {g : Img} (hg : i b = some g) {xs : List CV} {ys : List Value} {ef : Eff} (hl : LRel i xs ys) (e : cstoreCells ro h b o xs = some ef) :
    ∃ w', (storeCells ⟨g.B, g.off + o, none⟩ ys).run P w = .ok () w' ∧ Rel P N i (eall h ef) w' ∧ Step ro i h w i (eall h ef) w' := by
  obtain ⟨vs, ez, m, hb, c1, c2, c3, c4, rfl⟩ := cstoreCells_inv e
  obtain ⟨w', s1, s2, s3⟩ := store_sound (P := P) R hb hg c1 c2 c3 c4 hl
  exact ⟨w', s1, s2, s3⟩

theorem wrap_small {n : Int} (h0 : 0 ≤ n) (h1 : n ≤ 2 ^ 40) : IntKind.i64.wrap n = n := by
  unfold IntKind.wrap
  have e : n % (2 ^ IntKind.i64.bits : Int) = n := Int.emod_eq_of_lt h0 (by show n < 2 ^ 64; omega)
  simp only [e]
  rw [if_neg]
  have : ¬ n ≥ (2 ^ (IntKind.i64.bits - 1) : Int) := by show ¬ n ≥ (2 ^ 63 : Int); omega
  simp [this]

theorem zeroCells_row (z : Value) (n : Nat) : Builtin.zeroCells z.cells n = (zeroV z.cells.toList n).toArray := zeroRow_array z.cells n

set_option maxHeartbeats 1600000 in
theorem cmem_sound (R : Rel P N i h w) {ρ : Operand → Option CV} {ρ' : Operand → Value} (hρ : ∀ x v, ρ x = some v → VRel i v (ρ' x)) {ro id : Nat} (hi : i.free id) {o : Oper} {v : CV} {ef : Eff}
    (e : cmem P ρ ro id o h = some (v, ef)) : Does P N ro id i h w (execOp ρ' o) v (eall h ef) := by
  have hpure : ∀ {o : Oper} {v : CV} {ef : Eff}, (match cpure P ρ h o with | some v => some (v, []) | none => none) = some (v, ef) → Does P N ro id i h w (execOp ρ' o) v (eall h ef) := by
    intro o v ef e
    split at e
    · rename_i u hu
      cases e
      obtain ⟨v', h1, h2⟩ := cpure_sound R hρ hu
      exact ⟨_, i, w, v', h1, .inl rfl, h2, R, .refl _ _ _ _, fun _ _ => ⟨rfl, rfl⟩⟩
    · cases e
  obtain ⟨dst, op, type, pos, after, guard⟩ := o
  unfold cmem at e
  split at e
  · rename_i t hop; simp only [] at hop; subst hop
    split at e
    · rename_i z hz
      cases hf : (flat z && z.cells.toList.all cellOk) with
      | false => rw [hf] at e; cases e
      | true =>
        rw [hf] at e
        simp only [Bool.and_eq_true] at hf
        simp only [cond_true] at e
        refine does_box R ro hi (VRel.of_flat i z hf.1) (flat_not_junk hf.1) (t := t) (run_v ?_) e
        simp [Instr.alloc, Sem.run_bind, (run_pZero hz w).1, Result.andThen, run_newVar]
    · cases e
  · rename_i t x hop; simp only [] at hop; subst hop
    split at e
    · rename_i u hu
      cases hf : u.cells.toList.all cellOk with
      | false => rw [hf] at e; cases e
      | true =>
        rw [hf] at e
        simp only [cond_true] at e
        refine does_box R ro hi (hρ _ _ hu) (fun hh => by subst hh; simp [CV.cells, cellOk] at hf) (t := t) (run_v ?_) e
        simp [Instr.box, Sem.run_bind, Result.andThen, run_newVar]
    · cases e
  · rename_i t n parts hop; simp only [] at hop; subst hop
    split at e
    · rename_i e' hu
      split at e
      · rename_i it ps hit hps
        split at e
        · rename_i z hz
          rw [nble, nbeq] at e
          obtain ⟨zv, hzv, hzf, hze, hzt, hzl⟩ := zeroOf_inv hz
          have hzsz : zv.cells.size = z.cells.size := by
            have := (LRel.cells_flat hzl i).len
            rw [hzt] at this
            simpa using this.symm
          have hzr := zeroRow_rel hzl i n
          rw [hzt] at hzr
          cases hc : (decide (n * it.size ≤ 2 ^ 24) && sure ps && decide (z.cells.size = it.size)) with
          | false => rw [hc] at e; cases e
          | true =>
            rw [hc] at e
            simp only [Bool.and_eq_true, decide_eq_true_eq] at hc
            obtain ⟨⟨c1, c2⟩, c3⟩ := hc
            simp only [cond_true] at e
            split at e
            · rename_i cs hcs
              cases hok : cs.toList.all cellOk with
              | false => rw [hok] at e; cases e
              | true =>
                rw [hok] at e
                simp only [cond_true] at e
                rw [c3] at hzsz
                obtain ⟨ds, hd, hl⟩ := fill_rel (i := i) (cs := (zeroRow z.cells.toList n).toArray) (ds := (zeroV zv.cells.toList n).toArray) _ (evalsP_rel hρ _ hps) (by simpa using hzr) c2 hcs
                refine does_row R ro hi hl (Nat.le_refl n) (t := e') (run_v ?_) e
                have hsz : P.cellsOf e' = it.size := by simp [Program.cellsOf, hit]
                have hrow : ((Array.range (n * it.size)).map fun x => (zv.cells)[x % zv.cells.size]!) = (zeroV zv.cells.toList n).toArray := by
                  rw [← hzsz]; exact zeroRow_array zv.cells n
                have hnot : ¬ n * it.size > 2 ^ 24 := by omega
                have hz0 : ∀ zz : Array Value, n * it.size = 0 → Array.map (fun x => zz[x % zz.size]!) (Array.range (n * it.size)) = (zeroV zv.cells.toList n).toArray := fun zz h0 => by
                  rw [← hrow]; simp [h0]
                have hzv : ∀ w : World, (zeroValue e').run P w = .ok zv w := fun w => by simp [zeroValue, Sem.run_bind, run_typeInfo w hit, Result.andThen, hzv]
                have hd' : Instr.fill (fun j => some (j * it.size, it.size)) (zeroV zv.cells.toList n).toArray (parts.map fun x => (x.1, ρ' x.2)).toList = some ds := by
                  rw [← hd]; congr 1; simp
                simp only [Instr.buildSlice, Sem.run_bind, run_underlying hu, Result.andThen_ok, run_sizeOf w hit, hsz, if_neg hnot]
                by_cases h0 : n * it.size = 0
                · simp only [if_pos h0, Sem.run_bind, Sem.run_pure, Result.andThen_ok, hz0 _ h0, hd', newRow, run_newObj_alloc]
                · simp only [if_neg h0, Sem.run_bind, Sem.run_pure, Result.andThen_ok, hzv, hrow, hd', newRow, run_newObj_alloc]
            · cases e
        · cases e
      · cases e
    · cases e
  · rename_i t l c hop; simp only [] at hop; subst hop
    split at e
    · rename_i e' k1 n k2 m hu hn hm
      split at e
      · rename_i it hit
        split at e
        · rename_i z hz
          rw [nbeq] at e
          obtain ⟨zv, hzv, hzf, hze, hzt, hzl⟩ := zeroOf_inv hz
          have hzsz : zv.cells.size = z.cells.size := by
            have := (LRel.cells_flat hzl i).len
            rw [hzt] at this
            simpa using this.symm
          have hzr := zeroRow_rel hzl i m.toNat
          rw [hzt] at hzr
          cases hc : (decide (0 ≤ n) && decide (n ≤ m) && decide (m * it.bytes ≤ 2 ^ 40) && decide (m ≤ 2 ^ 40) && flat z && z.cells.toList.all cellOk && decide (z.cells.size = it.size)) with
          | false => rw [hc] at e; cases e
          | true =>
            rw [hc] at e
            simp only [Bool.and_eq_true, decide_eq_true_eq] at hc
            obtain ⟨⟨⟨⟨⟨⟨c1, c2⟩, c3⟩, c4⟩, c5⟩, c6⟩, c7⟩ := hc
            simp only [cond_true] at e
            have hn' := (hρ _ _ hn).int_inv
            have hm' := (hρ _ _ hm).int_inv
            rw [c7] at hzsz
            refine does_row R ro hi hzr (by omega) (t := e') (run_v ?_) e
            have w1 := wrap_small c1 (Int.le_trans c2 c4)
            have w2 := wrap_small (Int.le_trans c1 c2) c4
            have hsz : P.cellsOf e' = it.size := by simp [Program.cellsOf, hit]
            have hrow : ((Array.range (m.toNat * it.size)).map fun x => (zv.cells)[x % zv.cells.size]!) = (zeroV zv.cells.toList m.toNat).toArray := by
              rw [← hzsz]; exact zeroRow_array zv.cells m.toNat
            have hz0 : ∀ zz : Array Value, m.toNat * it.size = 0 → Array.map (fun x => zz[x % zz.size]!) (Array.range (m.toNat * it.size)) = (zeroV zv.cells.toList m.toNat).toArray := fun zz h0 => by
              rw [← hrow]; simp [h0]
            have hzv : ∀ w : World, (zeroValue e').run P w = .ok zv w := fun w => by simp [zeroValue, Sem.run_bind, run_typeInfo w hit, Result.andThen, hzv]
            have hbig : (decide (m < 0) || decide ((it.bytes : Int) * m > 2 ^ 48)) = false := by
              have : (it.bytes : Int) * m ≤ 2 ^ 40 := by rw [Int.mul_comm]; exact c3
              simp; omega
            have hno : (decide (m < 0) || decide ((it.bytes : Int) * m > 2 ^ 48) || decide (n < 0) || decide (n > m)) = false := by
              rw [hbig]; simp; omega
            simp only [Instr.makeSlice, Sem.run_bind, run_underlying hu, Result.andThen_ok, hn', hm', asInt, asIntOf, Sem.run_pure, run_typeInfo w hit, w1, w2, hno, Bool.false_eq_true, if_false, run_askRoom, run_sizeOf w hit, hsz]
            by_cases h0 : m.toNat * it.size = 0
            · simp only [if_pos h0, Sem.run_bind, Sem.run_pure, Result.andThen_ok, hz0 _ h0, newRow, run_newObj_alloc]
            · simp only [if_neg h0, Sem.run_bind, Sem.run_pure, Result.andThen_ok, hzv, hrow, newRow, run_newObj_alloc]
        · cases e
      · cases e
    · cases e
  · rename_i t a x hop; simp only [] at hop; subst hop
    split at e
    · rename_i b o u ha hx
      split at e
      · rename_i n hn
        rw [nbeq] at e
        by_cases hsz : u.cells.size = n
        · simp only [hsz, decide_true, cond_true] at e
          split at e
          · rename_i ef' hst
            cases e
            obtain ⟨g, hg, he⟩ := (hρ _ _ ha).ptr_inv
            have hxr := hρ _ _ hx
            have huj : u ≠ .junk := fun hh => by
              subst hh
              obtain ⟨_, _, _, _, _, _, _, c4, _⟩ := cstoreCells_inv hst
              simp [CV.cells, cellOk] at c4
            obtain ⟨w', h1, h2, h3⟩ := cstore_does (P := P) (id := id) R hg (hxr.cells huj) hst
            have hsz' : (ρ' x).cells.size = n := by rw [size_cells hxr huj]; exact hsz
            refine ⟨.skip, i, w', undef, ?_, .inr ⟨rfl, rfl⟩, .undef i, h2, h3, fun _ _ => ⟨rfl, rfl⟩⟩
            have hq : ¬ (ρ' x).cells.size ≠ n := by simpa using hsz'
            simp [execOp, Instr.storeAt, he, Instr.sureAddr, storeVar, Sem.run_bind, Result.andThen, run_pSize hn, hsz', h1]
          · cases e
        · simp [hsz] at e
      · cases e
    · cases e
  · rename_i args ts hop; simp only [] at hop; subst hop
    split at e
    · rename_i x y hxy
      obtain ⟨x', r1, e1, hx, hr⟩ := (evals_rel hρ _ hxy).cons_inv
      obtain ⟨y', r2, e2, hy, hr2⟩ := hr.cons_inv
      have := hr2.nil_inv; subst this; subst e2
      have hmap : args.map ρ' = #[x', y'] := by rw [map_toArray, e1]
      obtain ⟨nx, i', w', v', d1, d2⟩ := cappend_sound (ty := type) R hi hx hy e
      refine ⟨nx, i', w', v', ?_, d2⟩
      rw [← d1]
      simp [execOp, resolve, invoke, builtin, Sem.run_bind, Result.andThen, hmap]
    · cases e
  · rename_i args ts hop; simp only [] at hop; subst hop
    split at e
    · rename_i base n c y t hxy ht
      obtain ⟨x', r1, e1, hx, hr⟩ := (evals_rel hρ _ hxy).cons_inv
      obtain ⟨y', r2, e2, hy, hr2⟩ := hr.cons_inv
      have := hr2.nil_inv; subst this; subst e2
      have hmap : args.map ρ' = #[x', y'] := by rw [map_toArray, e1]
      split at e
      · rename_i e' hu
        split at e
        · rename_i z m hz hm
          split at e
          · rename_i xs hxs
            obtain ⟨ys, q1, q2, q3⟩ := csrc_sound (P := P) R hy hm (Nat.min_le_left m n) hxs
            have hlo := lenOf_run (P := P) hy hm w
            have hex : ∀ (B : Option Addr) (c' : Nat) (w' : World), x' = .slice B n c' → (∀ a, B = some a → (storeCells a ys).run P w = .ok () w') → (B = none → w' = w) →
                (execOp ρ' { dst := dst, op := .call { callee := .builtin .copy, args := args, argTypes := ts }, type := type, pos := pos, after := after, guard := guard }).run P w = .ok (.value (.int .i64 (Nat.min m n))) w' := by
              intro B c' w' hB h1 h2
              subst hB
              cases B with
              | none => rw [h2 rfl]; simp [execOp, resolve, invoke, builtin, Builtin.copy_, Sem.run_bind, Result.andThen, hmap, ht, run_underlying hu, hlo, run_pSize hz, q1 w rfl, goInt]
              | some a => simp [execOp, resolve, invoke, builtin, Builtin.copy_, Sem.run_bind, Result.andThen, hmap, ht, run_underlying hu, hlo, run_pSize hz, q1 w rfl, h1 a rfl, goInt]
            rcases base with _ | ⟨b, o, _ | sp⟩
            · simp only [] at e
              cases e
              obtain ⟨rfl, rfl, rfl⟩ := hx.nilSlice_inv
              exact ⟨_, i, w, _, hex none 0 w rfl (fun a ha => by cases ha) (fun _ => rfl), .inl rfl, .int _ _, R, .refl _ _ _ _, fun _ _ => ⟨rfl, rfl⟩⟩
            · simp only [] at e
              split at e
              · rename_i ef' hst
                cases e
                obtain ⟨g, a', cap', rfl, hg, hc, ha, hl⟩ := hx.slice_inv
                by_cases hc0 : cap' = 0
                · have hn0 : n = 0 := by rcases hc with rfl | ⟨_, _, h3, _⟩ <;> omega
                  subst hn0
                  have hys : ys = [] := by have := q2.len; rw [q3] at this; cases ys <;> simp_all
                  subst hys
                  obtain ⟨w', s1, s2, s3⟩ := cstore_does (P := P) (id := id) R hg q2 hst
                  have : w' = w := by simp [storeCells] at s1; exact s1.symm
                  subst this
                  exact ⟨_, i, w', _, hex (some a') cap' w' rfl (fun a _ => rfl) (fun _ => rfl), .inl rfl, .int _ _, s2, s3, fun _ _ => ⟨rfl, rfl⟩⟩
                · have := ha hc0; subst this
                  obtain ⟨w', s1, s2, s3⟩ := cstore_does (P := P) (id := id) R hg q2 hst
                  exact ⟨_, i, w', _, hex (some ⟨g.B, g.off + o, none⟩) cap' w' rfl (fun a ha => by cases ha; exact s1) (fun ha => by cases ha), .inl rfl, .int _ _, s2, s3, fun _ _ => ⟨rfl, rfl⟩⟩
              · cases e
            · cases hx
          · cases e
        · cases e
      · cases e
    · cases e
  · rename_i args ts hop; simp only [] at hop; subst hop
    split at e
    · rename_i base n c t hxy ht
      obtain ⟨x', r1, e1, hx, hr⟩ := (evals_rel hρ _ hxy).cons_inv
      have := hr.nil_inv; subst this
      have hmap : args.map ρ' = #[x'] := by rw [map_toArray, e1]
      split at e
      · rename_i e' hu
        split at e
        · rename_i z u hz hzv
          rcases base with _ | ⟨b, o, _ | sp⟩
          · simp only [] at e
            cases e
            obtain ⟨rfl, rfl, rfl⟩ := hx.nilSlice_inv
            exact ⟨_, i, w, _, (by simp [execOp, resolve, invoke, builtin, Builtin.clear_, Sem.run_bind, Result.andThen, hmap, ht, run_underlying hu]; rfl), .inl rfl, .undef i, R, .refl _ _ _ _, fun _ _ => ⟨rfl, rfl⟩⟩
          · simp only [] at e
            obtain ⟨g, a', cap', rfl, hg, hc, ha, hl⟩ := hx.slice_inv
            rw [nbeq, nbeq] at e
            by_cases hn0 : n = 0
            · simp only [hn0, decide_true, cond_true] at e
              cases e
              subst hn0
              exact ⟨_, i, w, _, (by simp [execOp, resolve, invoke, builtin, Builtin.clear_, Sem.run_bind, Result.andThen, hmap, ht, run_underlying hu]; rfl), .inl rfl, .undef i, R, .refl _ _ _ _, fun _ _ => ⟨rfl, rfl⟩⟩
            · simp only [hn0, decide_false, cond_false] at e
              cases hcc : (decide (u.cells.size = z) && flat u) with
              | false => rw [hcc] at e; cases e
              | true =>
                rw [hcc] at e
                simp only [Bool.and_eq_true, decide_eq_true_eq] at hcc
                simp only [cond_true] at e
                split at e
                · rename_i ef' hst
                  cases e
                  have hc0 : cap' ≠ 0 := by rcases hc with rfl | ⟨_, _, h3, _⟩ <;> omega
                  have := ha hc0; subst this
                  obtain ⟨w', s1, s2, s3⟩ := cstore_does (P := P) (id := id) R hg (zeroRow_rel hcc.2 i n) hst
                  refine ⟨_, i, w', _, ?_, .inl rfl, .undef i, s2, s3, fun _ _ => ⟨rfl, rfl⟩⟩
                  obtain ⟨n', rfl⟩ : ∃ k, n = k + 1 := ⟨n - 1, by omega⟩
                  have hzr : (Builtin.zeroCells u.toV.cells (n' + 1)).toList = zeroV u.toV.cells.toList (n' + 1) := by rw [zeroCells_row]
                  simp [execOp, resolve, invoke, builtin, Builtin.clear_, Sem.run_bind, Result.andThen, hmap, ht, run_underlying hu, (run_pZero hzv w).1, hzr, s1]
                  rfl
                · cases e
          · cases hx
        · cases e
      · cases e
    · cases e
  · exact hpure e

end Go.Proofs.YtkdjllolnlndkaaD
