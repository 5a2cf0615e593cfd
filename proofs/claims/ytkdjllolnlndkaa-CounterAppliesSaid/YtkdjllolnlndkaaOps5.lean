/-
  The operations that make or write memory: what the pieces do.
-/
import Derived.Test.YtkdjllolnlndkaaOps4
set_option linter.unusedVariables false
set_option linter.unusedSimpArgs false
namespace Go.Proofs.YtkdjllolnlndkaaD
open Go Go.RowKit

variable {P : Program} {N : Nat} {i : Inj} {h : HF} {w : World}

def eall : HF → Eff → HF
  | h, [] => h
  | h, (b, o) :: r => eall (fset h b o) r

theorem get_setAll : ∀ (t : Tr CObj) (e : Eff), (setAll t e).get = eall t.get e
  | t, [] => rfl
  | t, (b, o) :: r => by simp only [setAll, eall]; rw [get_setAll, get_fset]

theorem setR_get : ∀ (xs vs : List CV) (o : Nat), o + xs.length ≤ vs.length → ∀ k, (setR vs o xs)[k]? = if o ≤ k ∧ k < o + xs.length then xs[k - o]? else vs[k]?
  | [], vs, o, hle, k => by simp [setR]; omega
  | x :: xs, vs, o, hle, k => by
    simp only [setR, List.length_cons] at hle ⊢
    rw [setR_get xs (vs.set o x) (o + 1) (by simp; omega)]
    by_cases h1 : o + 1 ≤ k ∧ k < o + 1 + xs.length
    · rw [if_pos h1, if_pos (by omega), show k - o = (k - (o + 1)) + 1 by omega]; simp
    · rw [if_neg h1, List.getElem?_set]
      by_cases h2 : o = k
      · subst h2
        rw [if_pos rfl, if_pos (by omega), if_pos (by omega)]; simp
      · rw [if_neg h2, if_neg (by omega)]
theorem setR_length : ∀ (xs vs : List CV) (o : Nat), (setR vs o xs).length = vs.length
  | [], vs, o => rfl
  | x :: xs, vs, o => by simp only [setR]; rw [setR_length]; simp

theorem setV_get : ∀ (xs vs : List Value) (o : Nat), o + xs.length ≤ vs.length → ∀ k, (setV vs o xs)[k]? = if o ≤ k ∧ k < o + xs.length then xs[k - o]? else vs[k]?
  | [], vs, o, hle, k => by simp [setV]; omega
  | x :: xs, vs, o, hle, k => by
    simp only [setV, List.length_cons] at hle ⊢
    rw [setV_get xs (vs.set o x) (o + 1) (by simp; omega)]
    by_cases h1 : o + 1 ≤ k ∧ k < o + 1 + xs.length
    · rw [if_pos h1, if_pos (by omega), show k - o = (k - (o + 1)) + 1 by omega]; simp
    · rw [if_neg h1, List.getElem?_set]
      by_cases h2 : o = k
      · subst h2
        rw [if_pos rfl, if_pos (by omega), if_pos (by omega)]; simp
      · rw [if_neg h2, if_neg (by omega)]
theorem setV_length : ∀ (xs vs : List Value) (o : Nat), (setV vs o xs).length = vs.length
  | [], vs, o => rfl
  | x :: xs, vs, o => by simp only [setV]; rw [setV_length]; simp

theorem setCells_size (b : Nat) : ∀ (vs : List Value) (o : Nat) (w : World), (w.setCells b o vs).heap.size = w.heap.size
  | [], o, w => rfl
  | v :: r, o, w => by rw [World.setCells, setCells_size]; simp
theorem setCells_tape (b : Nat) : ∀ (vs : List Value) (o : Nat) (w : World), (w.setCells b o vs).tape = w.tape
  | [], o, w => rfl
  | v :: r, o, w => by rw [World.setCells, setCells_tape]; rfl

theorem setCells_os (b : Nat) : ∀ (vs : List Value) (o : Nat) (w : World), (w.setCells b o vs).os = w.os
  | [], o, w => rfl
  | v :: r, o, w => by rw [World.setCells, setCells_os]; rfl
theorem setCells_output (b : Nat) : ∀ (vs : List Value) (o : Nat) (w : World), (w.setCells b o vs).output = w.output
  | [], o, w => rfl
  | v :: r, o, w => by rw [World.setCells, setCells_output]; rfl
theorem setCells_other (b : Nat) {B : Nat} (hne : B ≠ b) : ∀ (vs : List Value) (o : Nat) (w : World), (w.setCells b o vs).heap[B]? = w.heap[B]?
  | [], o, w => rfl
  | v :: r, o, w => by rw [World.setCells, setCells_other b hne, Below.heap_setCell _ _ _ _ (by simpa using hne)]

theorem cellOk_one {v : Value} (e : vcellOk v = true) : v.oneCell' = true := by cases v <;> first | rfl | simp [vcellOk] at e

theorem LRel.cellOk {xs : List CV} {ys : List Value} (hl : LRel i xs ys) (e : xs.all Go.Proofs.YtkdjllolnlndkaaD.cellOk = true) : ∀ v ∈ ys, v.oneCell' = true := by
  intro v hv
  obtain ⟨k, hk, hkv⟩ := List.mem_iff_getElem.1 hv
  have hk' : k < xs.length := by rw [hl.len]; exact hk
  have := hl.at_ k xs[k] v (List.getElem?_eq_getElem hk') (by rw [List.getElem?_eq_getElem hk, hkv])
  exact cellOk_one (cellOk_rel this (List.all_eq_true.1 e _ (List.getElem_mem hk')))

/-- A store of a row of cells. -/
theorem CRel.store (R : Rel P N i h w) {ro b o ez m : Nat} {ob ob2 : CObj} {vs xs : List CV} {ys : List Value} {g : Img} (hb : h b = some ob) (hg : i b = some g) (hro : ro ≤ b) (hwr : wr ob = true)
    (hc : CRel N i w g vs ez m) (h2c : ∀ {w' : World}, CRel N i w' g (setR vs o xs) ez m → ORel P N i w' g ob2) (hm : m ≠ 2) (hle : o + xs.length ≤ vs.length) (hok : xs.all cellOk = true) (hl : LRel i xs ys) :
    ∃ w', (storeCells ⟨g.B, g.off + o, none⟩ ys).run P w = .ok () w' ∧ Rel P N i (fset h b ob2) w' ∧ Step ro i h w i (fset h b ob2) w' := by
  obtain ⟨h1, h2, h3, ⟨vs', h4, h5⟩, h6⟩ := hc
  obtain ⟨h7, h8, h9, h10⟩ := h6 hm
  have hlen := hl.len
  have hsome : ∀ j, j < ys.length → (w.cell? ⟨g.B, g.off + o + 0 + j, none⟩).isSome = true := fun j hj => by
    have := h9 (o + j) (by omega)
    rwa [show g.off + (o + j) = g.off + o + 0 + j by omega] at this
  have hfr : ∀ j, j < ys.length → w.frozen? ⟨g.B, g.off + o + 0 + j, none⟩ = false := fun j hj => by
    exact h10 _
  have hrun := run_storeCells_cells (P := P) g.B (g.off + o) ys 0 w hsome hfr (hl.cellOk hok)
  refine ⟨w.setCells g.B (g.off + o + 0) ys, hrun, ?_⟩
  have hin := fun k => World.cell?_setCells_in g.B ys (g.off + o + 0) w hsome k
  refine R.put hb hg hro hwr (setCells_size _ _ _ _) (setCells_os _ _ _ _) (setCells_tape _ _ _ _) (setCells_output _ _ _ _)
    (fun B hB hne => setCells_other g.B hne ys _ w) (h2c ?_)
  refine ⟨by rw [h1, setR_length], h2, h3, ⟨setV vs' o ys, h4.setR o hl, fun k v hv => ?_⟩, fun _ => ⟨h7, by rw [setR_length]; exact h8, fun k hk => World.isSome_setCells g.B ys _ w _ (h9 k hk), fun k => by rw [World.frozen?_setCells]; exact h10 k⟩⟩
  · rw [setV_get ys vs' o (by rw [← h4.len, ← hlen]; exact hle)] at hv
    split at hv
    · rename_i hc
      have hk : k - o < ys.length := by omega
      have := hin (k - o) hk
      rw [show g.off + o + 0 + (k - o) = g.off + k by omega] at this
      rw [this]
      rw [List.getElem?_eq_getElem hk] at hv; exact hv
    · rename_i hc
      rw [World.cell?_setCells_out g.B ys (g.off + o + 0) w ⟨g.B, g.off + k, none⟩ (fun _ _ => by simp only []; omega)]
      exact h5 k v hv

theorem store_sound (R : Rel P N i h w) {ro b o ez m : Nat} {vs xs : List CV} {ys : List Value} {g : Img} (hb : h b = some (.cells vs ez m)) (hg : i b = some g) (hro : ro ≤ b) (hm : m ≠ 2)
    (hle : o + xs.length ≤ vs.length) (hok : xs.all cellOk = true) (hl : LRel i xs ys) :
    ∃ w', (storeCells ⟨g.B, g.off + o, none⟩ ys).run P w = .ok () w' ∧ Rel P N i (fset h b (.cells (setR vs o xs) ez m)) w' ∧ Step ro i h w i (fset h b (.cells (setR vs o xs) ez m)) w' :=
  CRel.store R hb hg hro (by simp [wr, nbeq, hm]) (R.obj b _ g hb hg) (fun h => h) hm hle hok hl

/-- A new row of cells. -/
theorem new_sound (R : Rel P N i h w) (ro : Nat) {id : Nat} (hid : h id = none) (hi : i.free id) (t : TypeId) {vs : List CV} (ez m : Nat) {ys rest : List Value} (hl : LRel i vs ys) :
    Rel P N (upd i id ⟨w.heap.size, 0, (ys ++ rest).length, Nat.beq m 1, vs.length, ez⟩) (fset h id (.cells vs ez m)) (w.alloc (.cells (ys ++ rest).toArray t)) ∧
    Step ro i h w (upd i id ⟨w.heap.size, 0, (ys ++ rest).length, Nat.beq m 1, vs.length, ez⟩) (fset h id (.cells vs ez m)) (w.alloc (.cells (ys ++ rest).toArray t)) := by
  refine R.alloc ro hid hi _ _ _ rfl ?_
  refine ⟨rfl, rfl, rfl, ⟨ys, hl.mono (le_upd _ hi.1), fun k v hv => ?_⟩, fun _ => ⟨R.hN, by simp [hl.len], fun k hk => ?_, fun k => by rw [World.frozen?_alloc_new]⟩⟩
  · rw [Nat.zero_add, World.cell?_alloc_new]
    have : k < ys.length := (List.getElem?_eq_some_iff.1 hv).1
    simp [List.getElem?_append, this, (List.getElem?_eq_some_iff.1 hv).2]
  · rw [Nat.zero_add, World.cell?_alloc_new]
    simp only [List.getElem?_toArray, List.getElem?_eq_getElem hk, Option.isSome_some]

theorem new_rows (R : Rel P N i h w) (ro : Nat) {id : Nat} (hid : h id = none) (hi : i.free id) (t : TypeId) (r : RC) {l : List r.den} {ys rest : List Value} (hl : LRel i (r.all l) ys) :
    Rel P N (upd i id ⟨w.heap.size, 0, (ys ++ rest).length, true, (r.all l).length, r.z⟩) (fset h id (.rows r l)) (w.alloc (.cells (ys ++ rest).toArray t)) ∧
    Step ro i h w (upd i id ⟨w.heap.size, 0, (ys ++ rest).length, true, (r.all l).length, r.z⟩) (fset h id (.rows r l)) (w.alloc (.cells (ys ++ rest).toArray t)) := by
  refine R.alloc ro hid hi _ _ _ rfl ?_
  refine ⟨rfl, rfl, rfl, ⟨ys, hl.mono (le_upd _ hi.1), fun k v hv => ?_⟩, fun _ => ⟨R.hN, by simp [hl.len], fun k hk => ?_, fun k => by rw [World.frozen?_alloc_new]⟩⟩
  · rw [Nat.zero_add, World.cell?_alloc_new]
    have : k < ys.length := (List.getElem?_eq_some_iff.1 hv).1
    simp [List.getElem?_append, this, (List.getElem?_eq_some_iff.1 hv).2]
  · rw [Nat.zero_add, World.cell?_alloc_new]
    simp only [List.getElem?_toArray, List.getElem?_eq_getElem hk, Option.isSome_some]

/-- Rows of a zero value, in the model. -/
def zeroV (z : List Value) : Nat → List Value
  | 0 => []
  | n + 1 => z ++ zeroV z n
theorem zeroRow_get (z : List Value) : ∀ (n : Nat), zeroV z n = (List.range (n * z.length)).map fun j => z[j % z.length]!
  | 0 => by simp [zeroV]
  | n + 1 => by
    rw [zeroV, zeroRow_get z n]
    apply List.ext_getElem?
    intro k
    rw [List.getElem?_append]
    by_cases hk : k < z.length
    · have hk2 : k < (n + 1) * z.length := by rw [Nat.add_mul]; omega
      simp [hk, hk2, Nat.mod_eq_of_lt hk]
    · rw [if_neg hk]
      by_cases hk2 : k - z.length < n * z.length
      · have hk3 : k < (n + 1) * z.length := by rw [Nat.add_mul]; omega
        have hm : (k - z.length) % z.length = k % z.length := (Nat.mod_eq_sub_mod (by omega)).symm
        simp [hk2, hk3, hm]
      · have hk3 : ¬ k < (n + 1) * z.length := by rw [Nat.add_mul]; omega
        simp [hk2, hk3]

theorem zeroRow_array (z : Array Value) (n : Nat) : ((Array.range (n * z.size)).map fun j => z[j % z.size]!) = (zeroV z.toList n).toArray := by
  rw [zeroRow_get]
  apply Array.ext'
  simp [Array.getElem!_eq_getD]

theorem flatL_append : ∀ (a b : List CV), flatL (a ++ b) = (flatL a && flatL b)
  | [], b => by simp [flatL]
  | x :: a, b => by simp [flatL, flatL_append a b, Bool.and_assoc]
theorem flatL_zeroRow {z : List CV} (hz : flatL z = true) : ∀ n, flatL (zeroRow z n) = true
  | 0 => rfl
  | n + 1 => by rw [zeroRow, flatL_append, hz, flatL_zeroRow hz n]; rfl
theorem flat_cells {z : CV} (hz : flat z = true) : flatL z.cells.toList = true := by
  cases z <;> simp_all [CV.cells, flatL, flat, flatA_eq]
theorem toVL_zeroRow (z : List CV) : ∀ n, toVL (zeroRow z n) = zeroV (toVL z) n
  | 0 => rfl
  | n + 1 => by
    have := toVL_zeroRow z n
    rw [zeroRow, zeroV, ← this]
    simp [toVL_eq]
theorem zeroRow_rel {z : CV} (hz : flat z = true) (i : Inj) (n : Nat) : LRel i (zeroRow z.cells.toList n) (zeroV z.toV.cells.toList n) := by
  have h := LRel.of_flat (flatL_zeroRow (flat_cells hz) n) i
  rw [toVL_zeroRow, ← toV_cells (flat_not_junk hz) hz] at h
  exact h

end Go.Proofs.YtkdjllolnlndkaaD
