/-
  The operations that make and write nothing: the law, operation by operation.
-/
import Derived.Test.YtkdjllolnlndkaaOps2
set_option linter.unusedVariables false
set_option linter.unusedSimpArgs false
namespace Go.Proofs.YtkdjllolnlndkaaD
open Go Go.RowKit

variable {P : Program} {N : Nat} {i : Inj} {h : HF} {w : World}

theorem VRel.int_inv {k : IntKind} {n : Int} {y : Value} (h : VRel i (.int k n) y) : y = .int k n := by cases h; rfl
theorem VRel.bool_inv {b : Bool} {y : Value} (h : VRel i (.bool b) y) : y = .bool b := by cases h; rfl
theorem VRel.string_inv {s : ByteArray} {y : Value} (h : VRel i (.string s) y) : y = .string s := by cases h; rfl
theorem VRel.ptr_inv {b o : Nat} {y : Value} (h : VRel i (.pointer (some ⟨b, o, none⟩)) y) : ∃ g, i b = some g ∧ y = .pointer (some ⟨g.B, g.off + o, none⟩) := by cases h with | ptr hb => exact ⟨_, hb, rfl⟩
theorem VRel.slice_inv {b o len cap : Nat} {y : Value} (h : VRel i (.slice (some ⟨b, o, none⟩) len cap) y) :
    ∃ g a' cap', y = .slice (some a') len cap' ∧ i b = some g ∧ CapOk g o cap cap' ∧ (cap' ≠ 0 → a' = ⟨g.B, g.off + o, none⟩) ∧ len ≤ cap := by
  cases h with | slice hb hc ha hl => exact ⟨_, _, _, rfl, hb, hc, ha, hl⟩
theorem VRel.nilSlice_inv {len cap : Nat} {y : Value} (h : VRel i (.slice none len cap) y) : len = 0 ∧ cap = 0 ∧ y = .slice none 0 0 := by cases h; exact ⟨rfl, rfl, rfl⟩

theorem sliceOk_img (R : Rel P N i h w) {b z : Nat} {g : Img} (hs : sliceOk h b z = true) (hg : i b = some g) : g.grown = true → g.esz = z := by
  unfold sliceOk at hs
  split at hs
  · rename_i vs ez md hb
    obtain ⟨_, h2, h3, _⟩ := R.obj b _ g hb hg
    intro hgr
    rw [h3] at hgr
    simp [hgr] at hs
    rw [h2]; exact hs
  · cases hs

theorem cslice_sound (R : Rel P N i h w) {t : TypeId} {x : CV} {y : Value} {lo hi mx : Option CV} {v : CV} (hx : VRel i x y) (e : cslice P h t x lo hi mx = some v) :
    ∃ v', (Instr.sliceAt t y (lo.map CV.toV) (hi.map CV.toV) (mx.map CV.toV)).run P w = .ok v' w ∧ VRel i v v' := by
  unfold cslice at e
  split at e
  · -- a string
    rename_i s hu
    have := hx.string_inv; subst this
    split at e
    · cases e
    · split at e
      · rename_i l hh m hb
        cases e
        have := (cbounds_run (P := P) (isS := false) hb (Nat.le_refl _) w).1
        rw [Option.map_none] at this
        exact ⟨_, by simp [Instr.sliceAt, Instr.slice, Sem.run_bind, run_underlying hu, Result.andThen, this], .string _⟩
      · cases e
  · rename_i e' len cap hu
    obtain ⟨rfl, rfl, rfl⟩ := hx.nilSlice_inv
    split at e
    · rename_i l hh m z hb hz
      cases e
      obtain ⟨h1, h2, h3, h4, h5⟩ := cbounds_run (P := P) (isS := true) hb (Nat.le_refl _) w
      have e1 : m = 0 := by omega
      have e2 : hh = 0 := by omega
      have e3 : l = 0 := by omega
      subst e1; subst e2; subst e3
      simp only [ite_self] at h1
      have hr : (Instr.sliceAt t (.slice none 0 0) (lo.map CV.toV) (hi.map CV.toV) (mx.map CV.toV)).run P w = .ok (.slice none 0 0) w := by
        simp only [Instr.sliceAt, Instr.slice, Sem.run_bind, run_underlying hu, Result.andThen_ok, h1, run_pSize hz, Sem.run_pure]; rfl
      exact ⟨_, hr, .nilSlice⟩
    · cases e
  · rename_i e' b o len cap hu
    obtain ⟨g, a', cap', rfl, hg, hc, ha, hl⟩ := hx.slice_inv
    split at e
    · rename_i l hh m z hb hz
      cases hok : sliceOk h b z with
      | false => simp [hok] at e
      | true =>
        simp [hok] at e
        subst e
        have himg := sliceOk_img R hok hg
        have hcc : cap ≤ cap' := by rcases hc with rfl | ⟨_, _, h3, _⟩ <;> omega
        obtain ⟨h1, h2, h3, h4, h5⟩ := cbounds_run (P := P) (isS := true) hb hcc w
        have hr : (Instr.sliceAt t (.slice (some a') len cap') (lo.map CV.toV) (hi.map CV.toV) (mx.map CV.toV)).run P w = .ok (.slice (if (if mx = none then cap' else m) = l then some a' else (some a').map (·.add (l * z))) (hh - l) ((if mx = none then cap' else m) - l)) w := by
          simp only [Instr.sliceAt, Instr.slice, Sem.run_bind, run_underlying hu, Result.andThen_ok, h1, run_pSize hz, Sem.run_pure]
        refine ⟨_, hr, ?_⟩
        have hres : ∀ m' : Nat, m ≤ m' → (m' = m ∨ (mx = none ∧ m' = cap')) → m' ≤ cap' →
            VRel i (.slice (some ⟨b, o + l * z, none⟩) (hh - l) (m - l)) (.slice (if m' = l then some a' else (some a').map (·.add (l * z))) (hh - l) (m' - l)) := by
          intro m' hm1 hm2 hm3
          have hsome : ∃ a'', (if m' = l then some a' else (some a').map (·.add (l * z))) = some a'' ∧ (m' - l ≠ 0 → a'' = ⟨g.B, g.off + (o + l * z), none⟩) := by
            by_cases hml : m' = l
            · rw [if_pos hml]; exact ⟨a', rfl, fun hne => by omega⟩
            · rw [if_neg hml]
              refine ⟨_, rfl, fun hne => ?_⟩
              rw [ha (by omega)]; show (⟨g.B, g.off + o, none⟩ : Addr).add (l * z) = _; rw [Addr.add_mk]; congr 1; omega
          obtain ⟨a'', e1, e2⟩ := hsome
          rw [e1]
          refine .slice hg ?_ e2 (by omega)
          rcases hm2 with rfl | ⟨hmn, rfl⟩
          · exact .inl rfl
          · rcases hc with rfl | ⟨hgr, h6, h7, h8, h9⟩
            · have := h5 hmn; subst this; exact .inl rfl
            · have e3 := himg hgr
              have := h5 hmn; subst this
              refine .inr ⟨hgr, ?_, by omega, ?_, by omega⟩
              · rw [e3] at h6 ⊢
                have : l * z + (m - l) * z = m * z := by rw [← Nat.add_mul]; congr 1; omega
                omega
              · rw [e3] at h8 ⊢
                have : l * z + (m' - l) * z = m' * z := by rw [← Nat.add_mul]; congr 1; omega
                omega
        by_cases hmn : mx = none
        · simp only [hmn, if_true]
          have := h5 hmn
          exact hres cap' (by omega) (.inr ⟨hmn, rfl⟩) (Nat.le_refl _)
        · simp only [hmn, if_false]
          exact hres m (Nat.le_refl _) (.inl rfl) (by omega)
    · cases e
  · rename_i a b o hu
    obtain ⟨g, hg, rfl⟩ := hx.ptr_inv
    split at e
    · rename_i n e' hu2
      split at e
      · rename_i l hh m z hb hz
        cases e
        obtain ⟨h1, h2, h3, h4, h5⟩ := cbounds_run (P := P) (isS := false) hb (Nat.le_refl _) w
        have hm : (if mx = none then n else m) = m := by
          by_cases hmn : mx = none
          · rw [if_pos hmn, h5 hmn]
          · rw [if_neg hmn]
        rw [hm] at h1
        have hr : (Instr.sliceAt t (.pointer (some ⟨g.B, g.off + o, none⟩)) (lo.map CV.toV) (hi.map CV.toV) (mx.map CV.toV)).run P w = .ok (.slice (some (if m = l then (⟨g.B, g.off + o, none⟩ : Addr) else (⟨g.B, g.off + o, none⟩ : Addr).add (l * z))) (hh - l) (m - l)) w := by
          simp only [Instr.sliceAt, Instr.slice, Sem.run_bind, run_underlying hu, run_underlying hu2, Result.andThen_ok, h1, run_pSize hz, Sem.run_pure, asAddr]
        refine ⟨_, hr, ?_⟩
        have hc' : ∃ a'', (if m = l then (⟨g.B, g.off + o, none⟩ : Addr) else (⟨g.B, g.off + o, none⟩ : Addr).add (l * z)) = a'' ∧ (m - l ≠ 0 → a'' = ⟨g.B, g.off + (o + l * z), none⟩) := by
          by_cases hml : m = l
          · rw [if_pos hml]; exact ⟨_, rfl, fun hne => by omega⟩
          · rw [if_neg hml, Addr.add_mk]; exact ⟨_, rfl, fun _ => by congr 1; omega⟩
        obtain ⟨a'', e1, e2⟩ := hc'
        rw [e1]
        exact .slice hg (.inl rfl) e2 (by omega)
      · cases e
    · cases e
  · rename_i n e' b o hu
    obtain ⟨g, hg, rfl⟩ := hx.ptr_inv
    split at e
    · rename_i l hh m z hb hz
      cases e
      obtain ⟨h1, h2, h3, h4, h5⟩ := cbounds_run (P := P) (isS := false) hb (Nat.le_refl _) w
      have hm : (if mx = none then n else m) = m := by
        by_cases hmn : mx = none
        · rw [if_pos hmn, h5 hmn]
        · rw [if_neg hmn]
      rw [hm] at h1
      have hr : (Instr.sliceAt t (.pointer (some ⟨g.B, g.off + o, none⟩)) (lo.map CV.toV) (hi.map CV.toV) (mx.map CV.toV)).run P w = .ok (.slice (some (if m = l then (⟨g.B, g.off + o, none⟩ : Addr) else (⟨g.B, g.off + o, none⟩ : Addr).add (l * z))) (hh - l) (m - l)) w := by
        simp only [Instr.sliceAt, Instr.sureAddr, Sem.run_bind, run_underlying hu, Result.andThen_ok, h1, run_pSize hz, Sem.run_pure]
      refine ⟨_, hr, ?_⟩
      have hc' : ∃ a'', (if m = l then (⟨g.B, g.off + o, none⟩ : Addr) else (⟨g.B, g.off + o, none⟩ : Addr).add (l * z)) = a'' ∧ (m - l ≠ 0 → a'' = ⟨g.B, g.off + (o + l * z), none⟩) := by
        by_cases hml : m = l
        · rw [if_pos hml]; exact ⟨_, rfl, fun hne => by omega⟩
        · rw [if_neg hml, Addr.add_mk]; exact ⟨_, rfl, fun _ => by congr 1; omega⟩
      obtain ⟨a'', e1, e2⟩ := hc'
      rw [e1]
      exact .slice hg (.inl rfl) e2 (by omega)
    · cases e
  · cases e

end Go.Proofs.YtkdjllolnlndkaaD
