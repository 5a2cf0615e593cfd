/-
  append, slices of rows, places in rows.
-/
import Derived.Test.YtkdjllolnlndkaaTOps2
set_option linter.unusedVariables false
set_option linter.unusedSimpArgs false
namespace Go.Proofs.YtkdjllolnlndkaaD
open Go Go.RowKit

variable {P : Program} {N : Nat} {i : Inj} {h : HF} {w : World}

theorem setR_mid : ∀ (xs : List CV) (a b c : List CV) (j : Nat), j + xs.length ≤ b.length → setR (a ++ (b ++ c)) (a.length + j) xs = a ++ (setR b j xs ++ c)
  | [], a, b, c, j, h => rfl
  | x :: xs, a, b, c, j, h => by
    simp only [setR, List.length_cons] at h ⊢
    have h1 : (a ++ (b ++ c)).set (a.length + j) x = a ++ (b.set j x ++ c) := by
      rw [List.set_append, if_neg (by omega), Nat.add_sub_cancel_left, List.set_append, if_pos (by omega)]
    rw [h1, Nat.add_assoc, setR_mid xs a (b.set j x) c (j + 1) (by simp; omega)]

theorem setR_all : ∀ (xs b : List CV), xs.length = b.length → setR b 0 xs = xs := by
  intro xs b hl
  apply List.ext_getElem?
  intro k
  rw [setR_get xs b 0 (by omega)]
  split
  · rfl
  · rw [List.getElem?_eq_none (by omega), List.getElem?_eq_none (by omega)]

theorem setR_rows (r : RC) (l ys : List r.den) (o : Nat) (h : o + ys.length ≤ l.length) : setR (r.all l) (o * r.z) (r.all ys) = r.all (l.take o ++ ys ++ l.drop (o + ys.length)) := by
  have h1 : l = l.take o ++ ((l.drop o).take ys.length ++ l.drop (o + ys.length)) := by
    rw [← List.drop_drop, List.take_append_drop, List.take_append_drop]
  have h2 : (r.all (l.take o)).length = o * r.z := by rw [r.all_length]; congr 1; simp; omega
  have h3 : (r.all ((l.drop o).take ys.length)).length = ys.length * r.z := by rw [r.all_length]; congr 1; simp; omega
  have h4 : r.all l = r.all (l.take o) ++ (r.all ((l.drop o).take ys.length) ++ r.all (l.drop (o + ys.length))) := by rw [← r.all_append, ← r.all_append, ← h1]
  rw [h4, ← h2]
  have := setR_mid (r.all ys) (r.all (l.take o)) (r.all ((l.drop o).take ys.length)) (r.all (l.drop (o + ys.length))) 0 (by rw [h3, r.all_length]; omega)
  rw [Nat.add_zero] at this
  rw [this, setR_all _ _ (by rw [h3, r.all_length]), r.all_append, r.all_append, List.append_assoc]

theorem frz1_ok {ro : Nat} {x x2 : CV} {ef : Eff} (e : frz1 ro h x = some (x2, ef)) : cellOk x2 = true ∧ x ≠ .junk := by
  unfold frz1 at e
  split at e
  · split at e
    · rename_i r l hb
      cases hc : (Nat.ble ro _ && Nat.beq _ r.z) with
      | false => rw [hc] at e; cases e
      | true => rw [hc] at e; cases e; exact ⟨rfl, by simp⟩
    · cases e
  all_goals first
    | (cases e; exact ⟨rfl, by simp⟩)
    | cases e
theorem frzL_ok {ro : Nat} : ∀ {xs : List CV} {h : HF} {xs2 : List CV} {ef : Eff}, frzL ro h xs = some (xs2, ef) → xs2.all cellOk = true
  | [], h, xs2, ef, e => by simp only [frzL, Option.some.injEq, Prod.mk.injEq] at e; obtain ⟨rfl, rfl⟩ := e; rfl
  | x :: xs, h, xs2, ef, e => by
    simp only [frzL] at e
    split at e
    · rename_i v' e1 h1
      split at e
      · rename_i vs es h2
        cases e
        simp only [List.all_cons, (frz1_ok h1).1, frzL_ok h2, Bool.and_self]
      · cases e
    · cases e

theorem CRel.weaken {vs vs2 : List CV} {g : Img} {ez m : Nat} (h : CRel N i w g vs ez m) (hl : vs2.length = vs.length) (hr : ∀ ys, LRel i vs ys → LRel i vs2 ys) : CRel N i w g vs2 ez m := by
  obtain ⟨h1, h2, h3, ⟨vs', h4, h5⟩, h6⟩ := h
  exact ⟨by rw [h1, hl], h2, h3, ⟨vs', hr _ h4, h5⟩, fun hm => by rw [hl]; exact h6 hm⟩

theorem tappend_sound (R : Rel P N i h w) {ro id : Nat} (hi : i.free id) {ts : Array TypeId} {ty t u e' : TypeId} {r : RC} {it : TypeInfo} {d : TypeDesc} (h0 : ts[0]? = some t) (h1 : ts[1]? = some u) (hu : P.underlying t = some (.slice e')) (hd : P.underlying u = some d)
    (hnd : isIntD d = false) (hit : P.info? e' = some it) {x y v : CV} {x' y' : Value} {ef : Eff} (hx : VRel i x x') (hy : VRel i y y')
    (e : (tappend ro id r it x y h).ev = some (v, ef)) : Does P N ro id i h w (do pure (Next.value (← Builtin.append_ ts ty #[x', y']))) v (eall h ef) := by
  unfold tappend at e
  obtain ⟨hc, e0⟩ := ev_bif e
  clear e
  simp only [Bool.and_eq_true, nble, nbeq, decide_eq_true_eq] at hc
  obtain ⟨⟨⟨hb1, hb2⟩, hsz⟩, hzo⟩ := hc
  obtain ⟨zv, hzv, hzs⟩ : ∃ zv, it.zero = some zv ∧ zv.cells.size = r.z := by
    unfold zeroOk at hzo
    split at hzo
    · rename_i zv hz; rw [nbeq, decide_eq_true_eq] at hzo; exact ⟨zv, hz, hzo⟩
    · cases hzo
  obtain ⟨⟨ys, ef1⟩, he1, e⟩ := ev_bind _ e0
  clear e0
  simp only [] at e
  obtain ⟨i1, F, hs⟩ := srcR_sound R hy he1
  rw [fupd_eall] at e
  have A : App P w ts r it t u e' d zv := ⟨h0, h1, hu, hd, hnd, hit, hzv, hzs, hb1, hb2, hsz⟩
  have hi1 : i1.free id := ⟨(F.blk id).1.trans hi.1, (F.blk id).2.trans hi.2⟩
  have hx1 := hx.mono F.step.ext
  split at e
  · obtain ⟨hroom, e⟩ := ev_when e
    obtain ⟨hid, hp⟩ := mkRow_inv e
    cases hp
    obtain ⟨_, _, rfl⟩ := hx1.nilSlice_inv
    rw [eall_append]
    exact (app_void F.rel ro hid hi1 A hs hroom).after F
  · obtain ⟨hroom, e⟩ := ev_when e
    obtain ⟨hid, hp⟩ := mkRow_inv e
    cases hp
    obtain ⟨a, rfl⟩ := hx1.empty_inv
    rw [eall_append]
    exact (app_void F.rel ro hid hi1 A hs hroom).after F
  · rename_i b z n
    split at e
    · rename_i r' l hb
      split at e
      · rename_i l2 hc
        obtain ⟨hrr, hll⟩ := rcast_eq hc
        subst hrr
        simp only [] at hll
        subst hll
        obtain ⟨hcc, e⟩ := ev_bif e
        simp only [Bool.and_eq_true, nble, nbeq, decide_eq_true_eq] at hcc
        obtain ⟨hro, hz⟩ := hcc
        obtain ⟨hroom, e⟩ := ev_when e
        obtain ⟨hid, hp⟩ := mkRow_inv e
        cases hp
        subst hz
        rw [eall_append, eall_append]
        rcases hx1.row_inv with ⟨g, a', cap', rfl, hg, hgz, hss, hcap, ha⟩ | ⟨rfl, hvd, a, rfl⟩
        · have hn := row_len F.rel hb hg rfl hss
          subst hn
          have := app_row (ty := ty) (s := 0) (n := l2.length) (c := l2.length) F.rel hid hi1 hro A hb hg hgz (by simpa using hcap) (by simpa using ha) (Nat.le_refl _) (by simp) hs (fun _ => rfl) hroom
          simp only [List.drop_zero, List.take_length] at this
          exact this.after F
        · have hl := (F.rel.void b hvd).2 _ _ hb
          subst hl
          obtain ⟨i2, F2⟩ := dead_frz F.rel hb hro
          have hid2 : fset (eall h ef1) b .dead id = none := F2.none_ id hid
          have hi2 : i2.free id := ⟨(F2.blk id).1.trans hi1.1, (F2.blk id).2.trans hi1.2⟩
          have := app_void (ty := ty) (base := a) F2.rel ro hid2 hi2 A (hs.mono F2.step.ext) (by simpa using hroom)
          have h3 := (this.after F2).after F
          simpa [eall] using h3
      · exact (ev_fail e).elim
    · exact (ev_fail e).elim
  · rename_i b z s n c
    split at e
    · rename_i r' l hb
      split at e
      · rename_i l2 hc
        obtain ⟨hrr, hll⟩ := rcast_eq hc
        subst hrr
        simp only [] at hll
        subst hll
        obtain ⟨hcc, e⟩ := ev_bif e
        simp only [Bool.and_eq_true, nble, nbeq, decide_eq_true_eq] at hcc
        obtain ⟨hro, hz⟩ := hcc
        subst hz
        rcases ev_ite e with ⟨hle, e⟩ | ⟨hle, e⟩
        · rw [nble, decide_eq_true_eq] at hle
          obtain ⟨hsc, e⟩ := ev_when e
          rw [nble, decide_eq_true_eq] at hsc
          cases ev_ret e
          rw [eall_append]
          obtain ⟨hy0, oy, hy1, hy2⟩ := hs
          rcases hx1.win_inv with ⟨g, a', cap', rfl, hg, hgz, hcap, ha, hnc⟩ | ⟨rfl, rfl, a, rfl⟩
          · have hcc : c ≤ cap' := by rcases hcap with rfl | ⟨_, _, h3, _⟩ <;> omega
            have hxl : ((s + n) * r'.z) + (r'.all ys).length ≤ (r'.all l2).length := by
              rw [r'.all_length, r'.all_length, ← Nat.add_mul]; exact Nat.mul_le_mul_right _ (by omega)
            obtain ⟨w', q1, q2, q3⟩ := CRel.store (ob2 := .rows r' (l2.take (s + n) ++ ys ++ l2.drop (s + n + ys.length))) F.rel hb hg hro rfl (F.rel.obj b _ g hb hg) (fun {w'} hcr => by
              rw [setR_rows r' l2 ys (s + n) (by omega)] at hcr; exact hcr) (by decide) hxl (r'.all_ok ys) hy1
            have hst : ∀ a, some a' = some a → (storeCells (a.add (n * it.size)) oy).run P w = .ok () w' := by
              intro a hh
              cases hh
              by_cases hc0 : cap' = 0
              · have h1 : ys.length = 0 := by omega
                have l2 := lrel_len hy1 (r'.all_length ys)
                have : oy = [] := by cases oy with | nil => rfl | cons _ _ => simp [h1] at l2
                subst this
                have h5 : w' = w := by simp [storeCells] at q1; exact q1.symm
                rw [h5]; rfl
              · rw [ha hc0, A.sz, Addr.add_mk, show g.off + s * r'.z + n * r'.z = g.off + (s + n) * r'.z by rw [Nat.add_mul]; omega]; exact q1
            have hr := append_room_run (ty := ty) A.h0 A.h1 A.hu A.hd A.hnd A.hi (base := some a') (len := n) (cap := cap') (new := oy) (w' := w') (hy0 w rfl) (by omega) (by rw [A.sz]; exact hy2 w rfl) hst (fun hh => by cases hh)
            have D : Does P N ro id i1 (eall h ef1) w _ (.win b r'.z s (n + ys.length) c) (fset (eall h ef1) b (.rows r' (l2.take (s + n) ++ ys ++ l2.drop (s + n + ys.length)))) :=
              ⟨_, i1, w', _, run_v hr, .inl rfl, .win hg hgz hcap ha hle, q2, q3, fun _ _ => ⟨rfl, rfl⟩⟩
            exact D.after F
          · have h1 : ys = [] := List.eq_nil_of_length_eq_zero (by omega)
            subst h1
            have : oy = [] := hy1.nil_inv
            subst this
            have hr := append_room_run (ty := ty) A.h0 A.h1 A.hu A.hd A.hnd A.hi (base := a) (len := 0) (cap := 0) (new := []) (w' := w) (hy0 w rfl) (Nat.le_refl _) (by rw [A.sz]; exact hy2 w rfl) (fun a _ => rfl) (fun _ => rfl)
            have hsame : fset (eall h ef1) b (.rows r' (l2.take (s + 0) ++ [] ++ l2.drop (s + 0 + ([] : List r'.den).length))) = eall h ef1 := by
              funext k
              by_cases hk : k = b
              · subst hk; rw [fset_eq, hb]; simp
              · rw [fset_ne _ _ hk]
            have D : Does P N ro id i1 (eall h ef1) w _ (.win b r'.z s (0 + 0) 0) (eall h ef1) :=
              ⟨_, i1, w, _, run_v hr, .inl rfl, .winVoid, F.rel, .refl _ _ _ _, fun _ _ => ⟨rfl, rfl⟩⟩
            simp only [eall]
            rw [hsame]
            exact D.after F
        · rw [nble, decide_eq_false_iff_not] at hle
          obtain ⟨hroom, e⟩ := ev_when e
          simp only [Bool.and_eq_true, nbeq, decide_eq_true_eq] at hroom
          obtain ⟨hroom, hend⟩ := hroom
          obtain ⟨hid, hp⟩ := mkRow_inv e
          cases hp
          rw [eall_append, eall_append]
          rcases hx1.win_inv with ⟨g, a', cap', rfl, hg, hgz, hcap, ha, hnc⟩ | ⟨rfl, rfl, a, rfl⟩
          · exact (app_row (ty := ty) F.rel hid hi1 hro A hb hg hgz hcap ha hnc hend hs (fun hh => (hle hh).elim) hroom).after F
          · obtain ⟨i2, F2⟩ := dead_frz F.rel hb hro
            have hid2 : fset (eall h ef1) b .dead id = none := F2.none_ id hid
            have hi2 : i2.free id := ⟨(F2.blk id).1.trans hi1.1, (F2.blk id).2.trans hi1.2⟩
            have h3 := app_void (ty := ty) (base := a) (r := r') F2.rel ro hid2 hi2 A (hs.mono F2.step.ext) (by simpa using hroom)
            have := (h3.after F2).after F
            simpa [eall] using this
      · exact (ev_fail e).elim
    · exact (ev_fail e).elim
  · rename_i b o
    split at e
    · rename_i vs ez hb
      obtain ⟨hroom, e⟩ := ev_when e
      obtain ⟨hid, hp⟩ := mkRow_inv e
      cases hp
      rw [eall_append]
      obtain ⟨g, a', cap', rfl, hg, hc, ha, hl⟩ := hx1.slice_inv
      have hgr : g.grown = false := (F.rel.obj b _ g hb hg).2.2.1
      have hce : cap' = 0 := by rcases hc with rfl | ⟨c1, _⟩; (· rfl); (· rw [hgr] at c1; cases c1)
      subst hce
      exact (app_void F.rel ro hid hi1 A hs hroom).after F
    · exact (ev_fail e).elim
  · rename_i b o len cap hno
    split at e
    · rename_i vs ez hb
      obtain ⟨⟨xs, ef2⟩, he2, e⟩ := ev_bind _ e
      simp only [] at e
      obtain ⟨hroom, e⟩ := ev_when e
      simp only [Bool.and_eq_true, Nat.blt_eq] at hroom
      obtain ⟨hroom, hcap⟩ := hroom
      obtain ⟨hid, hp⟩ := mkRow_inv e
      cases hp
      obtain ⟨i2, F2, hs2⟩ := srcR_sound F.rel hx1 he2
      rw [fupd_eall, eall_append] at hid
      rw [eall_append, eall_append]
      have hi2 : i2.free id := ⟨(F2.blk id).1.trans hi1.1, (F2.blk id).2.trans hi1.2⟩
      obtain ⟨g, a', cap', rfl, hg, hc, ha, hl⟩ := hx1.slice_inv
      have hgr : g.grown = false := (F.rel.obj b _ g hb hg).2.2.1
      have hce : cap' = cap := by rcases hc with rfl | ⟨c1, _⟩; (· rfl); (· rw [hgr] at c1; cases c1)
      have hxl : len = xs.length := by
        have := hs2.1 w rfl
        simp [Builtin.lenOf] at this
        exact this
      subst hxl
      exact ((app_new (ty := ty) F2.rel ro hid hi2 A hs2 (hs.mono F2.step.ext) (by omega) hroom).after F2).after F
    · exact (ev_fail e).elim
  · exact (ev_fail e).elim

end Go.Proofs.YtkdjllolnlndkaaD
