/-
  append, as the reference run has it.
-/
import Derived.Test.YtkdjllolnlndkaaOps6
set_option linter.unusedVariables false
set_option linter.unusedSimpArgs false
namespace Go.Proofs.YtkdjllolnlndkaaD
open Go Go.RowKit

variable {P : Program} {N : Nat} {i : Inj} {h : HF} {w : World}

theorem isIntT_false {u : TypeId} (e : isIntT P u = false) : ∃ d, P.underlying u = some d ∧ isIntD d = false := by
  unfold isIntT at e
  cases hu : P.underlying u with
  | none => rw [hu] at e; cases e
  | some d => rw [hu] at e; exact ⟨d, rfl, by cases d <;> first | rfl | (cases e; done)⟩

theorem cstoreCells_inv {ro b o : Nat} {xs : List CV} {ef : Eff} (e : cstoreCells ro h b o xs = some ef) :
    ∃ vs ez m, h b = some (.cells vs ez m) ∧ ro ≤ b ∧ m ≠ 2 ∧ o + xs.length ≤ vs.length ∧ xs.all cellOk = true ∧ ef = [(b, .cells (setR vs o xs) ez m)] := by
  unfold cstoreCells at e
  split at e
  · rename_i vs ez m hb
    rw [nble, nbeq, nble] at e
    by_cases hc : ro ≤ b ∧ m ≠ 2 ∧ o + xs.length ≤ vs.length ∧ xs.all cellOk = true
    · obtain ⟨c1, c2, c3, c4⟩ := hc
      simp only [c1, c2, c3, c4, decide_true, decide_false, Bool.not_false, Bool.and_self, cond_true] at e
      cases e
      exact ⟨vs, ez, m, hb, c1, c2, c3, c4, rfl⟩
    · have : (decide (ro ≤ b) && !decide (m = 2) && decide (o + xs.length ≤ vs.length) && xs.all cellOk) = false := by
        rw [Bool.eq_false_iff]; intro hh; simp only [Bool.and_eq_true, decide_eq_true_eq, Bool.not_eq_true', decide_eq_false_iff_not] at hh
        exact hc ⟨hh.1.1.1, hh.1.1.2, hh.1.2, hh.2⟩
      rw [this] at e; cases e
  · cases e

theorem csrc_inv {z n b o l c : Nat} {xs vs : List CV} {ez m : Nat} (e : csrc h z n (.slice (some ⟨b, o, none⟩) l c) = some xs) (hb : h b = some (.cells vs ez m)) :
    n ≤ l ∧ o + n * z ≤ vs.length ∧ xs = (vs.drop o).take (n * z) := by
  simp only [csrc, hb] at e
  rw [nble, nble] at e
  by_cases hle : n ≤ l ∧ o + n * z ≤ vs.length
  · simp [hle.1, hle.2] at e
    exact ⟨hle.1, hle.2, e.symm⟩
  · have : (decide (n ≤ l) && decide (o + n * z ≤ vs.length)) = false := by simpa using hle
    simp [this] at e

theorem lenOf_run {x : CV} {y : Value} {n : Nat} (hv : VRel i x y) (e : clenOf x = some n) (w : World) : (Builtin.lenOf y).run P w = .ok n w := by
  unfold clenOf at e
  split at e
  · cases e; cases hv <;> rfl
  · cases e; cases hv; rfl
  · cases e

theorem Rel.other {w' : World} (R : Rel P N i h w) (e : w'.heap = w.heap) : Rel P N i h w' := R.drawn e

/-- The step of a row in a new array. -/
theorem does_new (R : Rel P N i h w) (ro : Nat) {id : Nat} (hid : h id = none) (hi : i.free id) {s : Sem Next} {t : TypeId} {vs : List CV} {ys rest : List Value} {ez need cap' : Nat} (hl : LRel i vs ys) (hlen : vs.length = need * ez)
    (hrest : (ys ++ rest).length = cap' * ez) (hcc : need ≤ cap' ∧ cap' ≤ 9223372036854775807)
    (hs : s.run P w = .ok (.value (.slice (some ⟨w.heap.size, 0, none⟩) need cap')) ({ w with drawn := w.drawn + 1 }.alloc (.cells (ys ++ rest).toArray t))) :
    Does P N ro id i h w s (.slice (some ⟨id, 0, none⟩) need need) (fset h id (.cells vs ez 1)) := by
  have R1 : Rel P N i h { w with drawn := w.drawn + 1 } := R.drawn rfl
  obtain ⟨R', S'⟩ := new_sound R1 ro hid hi t ez 1 (rest := rest) hl
  have S0 : Step ro i h w i h { w with drawn := w.drawn + 1 } := Step.drawn rfl rfl rfl rfl
  refine ⟨_, _, _, _, hs, .inl rfl, ?_, R', S0.trans S', fun b hb => ⟨upd_ne i _ hb, rfl⟩⟩
  refine .slice (upd_same i id _) ?_ (fun _ => rfl) (Nat.le_refl _)
  exact .inr ⟨rfl, by simp [hlen], hcc.1, by simp only [Nat.zero_add]; rw [hrest]; exact Nat.le_refl _, hcc.2⟩

theorem zeroCells_size (z : Array Value) (n : Nat) : (Builtin.zeroCells z n).toList.length = n * z.size := by simp [Builtin.zeroCells]

set_option maxHeartbeats 1000000 in
theorem cappend_sound (R : Rel P N i h w) {ro id : Nat} (hi : i.free id) {ts : Array TypeId} {ty : TypeId} {x y v : CV} {x' y' : Value} {ef : Eff} (hx : VRel i x x') (hy : VRel i y y')
    (e : cappend P ro id ts x y h = some (v, ef)) : Does P N ro id i h w (do pure (Next.value (← Builtin.append_ ts ty #[x', y']))) v (eall h ef) := by
  unfold cappend at e
  split at e
  · rename_i t u base len cap h0 h1
    split at e
    · rename_i e' hu hnt
      obtain ⟨d, hd, hnd⟩ := isIntT_false hnt
      split at e
      · rename_i it n hit hn
        split at e
        · cases e
        · rename_i new hnew
          obtain ⟨ys, hr1, hl1, hlen1⟩ := csrc_sound R hy hn (Nat.le_refl n) hnew
          have hnr := fun w => lenOf_run (P := P) hy hn w
          rw [nble] at e
          by_cases hcap : len + n ≤ cap
          · simp only [hcap, decide_true, cond_true] at e
            rcases base with _ | ⟨b, o, _ | sp⟩
            rotate_left
            · simp only [] at e
              obtain ⟨g, a', cap', rfl, hg, hc, ha, hl⟩ := hx.slice_inv
              have hcc : cap ≤ cap' := by rcases hc with rfl | ⟨_, _, h3, _⟩ <;> omega
              rw [nbeq] at e
              by_cases hn0 : n = 0
              · simp only [hn0, decide_true, cond_true] at e
                cases e
                subst hn0
                have hys : ys = [] := by have := hl1.len; rw [hlen1] at this; cases ys <;> simp_all
                subst hys
                have hr := append_room_run (ty := ty) h0 h1 hu hd hnd hit (base := some a') (w' := w) (hnr w) (Nat.le_trans hcap hcc) (hr1 w rfl) (fun a _ => rfl) (fun _ => rfl)
                exact ⟨_, i, w, _, run_v hr, .inl rfl, .slice hg hc ha (by omega), R, .refl _ _ _ _, fun _ _ => ⟨rfl, rfl⟩⟩
              · simp only [hn0, decide_false, cond_false] at e
                split at e
                · rename_i ef' hst
                  cases e
                  obtain ⟨vs, ez, m, hb, c1, c2, c3, c4, rfl⟩ := cstoreCells_inv hst
                  have hcap0 : cap' ≠ 0 := by omega
                  have := ha hcap0; subst this
                  obtain ⟨w', h2, h3, h4⟩ := store_sound (P := P) R hb hg c1 c2 c3 c4 hl1
                  have hr := append_room_run (ty := ty) h0 h1 hu hd hnd hit (base := some ⟨g.B, g.off + o, none⟩) (w' := w') (hnr w) (Nat.le_trans hcap hcc) (hr1 w rfl) (fun a hh => by cases hh; rw [Addr.add_mk, Nat.add_assoc]; exact h2) (fun hh => by cases hh)
                  exact ⟨_, i, w', _, run_v hr, .inl rfl, .slice hg hc ha (by omega), h3, h4, fun _ _ => ⟨rfl, rfl⟩⟩
                · cases e
            · cases hx
            · simp only [] at e
              cases e
              obtain ⟨rfl, rfl, rfl⟩ := hx.nilSlice_inv
              have hn0 : n = 0 := by omega
              subst hn0
              have hr := append_room_run (ty := ty) h0 h1 hu hd hnd hit (base := none) (w' := w) (hnr w) hcap (hr1 w rfl) (fun a hh => by cases hh) (fun _ => rfl)
              exact ⟨_, i, w, _, run_v hr, .inl rfl, .nilSlice, R, .refl _ _ _ _, fun _ _ => ⟨rfl, rfl⟩⟩
          · simp only [hcap, decide_false, cond_false] at e
            rw [nble, nble, nble, nble] at e
            by_cases hcond : (decide ((len + n) * it.bytes ≤ 2 ^ 40) && decide (1 ≤ it.bytes) && decide (it.bytes ≤ 2 ^ 20) && decide (1 ≤ it.size) && new.all cellOk) = true
            · rw [hcond] at e
              simp only [cond_true] at e
              simp only [Bool.and_eq_true, decide_eq_true_eq] at hcond
              obtain ⟨⟨⟨⟨q1, q2⟩, q3⟩, q4⟩, q5⟩ := hcond
              split at e
              · rename_i z old hz hold
                rw [nbeq] at e
                obtain ⟨zv, hzv, hzf, hze, hzt, hzl⟩ := zeroOf_inv hz
                have hzsz : zv.cells.size = z.cells.size := by
                  have := (LRel.cells_flat hzl i).len
                  rw [hzt] at this
                  simpa using this.symm
                by_cases hzs : z.cells.size = it.size
                · simp only [hzs, decide_true, cond_true] at e
                  rw [hzs] at hzsz
                  -- what a new array comes to
                  have key : ∀ (base' : Option Addr) (cap' : Nat), x' = .slice base' len cap' → cap' < len + n → h id = none → Does P N ro id i h w (do pure (Next.value (← Builtin.append_ ts ty #[x', y']))) (.slice (some ⟨id, 0, none⟩) (len + n) (len + n)) (fset h id (.cells (old ++ new) it.size 1)) := by
                    intro base' cap' hx' hlt hid
                    subst hx'
                    obtain ⟨os, hr2, hl2, hlen2⟩ := csrc_sound R hx rfl (Nat.le_refl len) hold
                    obtain ⟨nc, hnc, hrun⟩ := append_new_run (ty := ty) h0 h1 hu hd hnd hit hzv (hnr w) hlt q1 q2 q3 hr2 hr1
                    refine does_new R ro hid hi (hl2.append hl1) (by rw [List.length_append, hlen1, hlen2, ← Nat.add_mul]) ?_ hnc (run_v hrun)
                    have l1 := hl1.len
                    have l2 := hl2.len
                    simp only [List.length_append, zeroCells_size, hzsz]
                    rw [← l1, ← l2, hlen1, hlen2, ← Nat.add_mul, ← Nat.add_mul]
                    congr 1; omega
                  rcases base with _ | ⟨b, o, _ | sp⟩
                  rotate_left
                  · simp only [] at e
                    obtain ⟨g, a', cap', rfl, hg, hc, ha, hl⟩ := hx.slice_inv
                    split at e
                    · rename_i vs ez m hb
                      obtain ⟨g1, g2, g3, ⟨vs', g4, g5⟩, g6⟩ := R.obj b _ g hb hg
                      have hlow : ∀ hid : h id = none, cap' = cap → Does P N ro id i h w (do pure (Next.value (← Builtin.append_ ts ty #[.slice (some a') len cap', y']))) (.slice (some ⟨id, 0, none⟩) (len + n) (len + n)) (fset h id (.cells (old ++ new) it.size 1)) :=
                        fun hid hce => key (some a') cap' rfl (by omega) hid
                      rw [nbeq, nbeq, nble, nbeq, nbeq, nble] at e
                      by_cases hgr : m = 1 ∧ o + cap * it.size = vs.length
                      · obtain ⟨hm1, hend⟩ := hgr
                        simp only [hm1, hend, decide_true, Bool.and_self, cond_true] at e
                        by_cases hk : ro ≤ b ∧ ez = it.size ∧ id ≠ b ∧ cap ≤ 4611686018427387904
                        · obtain ⟨k1, k2, k3, k4⟩ := hk
                          simp only [k1, k2, k3, k4, decide_true, decide_false, Bool.not_false, Bool.and_self, cond_true] at e
                          split at e
                          · rename_i hid
                            cases e
                            subst hm1
                            obtain ⟨g7, g8, g9, g10⟩ := g6 (by decide)
                            obtain ⟨_, hob, hoe⟩ := csrc_inv hold hb
                            obtain ⟨os, hl2, hol, hcells⟩ := R.cellsAt hb hg hob
                            rw [← hoe] at hl2
                            have hlen2 : old.length = len * it.size := by rw [hl2.len, hol]
                            by_cases hroom : len + n ≤ cap'
                            · -- in its place
                              have hcap0 : cap' ≠ 0 := by omega
                              have := ha hcap0; subst this
                              have hgrown : g.grown = true := by rw [g3]; rfl
                              have hck : o + cap' * it.size ≤ g.total := by
                                rcases hc with hce | ⟨c1, c2, c3, c4, c5⟩
                                · rw [hce, hend]; exact g8
                                · rw [g2, k2] at c4; exact c4
                              have hys : ys.length = n * it.size := by rw [← hl1.len]; exact hlen1
                              have hmul : len * it.size + n * it.size ≤ cap' * it.size := by rw [← Nat.add_mul]; exact Nat.mul_le_mul_right _ hroom
                              have hsome : ∀ j, j < ys.length → (w.cell? ⟨g.B, g.off + (o + len * it.size) + 0 + j, none⟩).isSome = true := fun j hj => by
                                have := g9 (o + len * it.size + j) (by omega)
                                rwa [show g.off + (o + len * it.size + j) = g.off + (o + len * it.size) + 0 + j by omega] at this
                              have hfr : ∀ j, j < ys.length → w.frozen? ⟨g.B, g.off + (o + len * it.size) + 0 + j, none⟩ = false := fun j hj => by
                                exact g10 _
                              have hrun := run_storeCells_cells (P := P) g.B (g.off + (o + len * it.size)) ys 0 w hsome hfr (hl1.cellOk q5)
                              have hr := append_room_run (ty := ty) h0 h1 hu hd hnd hit (base := some ⟨g.B, g.off + o, none⟩) (w' := w.setCells g.B (g.off + (o + len * it.size) + 0) ys) (hnr w) hroom (hr1 w rfl)
                                (fun a hh => by cases hh; rw [Addr.add_mk, Nat.add_assoc]; exact hrun) (fun hh => by cases hh)
                              have hcin := fun k => World.cell?_setCells_in g.B ys (g.off + (o + len * it.size) + 0) w hsome k
                              have hRG := R.regrow (w' := w.setCells g.B (g.off + (o + len * it.size) + 0) ys) (ro := ro) (b := b) (id := id) (g2 := ⟨g.B, g.off + o, g.total - o, true, (len + n) * it.size, it.size⟩) hb hg k1 (by simp [wr, nbeq]) hid hi (setCells_size _ _ _ _) (setCells_os _ _ _ _) (setCells_tape _ _ _ _) (setCells_output _ _ _ _)
                                (fun B hB hne => setCells_other g.B hne ys _ w) rfl (ob := .cells (old ++ new) it.size 1) (by
                                  refine ⟨by simp [hlen1, hlen2, Nat.add_mul], rfl, rfl, ⟨os ++ ys, (hl2.append hl1).mono (le_upd _ hi.1), fun k v hv => ?_⟩, fun _ => ⟨g7, by simp [hlen1, hlen2]; omega, fun k hk => ?_, fun k => by rw [World.frozen?_setCells]; exact g10 k⟩⟩
                                  · rw [List.getElem?_append] at hv
                                    split at hv
                                    · rename_i hk
                                      rw [World.cell?_setCells_out g.B ys _ w _ (fun _ _ => by simp only []; omega)]
                                      exact hcells k v hv
                                    · rename_i hk
                                      have hk2 : k - os.length < ys.length := (List.getElem?_eq_some_iff.1 hv).1
                                      have := hcin (k - os.length) hk2
                                      rw [show g.off + (o + len * it.size) + 0 + (k - os.length) = g.off + o + k by omega] at this
                                      rw [this, ← (List.getElem?_eq_some_iff.1 hv).2]
                                  · have := g9 (o + k) (by simp at hk; omega)
                                    rw [← Nat.add_assoc] at this
                                    exact World.isSome_setCells g.B ys _ w _ this)
                              refine ⟨_, _, _, _, run_v hr, .inl rfl, ?_, hRG.1, hRG.2, fun b hb => ⟨upd_ne i _ hb, rfl⟩⟩
                              refine VRel.slice (upd_same i id _) (.inr ⟨rfl, by simp, hroom, ?_, ?_⟩) (fun _ => by simp) (Nat.le_refl _)
                              · simp only [Nat.zero_add]
                                omega
                              · rcases hc with hce | ⟨c1, c2, c3, c4, c5⟩
                                · omega
                                · exact c5
                            · -- in a new array
                              obtain ⟨os2, hr2, hl2', hlen2'⟩ := csrc_sound R hx rfl (Nat.le_refl len) hold
                              obtain ⟨nc, hnc, hrun⟩ := append_new_run (ty := ty) h0 h1 hu hd hnd hit hzv (hnr w) (by omega) q1 q2 q3 hr2 hr1
                              obtain ⟨Rd, Sd⟩ := R.put (ro := ro) (o2 := .dead) (w' := w) hb hg k1 (by simp [wr, nbeq]) rfl rfl rfl rfl (fun _ _ _ => rfl) trivial
                              have hid' : fset h b .dead id = none := by rw [fset_ne h _ k3]; exact hid
                              obtain ⟨nx, i', w', v', d1, d2, d3, d4, d5, d6⟩ := does_new Rd ro hid' hi (hl2'.append hl1) (by rw [List.length_append, hlen1, hlen2', ← Nat.add_mul]) (by
                                have l1 := hl1.len
                                have l2 := hl2'.len
                                simp only [List.length_append, zeroCells_size, hzsz]
                                rw [← l1, ← l2, hlen1, hlen2', ← Nat.add_mul, ← Nat.add_mul]
                                congr 1; omega) hnc (run_v hrun)
                              exact ⟨nx, i', w', v', d1, d2, d3, d4, Sd.trans d5, d6⟩
                          · cases e
                        · have : (decide (ro ≤ b) && decide (ez = it.size) && !decide (id = b) && decide (cap ≤ 4611686018427387904)) = false := by
                            rw [Bool.eq_false_iff]; intro hh; simp only [Bool.and_eq_true, decide_eq_true_eq, Bool.not_eq_true', decide_eq_false_iff_not] at hh
                            exact hk ⟨hh.1.1.1, hh.1.1.2, hh.1.2, hh.2⟩
                          rw [this] at e; cases e
                      · have hf : (decide (m = 1) && decide (o + cap * it.size = vs.length)) = false := by
                          rw [Bool.eq_false_iff]; intro hh; simp only [Bool.and_eq_true, decide_eq_true_eq] at hh; exact hgr hh
                        rw [hf] at e
                        simp only [cond_false] at e
                        by_cases hk : m = 1 ∧ ez ≠ it.size
                        · simp [hk.1, hk.2] at e
                        · have hf2 : (decide (m = 1) && !decide (ez = it.size)) = false := by
                            rw [Bool.eq_false_iff]; intro hh; simp only [Bool.and_eq_true, decide_eq_true_eq, Bool.not_eq_true', decide_eq_false_iff_not] at hh; exact hk hh
                          rw [hf2] at e
                          simp only [cond_false] at e
                          unfold cnew at e
                          split at e
                          · rename_i hid
                            cases e
                            refine hlow hid ?_
                            rcases hc with hc | ⟨c1, c2, c3, c4, c5⟩
                            · exact hc
                            · exfalso
                              rw [g3, nbeq] at c1
                              simp only [decide_eq_true_eq] at c1
                              have : ez = it.size := Classical.byContradiction fun hh => hk ⟨c1, hh⟩
                              rw [g2, this, g1] at c2
                              exact hgr ⟨c1, c2⟩
                          · cases e
                    · cases e
                  · cases hx
                  · simp only [] at e
                    have e2 := e
                    clear e
                    obtain ⟨rfl, rfl, rfl⟩ := hx.nilSlice_inv
                    unfold cnew at e2
                    split at e2
                    · rename_i hid
                      cases e2
                      exact key none 0 rfl (by omega) hid
                    · cases e2
                · simp [hzs] at e
              · cases e
            · simp only [Bool.not_eq_true] at hcond
              rw [hcond] at e; cases e
      · cases e
    · cases e
  · cases e

end Go.Proofs.YtkdjllolnlndkaaD
