/-
  The operations as decision trees: what they come to, the model's operations come to.
-/
import Derived.Test.YtkdjllolnlndkaaTOps3
set_option linter.unusedVariables false
set_option linter.unusedSimpArgs false
namespace Go.Proofs.YtkdjllolnlndkaaD
open Go Go.RowKit

variable {P : Program} {N : Nat} {i : Inj} {h : HF} {w : World}

theorem slice_run {t e : TypeId} {z : Nat} (hu : P.underlying t = some (.slice e)) (hz : pSize P e = some z) {base : Option Addr} {len cap cap' l hh m : Nat} {lo hi mx : Option CV} (hb : cbounds len cap lo hi mx = some (l, hh, m)) (hcap : cap ≤ cap') (w : World) :
    (Instr.sliceAt t (.slice base len cap') (lo.map CV.toV) (hi.map CV.toV) (mx.map CV.toV)).run P w = .ok (.slice (if (if mx = none then cap' else m) = l then base else base.map (·.add (l * z))) (hh - l) ((if mx = none then cap' else m) - l)) w ∧ l ≤ hh ∧ hh ≤ m ∧ m ≤ cap ∧ (mx = none → m = cap) := by
  obtain ⟨h1, h2, h3, h4, h5⟩ := cbounds_run (P := P) (isS := true) hb hcap w
  refine ⟨?_, h2, h3, h4, h5⟩
  simp only [Instr.sliceAt, Instr.slice, Sem.run_bind, run_underlying hu, Result.andThen_ok, h1, run_pSize hz, Sem.run_pure]

theorem tbnd_inv {v : Option CV} {y : Nat} {a : Option Nat} (e : (tbnd v y).ev = some a) : (v = none ∧ a = none) ∨ ∃ k n, v = some (.int k n) ∧ a = some n.toNat ∧ 0 ≤ n ∧ n ≤ (y : Int) := by
  unfold tbnd at e
  split at e
  · cases ev_ret e; exact .inl ⟨rfl, rfl⟩
  · rename_i k n
    obtain ⟨h1, h2⟩ := ev_when e
    cases ev_ret h2
    simp only [Bool.and_eq_true, decide_eq_true_eq] at h1
    exact .inr ⟨k, n, rfl, rfl, h1.1, h1.2⟩
  · exact (ev_fail e).elim

theorem trange_inv {lo hi : Option CV} {n : Nat} {k : Option Nat → Option Nat → T CV} {v : CV} (e : (trange lo hi n k).ev = some v) :
    ∃ a b, (k a b).ev = some v ∧ cbounds n n lo hi none = some (lo0 a, hi0 n b, n) ∧ lo0 a ≤ hi0 n b ∧ hi0 n b ≤ n := by
  unfold trange at e
  obtain ⟨b, h1, e⟩ := ev_bind _ e
  obtain ⟨a, h2, e⟩ := ev_bind _ e
  refine ⟨a, b, e, ?_⟩
  rcases tbnd_inv h1 with ⟨rfl, rfl⟩ | ⟨k1, n1, rfl, rfl, p1, p2⟩
  · rcases tbnd_inv h2 with ⟨rfl, rfl⟩ | ⟨k2, n2, rfl, rfl, p3, p4⟩
    · exact ⟨by simp [cbounds, cbd, lo0, hi0, noHigh, nble], Nat.zero_le _, Nat.le_refl _⟩
    · simp only [hi0] at p4
      refine ⟨?_, by simp [lo0, hi0]; omega, Nat.le_refl _⟩
      have : n2.toNat ≤ n := by omega
      simp [cbounds, cbd, lo0, hi0, noHigh, nble, p3, p4, this]
  · rcases tbnd_inv h2 with ⟨rfl, rfl⟩ | ⟨k2, n2, rfl, rfl, p3, p4⟩
    · have : n1.toNat ≤ n := by omega
      refine ⟨?_, Nat.zero_le _, by simp [hi0]; omega⟩
      simp [cbounds, cbd, lo0, hi0, noHigh, nble, p1, p2, this]
    · simp only [hi0] at p4
      obtain ⟨m1, rfl⟩ := Int.eq_ofNat_of_zero_le p1
      obtain ⟨m2, rfl⟩ := Int.eq_ofNat_of_zero_le p3
      simp only [Int.toNat_natCast] at p4 ⊢
      have q1 : m1 ≤ n := by omega
      have q2 : m2 ≤ m1 := by omega
      refine ⟨?_, by simp [lo0, hi0]; omega, by simp [hi0]; omega⟩
      simp [cbounds, cbd, lo0, hi0, noHigh, nble, q1, q2]

theorem lpart_eq {α : Type} (l : List α) (a b : Option Nat) : lpart l a b = (l.take (hi0 l.length b)).drop (lo0 a) := by
  cases a <;> cases b <;> simp [lpart, lo0, hi0]

theorem empty_bounds {lo hi mx : Option CV} {n c : Nat} (h : (isZero hi && isZero mx && noLow lo) = true) : cbounds n c lo hi mx = some (0, 0, 0) ∧ mx ≠ none := by
  simp only [Bool.and_eq_true] at h
  obtain ⟨⟨h1, h2⟩, h3⟩ := h
  unfold isZero at h1 h2
  split at h1 <;> first | (cases h1; done) | skip
  split at h2 <;> first | (cases h2; done) | skip
  unfold noLow at h3
  split at h3 <;> first | (cases h3; done) | skip
  refine ⟨?_, by simp⟩
  simp [cbounds, cbd, noHigh, nble]

theorem tslice_sound (R : Rel P N i h w) {t : TypeId} {x : CV} {y : Value} {lo hi mx : Option CV} {v : CV} (hx : VRel i x y) (e : (tslice P t x lo hi mx (.of (cslice P h t x lo hi mx))).ev = some v) :
    ∃ v', (Instr.sliceAt t y (lo.map CV.toV) (hi.map CV.toV) (mx.map CV.toV)).run P w = .ok v' w ∧ VRel i v v' := by
  unfold tslice at e
  split at e
  · -- a row that nobody writes
    rename_i r l
    split at e
    · rename_i el hu
      split at e
      · rename_i z hz
        obtain ⟨hzz, e1⟩ := ev_bif e
        clear e
        rw [nbeq, decide_eq_true_eq] at hzz
        subst hzz
        cases hem : (isZero hi && isZero mx && noLow lo) with
        | true =>
          rw [hem] at e1
          simp only [cond_true] at e1
          cases ev_ret e1
          rcases hx.pl_inv with ⟨B, o, c, ys, a', rfl, h1, h2, h3, h4⟩ | ⟨rfl, a, c, rfl⟩
          · obtain ⟨q1, q2⟩ := empty_bounds (n := l.length) (c := c) hem
            have := (slice_run (base := some a') hu hz q1 (Nat.le_refl c) w).1
            simp only [if_neg q2, Nat.sub_zero] at this
            exact ⟨_, this, .empty⟩
          · obtain ⟨q1, q2⟩ := empty_bounds (n := 0) (c := c) hem
            have := (slice_run (base := a) hu hz q1 (Nat.le_refl c) w).1
            simp only [if_neg q2, Nat.sub_zero] at this
            exact ⟨_, this, .empty⟩
        | false =>
          rw [hem] at e1
          simp only [cond_false] at e1
          split at e1
          · obtain ⟨a, b, e2, hb, q1, q2⟩ := trange_inv e1
            cases ev_ret e2
            rw [lpart_eq]
            rcases hx.pl_inv with ⟨B, o, c, ys, a', rfl, h1, h2, h3, h4⟩ | ⟨rfl, a', c, rfl⟩
            · have hr := (slice_run (base := some a') hu hz hb h3 w).1
              simp only [if_true] at hr
              refine ⟨_, hr, ?_⟩
              have hlen : ((l.take (hi0 l.length b)).drop (lo0 a)).length = hi0 l.length b - lo0 a := by simp; omega
              by_cases h0 : hi0 l.length b - lo0 a = 0
              · have : (l.take (hi0 l.length b)).drop (lo0 a) = [] := List.eq_nil_of_length_eq_zero (by omega)
                rw [this, h0]
                exact .plNil
              · have hne : c ≠ lo0 a := by omega
                rw [if_neg hne, ← hlen]
                have hc0 : c ≠ 0 := by omega
                have := h4 hc0; subst this
                have hl2 := ((h1.take (hi0 l.length b * r.z)).drop (lo0 a * r.z))
                rw [r.all_take, r.all_drop] at hl2
                simp only [Option.map_some, Addr.add_mk]
                refine pl_of_cells (B := B) (o := o + lo0 a * r.z) hl2 (fun k v hv => ?_) (by rw [hlen]; omega) (fun _ => rfl)
                rw [List.getElem?_drop, List.getElem?_take] at hv
                split at hv
                · rw [Nat.add_assoc]; exact h2 _ v hv
                · cases hv
            · have hr := (slice_run (base := a') hu hz hb (Nat.zero_le c) w).1
              refine ⟨_, hr, ?_⟩
              have h0 : hi0 0 b = 0 := by have := q2; simp at this; exact this
              simp only [List.length_nil] at h0 ⊢
              rw [h0]
              simp only [List.take_nil, List.drop_nil, Nat.zero_sub]
              exact .plNil
          · exact (ev_fail e1).elim
      · exact (ev_fail e).elim
    · exact (ev_fail e).elim
  · -- a row of the run's own
    rename_i b0 z n
    split at e
    · rename_i el hu
      split at e
      · rename_i z' hz
        obtain ⟨hzz, e1⟩ := ev_bif e
        clear e
        rw [nbeq, decide_eq_true_eq] at hzz
        subst hzz
        cases hem : (isZero hi && isZero mx && noLow lo) with
        | true =>
          rw [hem] at e1
          simp only [cond_true] at e1
          cases ev_ret e1
          rcases hx.row_inv with ⟨g, a', cap', rfl, hg, hgz, hs, hcap, ha⟩ | ⟨rfl, hvd, a, rfl⟩
          · obtain ⟨q1, q2⟩ := empty_bounds (n := n) (c := cap') hem
            have := (slice_run (base := some a') hu hz q1 (Nat.le_refl cap') w).1
            simp only [if_neg q2, Nat.sub_zero] at this
            exact ⟨_, this, .empty⟩
          · obtain ⟨q1, q2⟩ := empty_bounds (n := 0) (c := 0) hem
            have := (slice_run (base := a) hu hz q1 (Nat.le_refl 0) w).1
            simp only [if_neg q2, Nat.sub_zero] at this
            exact ⟨_, this, .empty⟩
        | false =>
          rw [hem] at e1
          simp only [cond_false] at e1
          split at e1
          · obtain ⟨a, b, e2, hb, q1, q2⟩ := trange_inv e1
            cases ev_ret e2
            rcases hx.row_inv with ⟨g, a', cap', rfl, hg, hgz, hs, hcap, ha⟩ | ⟨rfl, hvd, a', rfl⟩
            · have hcc : n ≤ cap' := by rcases hcap with rfl | ⟨_, _, h3, _⟩ <;> omega
              have hr := (slice_run (base := some a') hu hz hb hcc w).1
              simp only [if_true] at hr
              refine ⟨_, hr, ?_⟩
              have hm : lo0 a * z' + (n - lo0 a) * z' = n * z' := by rw [← Nat.add_mul]; congr 1; omega
              have hm2 : lo0 a * z' + (cap' - lo0 a) * z' = cap' * z' := by rw [← Nat.add_mul]; congr 1; omega
              have hcap2 : CapOk g (lo0 a * z') (n - lo0 a) (cap' - lo0 a) := by
                rcases hcap with rfl | ⟨c1, c2, c3, c4, c5⟩
                · exact .inl rfl
                · refine .inr ⟨c1, ?_, by omega, ?_, by omega⟩
                  · rw [hgz] at c2 ⊢; omega
                  · rw [hgz] at c4 ⊢; omega
              by_cases hcl : cap' = lo0 a
              · rw [if_pos hcl]
                refine .win hg hgz hcap2 (fun hne => absurd (by omega) hne) (by omega)
              · rw [if_neg hcl]
                simp only [Option.map_some]
                refine .win hg hgz hcap2 (fun _ => ?_) (by omega)
                rw [ha (by omega), Addr.add_mk]
            · have hr := (slice_run (base := a') hu hz hb (Nat.le_refl 0) w).1
              refine ⟨_, hr, ?_⟩
              have h0 : hi0 0 b = 0 := by have := q2; simp at this; exact this
              simp only [h0, Nat.zero_sub, if_true]
              exact .winVoid
          · exact (ev_fail e1).elim
      · exact (ev_fail e).elim
    · exact (ev_fail e).elim
  · -- a part of one
    rename_i b0 z s n c
    split at e
    · rename_i el hu
      split at e
      · rename_i z' hz
        obtain ⟨hzz, e1⟩ := ev_bif e
        clear e
        rw [nbeq, decide_eq_true_eq] at hzz
        subst hzz
        split at e1
        · obtain ⟨a, b, e2, hb, q1, q2⟩ := trange_inv e1
          cases ev_ret e2
          rcases hx.win_inv with ⟨g, a', cap', rfl, hg, hgz, hcap, ha, hnc⟩ | ⟨rfl, rfl, a', rfl⟩
          · have hcc : c ≤ cap' := by rcases hcap with rfl | ⟨_, _, h3, _⟩ <;> omega
            have hr := (slice_run (base := some a') hu hz hb (Nat.le_trans hnc hcc) w).1
            simp only [if_true] at hr
            refine ⟨_, hr, ?_⟩
            have hm : (s + lo0 a) * z' + (c - lo0 a) * z' = s * z' + c * z' := by rw [← Nat.add_mul, ← Nat.add_mul]; congr 1; omega
            have hm2 : (s + lo0 a) * z' + (cap' - lo0 a) * z' = s * z' + cap' * z' := by rw [← Nat.add_mul, ← Nat.add_mul]; congr 1; omega
            have hcap2 : CapOk g ((s + lo0 a) * z') (c - lo0 a) (cap' - lo0 a) := by
              rcases hcap with rfl | ⟨c1, c2, c3, c4, c5⟩
              · exact .inl rfl
              · refine .inr ⟨c1, ?_, by omega, ?_, by omega⟩
                · rw [hgz] at c2 ⊢; omega
                · rw [hgz] at c4 ⊢; omega
            by_cases hcl : cap' = lo0 a
            · rw [if_pos hcl]
              refine .win hg hgz hcap2 (fun hne => absurd (by omega) hne) (by omega)
            · rw [if_neg hcl]
              simp only [Option.map_some]
              refine .win hg hgz hcap2 (fun _ => ?_) (by omega)
              rw [ha (by omega), Addr.add_mk, Nat.add_mul, Nat.add_assoc]
          · have hr := (slice_run (base := a') hu hz hb (Nat.le_refl 0) w).1
            refine ⟨_, hr, ?_⟩
            have h0 : hi0 0 b = 0 := by have := q2; simp at this; exact this
            simp only [h0, Nat.zero_sub, if_true]
            exact .winVoid
        · exact (ev_fail e1).elim
      · exact (ev_fail e).elim
    · exact (ev_fail e).elim
  · exact cslice_sound R hx (ev_of' e)

/-- A store into an element of a row. -/
theorem rstore_sound (R : Rel P N i h w) {ro b k j n : Nat} {r : RC} {l : List r.den} {g : Img} (hb : h b = some (.rows r l)) (hg : i b = some g) (hro : ro ≤ b) (hk : k < l.length) (hj : j + n ≤ r.z) {cs : List CV} {ys : List Value} (hl : LRel i cs ys) (hn : cs.length = n) (hok : cs.all cellOk = true)
    {x : r.den} (hx : r.of (setR (r.cells (l.getD k r.zero)) j cs) = some x) :
    ∃ w', (storeCells ⟨g.B, g.off + (k * r.z + j), none⟩ ys).run P w = .ok () w' ∧ Rel P N i (fset h b (.rows r (l.set k x))) w' ∧ Step ro i h w i (fset h b (.rows r (l.set k x))) w' := by
  have hle : k * r.z + j + cs.length ≤ (r.all l).length := by
    rw [r.all_length]
    have : (k + 1) * r.z ≤ l.length * r.z := Nat.mul_le_mul_right _ hk
    rw [Nat.add_mul] at this; omega
  refine CRel.store (ob2 := .rows r (l.set k x)) R hb hg hro rfl (R.obj b _ g hb hg) (fun {w'} hcr => ?_) (by decide) hle hok hl
  refine hcr.weaken (by rw [setR_length, r.all_length, r.all_length]; simp) (fun zs hz => ?_)
  have hlen : (r.all (l.take k)).length = k * r.z := by rw [r.all_length]; congr 1; simp; omega
  rw [r.all_parts l hk r.zero, ← hlen, setR_mid cs _ _ _ j (by rw [r.cells_length]; omega)] at hz
  obtain ⟨z1, z2, rfl, q1, q2⟩ := hz.split
  obtain ⟨z3, z4, rfl, q3, q4⟩ := q2.split
  rw [r.all_set l hk x]
  exact q1.append ((of_rel hx q3).append q4)

theorem run_intArith_min : True := trivial

set_option maxHeartbeats 1600000 in
theorem tmem_sound (R : Rel P N i h w) {ρ : Operand → Option CV} {ρ' : Operand → Value} (hρ : ∀ x v, ρ x = some v → VRel i v (ρ' x)) {ro id : Nat} (hi : i.free id) {o : Oper} {v : CV} {ef : Eff}
    (e : (tmem P ρ ro id o h).ev = some (v, ef)) : Does P N ro id i h w (execOp ρ' o) v (eall h ef) := by
  have hc : ∀ {e : (T.of (cmem P ρ ro id o h)).ev = some (v, ef)}, Does P N ro id i h w (execOp ρ' o) v (eall h ef) := fun {e} => cmem_sound R hρ hi (ev_of' e)
  have hpure : ∀ {v' : Value}, (execOp ρ' o).run P w = .ok (.value v') w → VRel i v v' → ef = [] → Does P N ro id i h w (execOp ρ' o) v (eall h ef) := fun {v'} h1 h2 h3 => by
    subst h3; exact ⟨_, i, w, v', h1, .inl rfl, h2, R, .refl _ _ _ _, fun _ _ => ⟨rfl, rfl⟩⟩
  unfold tmem at e
  split at e
  · -- pick
    rename_i c a b hop
    split at e
    · rename_i t x y hcc ha hb
      obtain ⟨u, h1, h2⟩ := ev_bind _ e
      cases ev_ret h2
      have := tpick_ev h1
      subst this
      refine cmem_sound R hρ hi ?_
      simp only [cmem, hop, cpure, hcc]
      cases t <;> simp [ha, hb]
    · exact (ev_fail e).elim
  · -- index
    rename_i t x ix hop
    split at e
    · rename_i cs k n hx hn
      split at e
      · rename_i m el hu
        split at e
        · rename_i z hz
          obtain ⟨u, h1, h2⟩ := ev_bind _ e
          cases ev_ret h2
          obtain ⟨h3, h4⟩ := tidx_ev m h1
          refine cmem_sound R hρ hi ?_
          simp only [cmem, hop, cpure, hx, hn, hu, hz, h3, cond_true, h4]
        · exact (ev_fail e).elim
      · exact (ev_fail e).elim
    · exact hc (e := e)
  · -- rem
    rename_i t x y u hop
    split at e
    · rename_i a b hx hy
      obtain ⟨h1, h2⟩ := ev_when e
      cases ev_ret h2
      have hb : b ≠ 0 := by simpa using h1
      refine cmem_sound R hρ hi ?_
      simp [cmem, hop, cpure, hx, hy, cbin, cint, stillF, binOp_rem, Op.intDiv, hb]; rfl
    · exact hc (e := e)
  · -- quo
    rename_i t x y u hop
    split at e
    · rename_i a b hx hy
      obtain ⟨h1, h2⟩ := ev_when e
      cases ev_ret h2
      have hb : b ≠ 0 := by simpa using h1
      refine cmem_sound R hρ hi ?_
      simp [cmem, hop, cpure, hx, hy, cbin, cint, stillF, binOp_quo, Op.intDiv, hb]; rfl
    · exact hc (e := e)
  · -- load
    rename_i t a hop
    obtain ⟨dst, op, type, pos, after, guard⟩ := o
    simp only [] at hop; subst hop
    split at e
    · rename_i cs ha
      obtain ⟨u, h1, h2⟩ := ev_bind _ e
      cases ev_ret h2
      obtain ⟨B, o, ys, he, hl, him⟩ := (hρ _ _ ha).kptr_inv
      obtain ⟨v', h3, h4⟩ := loadL_run (P := P) (w := w) hl (fun k y hy => (R.imm B _ y (him k y hy)).1) (ev_of' h1)
      exact hpure (run_v (by simp [Instr.loadAt, he, Instr.sureAddr, Sem.run_bind, Result.andThen, h3])) h4 rfl
    · rename_i b z k j ha
      split at e
      · rename_i r l hb
        obtain ⟨hzz, e1⟩ := ev_bif e
        rw [nbeq, decide_eq_true_eq] at hzz
        obtain ⟨hk, e2⟩ := ev_when e1
        rw [Nat.blt_eq] at hk
        obtain ⟨u, h1, h2⟩ := ev_bind _ e2
        cases ev_ret h2
        obtain ⟨g, hg, hgz, he⟩ := (hρ _ _ ha).rptr_inv
        subst hzz
        obtain ⟨ys, h3, h4⟩ := (show CRel N i w g (r.all l) r.z 1 from R.obj b _ g hb hg).elem hk r.zero
        obtain ⟨v', h5, h6⟩ := loadL_run (P := P) (w := w) (B := g.B) (o := g.off + (k * r.z + j)) (h3.drop j) (fun q y hy => by
          rw [List.getElem?_drop] at hy
          have := h4 _ y hy
          rwa [show g.off + k * r.z + (j + q) = g.off + (k * r.z + j) + q by omega] at this) (ev_of' h1)
        exact hpure (run_v (by simp [Instr.loadAt, he, Instr.sureAddr, Sem.run_bind, Result.andThen, h5])) h6 rfl
      · exact (ev_fail e).elim
    · exact hc (e := e)
  · -- store
    rename_i t a x hop
    split at e
    · rename_i b z k j u ha hx
      split at e
      · rename_i n hn
        obtain ⟨hcn, e1⟩ := ev_bif e
        clear e
        rw [nbeq, decide_eq_true_eq] at hcn
        split at e1
        · rename_i cs ef1 hf
          split at e1
          · rename_i r l hb
            obtain ⟨hcc, e2⟩ := ev_bif e1
            simp only [Bool.and_eq_true, nbeq, nble, decide_eq_true_eq] at hcc
            obtain ⟨⟨hz, hro⟩, hj⟩ := hcc
            obtain ⟨hk, e3⟩ := ev_when e2
            rw [Nat.blt_eq] at hk
            split at e3
            · rename_i y hy
              cases ev_ret e3
              subst hz
              have huj : u ≠ .junk := fun hh => by
                subst hh
                simp [CV.cells, frzL, frz1] at hf
              have hxr := hρ _ _ hx
              obtain ⟨i1, F, hl1, hlen⟩ := frzL_sound R (hxr.cells huj) hf
              rw [fupd_eall] at hb
              obtain ⟨g, hg, hgz, he⟩ := ((hρ _ _ ha).mono F.step.ext).rptr_inv
              obtain ⟨w', q1, q2, q3⟩ := rstore_sound F.rel hb hg hro hk hj hl1 (by rw [hlen, Array.length_toList, hcn]) (frzL_ok hf) hy
              have hsz' : (ρ' x).cells.size = n := by rw [size_cells hxr huj]; exact hcn
              rw [eall_append]
              have D : Does P N ro id i1 (eall h ef1) w (execOp ρ' o) cundef (fset (eall h ef1) b (.rows r (l.set k y))) := by
                obtain ⟨dst, op, type, pos, after, guard⟩ := o
                simp only [] at hop; subst hop
                refine ⟨.skip, i1, w', undef, ?_, .inr ⟨rfl, rfl⟩, .undef i1, q2, q3, fun _ _ => ⟨rfl, rfl⟩⟩
                simp [execOp, Instr.storeAt, he, Instr.sureAddr, storeVar, Sem.run_bind, Result.andThen, run_pSize hn, hsz', q1]
              exact D.after F
            · exact (ev_fail e3).elim
          · exact (ev_fail e1).elim
        · exact (ev_fail e1).elim
      · exact (ev_fail e).elim
    · exact hc (e := e)
  · -- nilCheck
    rename_i x hop
    obtain ⟨dst, op, type, pos, after, guard⟩ := o
    simp only [] at hop; subst hop
    split at e
    · rename_i cs hx
      cases ev_ret e
      have hr := hρ _ _ hx
      obtain ⟨B, o, ys, he, _, _⟩ := hr.kptr_inv
      rw [he] at hr
      exact hpure (v' := .pointer (some ⟨B, o, none⟩)) (by simp [execOp, he]) hr rfl
    · rename_i b z k j hx
      cases ev_ret e
      have hr := hρ _ _ hx
      obtain ⟨g, _, _, he⟩ := hr.rptr_inv
      rw [he] at hr
      exact hpure (v' := .pointer (some ⟨g.B, g.off + (k * z + j), none⟩)) (by simp [execOp, he]) hr rfl
    · exact hc (e := e)
  · -- fieldAddr
    rename_i t x k hop
    obtain ⟨dst, op, type, pos, after, guard⟩ := o
    simp only [] at hop; subst hop
    split at e
    · rename_i cs hx
      split at e
      · rename_i f hf
        obtain ⟨fs, hu, hk⟩ := fieldOf_under hf
        split at e
        · rename_i z hz
          obtain ⟨hle, e1⟩ := ev_bif e
          cases ev_ret e1
          obtain ⟨B, o, ys, he, hl, him⟩ := (hρ _ _ hx).kptr_inv
          refine hpure (v' := .pointer (some ⟨B, o + f.offset, none⟩)) (run_v ?_) ?_ rfl
          · simp [Instr.fieldAt, Sem.run_bind, run_underlying hu, Result.andThen, hk, he, Instr.sureAddr, fieldPlace, run_pSize hz, Addr.add_mk, Nat.add_assoc]
          · have hd := hl.drop f.offset
            exact .kptr hd.len.symm (fun q y hy => by rw [List.getElem?_drop] at hy; rw [Nat.add_assoc]; exact him _ y hy) hd.at_
        · exact (ev_fail e).elim
      · exact (ev_fail e).elim
    · rename_i b z q j hx
      split at e
      · rename_i f hf
        obtain ⟨fs, hu, hk⟩ := fieldOf_under hf
        split at e
        · rename_i z' hz
          cases ev_ret e
          obtain ⟨g, hg, hgz, he⟩ := (hρ _ _ hx).rptr_inv
          refine hpure (v' := .pointer (some ⟨g.B, g.off + (q * z + (j + f.offset)), none⟩)) (run_v ?_) (.rptr hg hgz) rfl
          simp [Instr.fieldAt, Sem.run_bind, run_underlying hu, Result.andThen, hk, he, Instr.sureAddr, fieldPlace, run_pSize hz, Addr.add_mk, Nat.add_assoc]
        · exact (ev_fail e).elim
      · exact (ev_fail e).elim
    · exact hc (e := e)
  · -- indexAddr
    rename_i t x ix hop
    obtain ⟨dst, op, type, pos, after, guard⟩ := o
    simp only [] at hop; subst hop
    split at e
    · rename_i r l k n hx hn
      have hn' := (hρ _ _ hn).int_inv
      split at e
      · rename_i el hu
        split at e
        · rename_i z hz
          obtain ⟨hzz, e1⟩ := ev_bif e
          rw [nbeq, decide_eq_true_eq] at hzz
          obtain ⟨hir, e2⟩ := ev_when e1
          cases ev_ret e2
          subst hzz
          obtain ⟨h0, h1⟩ := inRange_iff.1 hir
          have hk : n.toNat < l.length := by omega
          rcases (hρ _ _ hx).pl_inv with ⟨B, o, c, ys, a', he, hl, him, hlc, ha⟩ | ⟨hnil, _⟩
          · have hc0 : c ≠ 0 := by omega
            have := ha hc0; subst this
            refine hpure (v' := .pointer (some ⟨B, o + n.toNat * r.z, none⟩)) (run_v ?_) ?_ rfl
            · simp [Instr.indexAt, Sem.run_bind, hn', asIntOf, he, run_underlying hu, Result.andThen, h0, h1, run_pSize hz, Addr.add_mk, Nat.add_assoc]
            · have hd := (hl.drop (n.toNat * r.z)).take r.z
              rw [r.all_elem l hk r.zero] at hd
              refine .kptr hd.len.symm (fun q y hy => ?_) hd.at_
              rw [List.getElem?_take] at hy
              split at hy
              · rw [List.getElem?_drop] at hy; rw [Nat.add_assoc]; exact him _ y hy
              · cases hy
          · subst hnil; simp at hk
        · exact (ev_fail e).elim
      · exact (ev_fail e).elim
    · rename_i b z m k n hx hn
      have hn' := (hρ _ _ hn).int_inv
      split at e
      · rename_i el hu
        split at e
        · rename_i z' hz
          obtain ⟨hzz, e1⟩ := ev_bif e
          rw [nbeq, decide_eq_true_eq] at hzz
          obtain ⟨hir, e2⟩ := ev_when e1
          cases ev_ret e2
          subst hzz
          obtain ⟨h0, h1⟩ := inRange_iff.1 hir
          rcases (hρ _ _ hx).row_inv with ⟨g, a', cap', he, hg, hgz, hs, hcap, ha⟩ | ⟨hz0, _⟩
          · have hc0 : cap' ≠ 0 := by rcases hcap with rfl | ⟨_, _, h3, _⟩ <;> omega
            have := ha hc0; subst this
            refine hpure (v' := .pointer (some ⟨g.B, g.off + (n.toNat * z' + 0), none⟩)) (run_v ?_) (.rptr hg hgz) rfl
            simp [Instr.indexAt, Sem.run_bind, hn', asIntOf, he, run_underlying hu, Result.andThen, h0, h1, run_pSize hz, Addr.add_mk, Nat.add_assoc]
          · omega
        · exact (ev_fail e).elim
      · exact (ev_fail e).elim
    · rename_i b z s m c k n hx hn
      have hn' := (hρ _ _ hn).int_inv
      split at e
      · rename_i el hu
        split at e
        · rename_i z' hz
          obtain ⟨hzz, e1⟩ := ev_bif e
          rw [nbeq, decide_eq_true_eq] at hzz
          obtain ⟨hir, e2⟩ := ev_when e1
          cases ev_ret e2
          subst hzz
          obtain ⟨h0, h1⟩ := inRange_iff.1 hir
          rcases (hρ _ _ hx).win_inv with ⟨g, a', cap', he, hg, hgz, hcap, ha, hnc⟩ | ⟨hz0, _⟩
          · have hc0 : cap' ≠ 0 := by rcases hcap with rfl | ⟨_, _, h3, _⟩ <;> omega
            have := ha hc0; subst this
            refine hpure (v' := .pointer (some ⟨g.B, g.off + ((s + n.toNat) * z' + 0), none⟩)) (run_v ?_) (.rptr hg hgz) rfl
            simp [Instr.indexAt, Sem.run_bind, hn', asIntOf, he, run_underlying hu, Result.andThen, h0, h1, run_pSize hz, Addr.add_mk, Nat.add_assoc, Nat.add_mul]
          · omega
        · exact (ev_fail e).elim
      · exact (ev_fail e).elim
    · rename_i b o len cap k n hx hn
      split at e
      · rename_i el hu
        split at e
        · rename_i z hz
          obtain ⟨u, h1, h2⟩ := ev_bind _ e
          cases ev_ret h2
          obtain ⟨h3, rfl⟩ := tptr_ev len h1
          refine cmem_sound R hρ hi ?_
          simp only [cmem, cpure, hx, hn, hu, hz, h3, cond_true]
        · exact (ev_fail e).elim
      · exact (ev_fail e).elim
    · rename_i b o k n hx hn
      split at e
      · rename_i m el hu
        split at e
        · rename_i z hz
          obtain ⟨u, h1, h2⟩ := ev_bind _ e
          cases ev_ret h2
          obtain ⟨h3, rfl⟩ := tptr_ev m h1
          refine cmem_sound R hρ hi ?_
          simp only [cmem, cpure, hx, hn, hu, hz, h3, cond_true]
        · exact (ev_fail e).elim
      · exact (ev_fail e).elim
    · exact hc (e := e)
  · -- slice
    rename_i t x lo hh mx hop
    obtain ⟨dst, op, type, pos, after, guard⟩ := o
    simp only [] at hop; subst hop
    split at e
    · rename_i u l h2 m hx hl hhh hm
      obtain ⟨v1, e1, e2⟩ := ev_bind _ e
      cases ev_ret e2
      have hr := hρ _ _ hx
      have hb : ∀ {v : Option CV} {y : Nat} {a : Option Nat}, (tbnd v y).ev = some a → ∀ q, v = some q → ∃ k n, q = .int k n := fun {v y a} hh q hq => by
        rcases tbnd_inv hh with ⟨h1, _⟩ | ⟨k, n, h1, _⟩
        · rw [h1] at hq; cases hq
        · rw [h1] at hq; cases hq; exact ⟨_, _, rfl⟩
      have hrg : ∀ {lo hi : Option CV} {n : Nat} {k : Option Nat → Option Nat → T CV}, (trange lo hi n k).ev = some v → (∀ q, lo = some q → ∃ k n, q = .int k n) ∧ (∀ q, hi = some q → ∃ k n, q = .int k n) := fun {lo hi n k} hh => by
        unfold trange at hh
        obtain ⟨b, q1, hh⟩ := ev_bind _ hh
        obtain ⟨a, q2, hh⟩ := ev_bind _ hh
        exact ⟨hb q2, hb q1⟩
      have hzz : ∀ {a : Option CV}, isZero a = true → ∀ q, a = some q → ∃ k n, q = .int k n := fun {a} ha q hq => by
        subst hq
        unfold isZero at ha
        split at ha
        · rename_i hs; cases hs; exact ⟨_, _, rfl⟩
        · cases ha
      have hint : (∀ q, l = some q → ∃ k n, q = .int k n) ∧ (∀ q, h2 = some q → ∃ k n, q = .int k n) ∧ (∀ q, m = some q → ∃ k n, q = .int k n) := by
        have hemp : (isZero h2 && isZero m && noLow l) = true → (∀ q, l = some q → ∃ k n, q = .int k n) ∧ (∀ q, h2 = some q → ∃ k n, q = .int k n) ∧ (∀ q, m = some q → ∃ k n, q = .int k n) := by
          intro hem
          simp only [Bool.and_eq_true] at hem
          refine ⟨fun q hq => ?_, hzz hem.1.1, hzz hem.1.2⟩
          subst hq; simp [noLow] at hem
        have hmid : ∀ {n : Nat} {k : Option Nat → Option Nat → T CV}, (match m with | none => trange l h2 n k | some _ => .fail).ev = some v → (∀ q, l = some q → ∃ k n, q = .int k n) ∧ (∀ q, h2 = some q → ∃ k n, q = .int k n) ∧ (∀ q, m = some q → ∃ k n, q = .int k n) := by
          intro n k hh
          split at hh
          · obtain ⟨q1, q2⟩ := hrg hh
            exact ⟨q1, q2, fun q hq => by cases hq⟩
          · exact (ev_fail hh).elim
        unfold tslice at e1
        split at e1
        · split at e1
          · split at e1
            · have e3 := (ev_bif e1).2
              cases hem : (isZero h2 && isZero m && noLow l) with
              | true => exact hemp hem
              | false => rw [hem] at e3; exact hmid e3
            · exact (ev_fail e1).elim
          · exact (ev_fail e1).elim
        · split at e1
          · split at e1
            · have e3 := (ev_bif e1).2
              cases hem : (isZero h2 && isZero m && noLow l) with
              | true => exact hemp hem
              | false => rw [hem] at e3; exact hmid e3
            · exact (ev_fail e1).elim
          · exact (ev_fail e1).elim
        · split at e1
          · split at e1
            · exact hmid (ev_bif e1).2
            · exact (ev_fail e1).elim
          · exact (ev_fail e1).elim
        · have e3 := ev_of' e1
          unfold cslice at e3
          repeat' split at e3
          all_goals first | (cases e3; done) | exact cbounds_int ‹cbounds _ _ _ _ _ = some _›
      have q1 := optEval_rel hρ hl hint.1
      have q2 := optEval_rel hρ hhh hint.2.1
      have q3 := optEval_rel hρ hm hint.2.2
      obtain ⟨v', h1, h3⟩ := tslice_sound R hr e1
      refine hpure (run_v ?_) h3 rfl
      show (Instr.sliceAt t (ρ' x) (lo.map ρ') (hh.map ρ') (mx.map ρ')).run P w = _
      rw [q1, q2, q3]; exact h1
    · exact (ev_fail e).elim
  · -- makeSlice
    rename_i t l c hop
    split at e
    · rename_i el k n hu hn
      split at e
      · rename_i r it hk hit
        split at e
        · rename_i z hz
          split at e
          · rename_i x0 hx0
            cases hcond : (opSame l c && Nat.beq it.size r.z && Nat.beq z.cells.size r.z) with
            | false => rw [hcond] at e; exact hc (e := e)
            | true =>
              rw [hcond] at e
              simp only [cond_true] at e
              simp only [Bool.and_eq_true, nbeq, decide_eq_true_eq] at hcond
              obtain ⟨⟨hsame, c2⟩, c3⟩ := hcond
              obtain ⟨hlim, e1⟩ := ev_when e
              simp only [Bool.and_eq_true, decide_eq_true_eq] at hlim
              obtain ⟨⟨c1, c4⟩, c5⟩ := hlim
              obtain ⟨hid, hp⟩ := mkRow_inv e1
              cases hp
              have hlc : ρ' l = ρ' c := by
                unfold opSame at hsame
                split at hsame
                · rw [nbeq, decide_eq_true_eq] at hsame; rw [hsame]
                · cases hsame
              have hn' := (hρ _ _ hn).int_inv
              obtain ⟨zv, hzv, hzf, hze, hzt, hzl⟩ := zeroOf_inv hz
              have hzr := LRel.cells_flat hzl i
              rw [hzt] at hzr
              have hzsz : zv.cells.size = r.z := by have := hzr.len; simp at this; omega
              have hel := of_rel hx0 hzr
              have hall : ∀ q, LRel i (r.all (List.replicate q x0)) (zeroV zv.cells.toList q) := by
                intro q
                induction q with
                | zero => exact .nil i
                | succ q ih => rw [List.replicate_succ, r.all_cons, zeroV]; exact hel.append ih
              have hrun : (execOp ρ' o).run P w = .ok (.value (.slice (some ⟨w.heap.size, 0, none⟩) n.toNat n.toNat)) (w.alloc (.cells (zeroV zv.cells.toList n.toNat).toArray el)) := by
                obtain ⟨dst, op, type, pos, after, guard⟩ := o
                simp only [] at hop; subst hop
                refine run_v ?_
                have w1 := wrap_small c1 c5
                have hsz : P.cellsOf el = it.size := by simp [Program.cellsOf, hit]
                have hrow : ((Array.range (n.toNat * it.size)).map fun x => (zv.cells)[x % zv.cells.size]!) = (zeroV zv.cells.toList n.toNat).toArray := by
                  rw [c2, ← hzsz]; exact zeroRow_array zv.cells n.toNat
                have hz0 : ∀ zz : Array Value, n.toNat * it.size = 0 → Array.map (fun x => zz[x % zz.size]!) (Array.range (n.toNat * it.size)) = (zeroV zv.cells.toList n.toNat).toArray := fun zz h0 => by
                  rw [← hrow]; simp [h0]
                have hzv2 : ∀ w : World, (zeroValue el).run P w = .ok zv w := fun w => by simp [zeroValue, Sem.run_bind, run_typeInfo w hit, Result.andThen, hzv]
                have hbig : (decide (n < 0) || decide ((it.bytes : Int) * n > 2 ^ 48)) = false := by
                  have : (it.bytes : Int) * n ≤ 2 ^ 40 := by rw [Int.mul_comm]; exact c4
                  simp; omega
                have hno : (decide (n < 0) || decide ((it.bytes : Int) * n > 2 ^ 48) || decide (n < 0) || decide (n > n)) = false := by
                  rw [hbig]; simp; omega
                simp only [Instr.makeSlice, Sem.run_bind, run_underlying hu, Result.andThen_ok, ← hlc, hn', asInt, asIntOf, Sem.run_pure, run_typeInfo w hit, w1, hno, Bool.false_eq_true, if_false, run_askRoom, run_sizeOf w hit, hsz]
                by_cases h0 : n.toNat * it.size = 0
                · simp only [if_pos h0, Sem.run_bind, Sem.run_pure, Result.andThen_ok, hz0 _ h0, newRow, run_newObj_alloc]
                · simp only [if_neg h0, Sem.run_bind, Sem.run_pure, Result.andThen_ok, hzv2, hrow, newRow, run_newObj_alloc]
              have hl2 : (List.replicate n.toNat x0).length = n.toNat := by simp
              have := does_rows0 (t := el) R ro hid hi (hall n.toNat) (by rw [hl2]; exact hrun)
              rw [hl2] at this
              simpa [eall] using this
          · exact hc (e := e)
        · exact (ev_fail e).elim
      · exact hc (e := e)
    · exact hc (e := e)
  · -- len
    rename_i args ts hop
    obtain ⟨dst, op, type, pos, after, guard⟩ := o
    simp only [] at hop; subst hop
    have hlen : ∀ {x : CV} {t el : TypeId} {m : Nat}, evals ρ args.toList = some [x] → ts[0]? = some t → P.underlying t = some (.slice el) → (∀ y, VRel i x y → ∃ a c, y = .slice a m c) → v = .int .i64 m → ef = [] →
        Does P N ro id i h w (execOp ρ' { dst := dst, op := .call { callee := .builtin .len, args := args, argTypes := ts }, type := type, pos := pos, after := after, guard := guard }) v (eall h ef) := by
      intro x t el m hx ht hu hm hv he
      subst hv
      obtain ⟨y, ys, h1, h2, h3⟩ := (evals_rel hρ _ hx).cons_inv
      have := h3.nil_inv; subst this
      have hmap : args.map ρ' = #[y] := by rw [map_toArray, h1]
      obtain ⟨a, c, rfl⟩ := hm y h2
      exact hpure (v' := .int .i64 m) (by simp [execOp, resolve, invoke, builtin, Builtin.len_, ht, Sem.run_bind, run_underlying hu, Result.andThen, hmap, goInt]) (.int _ _) he
    split at e
    · rename_i r l t hx ht
      split at e
      · rename_i el hu
        cases ev_ret e
        exact hlen hx ht hu (fun y hy => by rcases hy.pl_inv with ⟨B, o, c, ys, a', rfl, _⟩ | ⟨rfl, a, c, rfl⟩ <;> exact ⟨_, _, rfl⟩) rfl rfl
      · exact (ev_fail e).elim
    · rename_i b z n t hx ht
      split at e
      · rename_i el hu
        cases ev_ret e
        exact hlen hx ht hu (fun y hy => by rcases hy.row_inv with ⟨g, a', cap', rfl, _⟩ | ⟨rfl, _, a, rfl⟩ <;> exact ⟨_, _, rfl⟩) rfl rfl
      · exact (ev_fail e).elim
    · rename_i b z s n c t hx ht
      split at e
      · rename_i el hu
        cases ev_ret e
        exact hlen hx ht hu (fun y hy => by rcases hy.win_inv with ⟨g, a', cap', rfl, _⟩ | ⟨rfl, _, a, rfl⟩ <;> exact ⟨_, _, rfl⟩) rfl rfl
      · exact (ev_fail e).elim
    · rename_i t hx ht
      split at e
      · rename_i el hu
        cases ev_ret e
        exact hlen (m := 0) hx ht hu (fun y hy => by obtain ⟨a, rfl⟩ := hy.empty_inv; exact ⟨_, _, rfl⟩) rfl rfl
      · exact (ev_fail e).elim
    · exact hc (e := e)
  · -- append
    rename_i args ts hop
    split at e
    · rename_i x y t u hxy h0 h1
      split at e
      · rename_i el hu hnt
        obtain ⟨d, hd, hnd⟩ := isIntT_false hnt
        split at e
        · rename_i r it hk hit
          obtain ⟨x', r1, e1, hx, hr⟩ := (evals_rel hρ _ hxy).cons_inv
          obtain ⟨y', r2, e2, hy, hr2⟩ := hr.cons_inv
          have := hr2.nil_inv; subst this; subst e2
          have hmap : args.map ρ' = #[x', y'] := by rw [map_toArray, e1]
          obtain ⟨dst, op, type, pos, after, guard⟩ := o
          simp only [] at hop; subst hop
          obtain ⟨nx, i', w', v', d1, d2⟩ := tappend_sound (ty := type) R hi h0 h1 hu hd hnd hit hx hy e
          refine ⟨nx, i', w', v', ?_, d2⟩
          rw [← d1]
          simp [execOp, resolve, invoke, builtin, Sem.run_bind, Result.andThen, hmap]
        · exact hc (e := e)
      · exact (ev_fail e).elim
    · exact (ev_fail e).elim
  · exact hc (e := e)

end Go.Proofs.YtkdjllolnlndkaaD
