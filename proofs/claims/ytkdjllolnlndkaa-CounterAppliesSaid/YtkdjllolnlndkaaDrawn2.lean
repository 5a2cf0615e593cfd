/-
  Regions that draw their order: what the checks give; the trace of the run in the order of the text.
-/
import Derived.Test.YtkdjllolnlndkaaDrawn
set_option linter.unusedVariables false
set_option linter.unusedSimpArgs false
namespace Go.Proofs.YtkdjllolnlndkaaD
open Go Go.RowKit

variable {P : Program} {N : Nat}

theorem infos_get (ops : Array Oper) : ∀ (l : List Oper) (i : Nat) (acc : List Nat) (k : Nat) (o : Oper), l[k]? = some o →
    (infos ops l i acc)[k]? = some (infoOf ops (acc ++ ((infos ops l i acc).map (·.bf)).take k) (i + k) o)
  | [], i, acc, k, o, h => by simp at h
  | x :: r, i, acc, 0, o, h => by simp at h; subst h; simp [infos]
  | x :: r, i, acc, k + 1, o, h => by
    have := infos_get ops r (i + 1) (acc ++ [(infoOf ops acc i x).bf]) k o (by simpa using h)
    simp only [infos, List.getElem?_cons_succ, List.map_cons, List.take_succ_cons]
    rw [this]
    simp [Nat.add_assoc, Nat.add_comm 1 k]

theorem edgesOk_get : ∀ (l : List Oper) (i : Nat), edgesOk l i = true → ∀ k o, l[k]? = some o → ∀ e ∈ o.after.toList, Region.binds .any e = true → e.on < i + k
  | [], i, h, k, o, hk => by simp at hk
  | x :: r, i, h, k, o, hk => by
    simp only [edgesOk, Bool.and_eq_true, List.all_eq_true] at h
    cases k with
    | zero =>
      simp at hk; subst hk
      intro e he hb
      have := h.1 e he
      simp [hb, Nat.blt_eq] at this
      omega
    | succ k =>
      intro e he hb
      have := edgesOk_get r (i + 1) h.2 k o (by simpa using hk) e he hb
      omega

theorem allFit_get : ∀ (l : List Info), allFit l = true → ∀ (i j : Nat) (x y : Info), i < j → l[i]? = some x → l[j]? = some y → fits x y = true
  | [], h, i, j, x, y, hij, hx, hy => by simp at hx
  | z :: r, h, i, j, x, y, hij, hx, hy => by
    simp only [allFit, Bool.and_eq_true, List.all_eq_true] at h
    cases j with
    | zero => omega
    | succ j =>
      simp only [List.getElem?_cons_succ] at hy
      cases i with
      | zero => simp at hx; subst hx; exact h.1 y (List.mem_of_getElem? hy)
      | succ i => exact allFit_get r h.2 i j x y (by omega) (by simpa using hx) hy

structure Good (ops : Array Oper) (B : List Nat) : Prop where
  edge : ∀ k o, ops[k]? = some o → ∀ e ∈ o.after.toList, Region.binds .any e = true → e.on < k
  bf : ∀ k o, ops[k]? = some o → ∀ i, tb (B.getD k 0) i = true → ∃ e ∈ o.after.toList, Region.binds .any e = true ∧ (e.on = i ∨ tb (B.getD e.on 0) i = true)
  wr : ∀ i j oi oj d, i < j → ops[i]? = some oi → ops[j]? = some oj → oi.dst = some d → (oj.dst = some d ∨ d ∈ oj.looksAt ops) → tb (B.getD j 0) i = true
  rd : ∀ i j oi oj d, i < j → ops[i]? = some oi → ops[j]? = some oj → d ∈ oi.looksAt ops → oj.dst = some d → tb (B.getD j 0) i = true
  act : ∀ i j oi oj, i < j → ops[i]? = some oi → ops[j]? = some oj → isAct oi.op = true → isAct oj.op = true → tb (B.getD j 0) i = true

theorem good_of {ops : Array Oper} (h : (edgesOk ops.toList 0 && allFit (infos ops ops.toList 0 [])) = true) : Good ops ((infos ops ops.toList 0 []).map (·.bf)) := by
  simp only [Bool.and_eq_true] at h
  obtain ⟨h1, h2⟩ := h
  have hg : ∀ {k o}, ops[k]? = some o → (infos ops ops.toList 0 [])[k]? = some (infoOf ops (((infos ops ops.toList 0 []).map (·.bf)).take k) k o) := fun {k o} hk => by
    have := infos_get ops ops.toList 0 [] k o (by simpa using hk)
    simpa using this
  have hB : ∀ {k o}, ops[k]? = some o → ((infos ops ops.toList 0 []).map (·.bf)).getD k 0 = pmask (((infos ops ops.toList 0 []).map (·.bf)).take k) o.after.toList := fun {k o} hk => by
    rw [List.getD_eq_getElem?_getD, List.getElem?_map, hg hk]; rfl
  have hedge : ∀ k o, ops[k]? = some o → ∀ e ∈ o.after.toList, Region.binds .any e = true → e.on < k := fun k o hk e he hb => by
    have := edgesOk_get ops.toList 0 h1 k o (by simpa using hk) e he hb; omega
  have hfit : ∀ {i j oi oj}, i < j → ops[i]? = some oi → ops[j]? = some oj → tb (((infos ops ops.toList 0 []).map (·.bf)).getD j 0) i = true ∨
      (Nat.beq (Nat.land (tmask oi.dst.toList) (tmask (oj.dst.toList ++ oj.looksAt ops))) 0 = true ∧ Nat.beq (Nat.land (tmask (oi.dst.toList ++ oi.looksAt ops)) (tmask oj.dst.toList)) 0 = true ∧ (isAct oi.op && isAct oj.op) = false) := fun {i j oi oj} hij hi hj => by
    have := allFit_get _ h2 i j _ _ hij (hg hi) (hg hj)
    simp only [fits, infoOf, Bool.or_eq_true, Bool.and_eq_true, Bool.not_eq_true'] at this
    rw [hB hj]
    exact this.imp id (fun ⟨⟨a, b⟩, c⟩ => ⟨a, b, c⟩)
  refine ⟨hedge, ?_, ?_, ?_, ?_⟩
  · intro k o hk i hi
    rw [hB hk] at hi
    obtain ⟨e, he, hb, h3⟩ := (pmask_mem _ i _).1 hi
    refine ⟨e, he, hb, h3.imp id (fun h4 => ?_)⟩
    have hlt := hedge k o hk e he hb
    rw [List.getD_eq_getElem?_getD, List.getElem?_take, if_pos hlt] at h4
    rw [List.getD_eq_getElem?_getD]; exact h4
  · intro i j oi oj d hij hi hj hd hx
    rcases hfit hij hi hj with h | ⟨h, _, _⟩
    · exact h
    · exact (land_none h (t := d) ((tmask_mem _ d).2 (by simp [hd])) ((tmask_mem _ d).2 (by rcases hx with hx | hx <;> simp [hx]))).elim
  · intro i j oi oj d hij hi hj hd hx
    rcases hfit hij hi hj with h | ⟨_, h, _⟩
    · exact h
    · exact (land_none h (t := d) ((tmask_mem _ d).2 (by simp [hd])) ((tmask_mem _ d).2 (by simp [hx]))).elim
  · intro i j oi oj hij hi hj ha hb
    rcases hfit hij hi hj with h | ⟨_, _, h⟩
    · exact h
    · rw [ha, hb] at h; cases h

/-! ### The trace -/
def cput (ts : List CV) (dst : Option Tmp) (v : CV) : List CV :=
  match dst with
  | some d => ts.set d v
  | none => ts
theorem put_tmps (a : CAct) (dst : Option Tmp) (v : CV) : (a.put dst v).tmps = cput a.tmps dst v := by cases dst <;> rfl
theorem put_marks (a : CAct) (dst : Option Tmp) (v : CV) : (a.put dst v).marks = a.marks := by cases dst <;> rfl
theorem cput_len (ts : List CV) (dst : Option Tmp) (v : CV) : (cput ts dst v).length = ts.length := by cases dst <;> simp [cput]

structure Ctx where
  self : Self
  ro : Nat
  base : Nat
  ops : Array Oper
  B : List Nat
  marks : List Nat

def Wants (c : Ctx) (tm : Nat → List CV) (i : Nat) (o : Oper) : Prop := c.ops[i]? = some o ∧ Region.wanted o (cyielded c.ops (tm i)) = true
def cqt (P : Program) (c : Ctx) (ts : List CV) (i : Nat) (o : Oper) (s : Tr CObj) : Option CV := cq P (ceval ts) c.ro (c.base + i) o s.get

structure DTr (P : Program) (c : Ctx) (k n : Nat) (tm : Nat → List CV) (st : Nat → CSt) (val : Nat → CV) (past : List (Nat × Tr CObj)) (pend : List Pend) : Prop where
  fine : ∀ i o, k ≤ i → i < n → c.ops[i]? = some o → gfine c.ops o (tm i) = true
  put : ∀ i o, k ≤ i → i < n → c.ops[i]? = some o → tm (i + 1) = cput (tm i) o.dst (val i)
  idle : ∀ i o, k ≤ i → i < n → c.ops[i]? = some o → Region.wanted o (cyielded c.ops (tm i)) = false → val i = cundef ∧ st (i + 1) = st i
  acts : ∀ i o, k ≤ i → i < n → Wants c tm i o → isAct o.op = true → cOper c.self P c.ro (c.base + i) ⟨tm i, c.marks⟩ o (st i) = some (val i, st (i + 1))
  quiet : ∀ i o, k ≤ i → i < n → Wants c tm i o → isAct o.op = false → st (i + 1) = st i ∧ cqt P c (tm i) i o (st i).heap = some (val i)
  w1 : ∀ i j oi oj, k ≤ i → i < j → j < n → Wants c tm i oi → isAct oi.op = false → Wants c tm j oj → isAct oj.op = true → tb (c.B.getD j 0) i = true ∨ cqt P c (tm i) i oi (st (j + 1)).heap = some (val i)
  w2 : ∀ i j oi oj, k ≤ j → j < i → i < n → Wants c tm i oi → isAct oi.op = false → Wants c tm j oj → isAct oj.op = true → tb (c.B.getD i 0) j = true ∨ cqt P c (tm i) i oi (st j).heap = some (val i)
  pst : ∀ x ∈ past, ∀ i oi, k ≤ i → i < n → Wants c tm i oi → isAct oi.op = false → tb (c.B.getD i 0) x.1 = true ∨ cqt P c (tm i) i oi x.2 = some (val i)
  pnd : ∀ p ∈ pend, ∀ j oj, k ≤ j → j < n → Wants c tm j oj → isAct oj.op = true → tb (c.B.getD j 0) p.i = true ∨ cqt P c p.ts p.i p.o (st (j + 1)).heap = some p.v

def at0 {α : Type} (k : Nat) (x : α) (f : Nat → α) : Nat → α := fun m => if m = k then x else f m
theorem at0_eq {α : Type} (k : Nat) (x : α) (f : Nat → α) : at0 k x f k = x := by simp [at0]
theorem at0_ne {α : Type} {k m : Nat} (x : α) (f : Nat → α) (h : m ≠ k) : at0 k x f m = f m := by simp [at0, h]

theorem DTr.cons {c : Ctx} {k n : Nat} {tm : Nat → List CV} {st : Nat → CSt} {val : Nat → CV} {past past' : List (Nat × Tr CObj)} {pend pend' : List Pend} (T : DTr P c (k + 1) n tm st val past' pend')
    {ts : List CV} {s : CSt} {v : CV} {o : Oper} (ho : c.ops[k]? = some o) (hfine : gfine c.ops o ts = true) (hput : tm (k + 1) = cput ts o.dst v)
    (hpast : ∀ x ∈ past, x ∈ past') (hpend : ∀ x ∈ pend, x ∈ pend')
    (hidle : Region.wanted o (cyielded c.ops ts) = false → v = cundef ∧ st (k + 1) = s)
    (hact : Region.wanted o (cyielded c.ops ts) = true → isAct o.op = true → cOper c.self P c.ro (c.base + k) ⟨ts, c.marks⟩ o s = some (v, st (k + 1)) ∧ (k, s.heap) ∈ past' ∧
      ∀ p ∈ pend, tb (c.B.getD k 0) p.i = true ∨ cqt P c p.ts p.i p.o (st (k + 1)).heap = some p.v)
    (hquiet : Region.wanted o (cyielded c.ops ts) = true → isAct o.op = false → st (k + 1) = s ∧ cqt P c ts k o s.heap = some v ∧ (∀ x ∈ past, tb (c.B.getD k 0) x.1 = true ∨ cqt P c ts k o x.2 = some v) ∧
      ∀ j oj, k < j → j < n → Wants c tm j oj → isAct oj.op = true → tb (c.B.getD j 0) k = true ∨ cqt P c ts k o (st (j + 1)).heap = some v) :
    DTr P c k n (at0 k ts tm) (at0 k s st) (at0 k v val) past pend := by
  have hW : ∀ {i oi}, i ≠ k → Wants c (at0 k ts tm) i oi → Wants c tm i oi := fun {i oi} hi h => by
    unfold Wants at h ⊢; rwa [at0_ne _ _ hi] at h
  have hW0 : ∀ {oi}, Wants c (at0 k ts tm) k oi → oi = o ∧ Region.wanted o (cyielded c.ops ts) = true := fun {oi} h => by
    unfold Wants at h; rw [at0_eq, ho] at h; obtain ⟨h1, h2⟩ := h; cases h1; exact ⟨rfl, h2⟩
  refine ⟨?_, ?_, ?_, ?_, ?_, ?_, ?_, ?_, ?_⟩
  · intro i oi h1 h2 h3
    by_cases hi : i = k
    · subst hi; rw [ho] at h3; cases h3; rw [at0_eq]; exact hfine
    · rw [at0_ne _ _ hi]; exact T.fine i oi (by omega) h2 h3
  · intro i oi h1 h2 h3
    rw [at0_ne _ _ (by omega : i + 1 ≠ k)]
    by_cases hi : i = k
    · subst hi; rw [ho] at h3; cases h3; rw [at0_eq, at0_eq]; exact hput
    · rw [at0_ne _ _ hi, at0_ne _ _ hi]; exact T.put i oi (by omega) h2 h3
  · intro i oi h1 h2 h3 h4
    rw [at0_ne _ _ (by omega : i + 1 ≠ k)]
    by_cases hi : i = k
    · subst hi; rw [ho] at h3; cases h3; rw [at0_eq] at h4; rw [at0_eq, at0_eq]; exact hidle h4
    · rw [at0_ne _ _ hi] at h4; rw [at0_ne _ _ hi, at0_ne _ _ hi]; exact T.idle i oi (by omega) h2 h3 h4
  · intro i oi h1 h2 h3 h4
    rw [at0_ne _ _ (by omega : i + 1 ≠ k)]
    by_cases hi : i = k
    · subst hi; obtain ⟨rfl, hw⟩ := hW0 h3; rw [at0_eq, at0_eq, at0_eq]; exact (hact hw h4).1
    · rw [at0_ne _ _ hi, at0_ne _ _ hi, at0_ne _ _ hi]; exact T.acts i oi (by omega) h2 (hW hi h3) h4
  · intro i oi h1 h2 h3 h4
    rw [at0_ne _ _ (by omega : i + 1 ≠ k)]
    by_cases hi : i = k
    · subst hi; obtain ⟨rfl, hw⟩ := hW0 h3; rw [at0_eq, at0_eq, at0_eq]; exact ⟨(hquiet hw h4).1, (hquiet hw h4).2.1⟩
    · rw [at0_ne _ _ hi, at0_ne _ _ hi, at0_ne _ _ hi]; exact T.quiet i oi (by omega) h2 (hW hi h3) h4
  · intro i j oi oj h1 h2 h3 h4 h5 h6 h7
    rw [at0_ne _ _ (by omega : j + 1 ≠ k)]
    have hj := hW (by omega) h6
    by_cases hi : i = k
    · subst hi; obtain ⟨rfl, hw⟩ := hW0 h4; rw [at0_eq, at0_eq]; exact (hquiet hw h5).2.2.2 j oj h2 h3 hj h7
    · rw [at0_ne _ _ hi, at0_ne _ _ hi]; exact T.w1 i j oi oj (by omega) h2 h3 (hW hi h4) h5 hj h7
  · intro i j oi oj h1 h2 h3 h4 h5 h6 h7
    have hi := hW (by omega) h4
    rw [at0_ne _ _ (by omega : i ≠ k), at0_ne _ _ (by omega : i ≠ k)]
    by_cases hj : j = k
    · subst hj; obtain ⟨rfl, hw⟩ := hW0 h6; rw [at0_eq]; exact T.pst _ (hact hw h7).2.1 i oi (by omega) h3 hi h5
    · rw [at0_ne _ _ hj]; exact T.w2 i j oi oj (by omega) h2 h3 hi h5 (hW hj h6) h7
  · intro x hx i oi h1 h2 h3 h4
    by_cases hi : i = k
    · subst hi; obtain ⟨rfl, hw⟩ := hW0 h3; rw [at0_eq, at0_eq]; exact (hquiet hw h4).2.2.1 x hx
    · rw [at0_ne _ _ hi, at0_ne _ _ hi]; exact T.pst x (hpast x hx) i oi (by omega) h2 (hW hi h3) h4
  · intro p hp j oj h1 h2 h3 h4
    rw [at0_ne _ _ (by omega : j + 1 ≠ k)]
    by_cases hj : j = k
    · subst hj; obtain ⟨rfl, hw⟩ := hW0 h3; exact (hact hw h4).2.2 p hp
    · exact T.pnd p (hpend p hp) j oj (by omega) h2 (hW hj h3) h4

theorem dOps_trace {c : Ctx} : ∀ (l : List Oper) (k : Nat) (past : List (Nat × Tr CObj)) (pend : List Pend) (a : CAct) (s : CSt) {a2 : CAct} {s2 : CSt},
    dOps c.self P c.ro c.base c.ops c.B l k past pend a s = some (a2, s2) → a.marks = c.marks → (∀ j, l[j]? = c.ops[k + j]?) →
    ∃ tm st val, tm k = a.tmps ∧ st k = s ∧ tm (k + l.length) = a2.tmps ∧ st (k + l.length) = s2 ∧ a2.marks = c.marks ∧ DTr P c k (k + l.length) tm st val past pend
  | [], k, past, pend, a, s, a2, s2, e, hm, hl => by
    simp only [dOps] at e; cases e
    refine ⟨fun _ => a.tmps, fun _ => s, fun _ => cundef, rfl, rfl, rfl, rfl, hm, ⟨?_, ?_, ?_, ?_, ?_, ?_, ?_, ?_, ?_⟩⟩
    all_goals first
      | (intro i o h1 h2; simp only [List.length_nil] at h2; omega)
      | (intro i j oi oj h1 h2 h3; simp only [List.length_nil] at h3; omega)
      | (intro x hx i o h1 h2; simp only [List.length_nil] at h2; omega)
  | o :: r, k, past, pend, a, s, a2, s2, e, hm, hl => by
    have h0 : c.ops[k]? = some o := by simpa using (hl 0).symm
    have hl' : ∀ j, r[j]? = c.ops[k + 1 + j]? := fun j => by have := hl (j + 1); simpa [Nat.add_assoc, Nat.add_comm 1 j] using this
    have hn : k + (o :: r).length = k + 1 + r.length := by simp; omega
    rw [hn]
    simp only [dOps] at e
    have hmk : (⟨a.tmps, c.marks⟩ : CAct) = a := by rw [← hm]
    cases hgf : gfine c.ops o a.tmps with
    | false => rw [hgf] at e; cases e
    | true =>
    rw [hgf] at e
    simp only [cond_true] at e
    cases hw : Region.wanted o (cyielded c.ops a.tmps) with
    | false =>
      rw [hw] at e; simp only [cond_false] at e
      obtain ⟨tm, st, val, t1, t2, t3, t4, t5, T⟩ := dOps_trace r (k + 1) past pend (a.put o.dst cundef) s e (by rw [put_marks]; exact hm) hl'
      refine ⟨at0 k a.tmps tm, at0 k s st, at0 k cundef val, at0_eq _ _ _, at0_eq _ _ _, by rw [at0_ne _ _ (by omega)]; exact t3, by rw [at0_ne _ _ (by omega)]; exact t4, t5, ?_⟩
      exact T.cons h0 hgf (by rw [t1, put_tmps]) (fun _ h => h) (fun _ h => h) (fun _ => ⟨rfl, t2⟩) (fun h => by rw [hw] at h; cases h) (fun h => by rw [hw] at h; cases h)
    | true =>
      rw [hw] at e; simp only [cond_true] at e
      cases hact : isAct o.op with
      | true =>
        rw [hact] at e; simp only [cond_true] at e
        split at e
        · rename_i v s1 ho
          cases hp : (pend.all fun p => tb (c.B.getD k 0) p.i || okq P c.ro c.base p s1.heap.get) with
          | false => rw [hp] at e; simp at e
          | true =>
            rw [hp] at e; simp only [cond_true] at e
            obtain ⟨tm, st, val, t1, t2, t3, t4, t5, T⟩ := dOps_trace r (k + 1) ((k, s.heap) :: past) pend (a.put o.dst v) s1 e (by rw [put_marks]; exact hm) hl'
            refine ⟨at0 k a.tmps tm, at0 k s st, at0 k v val, at0_eq _ _ _, at0_eq _ _ _, by rw [at0_ne _ _ (by omega)]; exact t3, by rw [at0_ne _ _ (by omega)]; exact t4, t5, ?_⟩
            refine T.cons h0 hgf (by rw [t1, put_tmps]) (fun x h => by simp [h]) (fun _ h => h) (fun h => by rw [hw] at h; cases h) (fun _ _ => ⟨by rw [hmk, t2]; exact ho, by simp, fun p hpm => ?_⟩) (fun _ h => by rw [hact] at h; cases h)
            have := List.all_eq_true.1 hp p hpm
            simp only [Bool.or_eq_true] at this
            rw [t2]
            exact this.imp id okq_eq
        · cases e
      | false =>
        rw [hact] at e; simp only [cond_false] at e
        split at e
        · cases e
        · rename_i v hv
          cases hpu : isPure o.op with
          | true =>
            rw [hpu] at e; simp only [cond_true] at e
            obtain ⟨tm, st, val, t1, t2, t3, t4, t5, T⟩ := dOps_trace r (k + 1) past pend (a.put o.dst v) s e (by rw [put_marks]; exact hm) hl'
            refine ⟨at0 k a.tmps tm, at0 k s st, at0 k v val, at0_eq _ _ _, at0_eq _ _ _, by rw [at0_ne _ _ (by omega)]; exact t3, by rw [at0_ne _ _ (by omega)]; exact t4, t5, ?_⟩
            refine T.cons h0 hgf (by rw [t1, put_tmps]) (fun x h => h) (fun _ h => h) (fun h => by rw [hw] at h; cases h) (fun _ h => by rw [hact] at h; cases h) (fun _ _ => ⟨t2, hv, fun x _ => .inr ?_, fun j oj _ _ _ _ => .inr ?_⟩)
            · rw [← hv]; exact cq_pure hpu _ _
            · rw [← hv]; exact cq_pure hpu _ _
          | false =>
            rw [hpu] at e; simp only [cond_false] at e
            cases hp : (past.all fun p => tb (c.B.getD k 0) p.1 || okq P c.ro c.base ⟨k, o, a.tmps, v⟩ p.2.get) with
            | false => rw [hp] at e; simp at e
            | true =>
              rw [hp] at e; simp only [cond_true] at e
              obtain ⟨tm, st, val, t1, t2, t3, t4, t5, T⟩ := dOps_trace r (k + 1) past (⟨k, o, a.tmps, v⟩ :: pend) (a.put o.dst v) s e (by rw [put_marks]; exact hm) hl'
              refine ⟨at0 k a.tmps tm, at0 k s st, at0 k v val, at0_eq _ _ _, at0_eq _ _ _, by rw [at0_ne _ _ (by omega)]; exact t3, by rw [at0_ne _ _ (by omega)]; exact t4, t5, ?_⟩
              refine T.cons h0 hgf (by rw [t1, put_tmps]) (fun x h => h) (fun x h => by simp [h]) (fun h => by rw [hw] at h; cases h) (fun _ h => by rw [hact] at h; cases h) (fun _ _ => ⟨t2, hv, fun x hx => ?_, fun j oj h1 h2 h3 h4 => ?_⟩)
              · have := List.all_eq_true.1 hp x hx
                simp only [Bool.or_eq_true] at this
                exact this.imp id okq_eq
              · exact T.pnd ⟨k, o, a.tmps, v⟩ (by simp) j oj (by omega) h2 h3 h4

end Go.Proofs.YtkdjllolnlndkaaD
