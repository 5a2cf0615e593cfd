/-
  Regions that draw their order: equality of values, operations and their operands, the checks.
-/
import Derived.Test.YtkdjllolnlndkaaSound3
set_option linter.unusedVariables false
set_option linter.unusedSimpArgs false
namespace Go.Proofs.YtkdjllolnlndkaaD
open Go Go.RowKit

variable {P : Program} {N : Nat}

theorem beqBytes_eq : ∀ (a b : List UInt8), beqBytes a b = true → a = b
  | [], [], _ => rfl
  | x :: r, y :: s, h => by
    simp only [beqBytes, Bool.and_eq_true, nbeq, decide_eq_true_eq] at h
    rw [beqBytes_eq r s h.2, UInt8.toNat_inj.1 h.1]
  | [], _ :: _, h => by simp [beqBytes] at h
  | _ :: _, [], h => by simp [beqBytes] at h

theorem veqL_eq {f : CV → CV → Bool} (hf : ∀ a b, f a b = true → a = b) : ∀ (a b : List CV), veqL f a b = true → a = b
  | [], [], _ => rfl
  | x :: r, y :: s, h => by
    simp only [veqL, Bool.and_eq_true] at h
    rw [hf x y h.1, veqL_eq hf r s h.2]
  | [], _ :: _, h => by simp [veqL] at h
  | _ :: _, [], h => by simp [veqL] at h

theorem arr_eq {f : CV → CV → Bool} (hf : ∀ a b, f a b = true → a = b) {a b : Array CV} (h : veqL f a.toList b.toList = true) : a = b :=
  Array.toList_inj.1 (veqL_eq hf _ _ h)

theorem cast_eq {a b : RC} {l : List a.den} {m : List b.den} (h : a.cast b l = some m) : ∃ e : a = b, m = e ▸ l := by
  cases a <;> cases b <;> first | (cases h; done) | (cases h; exact ⟨rfl, rfl⟩)

theorem veq_eq : ∀ (k : Nat) (a b : CV), veq k a b = true → a = b
  | 0, a, b, h => by simp [veq] at h
  | k + 1, a, b, h => by
    have ih := veq_eq k
    unfold veq at h
    split at h
    · rename_i x y
      cases x <;> simp_all
    · simp_all
    · rename_i x y
      have := beqBytes_eq _ _ h
      congr 1
      exact ByteArray.ext (Array.toList_inj.1 this)
    · rfl
    · rfl
    · rfl
    · simp_all [nbeq]
    · rfl
    · simp_all [nbeq]
    · simp_all [nbeq]
    · simp_all [nbeq]
    · simp only [Bool.and_eq_true, nbeq, decide_eq_true_eq] at h
      obtain ⟨⟨h1, h2⟩, h3⟩ := h
      rw [h1, arr_eq ih h2, arr_eq ih h3]
    · rfl
    · simp_all [nbeq]
    · simp_all [nbeq]
    · simp_all [nbeq]
    · rw [veqL_eq ih _ _ h]
    · rename_i r l q m
      split at h
      · rename_i l' hc
        obtain ⟨e, rfl⟩ := cast_eq hc
        subst e
        simp only [plEq, decide_eq_true_eq] at h
        rw [h]
      · cases h
    · simp only [Bool.and_eq_true, nbeq, decide_eq_true_eq] at h
      obtain ⟨⟨h1, h2⟩, h3⟩ := h
      rw [h1, arr_eq ih h2, arr_eq ih h3]
    · simp only [Bool.and_eq_true, nbeq, decide_eq_true_eq] at h
      rw [h.1, ih _ _ h.2]
    · rw [arr_eq ih h]
    · rw [arr_eq ih h]
    · cases h

theorem evals_congr {ρ σ : Operand → Option CV} : ∀ (l : List Operand), (∀ x ∈ l, ρ x = σ x) → evals ρ l = evals σ l
  | [], _ => rfl
  | x :: r, h => by simp only [evals]; rw [h x (by simp), evals_congr r (fun y hy => h y (by simp [hy]))]
theorem evalsP_congr {ρ σ : Operand → Option CV} : ∀ (l : List (Nat × Operand)), (∀ x ∈ l, ρ x.2 = σ x.2) → evalsP ρ l = evalsP σ l
  | [], _ => rfl
  | (i, x) :: r, h => by simp only [evalsP]; rw [h (i, x) (by simp), evalsP_congr r (fun y hy => h y (by simp [hy]))]
theorem optEval_congr {ρ σ : Operand → Option CV} (x : Option Operand) (h : ∀ y ∈ x.toList, ρ y = σ y) : optEval ρ x = optEval σ x := by
  cases x with
  | none => rfl
  | some y => simp only [optEval]; rw [h y (by simp)]

theorem cpure_congr {ρ σ : Operand → Option CV} (h : HF) (o : Oper) (hx : ∀ x ∈ o.op.operands, ρ x = σ x) : cpure P ρ h o = cpure P σ h o := by
  obtain ⟨dst, op, type, pos, after, guard⟩ := o
  cases op with
  | move x => simp only [cpure]; exact hx x (by simp [Op.operands])
  | assign x => simp only [cpure]; exact hx x (by simp [Op.operands])
  | pick c a b => simp only [cpure]; rw [hx c (by simp [Op.operands]), hx a (by simp [Op.operands]), hx b (by simp [Op.operands])]
  | build t ps => simp only [cpure]; rw [evalsP_congr ps.toList (fun x hm => hx x.2 (by simp only [Op.operands, List.mem_toArray, List.mem_map]; exact ⟨x, hm, rfl⟩))]
  | load t a => simp only [cpure]; rw [hx a (by simp [Op.operands])]
  | nilCheck x => simp only [cpure]; rw [hx x (by simp [Op.operands])]
  | binOp op t x y u => simp only [cpure]; rw [hx x (by simp [Op.operands]), hx y (by simp [Op.operands])]
  | unOp op t x => simp only [cpure]; rw [hx x (by simp [Op.operands])]
  | convert s d x => simp only [cpure]; rw [hx x (by simp [Op.operands])]
  | makeFunc fn a b =>
    simp only [cpure]
    rw [evals_congr a.toList (fun x hm => hx x (by simp only [Op.operands, Array.mem_append]; exact .inl (by simpa using hm))), evals_congr b.toList (fun x hm => hx x (by simp only [Op.operands, Array.mem_append]; exact .inr (by simpa using hm)))]
  | makeInterface t x => simp only [cpure]; rw [hx x (by simp [Op.operands])]
  | fieldAddr t x i => simp only [cpure]; rw [hx x (by simp [Op.operands])]
  | field t x i => simp only [cpure]; rw [hx x (by simp [Op.operands])]
  | indexAddr t x ix => simp only [cpure]; rw [hx x (by simp [Op.operands]), hx ix (by simp [Op.operands])]
  | index t x ix => simp only [cpure]; rw [hx x (by simp [Op.operands]), hx ix (by simp [Op.operands])]
  | slice t x lo hi mx =>
    simp only [cpure]
    rw [hx x (by simp [Op.operands]), optEval_congr lo (fun y hy => hx y (by simp only [Op.operands, Array.mem_append]; simp at hy; simp [hy])),
      optEval_congr hi (fun y hy => hx y (by simp only [Op.operands, Array.mem_append]; simp at hy; simp [hy])), optEval_congr mx (fun y hy => hx y (by simp only [Op.operands, Array.mem_append]; simp at hy; simp [hy]))]
  | extract x i => simp only [cpure]; rw [hx x (by simp [Op.operands])]
  | call c =>
    obtain ⟨callee, args, argTypes⟩ := c
    have ha : evals ρ args.toList = evals σ args.toList := evals_congr _ (fun x hm => hx x (by simp only [Op.operands, Call.operands, Array.mem_append]; exact .inr (by simpa using hm)))
    cases callee with
    | builtin b => cases b <;> simp only [cpure] <;> rw [ha]
    | value f => simp only [cpure]
    | invoke f g => simp only [cpure]
  | _ => simp only [cpure]

theorem cmem_congr {ρ σ : Operand → Option CV} {ro id : Nat} (h : HF) (o : Oper) (hx : ∀ x ∈ o.op.operands, ρ x = σ x) : cmem P ρ ro id o h = cmem P σ ro id o h := by
  have hp := cpure_congr (P := P) h o hx
  obtain ⟨dst, op, type, pos, after, guard⟩ := o
  cases op with
  | alloc t => rfl
  | box t x => simp only [cmem]; rw [hx x (by simp [Op.operands])]
  | buildSlice t n ps => simp only [cmem]; rw [evalsP_congr ps.toList (fun x hm => hx x.2 (by simp only [Op.operands, List.mem_toArray, List.mem_map]; exact ⟨x, hm, rfl⟩))]
  | makeSlice t l c => simp only [cmem]; rw [hx l (by simp [Op.operands]), hx c (by simp [Op.operands])]
  | store t a x => simp only [cmem]; rw [hx a (by simp [Op.operands]), hx x (by simp [Op.operands])]
  | call c =>
    obtain ⟨callee, args, argTypes⟩ := c
    have ha : evals ρ args.toList = evals σ args.toList := evals_congr _ (fun x hm => hx x (by simp only [Op.operands, Call.operands, Array.mem_append]; exact .inr (by simpa using hm)))
    cases callee with
    | builtin b => cases b <;> simp only [cmem] <;> first | rw [ha] | rw [hp] | rfl
    | value f => simp only [cmem]; rw [hp]
    | invoke f g => simp only [cmem]; rw [hp]
  | _ => simp only [cmem]; rw [hp]

theorem tmem_congr {ρ σ : Operand → Option CV} {ro id : Nat} (h : HF) (o : Oper) (hx : ∀ x ∈ o.op.operands, ρ x = σ x) : tmem P ρ ro id o h = tmem P σ ro id o h := by
  have hp := cmem_congr (P := P) (ro := ro) (id := id) h o hx
  obtain ⟨dst, op, type, pos, after, guard⟩ := o
  cases op with
  | pick c a b => simp only [tmem]; rw [hx c (by simp [Op.operands]), hx a (by simp [Op.operands]), hx b (by simp [Op.operands])]
  | index t x ix => simp only [tmem]; rw [hp, hx x (by simp [Op.operands]), hx ix (by simp [Op.operands])]
  | binOp op t x y u => cases op <;> simp only [tmem] <;> rw [hp] <;> (try rw [hx x (by simp [Op.operands]), hx y (by simp [Op.operands])])
  | load t a => simp only [tmem]; rw [hp, hx a (by simp [Op.operands])]
  | store t a x => simp only [tmem]; rw [hp, hx a (by simp [Op.operands]), hx x (by simp [Op.operands])]
  | nilCheck x => simp only [tmem]; rw [hp, hx x (by simp [Op.operands])]
  | fieldAddr t x i => simp only [tmem]; rw [hp, hx x (by simp [Op.operands])]
  | indexAddr t x ix => simp only [tmem]; rw [hp, hx x (by simp [Op.operands]), hx ix (by simp [Op.operands])]
  | slice t x lo hi mx =>
    simp only [tmem]
    rw [hx x (by simp [Op.operands]), optEval_congr lo (fun y hy => hx y (by simp only [Op.operands, Array.mem_append]; simp at hy; simp [hy])),
      optEval_congr hi (fun y hy => hx y (by simp only [Op.operands, Array.mem_append]; simp at hy; simp [hy])), optEval_congr mx (fun y hy => hx y (by simp only [Op.operands, Array.mem_append]; simp at hy; simp [hy]))]
  | makeSlice t l c => simp only [tmem]; rw [hp, hx l (by simp [Op.operands])]
  | call c =>
    obtain ⟨callee, args, argTypes⟩ := c
    have ha : evals ρ args.toList = evals σ args.toList := evals_congr _ (fun x hm => hx x (by simp only [Op.operands, Call.operands, Array.mem_append]; exact .inr (by simpa using hm)))
    cases callee with
    | builtin b => cases b <;> simp only [tmem] <;> rw [hp] <;> (try rw [ha])
    | value f => simp only [tmem]; rw [hp]
    | invoke f g => simp only [tmem]; rw [hp]
  | _ => simp only [tmem]; rw [hp]

theorem cOper_congr {self : Self} {ro id : Nat} {a b : CAct} {s : CSt} (o : Oper) (hx : ∀ x ∈ o.op.operands, ceval a.tmps x = ceval b.tmps x) : cOper self P ro id a o s = cOper self P ro id b o s := by
  have hm := tmem_congr (P := P) (ro := ro) (id := id) s.heap.get o hx
  obtain ⟨dst, op, type, pos, after, guard⟩ := o
  cases op with
  | call c =>
    obtain ⟨callee, args, argTypes⟩ := c
    have ha : evals (ceval a.tmps) args.toList = evals (ceval b.tmps) args.toList := evals_congr _ (fun x hm => hx x (by simp only [Op.operands, Call.operands, Array.mem_append]; exact .inr (by simpa using hm)))
    cases callee with
    | builtin b => simp only [cOper]; rw [hm]
    | value f => simp only [cOper]; rw [ha, hx f (by simp [Op.operands, Call.operands])]
    | invoke f g => simp only [cOper]; rw [hm]
  | _ => simp only [cOper]; rw [hm]

theorem cq_congr {ρ σ : Operand → Option CV} {ro id : Nat} (h : HF) (o : Oper) (hx : ∀ x ∈ o.op.operands, ρ x = σ x) : cq P ρ ro id o h = cq P σ ro id o h := by
  unfold cq
  rw [tmem_congr h o hx]

theorem cq_pure {ρ : Operand → Option CV} {ro id : Nat} {o : Oper} (ho : isPure o.op = true) (h h' : HF) : cq P ρ ro id o h = cq P ρ ro id o h' := by
  obtain ⟨dst, op, type, pos, after, guard⟩ := o
  cases op <;> first | rfl | (simp [isPure] at ho; done) | (rename_i bo _ _ _ _; cases bo <;> rfl)

theorem allConst_mem : ∀ (l : List (Nat × Operand)), allConst l = true → ∀ (ts us : List CV), ∀ x ∈ l, ceval ts x.2 = ceval us x.2
  | [], _, _, _, x, hx => by cases hx
  | (i, y) :: r, h, ts, us, x, hx => by
    cases y <;> simp only [allConst] at h <;> first | (cases h; done) | skip
    rcases List.mem_cons.1 hx with rfl | hx
    · rfl
    · exact allConst_mem r h ts us x hx

/-- An object that is known ahead is made the same wherever it is made. -/
theorem zobj_cmem {ts : List CV} {ro id : Nat} {o : Oper} {v : CV} {ob : CObj} (hz : isZ o.op = true) (e : zobj P id o = some (v, ob)) {h : HF} (hid : h id = none) : cmem P (ceval ts) ro id o h = some (v, [(id, ob)]) := by
  unfold zobj at e
  split at e
  · rename_i u b ob' hc
    cases e
    obtain ⟨dst, op, type, pos, after, guard⟩ := o
    cases op <;> simp only [isZ] at hz <;> first | (cases hz; done) | skip
    · rename_i t
      simp only [cmem] at hc ⊢
      split at hc
      · rename_i z hzz
        cases hf : (flat z && z.cells.toList.all cellOk) with
        | false => rw [hf] at hc; cases hc
        | true =>
          rw [hf] at hc
          simp only [cond_true, cnew] at hc ⊢
          rw [hid]; simp only []
          cases hc; rfl
      · cases hc
    · rename_i t n ps
      simp only [cmem] at hc ⊢
      rw [evalsP_congr ps.toList (fun x hx => allConst_mem _ hz ts [] x hx)]
      split at hc
      · rename_i el hu
        split at hc
        · rename_i it qs hi hq
          split at hc
          · rename_i z hzz
            cases hf : (Nat.ble (n * it.size) (2 ^ 24) && sure qs && Nat.beq z.cells.size it.size) with
            | false => rw [hf] at hc; cases hc
            | true =>
              rw [hf] at hc
              simp only [cond_true] at hc ⊢
              split at hc
              · rename_i cs hfill
                cases hok : cs.toList.all cellOk with
                | false => rw [hok] at hc; cases hc
                | true =>
                  rw [hok] at hc
                  simp only [cond_true, cnew] at hc ⊢
                  rw [hid]; simp only []
                  cases hc; rfl
              · cases hc
          · cases hc
        · cases hc
      · cases hc
  · cases e

theorem okq_eq {ro base : Nat} {p : Pend} {h : HF} (e : okq P ro base p h = true) : cq P (ceval p.ts) ro (base + p.i) p.o h = some p.v := by
  unfold okq at e
  split at e
  · rename_i v hv; rw [hv, veq_eq _ _ _ e]
  · cases e

/-! ### Bits -/
theorem tb_eq (m i : Nat) : tb m i = m.testBit i := by
  simp only [tb, Nat.testBit, nbeq]
  have h1 : Nat.land (Nat.shiftRight m i) 1 = 1 &&& (m >>> i) := by
    show (m >>> i) &&& 1 = _
    rw [Nat.and_comm]
  rw [h1]
  have : 1 &&& (m >>> i) = (m >>> i) % 2 := by rw [Nat.and_comm, Nat.and_one_is_mod]
  rw [this]
  rcases Nat.mod_two_eq_zero_or_one (m >>> i) with h | h <;> simp [h]
theorem tb_lor (a b i : Nat) : tb (Nat.lor a b) i = (tb a i || tb b i) := by
  rw [tb_eq, tb_eq, tb_eq]; show (a ||| b).testBit i = _; rw [Nat.testBit_or]
theorem tb_land (a b i : Nat) : tb (Nat.land a b) i = (tb a i && tb b i) := by
  rw [tb_eq, tb_eq, tb_eq]; show (a &&& b).testBit i = _; rw [Nat.testBit_and]
theorem tb_bit (i j : Nat) : tb (bit1 i) j = decide (i = j) := by
  rw [tb_eq]; show (1 <<< i).testBit j = _
  rw [Nat.one_shiftLeft, Nat.testBit_two_pow]
theorem tb_zero (i : Nat) : tb 0 i = false := by rw [tb_eq]; simp

theorem tmask_mem : ∀ (l : List Tmp) (t : Tmp), tb (tmask l) t = true ↔ t ∈ l
  | [], t => by simp [tmask, tb_zero]
  | x :: r, t => by
    simp only [tmask, tb_lor, tb_bit, Bool.or_eq_true, decide_eq_true_eq, tmask_mem r t, List.mem_cons]
    exact ⟨fun h => h.imp Eq.symm id, fun h => h.imp Eq.symm id⟩

theorem land_none {a b : Nat} (h : Nat.beq (Nat.land a b) 0 = true) {t : Nat} (ha : tb a t = true) (hb : tb b t = true) : False := by
  rw [nbeq, decide_eq_true_eq] at h
  have := tb_land a b t
  rw [h, ha, hb, tb_zero] at this
  cases this

theorem pmask_mem (acc : List Nat) (i : Nat) : ∀ (l : List Edge), tb (pmask acc l) i = true ↔ ∃ e ∈ l, Region.binds .any e = true ∧ (e.on = i ∨ tb (acc.getD e.on 0) i = true)
  | [] => by simp [pmask, tb_zero]
  | e :: r => by
    simp only [pmask]
    cases hb : Region.binds .any e with
    | false => simp only [cond_false, pmask_mem acc i r]; simp [hb]
    | true =>
      simp only [cond_true, tb_lor, tb_bit, Bool.or_eq_true, decide_eq_true_eq, pmask_mem acc i r]
      constructor
      · rintro (h | ⟨x, h1, h2⟩)
        · exact ⟨e, by simp, hb, h⟩
        · exact ⟨x, by simp [h1], h2⟩
      · rintro ⟨x, h1, h2, h3⟩
        rcases List.mem_cons.1 h1 with rfl | h1
        · exact .inl h3
        · exact .inr ⟨x, h1, h2, h3⟩

end Go.Proofs.YtkdjllolnlndkaaD
