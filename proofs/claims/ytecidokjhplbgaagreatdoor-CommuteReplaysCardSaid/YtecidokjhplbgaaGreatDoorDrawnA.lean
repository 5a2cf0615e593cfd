/-
  Regions that draw their order: equality of values, operations and their operands, the checks.
  Regions that draw their order: what the checks give; the trace of the run in the order of the text.
  Regions that draw their order: whatever the order, the run comes to what the run in the order of the text comes to.
  Regions that draw their order: the theorem.
-/
import Derived.Test.YtecidokjhplbgaaGreatDoorSoundA
set_option linter.unusedVariables false
set_option linter.unusedSimpArgs false
namespace Go.Proofs.YtecidokjhplbgaaGreatDoorD
open Go Go.RowKit

variable {P : Program} {N : Nat}

theorem beqBytes_eq : ∀ (a b : List UInt8), beqBytes a b = true → a = b
  | [], [], _ => rfl
  | x :: r, y :: s, h => by
    simp only [beqBytes, Bool.and_eq_true, nbeq, decide_eq_true_eq] at h
    rw [beqBytes_eq r s h.2, UInt8.toNat_inj.1 h.1]
  | [], _ :: _, h => by simp [beqBytes] at h
  | _ :: _, [], h => by simp [beqBytes] at h

theorem veqL_eq {f : CV → CV → Bool} (hf : ∀ a b, f a b = true → a = b) : ∀ (a b : List CV), veqL f a b = true → a = b
  | [], [], _ => rfl
  | x :: r, y :: s, h => by
    simp only [veqL, Bool.and_eq_true] at h
    rw [hf x y h.1, veqL_eq hf r s h.2]
  | [], _ :: _, h => by simp [veqL] at h
  | _ :: _, [], h => by simp [veqL] at h

theorem arr_eq {f : CV → CV → Bool} (hf : ∀ a b, f a b = true → a = b) {a b : Array CV} (h : veqL f a.toList b.toList = true) : a = b :=
  Array.toList_inj.1 (veqL_eq hf _ _ h)

theorem cast_eq {a b : RC} {l : List a.den} {m : List b.den} (h : a.cast b l = some m) : ∃ e : a = b, m = e ▸ l := by
  cases a <;> cases b <;> first | (cases h; done) | (cases h; exact ⟨rfl, rfl⟩)

theorem veq_eq : ∀ (k : Nat) (a b : CV), veq k a b = true → a = b
  | 0, a, b, h => by simp [veq] at h
  | k + 1, a, b, h => by
    have ih := veq_eq k
    unfold veq at h
    split at h
    · rename_i x y
      cases x <;> simp_all
    · simp_all
    · rename_i x y
      have := beqBytes_eq _ _ h
      congr 1
      exact ByteArray.ext (Array.toList_inj.1 this)
    · rfl
    · rfl
    · rfl
    · simp_all [nbeq]
    · rfl
    · simp_all [nbeq]
    · simp_all [nbeq]
    · simp_all [nbeq]
    · simp only [Bool.and_eq_true, nbeq, decide_eq_true_eq] at h
      obtain ⟨⟨h1, h2⟩, h3⟩ := h
      rw [h1, arr_eq ih h2, arr_eq ih h3]
    · rfl
    · simp_all [nbeq]
    · simp_all [nbeq]
    · simp_all [nbeq]
    · rw [veqL_eq ih _ _ h]
    · rename_i r l q m
      split at h
      · rename_i l' hc
        obtain ⟨e, rfl⟩ := cast_eq hc
        subst e
        simp only [plEq, decide_eq_true_eq] at h
        rw [h]
      · cases h
    · simp only [Bool.and_eq_true, nbeq, decide_eq_true_eq] at h
      obtain ⟨⟨h1, h2⟩, h3⟩ := h
      rw [h1, arr_eq ih h2, arr_eq ih h3]
    · simp only [Bool.and_eq_true, nbeq, decide_eq_true_eq] at h
      rw [h.1, ih _ _ h.2]
    · rw [arr_eq ih h]
    · rw [arr_eq ih h]
    · cases h

theorem evals_congr {ρ σ : Operand → Option CV} : ∀ (l : List Operand), (∀ x ∈ l, ρ x = σ x) → evals ρ l = evals σ l
  | [], _ => rfl
  | x :: r, h => by simp only [evals]; rw [h x (by simp), evals_congr r (fun y hy => h y (by simp [hy]))]
theorem evalsP_congr {ρ σ : Operand → Option CV} : ∀ (l : List (Nat × Operand)), (∀ x ∈ l, ρ x.2 = σ x.2) → evalsP ρ l = evalsP σ l
  | [], _ => rfl
  | (i, x) :: r, h => by simp only [evalsP]; rw [h (i, x) (by simp), evalsP_congr r (fun y hy => h y (by simp [hy]))]
theorem optEval_congr {ρ σ : Operand → Option CV} (x : Option Operand) (h : ∀ y ∈ x.toList, ρ y = σ y) : optEval ρ x = optEval σ x := by
  cases x with
  | none => rfl
  | some y => simp only [optEval]; rw [h y (by simp)]

theorem cpure_congr {ρ σ : Operand → Option CV} (h : HF) (o : Oper) (hx : ∀ x ∈ o.op.operands, ρ x = σ x) : cpure P ρ h o = cpure P σ h o := by
  obtain ⟨dst, op, type, pos, after, guard⟩ := o
  cases op with
  | move x => simp only [cpure_eq, cpure0]; exact hx x (by simp [Op.operands])
  | assign x => simp only [cpure_eq, cpure0]; exact hx x (by simp [Op.operands])
  | pick c a b => simp only [cpure_eq, cpure0]; rw [hx c (by simp [Op.operands]), hx a (by simp [Op.operands]), hx b (by simp [Op.operands])]
  | build t ps => simp only [cpure_eq, cpure0]; rw [evalsP_congr ps.toList (fun x hm => hx x.2 (by simp only [Op.operands, List.mem_toArray, List.mem_map]; exact ⟨x, hm, rfl⟩))]
  | load t a => simp only [cpure_eq, cpure0]; rw [hx a (by simp [Op.operands])]
  | nilCheck x => simp only [cpure_eq, cpure0]; rw [hx x (by simp [Op.operands])]
  | binOp op t x y u => simp only [cpure_eq, cpure0]; rw [hx x (by simp [Op.operands]), hx y (by simp [Op.operands])]
  | unOp op t x => simp only [cpure_eq, cpure0]; rw [hx x (by simp [Op.operands])]
  | convert s d x => simp only [cpure_eq, cpure0]; rw [hx x (by simp [Op.operands])]
  | makeFunc fn a b =>
    simp only [cpure_eq, cpure0]
    rw [evals_congr a.toList (fun x hm => hx x (by simp only [Op.operands, Array.mem_append]; exact .inl (by simpa using hm))), evals_congr b.toList (fun x hm => hx x (by simp only [Op.operands, Array.mem_append]; exact .inr (by simpa using hm)))]
  | makeInterface t x => simp only [cpure_eq, cpure0]; rw [hx x (by simp [Op.operands])]
  | fieldAddr t x i => simp only [cpure_eq, cpure0]; rw [hx x (by simp [Op.operands])]
  | field t x i => simp only [cpure_eq, cpure0]; rw [hx x (by simp [Op.operands])]
  | indexAddr t x ix => simp only [cpure_eq, cpure0]; rw [hx x (by simp [Op.operands]), hx ix (by simp [Op.operands])]
  | index t x ix => simp only [cpure_eq, cpure0]; rw [hx x (by simp [Op.operands]), hx ix (by simp [Op.operands])]
  | slice t x lo hi mx =>
    simp only [cpure_eq, cpure0]
    rw [hx x (by simp [Op.operands]), optEval_congr lo (fun y hy => hx y (by simp only [Op.operands, Array.mem_append]; simp at hy; simp [hy])),
      optEval_congr hi (fun y hy => hx y (by simp only [Op.operands, Array.mem_append]; simp at hy; simp [hy])), optEval_congr mx (fun y hy => hx y (by simp only [Op.operands, Array.mem_append]; simp at hy; simp [hy]))]
  | extract x i => simp only [cpure_eq, cpure0]; rw [hx x (by simp [Op.operands])]
  | call c =>
    obtain ⟨callee, args, argTypes⟩ := c
    have ha : evals ρ args.toList = evals σ args.toList := evals_congr _ (fun x hm => hx x (by simp only [Op.operands, Call.operands, Array.mem_append]; exact .inr (by simpa using hm)))
    cases callee with
    | builtin b => cases b <;> simp only [cpure_eq, cpure0] <;> rw [ha]
    | value f => simp only [cpure_eq, cpure0]
    | invoke f g => simp only [cpure_eq, cpure0]
  | _ => simp only [cpure_eq, cpure0]

theorem cmem_congr {ρ σ : Operand → Option CV} {ro id : Nat} (h : HF) (o : Oper) (hx : ∀ x ∈ o.op.operands, ρ x = σ x) : cmem P ρ ro id o h = cmem P σ ro id o h := by
  have hp := cpure_congr (P := P) h o hx
  obtain ⟨dst, op, type, pos, after, guard⟩ := o
  cases op with
  | alloc t => rfl
  | box t x => simp only [cmem_eq, cmem0]; rw [hx x (by simp [Op.operands])]
  | buildSlice t n ps => simp only [cmem_eq, cmem0]; rw [evalsP_congr ps.toList (fun x hm => hx x.2 (by simp only [Op.operands, List.mem_toArray, List.mem_map]; exact ⟨x, hm, rfl⟩))]
  | makeSlice t l c => simp only [cmem_eq, cmem0]; rw [hx l (by simp [Op.operands]), hx c (by simp [Op.operands])]
  | store t a x => simp only [cmem_eq, cmem0]; rw [hx a (by simp [Op.operands]), hx x (by simp [Op.operands])]
  | call c =>
    obtain ⟨callee, args, argTypes⟩ := c
    have ha : evals ρ args.toList = evals σ args.toList := evals_congr _ (fun x hm => hx x (by simp only [Op.operands, Call.operands, Array.mem_append]; exact .inr (by simpa using hm)))
    cases callee with
    | builtin b => cases b <;> simp only [cmem_eq, cmem0] <;> first | rw [ha] | rw [hp] | rfl
    | value f => simp only [cmem_eq, cmem0]; rw [hp]
    | invoke f g => simp only [cmem_eq, cmem0]; rw [hp]
  | _ => simp only [cmem_eq, cmem0]; rw [hp]

theorem tmem_congr {ρ σ : Operand → Option CV} {ro id : Nat} (h : HF) (o : Oper) (hx : ∀ x ∈ o.op.operands, ρ x = σ x) : tmem P ρ ro id o h = tmem P σ ro id o h := by
  have hp := cmem_congr (P := P) (ro := ro) (id := id) h o hx
  obtain ⟨dst, op, type, pos, after, guard⟩ := o
  cases op with
  | pick c a b => simp only [tmem_eq, tmem0]; rw [hx c (by simp [Op.operands]), hx a (by simp [Op.operands]), hx b (by simp [Op.operands])]
  | index t x ix => simp only [tmem_eq, tmem0]; rw [hp, hx x (by simp [Op.operands]), hx ix (by simp [Op.operands])]
  | binOp op t x y u => cases op <;> simp only [tmem_eq, tmem0] <;> rw [hp] <;> (try rw [hx x (by simp [Op.operands]), hx y (by simp [Op.operands])])
  | load t a => simp only [tmem_eq, tmem0]; rw [hp, hx a (by simp [Op.operands])]
  | store t a x => simp only [tmem_eq, tmem0]; rw [hp, hx a (by simp [Op.operands]), hx x (by simp [Op.operands])]
  | nilCheck x => simp only [tmem_eq, tmem0]; rw [hp, hx x (by simp [Op.operands])]
  | fieldAddr t x i => simp only [tmem_eq, tmem0]; rw [hp, hx x (by simp [Op.operands])]
  | indexAddr t x ix => simp only [tmem_eq, tmem0]; rw [hp, hx x (by simp [Op.operands]), hx ix (by simp [Op.operands])]
  | slice t x lo hi mx =>
    simp only [tmem_eq, tmem0]
    rw [hx x (by simp [Op.operands]), optEval_congr lo (fun y hy => hx y (by simp only [Op.operands, Array.mem_append]; simp at hy; simp [hy])),
      optEval_congr hi (fun y hy => hx y (by simp only [Op.operands, Array.mem_append]; simp at hy; simp [hy])), optEval_congr mx (fun y hy => hx y (by simp only [Op.operands, Array.mem_append]; simp at hy; simp [hy]))]
  | makeSlice t l c => simp only [tmem_eq, tmem0]; rw [hp, hx l (by simp [Op.operands])]
  | call c =>
    obtain ⟨callee, args, argTypes⟩ := c
    have ha : evals ρ args.toList = evals σ args.toList := evals_congr _ (fun x hm => hx x (by simp only [Op.operands, Call.operands, Array.mem_append]; exact .inr (by simpa using hm)))
    cases callee with
    | builtin b => cases b <;> simp only [tmem_eq, tmem0] <;> rw [hp] <;> (try rw [ha])
    | value f => simp only [tmem_eq, tmem0]; rw [hp]
    | invoke f g => simp only [tmem_eq, tmem0]; rw [hp]
  | makeMap t r => cases r with
    | none => rfl
    | some x => simp only [tmem_eq, tmem0]; rw [hp]
  | lookup t x ix ok => simp only [tmem_eq, tmem0]; rw [hx x (by simp [Op.operands]), hx ix (by simp [Op.operands])]
  | mapUpdate t m k x => simp only [tmem_eq, tmem0]; rw [hx m (by simp [Op.operands]), hx k (by simp [Op.operands]), hx x (by simp [Op.operands])]
  | insert t m k x => simp only [tmem_eq, tmem0]; rw [hx m (by simp [Op.operands]), hx k (by simp [Op.operands]), hx x (by simp [Op.operands])]
  | convert s d x => simp only [tmem_eq, tmem0]; rw [hp, hx x (by simp [Op.operands])]
  | _ => simp only [tmem_eq, tmem0]; rw [hp]

theorem cOper_congr {self : Self} {ro id : Nat} {a b : CAct} {s : CSt} (o : Oper) (hx : ∀ x ∈ o.op.operands, ceval a.tmps x = ceval b.tmps x) : cOper self P ro id a o s = cOper self P ro id b o s := by
  have hm := tmem_congr (P := P) (ro := ro) (id := id) s.heap.get o hx
  obtain ⟨dst, op, type, pos, after, guard⟩ := o
  cases op with
  | call c =>
    obtain ⟨callee, args, argTypes⟩ := c
    have ha : evals (ceval a.tmps) args.toList = evals (ceval b.tmps) args.toList := evals_congr _ (fun x hm => hx x (by simp only [Op.operands, Call.operands, Array.mem_append]; exact .inr (by simpa using hm)))
    cases callee with
    | builtin b => simp only [cOper]; rw [hm]
    | value f => simp only [cOper]; rw [ha, hx f (by simp [Op.operands, Call.operands])]
    | invoke f g => simp only [cOper]; rw [hm]
  | _ => simp only [cOper]; rw [hm]

theorem cq_congr {z : Bool} {ρ σ : Operand → Option CV} {ro id : Nat} (h : HF) (o : Oper) (hx : ∀ x ∈ o.op.operands, ρ x = σ x) : cq z P ρ ro id o h = cq z P σ ro id o h := by
  unfold cq zobj
  rw [tmem_congr h o hx, cmem_congr (fun _ => none) o hx]

theorem cq_pure {z : Bool} {ρ : Operand → Option CV} {ro id : Nat} {o : Oper} (ho : isPure o.op = true) (h h' : HF) : cq z P ρ ro id o h = cq z P ρ ro id o h' := by
  obtain ⟨dst, op, type, pos, after, guard⟩ := o
  cases op <;> first | rfl | (simp [isPure] at ho; done) | (rename_i bo _ _ _ _; cases bo <;> rfl)

theorem zobj_cmem {z : Bool} {ts : List CV} {ro id : Nat} {o : Oper} {v : CV} {ob : CObj} (hz : isZ z o.op = true) (e : zobj P (ceval ts) id o = some (v, ob)) {h : HF} (hid : h id = none) : cmem P (ceval ts) ro id o h = some (v, [(id, ob)]) := by
  unfold zobj at e
  split at e
  · rename_i u b ob' hc
    cases e
    obtain ⟨dst, op, type, pos, after, guard⟩ := o
    cases op <;> simp only [isZ] at hz <;> first | (cases hz; done) | skip
    · rename_i t
      simp only [cmem_eq, cmem0] at hc ⊢
      split at hc
      · rename_i z hzz
        cases hf : (flat z && z.cells.toList.all cellOk) with
        | false => rw [hf] at hc; cases hc
        | true =>
          rw [hf] at hc
          simp only [cond_true, cnew] at hc ⊢
          rw [hid]; simp only []
          cases hc; rfl
      · cases hc
    · rename_i t n ps
      simp only [cmem_eq, cmem0] at hc ⊢
      split at hc
      · rename_i el hu
        split at hc
        · rename_i it qs hi hq
          split at hc
          · rename_i z hzz
            cases hf : (Nat.ble (n * it.size) (2 ^ 24) && sure qs && Nat.beq z.cells.size it.size) with
            | false => rw [hf] at hc; cases hc
            | true =>
              rw [hf] at hc
              simp only [cond_true] at hc ⊢
              split at hc
              · rename_i cs hfill
                cases hok : cs.toList.all cellOk with
                | false => rw [hok] at hc; cases hc
                | true =>
                  rw [hok] at hc
                  simp only [cond_true, cnew] at hc ⊢
                  rw [hid]; simp only []
                  cases hc; rfl
              · cases hc
          · cases hc
        · cases hc
      · cases hc
  · cases e

theorem okq_eq {z : Bool} {ro base : Nat} {p : Pend} {h : HF} (e : okq z P ro base p h = true) : cq z P (ceval p.ts) ro (base + p.i) p.o h = some p.v := by
  unfold okq at e
  split at e
  · rename_i v hv; rw [hv, veq_eq _ _ _ e]
  · cases e

theorem tb_eq (m i : Nat) : tb m i = m.testBit i := by
  simp only [tb, Nat.testBit, nbeq]
  have h1 : Nat.land (Nat.shiftRight m i) 1 = 1 &&& (m >>> i) := by
    show (m >>> i) &&& 1 = _
    rw [Nat.and_comm]
  rw [h1]
  have : 1 &&& (m >>> i) = (m >>> i) % 2 := by rw [Nat.and_comm, Nat.and_one_is_mod]
  rw [this]
  rcases Nat.mod_two_eq_zero_or_one (m >>> i) with h | h <;> simp [h]
theorem tb_lor (a b i : Nat) : tb (Nat.lor a b) i = (tb a i || tb b i) := by
  rw [tb_eq, tb_eq, tb_eq]; show (a ||| b).testBit i = _; rw [Nat.testBit_or]
theorem tb_land (a b i : Nat) : tb (Nat.land a b) i = (tb a i && tb b i) := by
  rw [tb_eq, tb_eq, tb_eq]; show (a &&& b).testBit i = _; rw [Nat.testBit_and]
theorem tb_bit (i j : Nat) : tb (bit1 i) j = decide (i = j) := by
  rw [tb_eq]; show (1 <<< i).testBit j = _
  rw [Nat.one_shiftLeft, Nat.testBit_two_pow]
theorem tb_zero (i : Nat) : tb 0 i = false := by rw [tb_eq]; simp

theorem tmask_mem : ∀ (l : List Tmp) (t : Tmp), tb (tmask l) t = true ↔ t ∈ l
  | [], t => by simp [tmask, tb_zero]
  | x :: r, t => by
    simp only [tmask, tb_lor, tb_bit, Bool.or_eq_true, decide_eq_true_eq, tmask_mem r t, List.mem_cons]
    exact ⟨fun h => h.imp Eq.symm id, fun h => h.imp Eq.symm id⟩

theorem land_none {a b : Nat} (h : Nat.beq (Nat.land a b) 0 = true) {t : Nat} (ha : tb a t = true) (hb : tb b t = true) : False := by
  rw [nbeq, decide_eq_true_eq] at h
  have := tb_land a b t
  rw [h, ha, hb, tb_zero] at this
  cases this

theorem pmask_mem (acc : List Nat) (i : Nat) : ∀ (l : List Edge), tb (pmask acc l) i = true ↔ ∃ e ∈ l, Region.binds .any e = true ∧ (e.on = i ∨ tb (acc.getD e.on 0) i = true)
  | [] => by simp [pmask, tb_zero]
  | e :: r => by
    simp only [pmask]
    cases hb : Region.binds .any e with
    | false => simp only [cond_false, pmask_mem acc i r]; simp [hb]
    | true =>
      simp only [cond_true, tb_lor, tb_bit, Bool.or_eq_true, decide_eq_true_eq, pmask_mem acc i r]
      constructor
      · rintro (h | ⟨x, h1, h2⟩)
        · exact ⟨e, by simp, hb, h⟩
        · exact ⟨x, by simp [h1], h2⟩
      · rintro ⟨x, h1, h2, h3⟩
        rcases List.mem_cons.1 h1 with rfl | h1
        · exact .inl h3
        · exact .inr ⟨x, h1, h2, h3⟩

end Go.Proofs.YtecidokjhplbgaaGreatDoorD

set_option linter.unusedVariables false
set_option linter.unusedSimpArgs false
namespace Go.Proofs.YtecidokjhplbgaaGreatDoorD
open Go Go.RowKit

variable {P : Program} {N : Nat}

theorem infos_get (z : Bool) (ops : Array Oper) : ∀ (l : List Oper) (i : Nat) (acc : List Nat) (k : Nat) (o : Oper), l[k]? = some o →
    (infos z ops l i acc)[k]? = some (infoOf z ops (acc ++ ((infos z ops l i acc).map (·.bf)).take k) (i + k) o)
  | [], i, acc, k, o, h => by simp at h
  | x :: r, i, acc, 0, o, h => by simp at h; subst h; simp [infos]
  | x :: r, i, acc, k + 1, o, h => by
    have := infos_get z ops r (i + 1) (acc ++ [(infoOf z ops acc i x).bf]) k o (by simpa using h)
    simp only [infos, List.getElem?_cons_succ, List.map_cons, List.take_succ_cons]
    rw [this]
    simp [Nat.add_assoc, Nat.add_comm 1 k]

theorem edgesOk_get : ∀ (l : List Oper) (i : Nat), edgesOk l i = true → ∀ k o, l[k]? = some o → ∀ e ∈ o.after.toList, Region.binds .any e = true → e.on < i + k
  | [], i, h, k, o, hk => by simp at hk
  | x :: r, i, h, k, o, hk => by
    simp only [edgesOk, Bool.and_eq_true, List.all_eq_true] at h
    cases k with
    | zero =>
      simp at hk; subst hk
      intro e he hb
      have := h.1 e he
      simp [hb, Nat.blt_eq] at this
      omega
    | succ k =>
      intro e he hb
      have := edgesOk_get r (i + 1) h.2 k o (by simpa using hk) e he hb
      omega

theorem allFit_get : ∀ (l : List Info), allFit l = true → ∀ (i j : Nat) (x y : Info), i < j → l[i]? = some x → l[j]? = some y → fits x y = true
  | [], h, i, j, x, y, hij, hx, hy => by simp at hx
  | z0 :: r, h, i, j, x, y, hij, hx, hy => by
    simp only [allFit, Bool.and_eq_true, List.all_eq_true] at h
    cases j with
    | zero => omega
    | succ j =>
      simp only [List.getElem?_cons_succ] at hy
      cases i with
      | zero => simp at hx; subst hx; exact h.1 y (List.mem_of_getElem? hy)
      | succ i => exact allFit_get r h.2 i j x y (by omega) (by simpa using hx) hy

structure Good (z : Bool) (ops : Array Oper) (B : List Nat) : Prop where
  edge : ∀ k o, ops[k]? = some o → ∀ e ∈ o.after.toList, Region.binds .any e = true → e.on < k
  bf : ∀ k o, ops[k]? = some o → ∀ i, tb (B.getD k 0) i = true → ∃ e ∈ o.after.toList, Region.binds .any e = true ∧ (e.on = i ∨ tb (B.getD e.on 0) i = true)
  wr : ∀ i j oi oj d, i < j → ops[i]? = some oi → ops[j]? = some oj → oi.dst = some d → (oj.dst = some d ∨ d ∈ oj.looksAt ops) → tb (B.getD j 0) i = true
  rd : ∀ i j oi oj d, i < j → ops[i]? = some oi → ops[j]? = some oj → d ∈ oi.looksAt ops → oj.dst = some d → tb (B.getD j 0) i = true
  act : ∀ i j oi oj, i < j → ops[i]? = some oi → ops[j]? = some oj → isAct z oi.op = true → isAct z oj.op = true → tb (B.getD j 0) i = true

theorem good_of {z : Bool} {ops : Array Oper} (h : (edgesOk ops.toList 0 && allFit (infos z ops ops.toList 0 [])) = true) : Good z ops ((infos z ops ops.toList 0 []).map (·.bf)) := by
  simp only [Bool.and_eq_true] at h
  obtain ⟨h1, h2⟩ := h
  have hg : ∀ {k o}, ops[k]? = some o → (infos z ops ops.toList 0 [])[k]? = some (infoOf z ops (((infos z ops ops.toList 0 []).map (·.bf)).take k) k o) := fun {k o} hk => by
    have := infos_get z ops ops.toList 0 [] k o (by simpa using hk)
    simpa using this
  have hB : ∀ {k o}, ops[k]? = some o → ((infos z ops ops.toList 0 []).map (·.bf)).getD k 0 = pmask (((infos z ops ops.toList 0 []).map (·.bf)).take k) o.after.toList := fun {k o} hk => by
    rw [List.getD_eq_getElem?_getD, List.getElem?_map, hg hk]; rfl
  have hedge : ∀ k o, ops[k]? = some o → ∀ e ∈ o.after.toList, Region.binds .any e = true → e.on < k := fun k o hk e he hb => by
    have := edgesOk_get ops.toList 0 h1 k o (by simpa using hk) e he hb; omega
  have hfit : ∀ {i j oi oj}, i < j → ops[i]? = some oi → ops[j]? = some oj → tb (((infos z ops ops.toList 0 []).map (·.bf)).getD j 0) i = true ∨
      (Nat.beq (Nat.land (tmask oi.dst.toList) (tmask (oj.dst.toList ++ oj.looksAt ops))) 0 = true ∧ Nat.beq (Nat.land (tmask (oi.dst.toList ++ oi.looksAt ops)) (tmask oj.dst.toList)) 0 = true ∧ (isAct z oi.op && isAct z oj.op) = false) := fun {i j oi oj} hij hi hj => by
    have := allFit_get _ h2 i j _ _ hij (hg hi) (hg hj)
    simp only [fits, infoOf, Bool.or_eq_true, Bool.and_eq_true, Bool.not_eq_true'] at this
    rw [hB hj]
    exact this.imp id (fun ⟨⟨a, b⟩, c⟩ => ⟨a, b, c⟩)
  refine ⟨hedge, ?_, ?_, ?_, ?_⟩
  · intro k o hk i hi
    rw [hB hk] at hi
    obtain ⟨e, he, hb, h3⟩ := (pmask_mem _ i _).1 hi
    refine ⟨e, he, hb, h3.imp id (fun h4 => ?_)⟩
    have hlt := hedge k o hk e he hb
    rw [List.getD_eq_getElem?_getD, List.getElem?_take, if_pos hlt] at h4
    rw [List.getD_eq_getElem?_getD]; exact h4
  · intro i j oi oj d hij hi hj hd hx
    rcases hfit hij hi hj with h | ⟨h, _, _⟩
    · exact h
    · exact (land_none h (t := d) ((tmask_mem _ d).2 (by simp [hd])) ((tmask_mem _ d).2 (by rcases hx with hx | hx <;> simp [hx]))).elim
  · intro i j oi oj d hij hi hj hd hx
    rcases hfit hij hi hj with h | ⟨_, h, _⟩
    · exact h
    · exact (land_none h (t := d) ((tmask_mem _ d).2 (by simp [hd])) ((tmask_mem _ d).2 (by simp [hx]))).elim
  · intro i j oi oj hij hi hj ha hb
    rcases hfit hij hi hj with h | ⟨_, _, h⟩
    · exact h
    · rw [ha, hb] at h; cases h

def cput (ts : List CV) (dst : Option Tmp) (v : CV) : List CV :=
  match dst with
  | some d => ts.set d v
  | none => ts
theorem put_tmps (a : CAct) (dst : Option Tmp) (v : CV) : (a.put dst v).tmps = cput a.tmps dst v := by cases dst <;> rfl
theorem put_marks (a : CAct) (dst : Option Tmp) (v : CV) : (a.put dst v).marks = a.marks := by cases dst <;> rfl
theorem cput_len (ts : List CV) (dst : Option Tmp) (v : CV) : (cput ts dst v).length = ts.length := by cases dst <;> simp [cput]

structure Ctx where
  self : Self
  ro : Nat
  base : Nat
  ops : Array Oper
  B : List Nat
  marks : List Nat
  z : Bool

def Wants (c : Ctx) (tm : Nat → List CV) (i : Nat) (o : Oper) : Prop := c.ops[i]? = some o ∧ Region.wanted o (cyielded c.ops (tm i)) = true
def cqt (P : Program) (c : Ctx) (ts : List CV) (i : Nat) (o : Oper) (s : Tr CObj) : Option CV := cq c.z P (ceval ts) c.ro (c.base + i) o s.get

structure DTr (P : Program) (c : Ctx) (k n : Nat) (tm : Nat → List CV) (st : Nat → CSt) (val : Nat → CV) (past : List (Nat × Tr CObj)) (pend : List Pend) : Prop where
  fine : ∀ i o, k ≤ i → i < n → c.ops[i]? = some o → gfine c.ops o (tm i) = true
  put : ∀ i o, k ≤ i → i < n → c.ops[i]? = some o → tm (i + 1) = cput (tm i) o.dst (val i)
  idle : ∀ i o, k ≤ i → i < n → c.ops[i]? = some o → Region.wanted o (cyielded c.ops (tm i)) = false → val i = cundef ∧ st (i + 1) = st i
  acts : ∀ i o, k ≤ i → i < n → Wants c tm i o → isAct c.z o.op = true → cOper c.self P c.ro (c.base + i) ⟨tm i, c.marks⟩ o (st i) = some (val i, st (i + 1))
  quiet : ∀ i o, k ≤ i → i < n → Wants c tm i o → isAct c.z o.op = false → st (i + 1) = st i ∧ cqt P c (tm i) i o (st i).heap = some (val i)
  w1 : ∀ i j oi oj, k ≤ i → i < j → j < n → Wants c tm i oi → isAct c.z oi.op = false → Wants c tm j oj → isAct c.z oj.op = true → tb (c.B.getD j 0) i = true ∨ cqt P c (tm i) i oi (st (j + 1)).heap = some (val i)
  w2 : ∀ i j oi oj, k ≤ j → j < i → i < n → Wants c tm i oi → isAct c.z oi.op = false → Wants c tm j oj → isAct c.z oj.op = true → tb (c.B.getD i 0) j = true ∨ cqt P c (tm i) i oi (st j).heap = some (val i)
  pst : ∀ x ∈ past, ∀ i oi, k ≤ i → i < n → Wants c tm i oi → isAct c.z oi.op = false → tb (c.B.getD i 0) x.1 = true ∨ cqt P c (tm i) i oi x.2 = some (val i)
  pnd : ∀ p ∈ pend, ∀ j oj, k ≤ j → j < n → Wants c tm j oj → isAct c.z oj.op = true → tb (c.B.getD j 0) p.i = true ∨ cqt P c p.ts p.i p.o (st (j + 1)).heap = some p.v

def at0 {α : Type} (k : Nat) (x : α) (f : Nat → α) : Nat → α := fun m => if m = k then x else f m
theorem at0_eq {α : Type} (k : Nat) (x : α) (f : Nat → α) : at0 k x f k = x := by simp [at0]
theorem at0_ne {α : Type} {k m : Nat} (x : α) (f : Nat → α) (h : m ≠ k) : at0 k x f m = f m := by simp [at0, h]

theorem DTr.cons {c : Ctx} {k n : Nat} {tm : Nat → List CV} {st : Nat → CSt} {val : Nat → CV} {past past' : List (Nat × Tr CObj)} {pend pend' : List Pend} (T : DTr P c (k + 1) n tm st val past' pend')
    {ts : List CV} {s : CSt} {v : CV} {o : Oper} (ho : c.ops[k]? = some o) (hfine : gfine c.ops o ts = true) (hput : tm (k + 1) = cput ts o.dst v)
    (hpast : ∀ x ∈ past, x ∈ past') (hpend : ∀ x ∈ pend, x ∈ pend')
    (hidle : Region.wanted o (cyielded c.ops ts) = false → v = cundef ∧ st (k + 1) = s)
    (hact : Region.wanted o (cyielded c.ops ts) = true → isAct c.z o.op = true → cOper c.self P c.ro (c.base + k) ⟨ts, c.marks⟩ o s = some (v, st (k + 1)) ∧ (k, s.heap) ∈ past' ∧
      ∀ p ∈ pend, tb (c.B.getD k 0) p.i = true ∨ cqt P c p.ts p.i p.o (st (k + 1)).heap = some p.v)
    (hquiet : Region.wanted o (cyielded c.ops ts) = true → isAct c.z o.op = false → st (k + 1) = s ∧ cqt P c ts k o s.heap = some v ∧ (∀ x ∈ past, tb (c.B.getD k 0) x.1 = true ∨ cqt P c ts k o x.2 = some v) ∧
      ∀ j oj, k < j → j < n → Wants c tm j oj → isAct c.z oj.op = true → tb (c.B.getD j 0) k = true ∨ cqt P c ts k o (st (j + 1)).heap = some v) :
    DTr P c k n (at0 k ts tm) (at0 k s st) (at0 k v val) past pend := by
  have hW : ∀ {i oi}, i ≠ k → Wants c (at0 k ts tm) i oi → Wants c tm i oi := fun {i oi} hi h => by
    unfold Wants at h ⊢; rwa [at0_ne _ _ hi] at h
  have hW0 : ∀ {oi}, Wants c (at0 k ts tm) k oi → oi = o ∧ Region.wanted o (cyielded c.ops ts) = true := fun {oi} h => by
    unfold Wants at h; rw [at0_eq, ho] at h; obtain ⟨h1, h2⟩ := h; cases h1; exact ⟨rfl, h2⟩
  refine ⟨?_, ?_, ?_, ?_, ?_, ?_, ?_, ?_, ?_⟩
  · intro i oi h1 h2 h3
    by_cases hi : i = k
    · subst hi; rw [ho] at h3; cases h3; rw [at0_eq]; exact hfine
    · rw [at0_ne _ _ hi]; exact T.fine i oi (by omega) h2 h3
  · intro i oi h1 h2 h3
    rw [at0_ne _ _ (by omega : i + 1 ≠ k)]
    by_cases hi : i = k
    · subst hi; rw [ho] at h3; cases h3; rw [at0_eq, at0_eq]; exact hput
    · rw [at0_ne _ _ hi, at0_ne _ _ hi]; exact T.put i oi (by omega) h2 h3
  · intro i oi h1 h2 h3 h4
    rw [at0_ne _ _ (by omega : i + 1 ≠ k)]
    by_cases hi : i = k
    · subst hi; rw [ho] at h3; cases h3; rw [at0_eq] at h4; rw [at0_eq, at0_eq]; exact hidle h4
    · rw [at0_ne _ _ hi] at h4; rw [at0_ne _ _ hi, at0_ne _ _ hi]; exact T.idle i oi (by omega) h2 h3 h4
  · intro i oi h1 h2 h3 h4
    rw [at0_ne _ _ (by omega : i + 1 ≠ k)]
    by_cases hi : i = k
    · subst hi; obtain ⟨rfl, hw⟩ := hW0 h3; rw [at0_eq, at0_eq, at0_eq]; exact (hact hw h4).1
    · rw [at0_ne _ _ hi, at0_ne _ _ hi, at0_ne _ _ hi]; exact T.acts i oi (by omega) h2 (hW hi h3) h4
  · intro i oi h1 h2 h3 h4
    rw [at0_ne _ _ (by omega : i + 1 ≠ k)]
    by_cases hi : i = k
    · subst hi; obtain ⟨rfl, hw⟩ := hW0 h3; rw [at0_eq, at0_eq, at0_eq]; exact ⟨(hquiet hw h4).1, (hquiet hw h4).2.1⟩
    · rw [at0_ne _ _ hi, at0_ne _ _ hi, at0_ne _ _ hi]; exact T.quiet i oi (by omega) h2 (hW hi h3) h4
  · intro i j oi oj h1 h2 h3 h4 h5 h6 h7
    rw [at0_ne _ _ (by omega : j + 1 ≠ k)]
    have hj := hW (by omega) h6
    by_cases hi : i = k
    · subst hi; obtain ⟨rfl, hw⟩ := hW0 h4; rw [at0_eq, at0_eq]; exact (hquiet hw h5).2.2.2 j oj h2 h3 hj h7
    · rw [at0_ne _ _ hi, at0_ne _ _ hi]; exact T.w1 i j oi oj (by omega) h2 h3 (hW hi h4) h5 hj h7
  · intro i j oi oj h1 h2 h3 h4 h5 h6 h7
    have hi := hW (by omega) h4
    rw [at0_ne _ _ (by omega : i ≠ k), at0_ne _ _ (by omega : i ≠ k)]
    by_cases hj : j = k
    · subst hj; obtain ⟨rfl, hw⟩ := hW0 h6; rw [at0_eq]; exact T.pst _ (hact hw h7).2.1 i oi (by omega) h3 hi h5
    · rw [at0_ne _ _ hj]; exact T.w2 i j oi oj (by omega) h2 h3 hi h5 (hW hj h6) h7
  · intro x hx i oi h1 h2 h3 h4
    by_cases hi : i = k
    · subst hi; obtain ⟨rfl, hw⟩ := hW0 h3; rw [at0_eq, at0_eq]; exact (hquiet hw h4).2.2.1 x hx
    · rw [at0_ne _ _ hi, at0_ne _ _ hi]; exact T.pst x (hpast x hx) i oi (by omega) h2 (hW hi h3) h4
  · intro p hp j oj h1 h2 h3 h4
    rw [at0_ne _ _ (by omega : j + 1 ≠ k)]
    by_cases hj : j = k
    · subst hj; obtain ⟨rfl, hw⟩ := hW0 h3; exact (hact hw h4).2.2 p hp
    · exact T.pnd p (hpend p hp) j oj (by omega) h2 (hW hj h3) h4

theorem dOps_trace {c : Ctx} : ∀ (l : List Oper) (k : Nat) (past : List (Nat × Tr CObj)) (pend : List Pend) (a : CAct) (s : CSt) {a2 : CAct} {s2 : CSt},
    dOps c.z c.self P c.ro c.base c.ops c.B l k past pend a s = some (a2, s2) → a.marks = c.marks → (∀ j, l[j]? = c.ops[k + j]?) →
    ∃ tm st val, tm k = a.tmps ∧ st k = s ∧ tm (k + l.length) = a2.tmps ∧ st (k + l.length) = s2 ∧ a2.marks = c.marks ∧ DTr P c k (k + l.length) tm st val past pend
  | [], k, past, pend, a, s, a2, s2, e, hm, hl => by
    simp only [dOps] at e; cases e
    refine ⟨fun _ => a.tmps, fun _ => s, fun _ => cundef, rfl, rfl, rfl, rfl, hm, ⟨?_, ?_, ?_, ?_, ?_, ?_, ?_, ?_, ?_⟩⟩
    all_goals first
      | (intro i o h1 h2; simp only [List.length_nil] at h2; omega)
      | (intro i j oi oj h1 h2 h3; simp only [List.length_nil] at h3; omega)
      | (intro x hx i o h1 h2; simp only [List.length_nil] at h2; omega)
  | o :: r, k, past, pend, a, s, a2, s2, e, hm, hl => by
    have h0 : c.ops[k]? = some o := by simpa using (hl 0).symm
    have hl' : ∀ j, r[j]? = c.ops[k + 1 + j]? := fun j => by have := hl (j + 1); simpa [Nat.add_assoc, Nat.add_comm 1 j] using this
    have hn : k + (o :: r).length = k + 1 + r.length := by simp; omega
    rw [hn]
    simp only [dOps] at e
    have hmk : (⟨a.tmps, c.marks⟩ : CAct) = a := by rw [← hm]
    cases hgf : gfine c.ops o a.tmps with
    | false => rw [hgf] at e; cases e
    | true =>
    rw [hgf] at e
    simp only [cond_true] at e
    cases hw : Region.wanted o (cyielded c.ops a.tmps) with
    | false =>
      rw [hw] at e; simp only [cond_false] at e
      obtain ⟨tm, st, val, t1, t2, t3, t4, t5, T⟩ := dOps_trace r (k + 1) past pend (a.put o.dst cundef) s e (by rw [put_marks]; exact hm) hl'
      refine ⟨at0 k a.tmps tm, at0 k s st, at0 k cundef val, at0_eq _ _ _, at0_eq _ _ _, by rw [at0_ne _ _ (by omega)]; exact t3, by rw [at0_ne _ _ (by omega)]; exact t4, t5, ?_⟩
      exact T.cons h0 hgf (by rw [t1, put_tmps]) (fun _ h => h) (fun _ h => h) (fun _ => ⟨rfl, t2⟩) (fun h => by rw [hw] at h; cases h) (fun h => by rw [hw] at h; cases h)
    | true =>
      rw [hw] at e; simp only [cond_true] at e
      cases hact : isAct c.z o.op with
      | true =>
        rw [hact] at e; simp only [cond_true] at e
        split at e
        · rename_i v s1 ho
          cases hp : (pend.all fun p => tb (c.B.getD k 0) p.i || okq c.z P c.ro c.base p s1.heap.get) with
          | false => rw [hp] at e; simp at e
          | true =>
            rw [hp] at e; simp only [cond_true] at e
            obtain ⟨tm, st, val, t1, t2, t3, t4, t5, T⟩ := dOps_trace r (k + 1) ((k, s.heap) :: past) pend (a.put o.dst v) s1 e (by rw [put_marks]; exact hm) hl'
            refine ⟨at0 k a.tmps tm, at0 k s st, at0 k v val, at0_eq _ _ _, at0_eq _ _ _, by rw [at0_ne _ _ (by omega)]; exact t3, by rw [at0_ne _ _ (by omega)]; exact t4, t5, ?_⟩
            refine T.cons h0 hgf (by rw [t1, put_tmps]) (fun x h => by simp [h]) (fun _ h => h) (fun h => by rw [hw] at h; cases h) (fun _ _ => ⟨by rw [hmk, t2]; exact ho, by simp, fun p hpm => ?_⟩) (fun _ h => by rw [hact] at h; cases h)
            have := List.all_eq_true.1 hp p hpm
            simp only [Bool.or_eq_true] at this
            rw [t2]
            exact this.imp id okq_eq
        · cases e
      | false =>
        rw [hact] at e; simp only [cond_false] at e
        split at e
        · cases e
        · rename_i v hv
          cases hpu : isPure o.op with
          | true =>
            rw [hpu] at e; simp only [cond_true] at e
            obtain ⟨tm, st, val, t1, t2, t3, t4, t5, T⟩ := dOps_trace r (k + 1) past pend (a.put o.dst v) s e (by rw [put_marks]; exact hm) hl'
            refine ⟨at0 k a.tmps tm, at0 k s st, at0 k v val, at0_eq _ _ _, at0_eq _ _ _, by rw [at0_ne _ _ (by omega)]; exact t3, by rw [at0_ne _ _ (by omega)]; exact t4, t5, ?_⟩
            refine T.cons h0 hgf (by rw [t1, put_tmps]) (fun x h => h) (fun _ h => h) (fun h => by rw [hw] at h; cases h) (fun _ h => by rw [hact] at h; cases h) (fun _ _ => ⟨t2, hv, fun x _ => .inr ?_, fun j oj _ _ _ _ => .inr ?_⟩)
            · rw [← hv]; exact cq_pure hpu _ _
            · rw [← hv]; exact cq_pure hpu _ _
          | false =>
            rw [hpu] at e; simp only [cond_false] at e
            cases hp : (past.all fun p => tb (c.B.getD k 0) p.1 || okq c.z P c.ro c.base ⟨k, o, a.tmps, v⟩ p.2.get) with
            | false => rw [hp] at e; simp at e
            | true =>
              rw [hp] at e; simp only [cond_true] at e
              obtain ⟨tm, st, val, t1, t2, t3, t4, t5, T⟩ := dOps_trace r (k + 1) past (⟨k, o, a.tmps, v⟩ :: pend) (a.put o.dst v) s e (by rw [put_marks]; exact hm) hl'
              refine ⟨at0 k a.tmps tm, at0 k s st, at0 k v val, at0_eq _ _ _, at0_eq _ _ _, by rw [at0_ne _ _ (by omega)]; exact t3, by rw [at0_ne _ _ (by omega)]; exact t4, t5, ?_⟩
              refine T.cons h0 hgf (by rw [t1, put_tmps]) (fun x h => h) (fun x h => by simp [h]) (fun h => by rw [hw] at h; cases h) (fun _ h => by rw [hact] at h; cases h) (fun _ _ => ⟨t2, hv, fun x hx => ?_, fun j oj h1 h2 h3 h4 => ?_⟩)
              · have := List.all_eq_true.1 hp x hx
                simp only [Bool.or_eq_true] at this
                exact this.imp id okq_eq
              · exact T.pnd ⟨k, o, a.tmps, v⟩ (by simp) j oj (by omega) h2 h3 h4

end Go.Proofs.YtecidokjhplbgaaGreatDoorD

set_option linter.unusedVariables false
set_option linter.unusedSimpArgs false
namespace Go.Proofs.YtecidokjhplbgaaGreatDoorD
open Go Go.RowKit

variable {P : Program} {N : Nat}

theorem Rel.congr {i : Inj} {h h' : HF} {w : World} (R : Rel P N i h w) (e : ∀ b, ((i b).isSome = true ∨ i.void b = true) → h' b = h b) : Rel P N i h' w := by
  have e' : ∀ {b g}, i b = some g → h' b = h b := fun {b g} hb => e b (.inl (by rw [hb]; rfl))
  refine ⟨fun b o g hb hg => R.obj b o g (by rw [← e' hg]; exact hb) hg, fun b b' o o' g g' hne hb hb' hg hg' => ?_, R.bnd, R.hN, R.imm, fun b o g hb hg => R.ims b o g (by rw [← e' hg]; exact hb) hg, fun b hb => ?_⟩
  · rw [e' hg] at hb; rw [e' hg'] at hb'
    exact R.sep b b' o o' g g' hne hb hb' hg hg'
  · rw [e b (.inr hb)]; exact R.void b hb

theorem Step.left {ro : Nat} {i i' : Inj} {h h2 h' : HF} {w w' : World} (s : Step ro i h2 w i' h' w') (e : ∀ b, (i b).isSome = true → h2 b = h b) (hk : ∀ b o, b < ro → h b = some o → h' b = some o) : Step ro i h w i' h' w' := by
  have ht : ∀ {B}, Touch ro i h2 B → Touch ro i h B := fun {B} ⟨b, o, g, h1, h3, h4, h5, h6⟩ => ⟨b, o, g, h1, by rw [← e b (by rw [h5]; rfl)]; exact h3, h4, h5, h6⟩
  have ht' : ∀ {B}, Touch ro i h B → Touch ro i h2 B := fun {B} ⟨b, o, g, h1, h3, h4, h5, h6⟩ => ⟨b, o, g, h1, by rw [e b (by rw [h5]; rfl)]; exact h3, h4, h5, h6⟩
  exact ⟨s.ext, hk, s.size, s.os, s.tape, s.output, fun B hB hn => s.frame B hB (fun h => hn (ht h)), fun B hB h => ht (s.touch B hB h), fun B k v hB h => (s.immn B k v hB h).imp id ht⟩

def ActAt (c : Ctx) (tm : Nat → List CV) (i : Nat) : Prop := ∃ o, Wants c tm i o ∧ isAct c.z o.op = true

theorem first_act (A : Nat → Prop) (a : Nat) : ∀ b, a ≤ b → (∀ m, a ≤ m → m < b → ¬ A m) ∨ ∃ j, a ≤ j ∧ j < b ∧ A j ∧ ∀ m, a ≤ m → m < j → ¬ A m
  | 0, h => .inl fun m h1 h2 => by omega
  | b + 1, h => by
    by_cases hb : a ≤ b
    · rcases first_act A a b hb with h1 | ⟨j, h1, h2, h3⟩
      · by_cases hA : A b
        · exact .inr ⟨b, hb, by omega, hA, h1⟩
        · exact .inl fun m h2 h3 => by
            by_cases hm : m = b
            · subst hm; exact hA
            · exact h1 m h2 (by omega)
      · exact .inr ⟨j, h1, by omega, h3⟩
    · exact .inl fun m h1 h2 => by omega

theorem last_act (A : Nat → Prop) (a : Nat) : ∀ b, a ≤ b → (∀ m, a ≤ m → m < b → ¬ A m) ∨ ∃ j, a ≤ j ∧ j < b ∧ A j ∧ ∀ m, j < m → m < b → ¬ A m
  | 0, h => .inl fun m h1 h2 => by omega
  | b + 1, h => by
    by_cases hb : a ≤ b
    · by_cases hA : A b
      · exact .inr ⟨b, hb, by omega, hA, fun m h1 h2 => by omega⟩
      · rcases last_act A a b hb with h1 | ⟨j, h1, h2, h3, h4⟩
        · exact .inl fun m h2 h3 => by
            by_cases hm : m = b
            · subst hm; exact hA
            · exact h1 m h2 (by omega)
        · exact .inr ⟨j, h1, by omega, h3, fun m h5 h6 => by
            by_cases hm : m = b
            · subst hm; exact hA
            · exact h4 m h5 (by omega)⟩
    · exact .inl fun m h1 h2 => by omega

section
variable {c : Ctx} {n : Nat} {tm : Nat → List CV} {st : Nat → CSt} {val : Nat → CV}

theorem st_const (hn : n = c.ops.size) (T : DTr P c 0 n tm st val [] []) {a : Nat} : ∀ b, a ≤ b → b ≤ n → (∀ m, a ≤ m → m < b → ¬ ActAt c tm m) → st b = st a
  | 0, h1, h2, h => by
    have : a = 0 := by omega
    rw [this]
  | b + 1, h1, h2, h => by
    by_cases hb : a ≤ b
    · rw [← st_const hn T b hb (by omega) (fun m h3 h4 => h m h3 (by omega))]
      have hlt : b < c.ops.size := by omega
      have ho : c.ops[b]? = some c.ops[b] := Array.getElem?_eq_getElem hlt
      cases hw : Region.wanted c.ops[b] (cyielded c.ops (tm b)) with
      | false => exact (T.idle b _ (Nat.zero_le b) (by omega) ho hw).2
      | true =>
        cases ha : isAct c.z c.ops[b].op with
        | false => exact (T.quiet b _ (Nat.zero_le b) (by omega) ⟨ho, hw⟩ ha).1
        | true => exact absurd ⟨_, ⟨ho, hw⟩, ha⟩ (h b hb (by omega))
    · have : a = b + 1 := by omega
      rw [this]

structure DInv (P : Program) (N : Nat) (c : Ctx) (n : Nat) (tm : Nat → List CV) (st : Nat → CSt) (inj0 : Inj) (h0 : HF) (w0 : World) (L : Array Bool) (a' : Act) (w : World) (inj : Inj) (ts : List CV) (J : Nat) : Prop where
  size : L.size = n
  hJ : J ≤ n
  cut1 : ∀ k, k < J → ActAt c tm k → L.getD k false = true
  cut2 : ∀ k, J ≤ k → ActAt c tm k → L.getD k false = false
  rel : Rel P N inj (st J).heap.get w
  fresh : ∀ b, (st J).next ≤ b → inj.free b
  ids : ∀ k, k < n → L.getD k false = false → inj.free (c.base + k)
  len : ∀ k, k ≤ n → ts.length = (tm k).length
  tmps : LRel inj ts a'.tmps.toList
  marks : MRel inj c.marks a'.defers
  same : ∀ d i, i ≤ n → (∀ k o, c.ops[k]? = some o → o.dst = some d → (k < i ↔ L.getD k false = true)) → ts[d]? = (tm i)[d]?
  step : Step c.ro inj0 h0 w0 inj (st J).heap.get w
  low : ∀ b, b < c.base → inj b = inj0 b ∧ inj.void b = inj0.void b
  nx : c.base + n ≤ (st J).next
  clo : ∀ k, L.getD k false = true → ∀ i, tb (c.B.getD k 0) i = true → L.getD i false = true

variable {inj0 : Inj} {h0 : HF} {w0 : World} {L : Array Bool} {a' : Act} {w : World} {inj : Inj} {ts : List CV} {J : Nat}

theorem DInv.ready (V : DInv P N c n tm st inj0 h0 w0 L a' w inj ts J) (hn : n = c.ops.size) (G : Good c.z c.ops c.B) {i : Nat} (hi : i ∈ Region.ready .any c.ops L) :
    ∃ o, c.ops[i]? = some o ∧ i < n ∧ L.getD i false = false ∧ (∀ m, tb (c.B.getD i 0) m = true → L.getD m false = true) ∧ (∀ d ∈ o.looksAt c.ops, ts[d]? = (tm i)[d]?) := by
  obtain ⟨hun, o, ho, hall⟩ := mem_ready.1 hi
  have hlt : i < n := by
    rw [hn]; rcases Nat.lt_or_ge i c.ops.size with h | h
    · exact h
    · rw [Array.getElem?_eq_none h] at ho; cases ho
  have hL : L.getD i false = false := by
    have hs : i < L.size := by rw [V.size]; exact hlt
    simp [hs] at hun ⊢; exact hun
  have hpre : ∀ m, tb (c.B.getD i 0) m = true → L.getD m false = true := fun m hm => by
    obtain ⟨e, he, hb, h⟩ := G.bf i o ho m hm
    have h1 := hall e (by simpa using he) hb
    rcases h with h | h
    · rw [← h]; exact h1
    · exact V.clo _ h1 m h
  refine ⟨o, ho, hlt, hL, hpre, fun d hd => V.same d i (by omega) fun k ok hk hkd => ⟨fun hki => ?_, fun hkL => ?_⟩⟩
  · exact hpre k (G.wr k i ok o d hki hk ho hkd (.inr hd))
  · rcases Nat.lt_trichotomy k i with h | h | h
    · exact h
    · subst h; rw [hL] at hkL; cases hkL
    · have := V.clo k hkL i (G.rd i k o ok d h ho hk hd hkd)
      rw [hL] at this; cases this

theorem getD_set (L : Array Bool) {i : Nat} (hi : i < L.size) (k : Nat) : (L.setIfInBounds i true).getD k false = true ↔ (k = i ∨ L.getD k false = true) := by
  by_cases h : k = i
  · subst h; simp [hi]
  · rw [getD_set_ne false (fun e => h e.symm)]; simp [h]

theorem DInv.next (V : DInv P N c n tm st inj0 h0 w0 L a' w inj ts J) (hn : n = c.ops.size) (G : Good c.z c.ops c.B) (T : DTr P c 0 n tm st val [] []) {i : Nat} {o : Oper} (ho : c.ops[i]? = some o) (hlt : i < n) (hL : L.getD i false = false)
    (hpre : ∀ m, tb (c.B.getD i 0) m = true → L.getD m false = true) {inj' : Inj} {w' : World} {v' : Value} {J' : Nat} (hv : VRel inj' (val i) v') (hJ' : J' ≤ n)
    (c1 : ∀ k, k < J' → ActAt c tm k → k = i ∨ L.getD k false = true) (c2 : ∀ k, J' ≤ k → ActAt c tm k → k ≠ i ∧ L.getD k false = false)
    (hr : Rel P N inj' (st J').heap.get w') (hf : ∀ b, (st J').next ≤ b → inj'.free b) (hlow : ∀ b, b < (st J).next → b ≠ c.base + i → inj' b = inj b ∧ inj'.void b = inj.void b) (hs : Step c.ro inj (st J).heap.get w inj' (st J').heap.get w') (hnx : (st J).next ≤ (st J').next) :
    DInv P N c n tm st inj0 h0 w0 (L.setIfInBounds i true) (a'.put o.dst v') w' inj' (cput ts o.dst (val i)) J' := by
  have hsz : i < L.size := by rw [V.size]; exact hlt
  have hget := getD_set L hsz
  have hff : ∀ {k}, (L.setIfInBounds i true).getD k false = false ↔ (k ≠ i ∧ L.getD k false = false) := fun {k} => by
    have := hget k
    cases h1 : (L.setIfInBounds i true).getD k false <;> cases h2 : L.getD k false <;> simp_all
  have hb := V.nx
  refine ⟨by simp [V.size], hJ', fun k h1 h2 => (hget k).2 (c1 k h1 h2), fun k h1 h2 => hff.2 (c2 k h1 h2), hr, hf, fun k h1 h2 => ?_, fun k hk => by rw [cput_len]; exact V.len k hk, ?_, (by have := V.marks.mono hs.ext; cases o.dst <;> exact this), ?_, V.step.trans hs, fun b hlt' => ?_, by omega, ?_⟩
  · obtain ⟨h3, h4⟩ := hff.1 h2
    have h5 := hlow (c.base + k) (by omega) (by omega)
    have h6 := V.ids k h1 h4
    exact ⟨h5.1.trans h6.1, h5.2.trans h6.2⟩
  · have := V.tmps.mono hs.ext
    cases hd : o.dst with
    | none => exact this
    | some d => simpa [cput, Act.put] using this.set d hv
  · intro d m hm hcut
    by_cases hd : o.dst = some d
    · have hmi : i < m := (hcut i o ho hd).2 ((hget i).2 (.inl rfl))
      have hfix : ∀ q, i + 1 ≤ q → q ≤ m → (tm q)[d]? = (tm (i + 1))[d]? := by
        intro q
        induction q with
        | zero => intro h; omega
        | succ q ih =>
          intro h1 h2
          by_cases hq : q = i
          · rw [hq]
          · have hlq : q < c.ops.size := by omega
            have hoq : c.ops[q]? = some c.ops[q] := Array.getElem?_eq_getElem hlq
            rw [T.put q _ (Nat.zero_le q) (by omega) hoq, ← ih (by omega) (by omega)]
            have hne : c.ops[q].dst ≠ some d := fun hqd => by
              have h3 := (hget q).1 ((hcut q _ hoq hqd).1 (by omega))
              rcases h3 with h3 | h3
              · exact hq h3
              · have h4 := V.clo q h3 i (G.wr i q o _ d (by omega) ho hoq hd (.inl hqd))
                rw [hL] at h4; cases h4
            cases hdq : c.ops[q].dst with
            | none => rfl
            | some d' =>
              have : d' ≠ d := fun e => hne (by rw [hdq, e])
              simp [cput, List.getElem?_set_ne this]
      rw [hfix m (by omega) (Nat.le_refl m), T.put i o (Nat.zero_le i) hlt ho, hd]
      simp only [cput]
      rw [List.getElem?_set, List.getElem?_set, V.len i (by omega)]
      simp
    · have h1 : (cput ts o.dst (val i))[d]? = ts[d]? := by
        cases hdq : o.dst with
        | none => rfl
        | some d' =>
          have : d' ≠ d := fun e => hd (by rw [hdq, e])
          simp [cput, List.getElem?_set_ne this]
      rw [h1]
      refine V.same d m hm fun k ok hk hkd => ?_
      rw [hcut k ok hk hkd, hget k]
      have : k ≠ i := fun e => by subst e; rw [ho] at hk; cases hk; exact hd hkd
      simp [this]
  · have h5 := hlow b (by omega) (by omega)
    have h6 := V.low b hlt'
    exact ⟨h5.1.trans h6.1, h5.2.trans h6.2⟩
  · intro k hk m hm
    rcases (hget k).1 hk with rfl | hk
    · exact (hget m).2 (.inr (hpre m hm))
    · exact (hget m).2 (.inr (V.clo k hk m hm))

theorem DInv.quiet (V : DInv P N c n tm st inj0 h0 w0 L a' w inj ts J) (hn : n = c.ops.size) (T : DTr P c 0 n tm st val [] []) {i : Nat} {o : Oper} (hw : Wants c tm i o) (hq : isAct c.z o.op = false) (hlt : i < n) (hL : L.getD i false = false)
    (hpre : ∀ m, tb (c.B.getD i 0) m = true → L.getD m false = true) : cqt P c (tm i) i o (st J).heap = some (val i) := by
  have hbase := T.quiet i o (Nat.zero_le i) hlt hw hq
  have hJ := V.hJ
  by_cases h : J ≤ i
  · rcases first_act (ActAt c tm) J i h with h1 | ⟨j, h1, h2, ⟨oj, hwj, haj⟩, h4⟩
    · rw [← st_const hn T i h (by omega) h1]; exact hbase.2
    · rw [← st_const hn T j h1 (by omega) h4]
      rcases T.w2 i j o oj (Nat.zero_le j) h2 hlt hw hq hwj haj with h5 | h5
      · have h6 := hpre j h5
        rw [V.cut2 j h1 ⟨oj, hwj, haj⟩] at h6; cases h6
      · exact h5
  · rcases last_act (ActAt c tm) i J (by omega) with h1 | ⟨j, h1, h2, ⟨oj, hwj, haj⟩, h4⟩
    · rw [st_const hn T J (by omega) hJ h1]; exact hbase.2
    · have hji : j ≠ i := fun e => by
        subst e
        have := hwj.1; rw [hw.1] at this; cases this
        rw [hq] at haj; cases haj
      rw [st_const hn T (a := j + 1) J (by omega) hJ (fun m h5 h6 => h4 m (by omega) h6)]
      rcases T.w1 i j o oj (Nat.zero_le i) (by omega) (by omega) hw hq hwj haj with h5 | h5
      · have h6 := V.clo j (V.cut1 j h2 ⟨oj, hwj, haj⟩) i h5
        rw [hL] at h6; cases h6
      · exact h5

end

end Go.Proofs.YtecidokjhplbgaaGreatDoorD

set_option linter.unusedVariables false
set_option linter.unusedSimpArgs false
namespace Go.Proofs.YtecidokjhplbgaaGreatDoorD
open Go Go.RowKit

variable {P : Program} {N : Nat}

theorem tmem_isZ {z : Bool} {ρ : Operand → Option CV} {ro id : Nat} {o : Oper} {h : HF} (hz : isZ z o.op = true) : (tmem P ρ ro id o h).ev = (T.of (cmem P ρ ro id o h)).ev := by
  obtain ⟨dst, op, type, pos, after, guard⟩ := o
  cases op <;> first | (simp [isZ] at hz; done) | rfl

theorem tmem_defer {ρ : Operand → Option CV} {ro id : Nat} {o : Oper} {h : HF} {c : Call} (hc : o.op = .defer c) : (tmem P ρ ro id o h).ev = none := by
  simp [tmem_eq, tmem0, cmem_eq, cmem0, cpure_eq, cpure0, hc, T.of, T.ev]

section
variable {c : Ctx} {n : Nat} {tm : Nat → List CV} {st : Nat → CSt} {val : Nat → CV} {inj0 : Inj} {h0 : HF} {w0 : World}

theorem DInv.done {L : Array Bool} {a' : Act} {w : World} {inj : Inj} {ts : List CV} {J : Nat} (V : DInv P N c n tm st inj0 h0 w0 L a' w inj ts J) (hn : n = c.ops.size) (T : DTr P c 0 n tm st val [] []) (hall : ∀ i, i < n → L.getD i false = true) :
    ActRel inj ⟨tm n, c.marks⟩ a' ∧ SRel P N inj (st n) w ∧ Step c.ro inj0 h0 w0 inj (st n).heap.get w ∧ (∀ b, b < c.base → inj b = inj0 b ∧ inj.void b = inj0.void b) ∧ c.base + n ≤ (st n).next := by
  have hk : ∀ {k o}, c.ops[k]? = some o → k < n := fun {k o} h => by
    rw [hn]; rcases Nat.lt_or_ge k c.ops.size with h' | h'
    · exact h'
    · rw [Array.getElem?_eq_none h'] at h; cases h
  have hts : ts = tm n := List.ext_getElem? fun d => V.same d n (Nat.le_refl n) fun k o ho hd => ⟨fun _ => hall k (hk ho), fun _ => hk ho⟩
  have hst : st n = st J := st_const hn T n V.hJ (Nat.le_refl n) fun m h1 h2 ha => by
    have := V.cut2 m h1 ha; rw [hall m h2] at this; cases this
  rw [hst]
  exact ⟨⟨by rw [← hts]; exact V.tmps, V.marks⟩, ⟨V.rel, V.fresh⟩, V.step, V.low, V.nx⟩

theorem wanted_congr {ops : Array Oper} {ts ts' : List CV} {o : Oper} (h : ∀ d ∈ o.looksAt ops, ts[d]? = ts'[d]?) : Region.wanted o (cyielded ops ts) = Region.wanted o (cyielded ops ts') := by
  unfold Region.wanted
  cases hg : o.guard with
  | none => rfl
  | some gw =>
    obtain ⟨g, want⟩ := gw
    simp only []
    have : cyielded ops ts g = cyielded ops ts' g := by
      unfold cyielded
      cases hd : (ops[g]?).bind (·.dst) with
      | none => rfl
      | some t =>
        simp only [Option.bind_some]
        rw [h t (by simp [Oper.looksAt, hg, hd])]
    rw [this]

theorem gfine_congr {ops : Array Oper} {ts ts' : List CV} {o : Oper} (h : ∀ d ∈ o.looksAt ops, ts[d]? = ts'[d]?) : gfine ops o ts = gfine ops o ts' := by
  unfold gfine
  cases hg : o.guard with
  | none => rfl
  | some gw =>
    obtain ⟨g, want⟩ := gw
    simp only []
    cases hd : (ops[g]?).bind (·.dst) with
    | none => rfl
    | some t =>
      simp only [Option.bind_some]
      rw [h t (by simp [Oper.looksAt, hg, hd])]

theorem ceval_congr {ops : Array Oper} {ts ts' : List CV} {o : Oper} (h : ∀ d ∈ o.looksAt ops, ts[d]? = ts'[d]?) : ∀ x ∈ o.op.operands, ceval ts x = ceval ts' x := by
  intro x hx
  cases x with
  | tmp t =>
    simp only [ceval]
    rw [List.getD_eq_getElem?_getD, List.getD_eq_getElem?_getD, h t (by
      simp only [Oper.looksAt, List.mem_append, List.mem_filterMap]
      exact .inl ⟨.tmp t, by simpa using hx, rfl⟩)]
  | const v => rfl
  | global g => rfl
  | func f => rfl

theorem count_mark {L : Array Bool} {i : Nat} (hi : i < L.size) (hL : L.getD i false = false) : (L.setIfInBounds i true).toList.count true = L.toList.count true + 1 := by
  have h1 : L[i] = false := by simpa [hi] using hL
  rw [Array.toList_setIfInBounds, List.count_set (by simpa using hi)]
  simp [h1]

theorem drawn_any (hP : plainNames P = true) (hself : SelfOk P N c.self) (hn : n = c.ops.size) (G : Good c.z c.ops c.B) (T : DTr P c 0 n tm st val [] []) {rd : Option Nat} {nn : Nat} {Q : Exit → Act → World → Prop}
    (hQ : ∀ inj w a', ActRel inj ⟨tm n, c.marks⟩ a' → SRel P N inj (st n) w → Step c.ro inj0 h0 w0 inj (st n).heap.get w → (∀ b, b < c.base → inj b = inj0 b ∧ inj.void b = inj0.void b) → c.base + n ≤ (st n).next → Q .normal a' w) :
    ∀ (fuel : Nat) (L : Array Bool) (a' : Act) (w : World) (inj : Inj) (ts : List CV) (J : Nat), DInv P N c n tm st inj0 h0 w0 L a' w inj ts J → L.toList.count true + fuel = n →
      wpAnyIn (FW rd) nn P .any c.ops Q fuel L a' w := by
  intro fuel
  induction fuel with
  | zero =>
    intro L a' w inj ts J V hc
    have hall : ∀ i, i < n → L.getD i false = true := fun i hi => by
      have h1 : L.toList.count true = L.toList.length := by rw [Array.length_toList, V.size]; omega
      have h2 := List.count_eq_length.1 h1 
      have hs : i < L.size := by rw [V.size]; exact hi
      have := h2 L[i] (by simp)
      simp [hs, ← this]
    refine ⟨List.eq_nil_iff_forall_not_mem.2 fun i hi => ?_, ?_⟩
    · obtain ⟨o, ho, hlt, hL, _⟩ := V.ready hn G hi
      rw [hall i hlt] at hL; cases hL
    · obtain ⟨h1, h2, h3, h4, h5⟩ := V.done hn T hall
      exact hQ _ _ _ h1 h2 h3 h4 h5
  | succ fuel ih =>
    intro L a' w inj ts J V hc
    refine ⟨fun hnil => ?_, fun i hi => ?_⟩
    · have hall : ∀ i, i < n → L.getD i false = true := fun i => by
        induction i using Nat.strongRecOn with
        | _ i ihi =>
          intro hi
          have hlt : i < c.ops.size := by omega
          have ho : c.ops[i]? = some c.ops[i] := Array.getElem?_eq_getElem hlt
          cases hL : L.getD i false with
          | true => rfl
          | false =>
            have hs : i < L.size := by rw [V.size]; exact hi
            have : i ∈ Region.ready .any c.ops L := mem_ready.2 ⟨by simp [hs] at hL ⊢; exact hL, _, ho, fun e he hb => by
              have := G.edge i _ ho e (by simpa using he) hb
              exact ihi e.on this (by omega)⟩
            rw [hnil] at this; cases this
      obtain ⟨h1, h2, h3, h4, h5⟩ := V.done hn T hall
      exact hQ _ _ _ h1 h2 h3 h4 h5
    · obtain ⟨o, ho, hlt, hL, hpre, hag⟩ := V.ready hn G hi
      have hcnt : (L.setIfInBounds i true).toList.count true + fuel = n := by
        rw [count_mark (by rw [V.size]; exact hlt) hL]; omega
      have hact : ActRel inj ⟨ts, c.marks⟩ a' := ⟨V.tmps, V.marks⟩
      have hid := V.ids i hlt hL
      have hwant : Region.wanted o (yielded c.ops a'.tmps) = Region.wanted o (cyielded c.ops (tm i)) := by
        rw [← wanted_rel hact c.ops o (by rw [gfine_congr hag]; exact T.fine i o (Nat.zero_le i) hlt ho), wanted_congr hag]
      have hev := ceval_congr hag
      unfold wpOpIn
      rw [ho]
      simp only []
      cases hw : Region.wanted o (cyielded c.ops (tm i)) with
      | false =>
        rw [hwant, hw]
        simp only [Bool.false_eq_true, if_false]
        refine ⟨fun _ _ => trivial, ?_⟩
        obtain ⟨hv, hst⟩ := T.idle i o (Nat.zero_le i) hlt ho hw
        refine ih _ _ _ inj (cput ts o.dst (val i)) J (V.next hn G T ho hlt hL hpre (J' := J) (by rw [hv]; exact .undef _) V.hJ (fun k h1 h2 => .inr (V.cut1 k h1 h2)) (fun k h1 h2 => ⟨fun e => ?_, V.cut2 k h1 h2⟩) V.rel V.fresh (fun _ _ _ => ⟨rfl, rfl⟩) (.refl _ _ _ _) (Nat.le_refl _)) hcnt
        subst e
        obtain ⟨ok, hwk, _⟩ := h2
        have := hwk.1; rw [ho] at this; cases this
        rw [hwk.2] at hw; cases hw
      | true =>
        rw [hwant, hw]
        simp only [if_true]
        have hW : Wants c tm i o := ⟨ho, hw⟩
        cases ha : isAct c.z o.op with
        | true =>
          have hJi : J ≤ i := by
            rcases Nat.lt_or_ge i J with h | h
            · have := V.cut1 i h ⟨o, hW, ha⟩; rw [hL] at this; cases this
            · exact h
          have hbefore : ∀ k, k < i → ActAt c tm k → L.getD k false = true := fun k h1 ⟨ok, hwk, hak⟩ => hpre k (G.act k i ok o h1 hwk.1 ho hak ha)
          have hst : st i = st J := st_const hn T i hJi (by omega) fun m h1 h2 h3 => by
            have := V.cut2 m h1 h3; rw [hbefore m h2 h3] at this; cases this
          have e := T.acts i o (Nat.zero_le i) hlt hW ha
          rw [cOper_congr (b := ⟨ts, c.marks⟩) o (fun x hx => (hev x hx).symm), hst] at e
          refine cOper_sound hP hself e ⟨V.rel, V.fresh⟩ hact hid (by have := V.nx; omega) ?_
          intro i' w' v' hv haf
          exact ih _ _ _ i' _ (i + 1) (V.next hn G T ho hlt hL hpre (J' := i + 1) hv (by omega)
            (fun k h1 h2 => by
              by_cases hk : k = i
              · exact .inl hk
              · exact .inr (hbefore k (by omega) h2))
            (fun k h1 h2 => ⟨by omega, V.cut2 k (by omega) h2⟩) haf.srel.rel haf.srel.fresh (fun b h1 h2 => haf.low b h1 h2) haf.step haf.nx) hcnt
        | false =>
          have hq := V.quiet hn T hW ha hlt hL hpre
          unfold cqt at hq
          rw [cq_congr (σ := ceval ts) _ o (fun x hx => (hev x hx).symm)] at hq
          have go : ∀ {nx : Next} {i' : Inj} {w' : World} {v' : Value}, (∀ cl, o.op ≠ .defer cl) → (execOp a'.eval o).run P w = .ok nx w' → (nx = .value v' ∨ (nx = .skip ∧ v' = undef)) → VRel i' (val i) v' → Rel P N i' (st J).heap.get w' →
              Step c.ro inj (st J).heap.get w i' (st J).heap.get w' → (∀ b, b ≠ c.base + i → i' b = inj b ∧ i'.void b = inj.void b) →
              o.wpIn (FW rd) nn P a' w (wpAnyIn (FW rd) nn P .any c.ops Q fuel (L.setIfInBounds i true)) Q := by
            intro nx i' w' v' hdef d1 d2 d3 d4 d5 d6
            refine wpIn_of_run hdef d1 d2 ?_
            refine ih _ _ _ i' (cput ts o.dst (val i)) J (V.next hn G T ho hlt hL hpre (J' := J) d3 V.hJ (fun k h1 h2 => .inr (V.cut1 k h1 h2)) (fun k h1 h2 => ⟨fun e => ?_, V.cut2 k h1 h2⟩) d4 (fun b hb => ?_) (fun b _ hb => d6 b hb) d5 (Nat.le_refl _)) hcnt
            · subst e
              obtain ⟨ok, hwk, hak⟩ := h2
              have := hwk.1; rw [ho] at this; cases this
              rw [ha] at hak; cases hak
            · have h1 := d6 b (by have := V.nx; omega)
              have h2 := V.fresh b hb
              exact ⟨h1.1.trans h2.1, h1.2.trans h2.2⟩
          unfold cq at hq
          cases hzz : isZ c.z o.op with
          | true =>
            rw [hzz] at hq
            simp only [cond_true] at hq
            split at hq
            · rename_i v0 ws e' m' vs e m hzo hh
              cases hcond : (veqL (veq 8) vs ws && Nat.beq e e' && Nat.beq m m') with
              | false => rw [hcond] at hq; cases hq
              | true =>
                rw [hcond] at hq
                simp only [cond_true] at hq
                simp only [Bool.and_eq_true, nbeq, decide_eq_true_eq] at hcond
                obtain ⟨⟨q3, q4⟩, q5⟩ := hcond
                have hvs := veqL_eq (veq_eq 8) _ _ q3
                subst hvs; subst q4; subst q5
                have hR : Rel P N inj (fun b => if b = c.base + i then none else (st J).heap.get b) w := V.rel.congr fun b hb => by
                  by_cases hbi : b = c.base + i
                  · subst hbi; rcases hb with hb | hb
                    · rw [hid.1] at hb; cases hb
                    · rw [hid.2] at hb; cases hb
                  · simp [hbi]
                have hcm : (tmem P (ceval ts) c.ro (c.base + i) o (fun b => if b = c.base + i then none else (st J).heap.get b)).ev = some (val i, [(c.base + i, .cells vs e m)]) := by
                  rw [tmem_isZ hzz, zobj_cmem hzz hzo (by simp), Option.some.inj hq]; rfl
                obtain ⟨nx, i', w', v', d1, d2, d3, d4, d5, d6⟩ := tmem_sound hR (ceval_rel hact) hid hcm
                have hheap : eall (fun b => if b = c.base + i then none else (st J).heap.get b) [(c.base + i, .cells vs e m)] = (st J).heap.get := by
                  funext b
                  simp only [eall]
                  by_cases hbi : b = c.base + i
                  · subst hbi; simp [fset, hh]
                  · simp [fset, hbi]
                rw [hheap] at d4 d5
                refine go (fun cl hcl => by rw [hcl] at hzz; cases hzz) d1 d2 d3 d4 (d5.left (fun b hb => ?_) (fun _ _ _ h => h)) d6
                by_cases hbi : b = c.base + i
                · subst hbi; rw [hid.1] at hb; cases hb
                · simp [hbi]
            · cases hq
          | false =>
            rw [hzz] at hq
            simp only [cond_false] at hq
            split at hq
            · rename_i v hcm
              cases hq
              obtain ⟨nx, i', w', v', d1, d2, d3, d4, d5, d6⟩ := tmem_sound V.rel (ceval_rel hact) hid hcm
              exact go (fun cl hcl => by rw [tmem_defer hcl] at hcm; cases hcm) d1 d2 d3 d4 d5 d6
            · cases hq

end

theorem preset_get : ∀ (l : List Oper) (id : Nat) (h h' : Tr CObj), preset P l id h = some h' → (∀ b o, h.get b = some o → h'.get b = some o) ∧ ∀ b, b < id → h'.get b = h.get b
  | [], id, h, h', e => by simp only [preset] at e; cases e; exact ⟨fun _ _ h => h, fun _ _ => rfl⟩
  | o :: r, id, h, h', e => by
    simp only [preset] at e
    cases hz : isZ false o.op with
    | true =>
      rw [hz] at e
      simp only [cond_true] at e
      split at e
      · rename_i v ob hzo hn
        obtain ⟨h1, h2⟩ := preset_get r (id + 1) _ h' e
        refine ⟨fun b o hb => h1 b o ?_, fun b hb => ?_⟩
        · rw [Tr.get_set]
          by_cases e : b = id
          · subst e; rw [hn] at hb; cases hb
          · simp [e, hb]
        · rw [h2 b (by omega), Tr.get_set_ne _ _ (by omega)]
      · cases e
    | false =>
      rw [hz] at e
      simp only [cond_false] at e
      obtain ⟨h1, h2⟩ := preset_get r (id + 1) _ h' e
      exact ⟨h1, fun b hb => h2 b (by omega)⟩

theorem lay_get (l0 : List (Nat × CObj)) : ∀ (l : List Oper) (id : Nat) (h h' : Tr CObj), lay P l0 l id h = some h' → (∀ b o, h.get b = some o → h'.get b = some o) ∧ ∀ b, b < id → h'.get b = h.get b
  | [], id, h, h', e => by simp only [lay] at e; cases e; exact ⟨fun _ _ h => h, fun _ _ => rfl⟩
  | o :: r, id, h, h', e => by
    have put : ∀ ob, lay P l0 r (id + 1) (h.set id ob) = some h' → h.get id = none → (∀ b o, h.get b = some o → h'.get b = some o) ∧ ∀ b, b < id → h'.get b = h.get b := fun ob e hn => by
      obtain ⟨h1, h2⟩ := lay_get l0 r (id + 1) _ h' e
      refine ⟨fun b o hb => h1 b o ?_, fun b hb => ?_⟩
      · rw [Tr.get_set]
        by_cases e : b = id
        · subst e; rw [hn] at hb; cases hb
        · simp [e, hb]
      · rw [h2 b (by omega), Tr.get_set_ne _ _ (by omega)]
    have keep : lay P l0 r (id + 1) h = some h' → (∀ b o, h.get b = some o → h'.get b = some o) ∧ ∀ b, b < id → h'.get b = h.get b := fun e => by
      obtain ⟨h1, h2⟩ := lay_get l0 r (id + 1) _ h' e
      exact ⟨h1, fun b hb => h2 b (by omega)⟩
    simp only [lay] at e
    cases hz : isZ true o.op with
    | true =>
      rw [hz] at e
      simp only [cond_true] at e
      split at e
      · cases e
      · rename_i hn
        split at e
        · exact put _ e hn
        · split at e
          · exact put _ e hn
          · exact keep e
    | false =>
      rw [hz] at e
      simp only [cond_false] at e
      exact keep e

theorem dRegion_laid (hP : plainNames P = true) (hM : P.follows .mixedOrders = true) {self : Self} (hself : SelfOk P N self) {ro id : Nat} {ops : Array Oper} {a a2 : CAct} {s s2 : CSt} {z : Bool} {h : Tr CObj}
    (hg : (edgesOk ops.toList 0 && allFit (infos z ops ops.toList 0 [])) = true) (p1 : ∀ b o, s.heap.get b = some o → h.get b = some o) (p2 : ∀ b, b < s.next → h.get b = s.heap.get b)
    (e : dOps z self P ro s.next ops ((infos z ops ops.toList 0 []).map (·.bf)) ops.toList 0 [] [] a { heap := h, next := s.next + ops.size } = some (a2, s2)) {i : Inj} {w : World} {a' : Act} {rd : Option Nat} {n : Nat} (hs : SRel P N i s w) (ha : ActRel i a a') :
    (Code.region id ops true).wpIn (FW rd) n P (ExecPost P N ro i s w .normal a2 s2) a' w := by
  have G := good_of hg
  obtain ⟨tm, st, val, t1, t2, t3, t4, t5, T⟩ := dOps_trace (P := P) (c := ⟨self, ro, s.next, ops, (infos z ops ops.toList 0 []).map (·.bf), a.marks, z⟩) ops.toList 0 [] [] a _ e rfl (by simp)
  simp only [Nat.zero_add, Array.length_toList] at t3 t4 T
  refine wpIn_region_any hM ?_
  have hdr : ({ w with drawn := w.drawn + 1 } : World).heap = w.heap := rfl
  have hdom0 : ∀ b, ((i b).isSome = true ∨ i.void b = true) → s.heap.get b = h.get b := fun b hb => by
    refine (p2 b ?_).symm
    rcases Nat.lt_or_ge b s.next with h | h
    · exact h
    · rcases hb with hb | hb
      · rw [(hs.fresh b h).1] at hb; cases hb
      · rw [(hs.fresh b h).2] at hb; cases hb
  have hdom : ∀ b, (i b).isSome = true → s.heap.get b = h.get b := fun b hb => hdom0 b (.inl hb)
  have hR : Rel P N i h.get { w with drawn := w.drawn + 1 } := (hs.rel.congr (fun b hb => (hdom0 b hb).symm)).drawn rfl
  have hlen : ∀ k, k ≤ ops.size → (tm 0).length = (tm k).length := by
    intro k
    induction k with
    | zero => intro _; rfl
    | succ k ih =>
      intro hk
      have hlt : k < ops.size := by omega
      rw [T.put k ops[k] (Nat.zero_le k) hlt (Array.getElem?_eq_getElem hlt), cput_len]
      exact ih (by omega)
  refine drawn_any (c := ⟨self, ro, s.next, ops, (infos z ops ops.toList 0 []).map (·.bf), a.marks, z⟩) (n := ops.size) (inj0 := i) (h0 := s.heap.get) (w0 := w) hP hself rfl G T ?_ ops.size (Array.replicate ops.size false) a' _ i (tm 0) 0
    ⟨by simp, Nat.zero_le _, fun k h1 => by omega, fun k _ _ => ?_, by rw [t2]; exact hR, fun b hb => ?_, fun k hk _ => hs.fresh _ (by simp), hlen, by rw [t1]; exact ha.tmps, ha.marks, fun d k hk hc => ?_, ?_, fun _ _ => ⟨rfl, rfl⟩, by rw [t2]; simp, fun k hk => ?_⟩ ?_
  · intro inj w2 a2' q1 q2 q3 q4 q5
    simp only [] at t3 t4 t5 q1 q2 q3 q4 q5
    rw [t3] at q1; rw [t4] at q2 q3 q5
    refine ⟨inj, rfl, ?_, q2, q3, q4, by omega⟩
    rw [← t5] at q1; exact q1
  · simp only [Array.getD_eq_getD_getElem?, Array.getElem?_replicate]; split <;> rfl
  · rw [t2] at hb; exact hs.fresh b (by simp only [] at hb; omega)
  · have h0 : ∀ k, (Array.replicate ops.size false).getD k false = false := fun k => by
      simp only [Array.getD_eq_getD_getElem?, Array.getElem?_replicate]; split <;> rfl
    have hno : ∀ j, j < k → ∀ o, ops[j]? = some o → o.dst ≠ some d := fun j hj o ho hd => by
      have := (hc j o ho hd).1 hj; rw [h0] at this; cases this
    have : ∀ q, q ≤ k → (tm q)[d]? = (tm 0)[d]? := by
      intro q
      induction q with
      | zero => intro _; rfl
      | succ q ih =>
        intro hq
        have hlq : q < ops.size := by omega
        have hoq : ops[q]? = some ops[q] := Array.getElem?_eq_getElem hlq
        rw [T.put q ops[q] (Nat.zero_le q) (by omega) hoq, ← ih (by omega)]
        have hne := hno q (by omega) _ hoq
        cases hdq : ops[q].dst with
        | none => rfl
        | some d' =>
          have : d' ≠ d := fun e => hne (by rw [hdq, e])
          simp [cput, List.getElem?_set_ne this]
    exact (this k (Nat.le_refl k)).symm
  · rw [t2]
    have h1 : Step ro i s.heap.get w i s.heap.get { w with drawn := w.drawn + 1 } := .drawn rfl rfl rfl rfl
    have h2 : Step ro i s.heap.get { w with drawn := w.drawn + 1 } i h.get { w with drawn := w.drawn + 1 } :=
      (Step.refl ro i h.get { w with drawn := w.drawn + 1 }).left (fun b hb => (hdom b hb).symm) (fun b o _ hb => p1 b o hb)
    exact h1.trans h2
  · have h0 : (Array.replicate ops.size false).getD k false = false := by
      simp only [Array.getD_eq_getD_getElem?, Array.getElem?_replicate]; split <;> rfl
    rw [h0] at hk; cases hk
  · rw [Array.toList_replicate, List.count_replicate]; simp

theorem dRegion_sound (hP : plainNames P = true) (hM : P.follows .mixedOrders = true) {self : Self} (hself : SelfOk P N self) {ro id : Nat} {ops : Array Oper} {a a2 : CAct} {s s2 : CSt}
    (e : dRegion self P ro ops a s = some (a2, s2)) {i : Inj} {w : World} {a' : Act} {rd : Option Nat} {n : Nat} (hs : SRel P N i s w) (ha : ActRel i a a') :
    (Code.region id ops true).wpIn (FW rd) n P (ExecPost P N ro i s w .normal a2 s2) a' w := by
  unfold dRegion at e
  simp only [] at e
  cases hg : (edgesOk ops.toList 0 && allFit (infos false ops ops.toList 0 [])) with
  | true =>
    rw [hg] at e
    simp only [cond_true] at e
    split at e
    · rename_i h hpre
      obtain ⟨p1, p2⟩ := preset_get _ _ _ _ hpre
      exact dRegion_laid hP hM hself hg p1 p2 e hs ha
    · cases e
  | false =>
    rw [hg] at e
    simp only [cond_false] at e
    cases hg2 : (edgesOk ops.toList 0 && allFit (infos true ops ops.toList 0 [])) with
    | true =>
      rw [hg2] at e
      simp only [cond_true] at e
      split at e
      · split at e
        · rename_i h hl
          obtain ⟨p1, p2⟩ := lay_get _ _ _ _ _ hl
          exact dRegion_laid hP hM hself hg2 p1 p2 e hs ha
        · cases e
      · cases e
    | false => rw [hg2] at e; cases e

end Go.Proofs.YtecidokjhplbgaaGreatDoorD
