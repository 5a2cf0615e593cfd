/-
  Functions of data: what a reference run tells of them, told to the runs of their callers.
-/
import Derived.Test.YtkdjllolnlndkaaTRun
import Derived.ProofKit
import Derived.OpenShut
import Derived.KernelRfl
set_option linter.unusedVariables false
set_option linter.unusedSimpArgs false
namespace Go.Proofs.YtkdjllolnlndkaaD
open Go Go.RowKit

variable {P : Program} {N : Nat}

/-! ### Data -/
mutual
def dataV : CV → Bool
  | .bool _ => true
  | .int _ _ => true
  | .string _ => true
  | .nilFunc => true
  | .nilIface => true
  | .pointer none => true
  | .slice none 0 0 => true
  | .map none => true
  | .iface _ v => dataV v
  | .agg cs => dataA cs
  | .tuple cs => dataA cs
  | .pl _ _ => true
  | .empty => true
  | _ => false
def dataA : Array CV → Bool
  | ⟨l⟩ => dataL l
def dataL : List CV → Bool
  | [] => true
  | v :: r => dataV v && dataL r
end

abbrev Imm := Nat → Nat → Option Value
def immOf (im : Imm) : Inj := ⟨fun _ => none, im, fun _ => false, im⟩
def ImmOk (im : Imm) (w : World) : Prop := ∀ B k v, im B k = some v → w.cell? ⟨B, k, none⟩ = some v ∧ B < w.heap.size

theorem dataL_mem : ∀ {l : List CV} {k : Nat} {x : CV}, dataL l = true → l[k]? = some x → dataV x = true
  | [], k, x, _, h => by simp at h
  | a :: l, 0, x, hf, h => by simp at h; subst h; simp [dataL] at hf; exact hf.1
  | a :: l, k + 1, x, hf, h => by simp [dataL] at hf; exact dataL_mem hf.2 (by simpa using h)

/-- Data hang on nothing but the cells that nobody writes. -/
theorem VRel.data {i j : Inj} (h : ∀ B k v, i.imm B k = some v → j.imm B k = some v) {x : CV} {y : Value} (hv : VRel i x y) : dataV x = true → VRel j x y := by
  induction hv with
  | bool b => intro _; exact .bool b
  | int k n => intro _; exact .int k n
  | string s => intro _; exact .string s
  | nilFunc => intro _; exact .nilFunc
  | nilIface => intro _; exact .nilIface
  | nilPtr => intro _; exact .nilPtr
  | nilMap => intro _; exact .nilMap
  | nilSlice => intro _; exact .nilSlice
  | iface _ ih => intro hd; exact .iface (ih (by simpa [dataV] using hd))
  | agg h1 h2 i2 => intro hd; simp only [dataV, dataA] at hd; exact .agg h1 fun k x y hx hy => i2 k x y hx hy (dataL_mem hd hx)
  | tuple h1 h2 i2 => intro hd; simp only [dataV, dataA] at hd; exact .tuple h1 fun k x y hx hy => i2 k x y hx hy (dataL_mem hd hx)
  | @pl r l B o c ys a' h1 h2 h3 hc ha ih =>
    intro _
    refine .pl h1 (fun k y hy => h _ _ _ (h2 k y hy)) (fun k x y hx hy => ih k x y hx hy ?_) hc ha
    obtain ⟨e, _, he⟩ := List.mem_flatMap.1 (List.mem_of_getElem? hx)
    have : ∀ x ∈ r.cells e, dataV x = true := by cases r <;> simp [RC.cells, dataV]
    exact this x he
  | plNil => intro _; exact .plNil
  | empty => intro _; exact .empty
  | _ => intro hd; simp [dataV] at hd
theorem LRel.data {i j : Inj} (h : ∀ B k v, i.imm B k = some v → j.imm B k = some v) {xs : List CV} {ys : List Value} (hv : LRel i xs ys) (hd : dataL xs = true) : LRel j xs ys :=
  ⟨hv.len, fun k x y hx hy => (hv.at_ k x y hx hy).data h (dataL_mem hd hx)⟩

/-- What a function answers to data. -/
def PureAt (P : Program) (f : FuncId) (args : List CV) (d : CV) : Prop :=
  ∀ (im : Imm) (w : World) (args' : Array Value), ImmOk im w → LRel (immOf im) args args'.toList →
    Calls P f args' w fun e w' => ∃ (im' : Imm) (v' : Value), e = .returned v' ∧ ImmOk im' w' ∧ (∀ B k v, im B k = some v → im' B k = some v) ∧ (∀ B k v, B < w.heap.size → im' B k = some v → im B k = some v) ∧
      VRel (immOf im') d v' ∧ Below w.heap.size w w'
def PureFn (P : Program) (f : FuncId) (G : List CV → T CV) : Prop :=
  (∃ fn c, P.funcs[f]? = some fn ∧ fn.body = some c) ∧ ∀ args d, (G args).ev = some d → PureAt P f args d

/-! ### What a call's answer is, when nothing of the run is written any more -/
def frzV (h : HF) : CV → Option (CV × Eff)
  | .agg cs => match frzL 0 h cs.toList with
    | some (l, e) => some (.agg l.toArray, e)
    | none => none
  | .nilFunc => some (.nilFunc, [])
  | .nilIface => some (.nilIface, [])
  | .pointer none => some (.pointer none, [])
  | .map none => some (.map none, [])
  | v => frz1 0 h v
def frzVs (h : HF) : List CV → Option (List CV × Eff)
  | [] => some ([], [])
  | v :: r => match frzV h v with
    | some (v', e) => match frzVs (fupd h e) r with
      | some (vs, es) => some (v' :: vs, e ++ es)
      | none => none
    | none => none
def frzR (h : HF) : CV → Option (CV × Eff)
  | .tuple vs => match frzVs h vs.toList with
    | some (l, e) => some (.tuple l.toArray, e)
    | none => none
  | v => frzV h v

theorem frzV_sound {i : Inj} {h : HF} {w : World} (R : Rel P N i h w) {x x2 : CV} {ef : Eff} {y : Value} (hv : VRel i x y) (e : frzV h x = some (x2, ef)) : ∃ i', Frz P N 0 i h w i' (eall h ef) ∧ VRel i' x2 y := by
  unfold frzV at e
  split at e
  · split at e
    · rename_i cs _ l ef2 hf
      cases e
      obtain ⟨bs, rfl, hl⟩ := hv.agg_inv
      obtain ⟨i1, F, q1, _⟩ := frzL_sound R hl hf
      exact ⟨i1, F, by simpa using VRel.agg' q1⟩
    · cases e
  · cases e; exact ⟨i, .refl R, hv⟩
  · cases e; exact ⟨i, .refl R, hv⟩
  · cases e; exact ⟨i, .refl R, hv⟩
  · cases e; exact ⟨i, .refl R, hv⟩
  · exact frz1_sound R hv e

theorem frzVs_sound {w : World} : ∀ {xs : List CV} {i : Inj} {h : HF} {xs2 : List CV} {ef : Eff} {ys : List Value}, Rel P N i h w → LRel i xs ys → frzVs h xs = some (xs2, ef) →
    ∃ i', Frz P N 0 i h w i' (eall h ef) ∧ LRel i' xs2 ys
  | [], i, h, xs2, ef, ys, R, hl, e => by
    simp only [frzVs, Option.some.injEq, Prod.mk.injEq] at e
    obtain ⟨rfl, rfl⟩ := e
    exact ⟨i, .refl R, hl⟩
  | x :: xs, i, h, xs2, ef, ys, R, hl, e => by
    simp only [frzVs] at e
    split at e
    · rename_i v' e1 h1
      split at e
      · rename_i vs es h2
        cases e
        obtain ⟨y, ys', rfl, h3, h4⟩ := hl.cons_inv
        obtain ⟨i1, F1, q1⟩ := frzV_sound R h3 h1
        rw [fupd_eall] at h2
        obtain ⟨i2, F2, q2⟩ := frzVs_sound F1.rel (h4.mono F1.step.ext) h2
        rw [eall_append]
        exact ⟨i2, F1.trans F2, .cons (q1.mono F2.step.ext) q2⟩
      · cases e
    · cases e

theorem frzR_sound {i : Inj} {h : HF} {w : World} (R : Rel P N i h w) {x x2 : CV} {ef : Eff} {y : Value} (hv : VRel i x y) (e : frzR h x = some (x2, ef)) : ∃ i', Frz P N 0 i h w i' (eall h ef) ∧ VRel i' x2 y := by
  unfold frzR at e
  split at e
  · split at e
    · rename_i vs _ l ef2 hf
      cases e
      obtain ⟨bs, rfl, hl⟩ := hv.tuple_inv
      obtain ⟨i1, F, q1⟩ := frzVs_sound R hl hf
      exact ⟨i1, F, by simpa using VRel.tuple' q1⟩
    · cases e
  · exact frzV_sound R hv e

/-- A call's tree, its answer as data. -/
def T.pure (t : T (CV × CSt)) : T CV := t.bind fun r => match frzR r.2.heap.get r.1 with
  | some (d, _) => .ret d
  | none => .fail

theorem srel_imm {im : Imm} {w : World} (h : ImmOk im w) : SRel P w.heap.size (immOf im) ⟨.nil, 0⟩ w :=
  ⟨⟨fun b o g h _ => (by simp [Tr.get] at h), fun b b' o o' g g' _ h _ _ _ _ _ => (by simp [Tr.get] at h), fun b g h => (by cases h), Nat.le_refl _, fun B k v hv => ⟨(h B k v hv).1, (h B k v hv).2, .inr hv⟩, fun b o g h _ => (by simp [Tr.get] at h), fun b hb => (by cases hb)⟩, fun _ _ => ⟨rfl, rfl⟩⟩

theorem pure_of (hP : plainNames P = true) (hM : P.follows .mixedOrders = true) {E : List (Nat × ExtFn)} (hE : ∀ N, ExtsOk P N E) {L : List (Nat × List Nat × LoopFn)} (hL : ∀ N, LoopsOk P N L) {k f : Nat} {args : List CV} {d : CV} (hd : dataV d = true)
    (e : (((tden P E L k).call 0 f args ⟨.nil, 0⟩).pure).ev = some d) : (∃ fn c, P.funcs[f]? = some fn ∧ fn.body = some c) ∧ PureAt P f args d := by
  obtain ⟨⟨v, s⟩, h1, h2⟩ := ev_bind _ e
  simp only [] at h2
  split at h2
  · rename_i d' ef hf
    cases ev_ret h2
    have e1 := (tden_ev P E L k).call h1
    refine ⟨((den_sound (N := 0) hP hM (hE 0) (hL 0) k).call 0 f args _ v s e1).1, fun im w args' him hl => ?_⟩
    obtain ⟨_, h⟩ := (den_sound (N := w.heap.size) hP hM (hE _) (hL _) k).call 0 f args _ v s e1
    have h3 := h (immOf im) w args' (srel_imm him) hl
    have h4 : CallsIn Fence.wide 0 P f args' w fun e w' => ∃ (im' : Imm) (v' : Value), e = .returned v' ∧ ImmOk im' w' ∧ (∀ B k v, im B k = some v → im' B k = some v) ∧ (∀ B k v, B < w.heap.size → im' B k = some v → im B k = some v) ∧
        VRel (immOf im') d v' ∧ Below w.heap.size w w' := by
      refine CallsIn.mono (F := Fence.wide) h3 ?_
      rintro e w' ⟨i', v', rfl, hvr, haf⟩
      obtain ⟨j, F, hvj⟩ := frzR_sound haf.srel.rel hvr hf
      refine ⟨j.imm, v', rfl, fun B k v hv => ⟨(F.rel.imm B k v hv).1, (F.rel.imm B k v hv).2.1⟩, fun B k v hv => F.step.ext.imm _ _ _ (haf.step.ext.imm _ _ _ hv), fun B k v hB hv => ?_, VRel.data (i := j) (j := immOf j.imm) (fun _ _ _ h => h) hvj hd, Step.below (srel_imm (P := P) him).rel haf.step⟩
      rcases (F.rel.imm B k v hv).2.2 with h5 | h5
      · omega
      · rw [F.step.ext.old, haf.step.ext.old] at h5; exact h5
    exact callsIn_wide.1 h4
  · exact (ev_fail h2).elim

/-! ### Told to callers -/
/-- A slice of the run's own, looked at as data for a while. -/
def view1 (h : HF) : CV → Option CV
  | .row b z n => match h b with
    | some (.rows r l) => bif Nat.beq z r.z then some (.pl r l) else none
    | _ => none
  | .win b z s n c => match h b with
    | some (.rows r l) => bif Nat.beq z r.z && Nat.ble (s + n) l.length then some (.pl r ((l.drop s).take n)) else none
    | _ => none
  | v => bif dataV v then some v else none
def viewL (h : HF) : List CV → Option (List CV)
  | [] => some []
  | v :: r => match view1 h v, viewL h r with
    | some x, some l => some (x :: l)
    | _, _ => none
def viewV (h : HF) : CV → Option CV
  | .slice (some ⟨b, o, none⟩) n _ => match h b with
    | some (.cells vs 1 _) => bif Nat.ble (o + n) vs.length then match parseR .ints n ((vs.drop o).take n) with
      | some l => some (.pl .ints l)
      | none => none
      else none
    | _ => none
  | .agg cs => match viewL h cs.toList with
    | some l => some (.agg l.toArray)
    | none => none
  | v => view1 h v
def viewArgs (h : HF) : List CV → Option (List CV)
  | [] => some []
  | v :: r => match viewV h v, viewArgs h r with
    | some x, some l => some (x :: l)
    | _, _ => none

/-- All cells of a world. -/
def immAll (w : World) : Imm := fun B k => if B < w.heap.size then w.cell? ⟨B, k, none⟩ else none
theorem immAll_ok (w : World) : ImmOk (immAll w) w := fun B k v hv => by
  simp only [immAll] at hv
  split at hv
  · rename_i h; exact ⟨hv, h⟩
  · cases hv

theorem row_view {i : Inj} {h : HF} {w : World} (R : Rel P N i h w) {b z n : Nat} {r : RC} {l : List r.den} {y : Value} (hb : h b = some (.rows r l)) (hz : z = r.z) (hv : VRel i (.row b z n) y) : VRel (immOf (immAll w)) (.pl r l) y := by
  rcases hv.row_inv with ⟨g, a', cap', rfl, hg, hgz, hs, hcap, ha⟩ | ⟨rfl, hvd, a, rfl⟩
  · have hn := row_len R hb hg hz hs
    subst hn
    obtain ⟨h1, h2, h3, ⟨ys, h4, h5⟩, h6⟩ := R.obj b _ g hb hg
    have hlt := R.bnd b g hg
    have him : ∀ B k v, i.imm B k = some v → (immAll w) B k = some v := fun B k v hv => by
      obtain ⟨q1, q2, _⟩ := R.imm B k v hv
      simp only [immAll, q2, if_true]; exact q1
    have hd : dataL (r.all l) = true := by
      have : ∀ l : List r.den, dataL (r.all l) = true := by
        intro l
        induction l with
        | nil => rfl
        | cons x l ih =>
          rw [r.all_cons]
          have hc : ∀ (a b : List CV), dataL a = true → dataL b = true → dataL (a ++ b) = true := by
            intro a b ha hb
            induction a with
            | nil => exact hb
            | cons v a ih => simp only [dataL, Bool.and_eq_true, List.cons_append] at ha ⊢; exact ⟨ha.1, ih ha.2⟩
          refine hc _ _ ?_ ih
          cases r <;> rfl
      exact this l
    refine pl_of_cells (h4.data (j := immOf (immAll w)) him hd) (fun k v hv => ?_) ?_ ha
    · simp only [immOf, immAll, hlt, if_true]; exact h5 k v hv
    · rcases hcap with rfl | ⟨_, _, h3, _⟩ <;> omega
  · have hl := (R.void b hvd).2 r l hb
    subst hl
    exact .plNil

theorem cells_view {i : Inj} {h : HF} {w : World} (R : Rel P N i h w) {b o n c m : Nat} {vs : List CV} {l : List Int} {y : Value} (hb : h b = some (.cells vs 1 m)) (hle : o + n ≤ vs.length) (hp : parseR .ints n ((vs.drop o).take n) = some l) (hv : VRel i (.slice (some ⟨b, o, none⟩) n c) y) : VRel (immOf (immAll w)) (.pl .ints l) y := by
  obtain ⟨g, a', cap', rfl, hg, hc, ha, hl⟩ := hv.slice_inv
  obtain ⟨ys, h1, h2, h3⟩ := R.cellsAt hb hg hle
  obtain ⟨h4, h5⟩ := parseR_rel n hp (by simp [RC.z]; omega) h1
  have hlt := R.bnd b g hg
  have him : ∀ B k v, i.imm B k = some v → (immAll w) B k = some v := fun B k v hv => by
    obtain ⟨q1, q2, _⟩ := R.imm B k v hv
    simp only [immAll, q2, if_true]; exact q1
  have hd : dataL (RC.ints.all l) = true := by
    induction l with
    | nil => rfl
    | cons x l ih => rw [RC.all_cons]; exact (by simp [RC.cells, dataL, dataV] : ∀ q, dataL q = true → dataL (RC.ints.cells x ++ q) = true) _ (by
        have : ∀ l : List Int, dataL (RC.ints.all l) = true := fun l => by
          induction l with
          | nil => rfl
          | cons x l ih => rw [RC.all_cons]; simp [RC.cells, dataL, dataV]; exact ih
        exact this l)
  have := pl_of_cells (cap' := cap') (a' := a') (h4.data (j := immOf (immAll w)) him hd) (B := g.B) (o := g.off + o) (fun k v hv => by
    simp only [immOf, immAll, hlt, if_true]; exact h3 k v hv) (by rw [h5]; rcases hc with rfl | ⟨_, _, h3, _⟩ <;> omega) ha
  rwa [h5] at this

theorem dataL_all (r : RC) (l : List r.den) : dataL (r.all l) = true := by
  induction l with
  | nil => rfl
  | cons x l ih =>
    rw [r.all_cons]
    have hc : ∀ (a b : List CV), dataL a = true → dataL b = true → dataL (a ++ b) = true := by
      intro a b ha hb
      induction a with
      | nil => exact hb
      | cons v a ih => simp only [dataL, Bool.and_eq_true, List.cons_append] at ha ⊢; exact ⟨ha.1, ih ha.2⟩
    refine hc _ _ ?_ ih
    cases r <;> rfl

theorem win_view {i : Inj} {h : HF} {w : World} (R : Rel P N i h w) {b z s n c : Nat} {r : RC} {l : List r.den} {y : Value} (hb : h b = some (.rows r l)) (hz : z = r.z) (hle : s + n ≤ l.length) (hv : VRel i (.win b z s n c) y) : VRel (immOf (immAll w)) (.pl r ((l.drop s).take n)) y := by
  rcases hv.win_inv with ⟨g, a', cap', rfl, hg, hgz, hcap, ha, hnc⟩ | ⟨rfl, _, a, rfl⟩
  · obtain ⟨h1, h2, h3, ⟨ys, h4, h5⟩, h6⟩ := R.obj b _ g hb hg
    have hlt := R.bnd b g hg
    have him : ∀ B k v, i.imm B k = some v → (immAll w) B k = some v := fun B k v hv => by
      obtain ⟨q1, q2, _⟩ := R.imm B k v hv
      simp only [immAll, q2, if_true]; exact q1
    have e1 : r.all ((l.drop s).take n) = ((r.all l).drop (s * r.z)).take (n * r.z) := by rw [r.all_drop, r.all_take]
    have h7 : LRel i (r.all ((l.drop s).take n)) ((ys.drop (s * r.z)).take (n * r.z)) := by rw [e1]; exact (h4.drop _).take _
    have hlen : ((l.drop s).take n).length = n := by rw [List.length_take, List.length_drop]; omega
    have key := pl_of_cells (cap' := cap') (a' := a') (B := g.B) (o := g.off + s * r.z) (h7.data (j := immOf (immAll w)) him (dataL_all r _)) (fun k v hv => ?_) ?_ (by rw [← hz]; exact ha)
    · rw [hlen] at key; exact key
    · rw [List.getElem?_take] at hv
      split at hv
      · rw [List.getElem?_drop] at hv
        have := h5 _ v hv
        simp only [immOf, immAll, hlt, if_true, Nat.add_assoc]; exact this
      · cases hv
    · rw [hlen]; rcases hcap with rfl | ⟨_, _, h3, _⟩ <;> omega
  · rw [List.take_zero]; exact .plNil

theorem view1_rel {i : Inj} {h : HF} {w : World} (R : Rel P N i h w) {x x2 : CV} {y : Value} (e : view1 h x = some x2) (hv : VRel i x y) : VRel (immOf (immAll w)) x2 y := by
  have him : ∀ B k v, i.imm B k = some v → (immAll w) B k = some v := fun B k v hv => by
    obtain ⟨q1, q2, _⟩ := R.imm B k v hv
    simp only [immAll, q2, if_true]; exact q1
  unfold view1 at e
  split at e
  · rename_i b z n
    split at e
    · rename_i r l hb
      rw [nbeq] at e
      by_cases hz : z = r.z
      · simp only [hz, decide_true, cond_true, Option.some.injEq] at e
        subst e
        exact row_view R hb hz hv
      · simp only [hz, decide_false, cond_false] at e; cases e
    · cases e
  · rename_i b z s n c
    split at e
    · rename_i r l hb
      cases hc : (Nat.beq z r.z && Nat.ble (s + n) l.length) with
      | true =>
        rw [hc] at e
        simp only [Bool.and_eq_true, nbeq, nble, decide_eq_true_eq] at hc
        simp only [cond_true, Option.some.injEq] at e
        subst e
        exact win_view R hb hc.1 hc.2 hv
      | false => rw [hc] at e; cases e
    · cases e
  · cases hd : dataV x with
    | false => rw [hd] at e; cases e
    | true => rw [hd] at e; cases e; exact hv.data (j := immOf (immAll w)) him hd
theorem viewL_rel {i : Inj} {h : HF} {w : World} (R : Rel P N i h w) : ∀ {xs xs2 : List CV} {ys : List Value}, viewL h xs = some xs2 → LRel i xs ys → LRel (immOf (immAll w)) xs2 ys
  | [], xs2, ys, e, hl => by simp only [viewL, Option.some.injEq] at e; subst e; have := hl.nil_inv; subst this; exact .nil _
  | x :: xs, xs2, ys, e, hl => by
    simp only [viewL] at e
    split at e
    · rename_i a l h1 h2
      cases e
      obtain ⟨y, ys', rfl, h3, h4⟩ := hl.cons_inv
      exact .cons (view1_rel R h1 h3) (viewL_rel R h2 h4)
    · cases e
theorem viewV_rel {i : Inj} {h : HF} {w : World} (R : Rel P N i h w) {x x2 : CV} {y : Value} (e : viewV h x = some x2) (hv : VRel i x y) : VRel (immOf (immAll w)) x2 y := by
  unfold viewV at e
  split at e
  · rename_i b o n c
    split at e
    · rename_i vs m hb
      rw [nble] at e
      by_cases hle : o + n ≤ vs.length
      · simp only [hle, decide_true, cond_true] at e
        split at e
        · rename_i l hp
          cases e
          exact cells_view R hb hle hp hv
        · cases e
      · simp only [hle, decide_false, cond_false] at e; cases e
    · cases e
  · split at e
    · rename_i cs _ l hc
      cases e
      obtain ⟨bs, rfl, hl⟩ := hv.agg_inv
      simpa using VRel.agg' (viewL_rel R hc hl)
    · cases e
  · exact view1_rel R e hv
theorem viewArgs_rel {i : Inj} {h : HF} {w : World} (R : Rel P N i h w) : ∀ {xs xs2 : List CV} {ys : List Value}, viewArgs h xs = some xs2 → LRel i xs ys → LRel (immOf (immAll w)) xs2 ys
  | [], xs2, ys, e, hl => by simp only [viewArgs, Option.some.injEq] at e; subst e; have := hl.nil_inv; subst this; exact .nil _
  | x :: xs, xs2, ys, e, hl => by
    simp only [viewArgs] at e
    split at e
    · rename_i a l h1 h2
      cases e
      obtain ⟨y, ys', rfl, h3, h4⟩ := hl.cons_inv
      exact .cons (viewV_rel R h1 h3) (viewArgs_rel R h2 h4)
    · cases e

/-- A function told apart by its answers to data. -/
def pureExt (G : List CV → T CV) : ExtFn := fun ro args s =>
  bif dataL args then (G args).bind fun d => bif dataV d then .ret (d, s) else .fail
  else match viewArgs s.heap.get args with
    | some args2 => (G args2).bind fun d => bif flat d then .ret (d, s) else
        match frzVs s.heap.get args with
        | some (args3, ef) => bif Nat.beq ro 0 && dataL args3 then (G args3).bind fun d => bif dataV d then .ret (d, { s with heap := setAll s.heap ef }) else .fail else .fail
        | none => .fail
    | none => .fail

theorem imm_rel {i : Inj} {h : HF} {w w' : World} (R : Rel P N i h w) {im' : Imm} (hok : ImmOk im' w') (h1 : ∀ B k v, i.imm B k = some v → im' B k = some v) (h2 : ∀ B k v, B < w.heap.size → im' B k = some v → i.imm B k = some v) (hb : Below w.heap.size w w') :
    i.le { i with imm := im' } ∧ Rel P N { i with imm := im' } h w' := by
  have hle : i.le { i with imm := im' } := ⟨fun _ _ h => h, h1, fun _ h => h, rfl⟩
  refine ⟨hle, ⟨fun b o g hbo hg => (R.obj b o g hbo hg).mono hle (hb.block _ (R.bnd b g hg)), R.sep, fun b g hg => Nat.lt_of_lt_of_le (R.bnd b g hg) hb.size, Nat.le_trans R.hN hb.size, fun B k v hv => ⟨(hok B k v hv).1, (hok B k v hv).2, ?_⟩, fun b o g hbo hg hw k => ?_, R.void⟩⟩
  · rcases Nat.lt_or_ge B w.heap.size with h3 | h3
    · exact (R.imm B k v (h2 B k v h3 hv)).2.2
    · exact .inl (Nat.le_trans R.hN h3)
  · show im' g.B k = none
    cases hx : im' g.B k with
    | none => rfl
    | some v =>
      have := h2 _ _ _ (R.bnd b g hg) hx
      rw [R.ims b o g hbo hg hw k] at this; cases this

theorem imm_after {ro : Nat} {i : Inj} {s : CSt} {w w' : World} (hs : SRel P N i s w) {im' : Imm} (hok : ImmOk im' w') (h1 : ∀ B k v, i.imm B k = some v → im' B k = some v) (h2 : ∀ B k v, B < w.heap.size → im' B k = some v → i.imm B k = some v) (hb : Below w.heap.size w w') :
    After P N ro i s w { i with imm := im' } s w' := by
  obtain ⟨h3, h4⟩ := imm_rel hs.rel hok h1 h2 hb
  exact ⟨⟨h4, hs.fresh⟩, ⟨h3, fun _ _ _ h => h, hb.size, hb.os, hb.tape, hb.output, fun B hB _ => hb.block B hB, fun _ _ h => h, fun B k v hB h => .inl (h2 B k v hB h)⟩, fun _ _ => ⟨rfl, rfl⟩, Nat.le_refl _⟩

theorem below_after {ro : Nat} {i : Inj} {s : CSt} {w w' : World} (hs : SRel P N i s w) (hb : Below w.heap.size w w') : After P N ro i s w i s w' := by
  have := imm_after (ro := ro) hs (im' := i.imm) (fun B k v hv => ?_) (fun _ _ _ h => h) (fun _ _ _ _ h => h) hb
  · exact this
  · obtain ⟨q1, q2, _⟩ := hs.rel.imm B k v hv
    exact ⟨by rw [World.cell?_of_block (w := w) (hb.block _ q2)]; exact q1, Nat.lt_of_lt_of_le q2 hb.size⟩

theorem extOk_pure {f : FuncId} {G : List CV → T CV} (h : PureFn P f G) : ExtOk1 P N f (pureExt G) := by
  refine ⟨h.1, fun ro args s v s' e i w args' hs hl => ?_⟩
  have key : ∀ {args : List CV} {d : CV} {i : Inj} {s : CSt}, SRel P N i s w → LRel i args args'.toList → dataL args = true → (G args).ev = some d → dataV d = true →
      CallsIn (FW none) 0 P f args' w fun e w' => ∃ i' v', e = .returned v' ∧ VRel i' d v' ∧ After P N ro i s w i' s w' := by
    intro args d i s hs hl hd he hdd
    refine (callsIn_wide (n := 0)).2 ((h.2 args d he i.imm w args' (fun B k v hv => ⟨(hs.rel.imm B k v hv).1, (hs.rel.imm B k v hv).2.1⟩) (LRel.data (i := i) (j := immOf i.imm) (fun _ _ _ h => h) hl hd)).mono ?_)
    rintro e w' ⟨im', v', rfl, q1, q2, q3, q4, q5⟩
    exact ⟨{ i with imm := im' }, v', rfl, VRel.data (i := immOf im') (j := { i with imm := im' }) (fun _ _ _ h => h) q4 hdd, imm_after hs q1 q2 q3 q5⟩
  unfold pureExt at e
  cases hd : dataL args with
  | true =>
    rw [hd] at e
    simp only [cond_true] at e
    obtain ⟨d, h1, h2⟩ := ev_bind _ e
    obtain ⟨h3, h4⟩ := ev_bif h2
    cases ev_ret h4
    exact key hs hl hd h1 h3
  | false =>
    rw [hd] at e
    simp only [cond_false] at e
    split at e
    · rename_i args2 hv
      obtain ⟨d, h1, h2⟩ := ev_bind _ e
      cases hf : flat d with
      | true =>
        rw [hf] at h2
        cases ev_ret h2
        refine (callsIn_wide (n := 0)).2 ((h.2 args2 v h1 (immAll w) w args' (immAll_ok w) (viewArgs_rel hs.rel hv hl)).mono ?_)
        rintro e w' ⟨im', v', rfl, q1, q2, q3, q4, q5⟩
        have := q4.flat_eq hf
        subst this
        exact ⟨i, _, rfl, .of_flat i v hf, below_after hs q5⟩
      | false =>
        rw [hf] at h2
        simp only [cond_false] at h2
        split at h2
        · rename_i args3 ef hz
          obtain ⟨hc, h3⟩ := ev_bif h2
          simp only [Bool.and_eq_true, nbeq, decide_eq_true_eq] at hc
          obtain ⟨d2, h4, h5⟩ := ev_bind _ h3
          obtain ⟨h6, h7⟩ := ev_bif h5
          cases ev_ret h7
          obtain ⟨hro, hd3⟩ := hc
          subst hro
          obtain ⟨i1, F, hl1⟩ := frzVs_sound hs.rel hl hz
          have hs1 : SRel P N i1 { s with heap := setAll s.heap ef } w := .setAll F.rel (fun b hb => ⟨(F.blk b).1.trans (hs.fresh b hb).1, (F.blk b).2.trans (hs.fresh b hb).2⟩)
          have hA : After P N 0 i s w i1 { s with heap := setAll s.heap ef } w :=
            ⟨hs1, by show Step 0 i s.heap.get w i1 (setAll s.heap ef).get w; rw [get_setAll]; exact F.step, fun b _ => F.blk b, Nat.le_refl _⟩
          refine (key hs1 hl1 hd3 h4 h6).mono ?_
          rintro e w' ⟨i', v', rfl, q1, q2⟩
          exact ⟨i', v', rfl, q1, hA.trans q2⟩
        · exact (ev_fail h2).elim
    · exact (ev_fail e).elim

theorem extsOk_cons {f : FuncId} {x : ExtFn} {E : List (Nat × ExtFn)} (h : ExtOk1 P N f x) (hE : ExtsOk P N E) : ExtsOk P N ((f, x) :: E) := by
  intro f' y hy
  simp only [findExt, nbeq] at hy
  by_cases e : f = f'
  · subst e
    simp only [decide_true, cond_true, Option.some.injEq] at hy
    subst hy; exact h
  · rw [decide_eq_false e, cond_false] at hy
    exact hE f' y hy

theorem beqPos_eq : ∀ {p q : List Nat}, beqPos p q = true → p = q
  | [], [], _ => rfl
  | a :: r, b :: s, h => by simp only [beqPos, Bool.and_eq_true, nbeq, decide_eq_true_eq] at h; rw [h.1, beqPos_eq h.2]
  | [], _ :: _, h => by simp [beqPos] at h
  | _ :: _, [], h => by simp [beqPos] at h

theorem loopsOk_cons {f : FuncId} {p : List Nat} {F : LoopFn} {L : List (Nat × List Nat × LoopFn)} (h : LoopOk1 P N f p F) (hL : LoopsOk P N L) : LoopsOk P N ((f, p, F) :: L) := by
  intro f' q F' hy
  simp only [findLoop] at hy
  cases hc : (Nat.beq f f' && beqPos p q) with
  | true =>
    rw [hc] at hy
    simp only [Bool.and_eq_true, nbeq, decide_eq_true_eq] at hc
    simp only [cond_true, Option.some.injEq] at hy
    subst hy
    rw [← hc.1, ← beqPos_eq hc.2]; exact h
  | false => rw [hc] at hy; exact hL f' q F' hy

end Go.Proofs.YtkdjllolnlndkaaD
