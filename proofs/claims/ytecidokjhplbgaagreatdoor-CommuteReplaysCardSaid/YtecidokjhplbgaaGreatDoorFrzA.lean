/-
  Slices of structs as data: what a call answers, where its lists are cells.
-/
import Derived.Test.YtecidokjhplbgaaGreatDoorFreA
set_option linter.unusedVariables false
set_option linter.unusedSimpArgs false
namespace Go.Proofs.YtecidokjhplbgaaGreatDoorD
open Go Go.RowKit

variable {P : Program} {N : Nat}

theorem kill_cells2 {i : Inj} {h : HF} {w : World} (R : Rel P N i h w) {ro b e0 m : Nat} {vs : List CV} {g : Img} (hb : h b = some (.cells vs e0 m)) (hm : m ≠ 2) (hg : i b = some g) (hro : ro ≤ b) :
    ∃ ys, LRel i vs ys ∧ (∀ k v, ys[k]? = some v → w.cell? ⟨g.B, g.off + k, none⟩ = some v) ∧ Frz P N ro i h w (kill i g ys) (fset h b .dead) := by
  have hwr : wr (CObj.cells vs e0 m) = true := by simp [wr, nbeq, hm]
  obtain ⟨h1, h2, h3, ⟨ys, h4, h5⟩, h6⟩ := R.obj b _ g hb hg
  have hle : i.le (kill i g ys) := ⟨fun _ _ h => h, fun B k v hv => by
    have hne : B ≠ g.B := fun e => by subst e; rw [R.ims b _ g hb hg hwr k] at hv; cases hv
    simp only [kill, hne, if_false]; exact hv, fun _ h => h, rfl⟩
  obtain ⟨Rp, Sp⟩ := R.put (ro := ro) (o2 := .dead) (w' := w) hb hg hro hwr rfl rfl rfl rfl (fun _ _ _ => rfl) trivial
  refine ⟨ys, h4, h5, ⟨⟨?_, ?_, ?_, Rp.hN, ?_, ?_, ?_⟩, ⟨hle, Sp.keep, Nat.le_refl _, rfl, rfl, rfl, fun _ _ _ => rfl, ?_, ?_⟩, fun _ => ⟨rfl, rfl⟩, ?_⟩⟩
  · intro k o gg hk hgg
    exact (Rp.obj k o gg hk hgg).mono hle rfl
  · intro k k' x x' g1 g2 hne hk hk' hg1 hg2 hw hl
    exact Rp.sep k k' x x' g1 g2 hne hk hk' hg1 hg2 hw hl
  · intro k gg hgg; exact Rp.bnd k gg hgg
  · intro B k v hv
    by_cases e : B = g.B
    · subst e
      simp only [kill, if_true] at hv
      split at hv
      · rename_i hk
        have := h5 _ v hv
        rw [show g.off + (k - g.off) = k by omega] at this
        exact ⟨this, R.bnd b g hg, .inl ((R.obj b _ g hb hg).ge hwr)⟩
      · cases hv
    · simp only [kill, e, if_false] at hv
      exact R.imm B k v hv
  · intro k x gg hk hgg hw q
    have hkb : k ≠ b := fun e => by subst e; rw [fset_eq] at hk; cases hk; simp [wr] at hw
    have hne : gg.B ≠ g.B := fun e => by
      rw [fset_ne h _ hkb] at hk
      exact R.sep b k _ x g gg (Ne.symm hkb) hb hk hg hgg hwr (live_of_wr hw) e.symm
    simp only [kill, hne, if_false]
    rw [fset_ne h _ hkb] at hk
    exact R.ims k x gg hk hgg hw q
  · intro k hk; exact Rp.void k hk
  · intro B hB ht
    exact Sp.touch B hB ht
  · intro B k v hB hv
    by_cases e : B = g.B
    · exact .inr ⟨b, _, g, hro, hb, hwr, hg, e.symm⟩
    · simp only [kill, e, if_false] at hv; exact .inl hv
  · intro k hk
    have : k ≠ b := fun e => by subst e; rw [hb] at hk; cases hk
    rw [fset_ne h _ this]; exact hk

def anyR (z n : Nat) (cs : List CV) : List RC → Option CV
  | [] => none
  | r :: rs => bif Nat.beq r.z z then match parseR r n cs with
      | some l => some (.pl r l)
      | none => anyR z n cs rs
    else anyR z n cs rs
def rkinds : List RC := [.ints, .strs, .bools, .bytes, .rets, .states, .ops, .trans, .acts, .needs, .steps]
theorem anyR_inv {z n : Nat} {cs : List CV} {v : CV} : ∀ {rs : List RC}, anyR z n cs rs = some v → ∃ (r : RC) (l : List r.den), v = .pl r l ∧ parseR r n cs = some l ∧ r.z = z
  | [], e => by cases e
  | r :: rs, e => by
    simp only [anyR, nbeq] at e
    by_cases hz : r.z = z
    · rw [decide_eq_true hz] at e
      simp only [cond_true] at e
      split at e
      · rename_i l hl; cases e; exact ⟨r, l, rfl, hl, hz⟩
      · exact anyR_inv e
    · rw [decide_eq_false hz] at e
      exact anyR_inv e
def frzKL (f : HF → CV → Option (CV × Eff)) (h : HF) : List CV → Option (List CV × Eff)
  | [] => some ([], [])
  | v :: r => match f h v with
    | some (v', e) => match frzKL f (fupd h e) r with
      | some (vs, es) => some (v' :: vs, e ++ es)
      | none => none
    | none => none
def frzK : Nat → HF → CV → Option (CV × Eff)
  | 0, _, _ => none
  | k + 1, h, v => match v with
    | .slice (some ⟨b, o, none⟩) n c => match h b with
      | some (.cells vs z m) => bif !(Nat.beq m 2) && Nat.ble (o + n * z) vs.length then
          match frzKL (frzK k) h ((vs.drop o).take (n * z)) with
          | some (cs, ef) => match fupd h ef b with
            | some (.cells vs2 z2 m2) => bif Nat.beq z2 z && Nat.beq m2 m && Nat.ble (o + n * z) vs2.length then match anyR z n cs rkinds with
                | some v => some (v, ef ++ [(b, .dead)])
                | none => none
              else none
            | _ => none
          | none => none
        else none
      | _ => none
    | v => frz1 0 h v

theorem frzKL_sound {w : World} {f : HF → CV → Option (CV × Eff)} (hf : ∀ (i : Inj) (h : HF) (x x2 : CV) (ef : Eff) (y : Value), Rel P N i h w → VRel i x y → f h x = some (x2, ef) → ∃ i', Frz P N 0 i h w i' (eall h ef) ∧ VRel i' x2 y) :
    ∀ (xs : List CV) (i : Inj) (h : HF) (xs2 : List CV) (ef : Eff) (ys : List Value), Rel P N i h w → LRel i xs ys → frzKL f h xs = some (xs2, ef) → ∃ i', Frz P N 0 i h w i' (eall h ef) ∧ LRel i' xs2 ys
  | [], i, h, xs2, ef, ys, R, hl, e => by
    simp only [frzKL, Option.some.injEq, Prod.mk.injEq] at e
    obtain ⟨rfl, rfl⟩ := e
    have := hl.nil_inv; subst this
    exact ⟨i, .refl R, .nil _⟩
  | x :: xs, i, h, xs2, ef, ys, R, hl, e => by
    simp only [frzKL] at e
    split at e
    · rename_i v' e1 h1
      split at e
      · rename_i vs es h2
        cases e
        obtain ⟨y, ys', rfl, h3, h4⟩ := hl.cons_inv
        obtain ⟨i1, F1, q1⟩ := hf i h x v' e1 y R h3 h1
        rw [fupd_eall] at h2
        obtain ⟨i2, F2, q2⟩ := frzKL_sound hf xs i1 _ vs es ys' F1.rel (h4.mono F1.step.ext) h2
        rw [eall_append]
        exact ⟨i2, F1.trans F2, .cons (q1.mono F2.step.ext) q2⟩
      · cases e
    · cases e

theorem frzK_sound {w : World} : ∀ (k : Nat) (i : Inj) (h : HF) (x x2 : CV) (ef : Eff) (y : Value), Rel P N i h w → VRel i x y → frzK k h x = some (x2, ef) → ∃ i', Frz P N 0 i h w i' (eall h ef) ∧ VRel i' x2 y
  | 0, i, h, x, x2, ef, y, R, hv, e => by simp [frzK] at e
  | k + 1, i, h, x, x2, ef, y, R, hv, e => by
    simp only [frzK] at e
    split at e
    · rename_i b o n c
      split at e
      · rename_i vs z m hb
        obtain ⟨g, a', cap', rfl, hg, hc, ha, hl⟩ := hv.slice_inv
        cases hcond : (!(Nat.beq m 2) && Nat.ble (o + n * z) vs.length) with
        | false => rw [hcond] at e; cases e
        | true =>
        rw [hcond] at e
        simp only [cond_true] at e
        simp only [Bool.and_eq_true, Bool.not_eq_true', nble, nbeq, decide_eq_true_eq, decide_eq_false_iff_not] at hcond
        obtain ⟨hm, hle⟩ := hcond
        obtain ⟨ys, y1, y2, y3⟩ := R.cellsAt hb hg hle
        split at e
        · rename_i cs ef1 hcs
          obtain ⟨i1, F1, q1⟩ := frzKL_sound (fun i h x x2 ef y => frzK_sound k i h x x2 ef y) _ i h cs ef1 ys R y1 hcs
          rw [fupd_eall] at e
          split at e
          · rename_i vs2 z2 m2 hb2
            cases hc2 : (Nat.beq z2 z && Nat.beq m2 m && Nat.ble (o + n * z) vs2.length) with
            | false => rw [hc2] at e; cases e
            | true =>
            rw [hc2] at e
            simp only [cond_true] at e
            simp only [Bool.and_eq_true, nble, nbeq, decide_eq_true_eq] at hc2
            obtain ⟨⟨rfl, rfl⟩, hle2⟩ := hc2
            split at e
            · rename_i v hany
              cases e
              obtain ⟨r, l, rfl, hp, hrz⟩ := anyR_inv hany
              have hg1 : i1 b = some g := (F1.blk b).1.trans hg
              obtain ⟨ys2, h1, h2, F⟩ := kill_cells2 F1.rel (ro := 0) hb2 hm hg1 (Nat.zero_le _)
              have hcl : cs.length = n * r.z := by rw [q1.len, y2, hrz]
              obtain ⟨h4, h5⟩ := parseR_rel n hp hcl q1
              refine ⟨_, (by rw [eall_append]; exact F1.trans F), ?_⟩
              have key := pl_of_cells (cap' := cap') (a' := a') (B := g.B) (o := g.off + o) (h4.mono F.step.ext) (fun q v hq => by
                have hql : q < n * z2 := by rw [← y2]; exact (List.getElem?_eq_some_iff.1 hq).1
                have hlen2 : ys2.length = vs2.length := h1.len.symm
                have hq2 : o + q < ys2.length := by omega
                have e1 := h2 (o + q) ys2[o + q] (List.getElem?_eq_getElem hq2)
                have e2 := y3 q v hq
                rw [Nat.add_assoc] at e2
                rw [e2] at e1
                have e3 : ys2[o + q]? = some v := by rw [List.getElem?_eq_getElem hq2]; exact e1.symm
                have := kill_imm (i := i1) (g := g) (ys := ys2) e3
                rw [Nat.add_assoc]; exact this) (by rw [h5]; rcases hc with rfl | ⟨_, _, h3, _⟩ <;> omega) ha
              rw [h5] at key; exact key
            · cases e
          · cases e
        · cases e
      · cases e
    · exact frz1_sound R hv e

mutual
def frzKV (h : HF) : CV → Option (CV × Eff)
  | .agg ⟨cs⟩ => match frzKVL h cs with
    | some (l, e) => some (.agg ⟨l⟩, e)
    | none => none
  | .tuple ⟨cs⟩ => match frzKVL h cs with
    | some (l, e) => some (.tuple ⟨l⟩, e)
    | none => none
  | v => frzK 6 h v
def frzKVL (h : HF) : List CV → Option (List CV × Eff)
  | [] => some ([], [])
  | v :: r => match frzKV h v with
    | some (v', e) => match frzKVL (fupd h e) r with
      | some (vs, es) => some (v' :: vs, e ++ es)
      | none => none
    | none => none
end
mutual
theorem frzKV_sound {w : World} : ∀ (x : CV) (i : Inj) (h : HF) (x2 : CV) (ef : Eff) (y : Value), Rel P N i h w → VRel i x y → frzKV h x = some (x2, ef) → ∃ i', Frz P N 0 i h w i' (eall h ef) ∧ VRel i' x2 y := by
  intro x i h x2 ef y R hv e
  unfold frzKV at e
  split at e
  · rename_i cs
    split at e
    · rename_i l e1 hf
      cases e
      obtain ⟨bs, rfl, hl⟩ := hv.agg_inv
      obtain ⟨i1, F, q1⟩ := frzKVL_sound cs i h l ef bs.toList R hl hf
      exact ⟨i1, F, VRel.agg' q1⟩
    · cases e
  · rename_i cs
    split at e
    · rename_i l e1 hf
      cases e
      obtain ⟨bs, rfl, hl⟩ := hv.tuple_inv
      obtain ⟨i1, F, q1⟩ := frzKVL_sound cs i h l ef bs.toList R hl hf
      exact ⟨i1, F, VRel.tuple' q1⟩
    · cases e
  · exact frzK_sound 6 i h x x2 ef y R hv e
theorem frzKVL_sound {w : World} : ∀ (xs : List CV) (i : Inj) (h : HF) (xs2 : List CV) (ef : Eff) (ys : List Value), Rel P N i h w → LRel i xs ys → frzKVL h xs = some (xs2, ef) → ∃ i', Frz P N 0 i h w i' (eall h ef) ∧ LRel i' xs2 ys
  | [], i, h, xs2, ef, ys, R, hl, e => by
    simp only [frzKVL, Option.some.injEq, Prod.mk.injEq] at e
    obtain ⟨rfl, rfl⟩ := e
    have := hl.nil_inv; subst this
    exact ⟨i, .refl R, .nil _⟩
  | x :: xs, i, h, xs2, ef, ys, R, hl, e => by
    simp only [frzKVL] at e
    split at e
    · rename_i v' e1 h1
      split at e
      · rename_i vs es h2
        cases e
        obtain ⟨y, ys', rfl, h3, h4⟩ := hl.cons_inv
        obtain ⟨i1, F1, q1⟩ := frzKV_sound x i h v' e1 y R h3 h1
        rw [fupd_eall] at h2
        obtain ⟨i2, F2, q2⟩ := frzKVL_sound xs i1 _ vs es ys' F1.rel (h4.mono F1.step.ext) h2
        rw [eall_append]
        exact ⟨i2, F1.trans F2, .cons (q1.mono F2.step.ext) q2⟩
      · cases e
    · cases e
end

def T.pureK (t : T (CV × CSt)) : T CV := t.bind fun r => match frzKV r.2.heap.get r.1 with
  | some (d, _) => .ret d
  | none => .fail
theorem pureK_of (hP : plainNames P = true) (hM : P.follows .mixedOrders = true) {E : List (Nat × ExtFn)} (hE : ∀ N, ExtsOk P N E) {L : List (Nat × List Nat × LoopFn)} (hL : ∀ N, LoopsOk P N L) {k f : Nat} {args : List CV} {d : CV} (hd : dataV d = true)
    (e : (((tden P E L k).call 0 f args ⟨.nil, 0⟩).pureK).ev = some d) : (∃ fn c, P.funcs[f]? = some fn ∧ fn.body = some c) ∧ PureAt P f args d := by
  obtain ⟨⟨v, s⟩, h1, h2⟩ := ev_bind _ e
  simp only [] at h2
  split at h2
  · rename_i d' ef hf
    cases ev_ret h2
    have e1 := (tden_ev P E L k).call h1
    refine ⟨((den_sound (N := 0) hP hM (hE 0) (hL 0) k).call 0 f args _ v s e1).1, fun im w args' him hl => ?_⟩
    obtain ⟨_, h⟩ := (den_sound (N := w.heap.size) hP hM (hE _) (hL _) k).call 0 f args _ v s e1
    have h3 := h (immOf im) w args' (srel_imm him) hl
    refine callsIn_wide.1 (CallsIn.mono (F := Fence.wide) h3 ?_)
    rintro e w' ⟨i', v', rfl, hvr, haf⟩
    obtain ⟨j, F, hvj⟩ := frzKV_sound v i' _ d ef v' haf.srel.rel hvr hf
    refine ⟨j.imm, v', rfl, fun B k v hv => ⟨(F.rel.imm B k v hv).1, (F.rel.imm B k v hv).2.1⟩, fun B k v hv => F.step.ext.imm _ _ _ (haf.step.ext.imm _ _ _ hv), fun B k v hB hv => ?_, VRel.data (i := j) (j := immOf j.imm) (fun _ _ _ h => h) hvj hd, Step.below (srel_imm (P := P) him).rel haf.step⟩
    rcases (F.rel.imm B k v hv).2.2 with h5 | h5
    · omega
    · rw [F.step.ext.old, haf.step.ext.old] at h5; exact h5
  · exact (ev_fail h2).elim

def onlyG (xs : List CV) (d : CV) : List CV → T CV := fun args => bif veqL (veq 40) args xs then .ret d else .fail
theorem only_fn (hP : plainNames P = true) (hM : P.follows .mixedOrders = true) {E : List (Nat × ExtFn)} (hE : ∀ N, ExtsOk P N E) {L : List (Nat × List Nat × LoopFn)} (hL : ∀ N, LoopsOk P N L) {k f : Nat} {xs : List CV} {d : CV} (hf : bodied P f = true) (hd : dataV d = true)
    (e : (((tden P E L k).call 0 f xs ⟨.nil, 0⟩).pureK).ev = T.ev (.ret d)) : PureFn P f (onlyG xs d) :=
  ⟨bodied_ex hf, fun args d' h => by
    unfold onlyG at h
    obtain ⟨h1, h2⟩ := ev_bif h
    cases ev_ret h2
    have := veqL_eq (veq_eq 40) _ _ h1
    subst this
    exact (pureK_of hP hM hE hL hd e).2⟩

def manyG : List (List CV × CV) → List CV → T CV
  | [], _ => .fail
  | (xs, d) :: r, args => bif veqL (veq 40) args xs then .ret d else manyG r args
theorem many_nil {f : FuncId} (hf : bodied P f = true) : PureFn P f (manyG []) := ⟨bodied_ex hf, fun args d h => (ev_fail h).elim⟩
theorem many_cons {f : FuncId} {xs : List CV} {d : CV} {r : List (List CV × CV)} (h1 : PureFn P f (onlyG xs d)) (h2 : PureFn P f (manyG r)) : PureFn P f (manyG ((xs, d) :: r)) :=
  ⟨h1.1, fun args d' h => by
    unfold manyG at h
    cases hc : veqL (veq 40) args xs with
    | true =>
      rw [hc] at h
      exact h1.2 args d' (by unfold onlyG; rw [hc]; exact h)
    | false => rw [hc] at h; exact h2.2 args d' h⟩

end Go.Proofs.YtecidokjhplbgaaGreatDoorD
