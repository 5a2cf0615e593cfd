/-
  Rows of the run as lists of Lean: what they are in the model; places in them; what is not written any more.
-/
import Derived.Test.YtkdjllolnlndkaaOps8
set_option linter.unusedVariables false
set_option linter.unusedSimpArgs false
namespace Go.Proofs.YtkdjllolnlndkaaD
open Go Go.RowKit

variable {P : Program} {N : Nat} {i : Inj} {h : HF} {w : World}

/-! ### Trees -/
theorem ev_bind {α β : Type} {f : α → T β} {b : β} : ∀ (t : T α), (t.bind f).ev = some b → ∃ a, t.ev = some a ∧ (f a).ev = some b
  | .fail, h => by simp [T.bind, T.ev] at h
  | .ret a, h => ⟨a, rfl, h⟩
  | .ite c x y, h => by
    simp only [T.bind, T.ev] at h ⊢
    cases c with
    | true => exact ev_bind x h
    | false => exact ev_bind y h

theorem ev_ite {α : Type} {c : Bool} {x y : T α} {a : α} (h : (T.ite c x y).ev = some a) : (c = true ∧ x.ev = some a) ∨ (c = false ∧ y.ev = some a) := by
  simp only [T.ev] at h
  cases c with
  | true => exact .inl ⟨rfl, h⟩
  | false => exact .inr ⟨rfl, h⟩

theorem ev_when {α : Type} {c : Bool} {x : T α} {a : α} (h : (T.when c x).ev = some a) : c = true ∧ x.ev = some a := by
  rcases ev_ite h with h | ⟨_, h⟩
  · exact h
  · simp [T.ev] at h

theorem ev_of' {α : Type} {x : Option α} {a : α} (e : (T.of x).ev = some a) : x = some a := by
  cases x with
  | none => simp [T.of, T.ev] at e
  | some b => simpa [T.of, T.ev] using e

theorem ev_ret {α : Type} {a b : α} (e : (T.ret a).ev = some b) : a = b := by simpa [T.ev] using e
theorem ev_fail {α : Type} {b : α} (e : (T.fail : T α).ev = some b) : False := by simp [T.ev] at e

theorem ev_bif {α : Type} {c : Bool} {x : T α} {a : α} (h : (bif c then x else .fail).ev = some a) : c = true ∧ x.ev = some a := by
  cases c with
  | true => exact ⟨rfl, h⟩
  | false => simp [T.ev] at h

theorem tpick_ev {c : Bool} {x y v : CV} (h : (tpick c x y).ev = some v) : v = bif c then x else y := by
  unfold tpick at h
  split at h
  · simp only [T.ev, Option.some.injEq] at h; subst h; cases c <;> rfl
  · rename_i j a k b
    by_cases hjk : j = k
    · subst hjk
      simp only [decide_true, cond_true, T.ev, Option.some.injEq] at h
      subst h; cases c <;> rfl
    · simp only [hjk, decide_false, cond_false, T.ev] at h
      cases c <;> simp_all
  · simp only [T.ev] at h
    cases c <;> simp_all

theorem tidx_ev {e : TypeId} {z : Nat} {cs : Array CV} {i : Int} {v : CV} : ∀ (n : Nat), (tidx P e z cs i n).ev = some v → inRange i n = true ∧ cpart P e cs (i.toNat * z) = some v
  | 0, h => by simp [tidx, T.ev] at h
  | j + 1, h => by
    simp only [tidx] at h
    rcases ev_ite h with ⟨h1, h2⟩ | ⟨h1, h2⟩
    · simp only [decide_eq_true_eq] at h1
      subst h1
      refine ⟨?_, ev_of' h2⟩
      simp only [inRange, Bool.and_eq_true, decide_eq_true_eq]
      omega
    · obtain ⟨h3, h4⟩ := tidx_ev j h2
      refine ⟨?_, h4⟩
      simp only [inRange, Bool.and_eq_true, decide_eq_true_eq] at h3 ⊢
      omega

theorem tptr_ev {b o z : Nat} {i : Int} {v : CV} : ∀ (n : Nat), (tptr b o z i n).ev = some v → inRange i n = true ∧ v = .pointer (some ⟨b, o + i.toNat * z, none⟩)
  | 0, h => by simp [tptr, T.ev] at h
  | j + 1, h => by
    simp only [tptr] at h
    rcases ev_ite h with ⟨h1, h2⟩ | ⟨h1, h2⟩
    · simp only [decide_eq_true_eq] at h1
      subst h1
      refine ⟨?_, (ev_ret h2).symm⟩
      simp only [inRange, Bool.and_eq_true, decide_eq_true_eq]
      omega
    · obtain ⟨h3, h4⟩ := tptr_ev j h2
      refine ⟨?_, h4⟩
      simp only [inRange, Bool.and_eq_true, decide_eq_true_eq] at h3 ⊢
      omega

theorem rcast_eq {a b : RC} {l : List a.den} {m : List b.den} (h : a.cast b l = some m) : ∃ e : a = b, m = e ▸ l := by
  cases a <;> cases b <;> first | (cases h; done) | (cases h; exact ⟨rfl, rfl⟩)

/-! ### Inversions -/
theorem VRel.pl_inv {r : RC} {l : List r.den} {y : Value} (h : VRel i (.pl r l) y) :
    (∃ B o c ys a', y = .slice (some a') l.length c ∧ LRel i (r.all l) ys ∧ (∀ (k : Nat) (v : Value), ys[k]? = some v → i.imm B (o + k) = some v) ∧ l.length ≤ c ∧ (c ≠ 0 → a' = ⟨B, o, none⟩)) ∨ (l = [] ∧ ∃ a c, y = .slice a 0 c) := by
  cases h with
  | pl h1 h2 h3 hc ha => exact .inl ⟨_, _, _, _, _, rfl, ⟨h1.symm, h3⟩, h2, hc, ha⟩
  | plNil => exact .inr ⟨rfl, _, _, rfl⟩
theorem VRel.kptr_inv {cs : List CV} {y : Value} (h : VRel i (.kptr cs) y) : ∃ B o ys, y = .pointer (some ⟨B, o, none⟩) ∧ LRel i cs ys ∧ ∀ (k : Nat) (v : Value), ys[k]? = some v → i.imm B (o + k) = some v := by
  cases h with | kptr h1 h2 h3 => exact ⟨_, _, _, rfl, ⟨h1.symm, h3⟩, h2⟩
theorem VRel.rptr_inv {b z k j : Nat} {y : Value} (h : VRel i (.rptr b z k j) y) : ∃ g, i b = some g ∧ g.esz = z ∧ y = .pointer (some ⟨g.B, g.off + (k * z + j), none⟩) := by
  cases h with | rptr hb hz => exact ⟨_, hb, hz, rfl⟩
theorem VRel.row_inv {b z n : Nat} {y : Value} (h : VRel i (.row b z n) y) :
    (∃ g a' cap', y = .slice (some a') n cap' ∧ i b = some g ∧ g.esz = z ∧ n * z = g.size ∧ CapOk g 0 n cap' ∧ (cap' ≠ 0 → a' = ⟨g.B, g.off, none⟩)) ∨ (n = 0 ∧ i.void b = true ∧ ∃ a, y = .slice a 0 0) := by
  cases h with
  | row hb hz hs hc ha => exact .inl ⟨_, _, _, rfl, hb, hz, hs, hc, ha⟩
  | rowVoid hv => exact .inr ⟨rfl, hv, _, rfl⟩
theorem VRel.win_inv {b z s n c : Nat} {y : Value} (h : VRel i (.win b z s n c) y) :
    (∃ g a' cap', y = .slice (some a') n cap' ∧ i b = some g ∧ g.esz = z ∧ CapOk g (s * z) c cap' ∧ (cap' ≠ 0 → a' = ⟨g.B, g.off + s * z, none⟩) ∧ n ≤ c) ∨ (n = 0 ∧ c = 0 ∧ ∃ a, y = .slice a 0 0) := by
  cases h with
  | win hb hz hc ha hl => exact .inl ⟨_, _, _, rfl, hb, hz, hc, ha, hl⟩
  | winVoid => exact .inr ⟨rfl, rfl, _, rfl⟩
theorem VRel.empty_inv {y : Value} (h : VRel i .empty y) : ∃ a, y = .slice a 0 0 := by
  cases h with | empty => exact ⟨_, rfl⟩

/-! ### Elements -/
theorem LRel.split {as cs : List CV} {ys : List Value} (h : LRel i (as ++ cs) ys) : ∃ y1 y2, ys = y1 ++ y2 ∧ LRel i as y1 ∧ LRel i cs y2 := by
  refine ⟨ys.take as.length, ys.drop as.length, (List.take_append_drop _ _).symm, ?_, ?_⟩
  · have := h.take as.length; simpa using this
  · have := h.drop as.length; simpa using this

theorem RC.all_elem (r : RC) (l : List r.den) {k : Nat} (hk : k < l.length) (d : r.den) : ((r.all l).drop (k * r.z)).take r.z = r.cells (l.getD k d) := by
  rw [r.all_drop]
  have h1 : l.drop k = l[k] :: l.drop (k + 1) := List.drop_eq_getElem_cons hk
  rw [h1, r.all_cons, List.take_append, List.take_of_length_le (by rw [r.cells_length]; exact Nat.le_refl _), r.cells_length, Nat.sub_self, List.take_zero, List.append_nil]
  simp [List.getD, hk]

theorem RC.all_parts (r : RC) (l : List r.den) {k : Nat} (hk : k < l.length) (d : r.den) : r.all l = r.all (l.take k) ++ (r.cells (l.getD k d) ++ r.all (l.drop (k + 1))) := by
  rw [← r.all_cons, ← r.all_append]
  congr 1
  have h1 : l.drop k = l[k] :: l.drop (k + 1) := List.drop_eq_getElem_cons hk
  have h2 : l.getD k d = l[k] := by simp [List.getD, hk]
  rw [h2, ← h1, List.take_append_drop]
theorem RC.all_set (r : RC) (l : List r.den) {k : Nat} (hk : k < l.length) (x : r.den) : r.all (l.set k x) = r.all (l.take k) ++ (r.cells x ++ r.all (l.drop (k + 1))) := by
  rw [← r.all_cons, ← r.all_append]
  congr 1
  rw [List.set_eq_take_append_cons_drop, if_pos hk]

theorem RC.cells_ok (r : RC) (x : r.den) : (r.cells x).all cellOk = true := by cases r <;> rfl
theorem RC.all_ok (r : RC) : ∀ (l : List r.den), (r.all l).all cellOk = true
  | [] => rfl
  | x :: l => by rw [r.all_cons, List.all_append, r.cells_ok, r.all_ok l]; rfl

/-- Cells read in the model, of which it is known what they hold. -/
theorem loadL_run {t : TypeId} {B o : Nat} {cs : List CV} {ys : List Value} {v : CV} (hl : LRel i cs ys) (hc : ∀ (k : Nat) (y : Value), ys[k]? = some y → w.cell? ⟨B, o + k, none⟩ = some y) (e : loadL P t cs = some v) :
    ∃ v', (loadVar t ⟨B, o, none⟩).run P w = .ok v' w ∧ VRel i v v' := by
  unfold loadL at e
  split at e
  · rename_i ha
    split at e
    · rename_i n hn
      rw [nble] at e
      by_cases hle : n ≤ cs.length
      · simp only [hle, decide_true, cond_true, Option.some.injEq] at e
        subst e
        have hys : (ys.take n).length = n := by simp [← hl.len, hle]
        refine ⟨.agg (ys.take n).toArray, ?_, .agg' (hl.take n)⟩
        have hr : (loadCells ⟨B, o, none⟩ n).run P w = .ok (ys.take n).toArray w := by
          have := run_loadCells_list (P := P) w ⟨B, o, none⟩ (ys.take n) (fun j v hv => by
            rw [Addr.add_mk]
            rw [List.getElem?_take] at hv
            split at hv
            · exact hc j v hv
            · cases hv)
          rwa [hys] at this
        simp [loadVar, Sem.run_bind, run_pAgg ha, run_pSize hn, Result.andThen, hr]
      · simp [hle] at e
    · cases e
  · rename_i ha
    obtain ⟨y, hy, hv⟩ := hl.get (k := 0) (by simpa using e)
    have := hc 0 y hy
    rw [Nat.add_zero] at this
    exact ⟨y, by simp [loadVar, Sem.run_bind, run_pAgg ha, Result.andThen, this], hv⟩
  · cases e

/-- An element's cells. -/
theorem CRel.elem {r : RC} {l : List r.den} {g : Img} (hR : CRel N i w g (r.all l) r.z 1) {k : Nat} (hk : k < l.length) (d : r.den) :
    ∃ ys, LRel i (r.cells (l.getD k d)) ys ∧ ∀ (j : Nat) (v : Value), ys[j]? = some v → w.cell? ⟨g.B, g.off + k * r.z + j, none⟩ = some v := by
  have hle : k * r.z + r.z ≤ (r.all l).length := by
    rw [r.all_length]
    have : (k + 1) * r.z ≤ l.length * r.z := Nat.mul_le_mul_right _ hk
    rw [Nat.add_mul] at this; omega
  obtain ⟨ys, h1, h2, h3⟩ := hR.cellsAt hle
  rw [r.all_elem l hk d] at h1
  exact ⟨ys, h1, h3⟩

/-- Elements of their cells. -/
theorem toInts_rel {c : CV} {l : List Int} {v : Value} (h : toInts c = some l) (hv : VRel i c v) : VRel i (.pl .ints l) v := by
  unfold toInts at h
  split at h <;> first | (cases h; done) | (cases h; first | exact hv | (cases hv; exact .plNil) | (obtain ⟨a, rfl⟩ := hv.empty_inv; exact .plNil))
theorem toOps_rel {c : CV} {l : List DOp} {v : Value} (h : toOps c = some l) (hv : VRel i c v) : VRel i (.pl .ops l) v := by
  unfold toOps at h
  split at h <;> first | (cases h; done) | (cases h; first | exact hv | (cases hv; exact .plNil) | (obtain ⟨a, rfl⟩ := hv.empty_inv; exact .plNil))
theorem toActs_rel {c : CV} {l : List DAct} {v : Value} (h : toActs c = some l) (hv : VRel i c v) : VRel i (.pl .acts l) v := by
  unfold toActs at h
  split at h <;> first | (cases h; done) | (cases h; first | exact hv | (cases hv; exact .plNil) | (obtain ⟨a, rfl⟩ := hv.empty_inv; exact .plNil))

theorem LRel.of_get {as bs : List CV} {ys : List Value} (h : LRel i as ys) (hl : bs.length = as.length) (hb : ∀ (k : Nat) (a b : CV) (v : Value), as[k]? = some a → bs[k]? = some b → VRel i a v → VRel i b v) : LRel i bs ys :=
  ⟨by rw [hl, h.len], fun k x y hx hy => by
    have hk : k < as.length := by rw [← hl]; exact (List.getElem?_eq_some_iff.1 hx).1
    exact hb k _ x y (List.getElem?_eq_getElem hk) hx (h.at_ k _ y (List.getElem?_eq_getElem hk) hy)⟩

theorem LRel.one {a b : CV} {r s : List CV} {ys : List Value} (h : LRel i (a :: r) ys) (h1 : ∀ v, VRel i a v → VRel i b v) (h2 : ∀ zs, LRel i r zs → LRel i s zs) : LRel i (b :: s) ys := by
  obtain ⟨y, ys', rfl, h3, h4⟩ := h.cons_inv
  exact .cons (h1 y h3) (h2 _ h4)
theorem LRel.same {r s : List CV} {a : CV} {ys : List Value} (h : LRel i (a :: r) ys) (h2 : ∀ zs, LRel i r zs → LRel i s zs) : LRel i (a :: s) ys := h.one (fun _ h => h) h2

theorem of_rel {r : RC} {cs : List CV} {x : r.den} {ys : List Value} (e : r.of cs = some x) (hl : LRel i cs ys) : LRel i (r.cells x) ys := by
  cases r <;> simp only [RC.of] at e
  · unfold ofInt at e; split at e <;> first | (cases e; done) | (cases e; exact hl)
  · unfold ofByte at e
    split at e
    · rename_i n
      by_cases hn : 0 ≤ n ∧ n < 256
      · simp [hn.1, hn.2] at e
        subst e
        have : ((UInt8.ofNat n.toNat).toNat : Int) = n := by
          simp; omega
        simp only [RC.cells, this]; exact hl
      · have : (decide (0 ≤ n) && decide (n < 256)) = false := by simpa using hn
        rw [this] at e; cases e
    · cases e
  · unfold ofBool at e; split at e <;> first | (cases e; done) | (cases e; exact hl)
  · unfold ofStr at e; split at e <;> first | (cases e; done) | (cases e; exact hl)
  · unfold ofRet at e; split at e <;> first | (cases e; done) | (cases e; exact hl)
  · unfold ofOp at e; split at e <;> first | (cases e; done) | (cases e; exact hl)
  · unfold ofState at e
    split at e
    · split at e
      · rename_i c _ l hc
        cases e
        exact hl.same fun _ h => h.same fun _ h => h.one (fun v hv => toInts_rel hc hv) fun _ h => h
      · cases e
    · cases e
  · unfold ofAct at e; split at e <;> first | (cases e; done) | (cases e; exact hl)
  · unfold ofTrans at e
    split at e
    · split at e
      · rename_i x y hc hd
        cases e
        exact hl.same fun _ h => h.same fun _ h => h.same fun _ h => h.one (fun v hv => toActs_rel hc hv) fun _ h => h.one (fun v hv => toInts_rel hd hv) fun _ h => h
      · cases e
    · cases e
  · unfold ofEdge at e; split at e <;> first | (cases e; done) | (cases e; exact hl)
  · unfold ofStep at e
    split at e
    · split at e
      · rename_i x y hc hd
        cases e
        exact hl.same fun _ h => h.same fun _ h => h.same fun _ h => h.same fun _ h => h.same fun _ h => h.same fun _ h => h.same fun _ h => h.same fun _ h => h.same fun _ h => h.same fun _ h => h.one (fun v hv => toInts_rel hc hv) fun _ h => h.same fun _ h => h.same fun _ h => h.one (fun v hv => toInts_rel hd hv) fun _ h => h
      · cases e
    · cases e
  · unfold ofNeed at e
    split at e
    · split at e
      · rename_i x y hc hd
        cases e
        exact hl.same fun _ h => h.same fun _ h => h.same fun _ h => h.same fun _ h => h.same fun _ h => h.one (fun v hv => toInts_rel hc hv) fun _ h => h.one (fun v hv => toInts_rel hd hv) fun _ h => h
      · cases e
    · cases e
  · unfold ofIntss at e
    split at e
    · exact hl.one (fun v hv => toInts_rel e hv) fun _ h => h
    · cases e
  · unfold ofOpss at e
    split at e
    · exact hl.one (fun v hv => toOps_rel e hv) fun _ h => h
    · cases e

theorem parseR_rel {r : RC} : ∀ (n : Nat) {cs : List CV} {l : List r.den} {ys : List Value}, parseR r n cs = some l → cs.length = n * r.z → LRel i cs ys → LRel i (r.all l) ys ∧ l.length = n
  | 0, cs, l, ys, e, hc, hl => by
    simp only [parseR, Option.some.injEq] at e; subst e
    have : cs = [] := by cases cs <;> simp_all
    subst this
    exact ⟨hl, rfl⟩
  | n + 1, cs, l, ys, e, hc, hl => by
    simp only [parseR] at e
    split at e
    · rename_i x l' h1 h2
      cases e
      have hs : cs = cs.take r.z ++ cs.drop r.z := (List.take_append_drop _ _).symm
      rw [hs] at hl
      obtain ⟨y1, y2, rfl, h3, h4⟩ := hl.split
      obtain ⟨h5, h6⟩ := parseR_rel n h2 (by simp [hc, Nat.add_mul]) h4
      exact ⟨by rw [r.all_cons]; exact (of_rel h1 h3).append h5, by simp [h6]⟩
    · cases e

/-! ### What is not written any more -/
theorem fupd_eall : ∀ (e : Eff) (h : HF), fupd h e = eall h e
  | [], h => rfl
  | (b, o) :: r, h => by
    simp only [fupd, eall]
    rw [fupd_eall r]
    congr 1
    funext k
    simp only [fset, nbeq]
    by_cases hk : k = b <;> simp [hk]
theorem eall_append : ∀ (e e' : Eff) (h : HF), eall h (e ++ e') = eall (eall h e) e'
  | [], e', h => rfl
  | (b, o) :: r, e', h => by simp only [List.cons_append, eall]; exact eall_append r e' _

/-- A step that only tells more of the cells that are not written. -/
structure Frz (P : Program) (N ro : Nat) (i : Inj) (h : HF) (w : World) (i' : Inj) (h' : HF) : Prop where
  rel : Rel P N i' h' w
  step : Step ro i h w i' h' w
  blk : ∀ b, i' b = i b ∧ i'.void b = i.void b
  none_ : ∀ b, h b = none → h' b = none

theorem Frz.refl {ro : Nat} (R : Rel P N i h w) : Frz P N ro i h w i h := ⟨R, .refl _ _ _ _, fun _ => ⟨rfl, rfl⟩, fun _ h => h⟩
theorem Frz.trans {ro : Nat} {i' i'' : Inj} {h' h'' : HF} (a : Frz P N ro i h w i' h') (b : Frz P N ro i' h' w i'' h'') : Frz P N ro i h w i'' h'' :=
  ⟨b.rel, a.step.trans b.step, fun k => ⟨(b.blk k).1.trans (a.blk k).1, (b.blk k).2.trans (a.blk k).2⟩, fun k hk => b.none_ k (a.none_ k hk)⟩

/-- A row is dead from now on; its cells stay as they are. -/
def kill (i : Inj) (g : Img) (ys : List Value) : Inj :=
  { i with imm := fun B k => if B = g.B then (if g.off ≤ k then ys[k - g.off]? else none) else i.imm B k }

theorem kill_frz (R : Rel P N i h w) {ro b : Nat} {r : RC} {l : List r.den} {g : Img} (hb : h b = some (.rows r l)) (hg : i b = some g) (hro : ro ≤ b) :
    ∃ ys, LRel i (r.all l) ys ∧ Frz P N ro i h w (kill i g ys) (fset h b .dead) := by
  have hwr : wr (CObj.rows r l) = true := rfl
  obtain ⟨h1, h2, h3, ⟨ys, h4, h5⟩, h6⟩ := R.obj b _ g hb hg
  have hle : i.le (kill i g ys) := ⟨fun _ _ h => h, fun B k v hv => by
    have hne : B ≠ g.B := fun e => by subst e; rw [R.ims b _ g hb hg hwr k] at hv; cases hv
    simp only [kill, hne, if_false]; exact hv, fun _ h => h, rfl⟩
  obtain ⟨Rp, Sp⟩ := R.put (ro := ro) (o2 := .dead) (w' := w) hb hg hro hwr rfl rfl rfl rfl (fun _ _ _ => rfl) trivial
  refine ⟨ys, h4, ⟨⟨?_, ?_, ?_, Rp.hN, ?_, ?_, ?_⟩, ⟨hle, Sp.keep, Nat.le_refl _, rfl, rfl, rfl, fun _ _ _ => rfl, ?_, ?_⟩, fun _ => ⟨rfl, rfl⟩, ?_⟩⟩
  · intro k o gg hk hgg
    exact (Rp.obj k o gg hk hgg).mono hle rfl
  · intro k k' x x' g1 g2 hne hk hk' hg1 hg2 hw hl
    exact Rp.sep k k' x x' g1 g2 hne hk hk' hg1 hg2 hw hl
  · intro k gg hgg; exact Rp.bnd k gg hgg
  · intro B k v hv
    by_cases e : B = g.B
    · subst e
      simp only [kill, if_true] at hv
      split at hv
      · rename_i hk
        have := h5 _ v hv
        rw [show g.off + (k - g.off) = k by omega] at this
        exact ⟨this, R.bnd b g hg, .inl ((R.obj b _ g hb hg).ge hwr)⟩
      · cases hv
    · simp only [kill, e, if_false] at hv
      exact R.imm B k v hv
  · intro k x gg hk hgg hw q
    have hkb : k ≠ b := fun e => by subst e; rw [fset_eq] at hk; cases hk; simp [wr] at hw
    have hne : gg.B ≠ g.B := fun e => by
      rw [fset_ne h _ hkb] at hk
      exact R.sep b k _ x g gg (Ne.symm hkb) hb hk hg hgg hwr (live_of_wr hw) e.symm
    simp only [kill, hne, if_false]
    rw [fset_ne h _ hkb] at hk
    exact R.ims k x gg hk hgg hw q
  · intro k hk; exact Rp.void k hk
  · intro B hB ht
    exact Sp.touch B hB ht
  · intro B k v hB hv
    by_cases e : B = g.B
    · exact .inr ⟨b, _, g, hro, hb, hwr, hg, e.symm⟩
    · simp only [kill, e, if_false] at hv; exact .inl hv
  · intro k hk
    have : k ≠ b := fun e => by subst e; rw [hb] at hk; cases hk
    rw [fset_ne h _ this]; exact hk

theorem kill_imm {g : Img} {ys : List Value} {k : Nat} {v : Value} (hv : ys[k]? = some v) : (kill i g ys).imm g.B (g.off + k) = some v := by
  simp [kill, hv]

/-- A row that was the run's own, as a row that nobody writes. -/
theorem pl_of_cells {r : RC} {l : List r.den} {B o cap' : Nat} {a' : Addr} {ys : List Value} (hl : LRel i (r.all l) ys) (hi : ∀ (k : Nat) (y : Value), ys[k]? = some y → i.imm B (o + k) = some y) (hc : l.length ≤ cap') (ha : cap' ≠ 0 → a' = ⟨B, o, none⟩) : VRel i (.pl r l) (.slice (some a') l.length cap') :=
  .pl hl.len.symm hi hl.at_ hc ha

/-- A number without a block may be dead from now on. -/
theorem dead_none (R : Rel P N i h w) {ro b : Nat} {ob : CObj} (hb : h b = some ob) (hib : i b = none) (hro : ro ≤ b) : Frz P N ro i h w i (fset h b .dead) := by
  refine ⟨⟨?_, ?_, R.bnd, R.hN, R.imm, ?_, ?_⟩, ⟨Inj.le_refl i, ?_, Nat.le_refl _, rfl, rfl, rfl, fun _ _ _ => rfl, ?_, fun _ _ _ _ h => .inl h⟩, fun _ => ⟨rfl, rfl⟩, ?_⟩
  · intro k o g hk hg
    have : k ≠ b := fun e => by subst e; rw [hib] at hg; cases hg
    rw [fset_ne h _ this] at hk; exact R.obj k o g hk hg
  · intro k k' o o' g g' hne hk hk' hg hg' hw hl
    have e1 : k ≠ b := fun e => by subst e; rw [hib] at hg; cases hg
    have e2 : k' ≠ b := fun e => by subst e; rw [hib] at hg'; cases hg'
    rw [fset_ne h _ e1] at hk; rw [fset_ne h _ e2] at hk'
    exact R.sep k k' o o' g g' hne hk hk' hg hg' hw hl
  · intro k o g hk hg hw q
    have : k ≠ b := fun e => by subst e; rw [hib] at hg; cases hg
    rw [fset_ne h _ this] at hk; exact R.ims k o g hk hg hw q
  · intro k hk
    refine ⟨(R.void k hk).1, fun r' l' hl' => ?_⟩
    by_cases e : k = b
    · subst e; rw [fset_eq] at hl'; cases hl'
    · rw [fset_ne h _ e] at hl'; exact (R.void k hk).2 r' l' hl'
  · intro k o hk ho
    have : k ≠ b := fun e => by omega
    rw [fset_ne h _ this]; exact ho
  · rintro B hB ⟨k, o, g, q1, q2, q3, q4, q5⟩
    have : k ≠ b := fun e => by subst e; rw [hib] at q4; cases q4
    rw [fset_ne h _ this] at q2
    exact ⟨k, o, g, q1, q2, q3, q4, q5⟩
  · intro k hk
    have : k ≠ b := fun e => by subst e; rw [hb] at hk; cases hk
    rw [fset_ne h _ this]; exact hk

theorem dead_frz (R : Rel P N i h w) {ro b : Nat} {r : RC} {l : List r.den} (hb : h b = some (.rows r l)) (hro : ro ≤ b) : ∃ i', Frz P N ro i h w i' (fset h b .dead) := by
  cases hg : i b with
  | none => exact ⟨i, dead_none R hb hg hro⟩
  | some g => obtain ⟨ys, _, F⟩ := kill_frz R hb hg hro; exact ⟨_, F⟩

theorem frz1_sound (R : Rel P N i h w) {ro : Nat} {x x2 : CV} {ef : Eff} {y : Value} (hv : VRel i x y) (e : frz1 ro h x = some (x2, ef)) :
    ∃ i', Frz P N ro i h w i' (eall h ef) ∧ VRel i' x2 y := by
  unfold frz1 at e
  split at e
  · rename_i b z n
    split at e
    · rename_i r l hb
      rw [nble, nbeq] at e
      by_cases hc : ro ≤ b ∧ z = r.z
      · obtain ⟨hro, hz⟩ := hc
        simp [hro, hz] at e
        obtain ⟨rfl, rfl⟩ := e
        rcases hv.row_inv with ⟨g, a', cap', rfl, hg, hgz, hs, hcap, ha⟩ | ⟨rfl, hvd, a, rfl⟩
        · obtain ⟨ys, h1, F⟩ := kill_frz R hb hg hro
          refine ⟨_, F, ?_⟩
          have hn : n = l.length := by
            have h2 : g.size = (r.all l).length := (R.obj b _ g hb hg).1
            rw [r.all_length, ← hs, hz] at h2
            exact Nat.eq_of_mul_eq_mul_right r.z_pos h2
          subst hn
          refine pl_of_cells (B := g.B) (o := g.off) (h1.mono F.step.ext) (fun k v hv => kill_imm hv) ?_ ha
          rcases hcap with rfl | ⟨_, _, h3, _⟩ <;> omega
        · have hl := (R.void b hvd).2 r l hb
          subst hl
          exact ⟨i, dead_none R hb (R.void b hvd).1 hro, .plNil⟩
      · have : (decide (ro ≤ b) && decide (z = r.z)) = false := by simpa using hc
        rw [this] at e; cases e
    · cases e
  all_goals first
    | (cases e; exact ⟨i, .refl R, hv⟩)
    | cases e

end Go.Proofs.YtkdjllolnlndkaaD
