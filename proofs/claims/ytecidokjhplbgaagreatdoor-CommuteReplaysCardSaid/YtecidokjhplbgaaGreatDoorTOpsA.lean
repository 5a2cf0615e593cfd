/-
  Rows of the run as lists of Lean: what they are in the model; places in them; what is not written any more.
  append and its like, where the kinds of the elements are known.
  append, slices of rows, places in rows.
  The operations as decision trees: what they come to, the model's operations come to.
-/
import Derived.Test.YtecidokjhplbgaaGreatDoorOpsA
import Derived.Laws.IdiomStrings
set_option linter.unusedVariables false
set_option linter.unusedSimpArgs false
namespace Go.Proofs.YtecidokjhplbgaaGreatDoorD
open Go Go.RowKit

variable {P : Program} {N : Nat} {i : Inj} {h : HF} {w : World}

theorem ev_bind {α β : Type} {f : α → T β} {b : β} : ∀ (t : T α), (t.bind f).ev = some b → ∃ a, t.ev = some a ∧ (f a).ev = some b
  | .fail, h => by simp [T.bind, T.ev] at h
  | .ret a, h => ⟨a, rfl, h⟩
  | .ite c x y, h => by
    simp only [T.bind, T.ev] at h ⊢
    cases c with
    | true => exact ev_bind x h
    | false => exact ev_bind y h

theorem ev_ite {α : Type} {c : Bool} {x y : T α} {a : α} (h : (T.ite c x y).ev = some a) : (c = true ∧ x.ev = some a) ∨ (c = false ∧ y.ev = some a) := by
  simp only [T.ev] at h
  cases c with
  | true => exact .inl ⟨rfl, h⟩
  | false => exact .inr ⟨rfl, h⟩

theorem ev_when {α : Type} {c : Bool} {x : T α} {a : α} (h : (T.when c x).ev = some a) : c = true ∧ x.ev = some a := by
  rcases ev_ite h with h | ⟨_, h⟩
  · exact h
  · simp [T.ev] at h

theorem ev_of' {α : Type} {x : Option α} {a : α} (e : (T.of x).ev = some a) : x = some a := by
  cases x with
  | none => simp [T.of, T.ev] at e
  | some b => simpa [T.of, T.ev] using e

theorem ev_ret {α : Type} {a b : α} (e : (T.ret a).ev = some b) : a = b := by simpa [T.ev] using e
theorem ev_fail {α : Type} {b : α} (e : (T.fail : T α).ev = some b) : False := by simp [T.ev] at e

theorem ev_bif {α : Type} {c : Bool} {x : T α} {a : α} (h : (bif c then x else .fail).ev = some a) : c = true ∧ x.ev = some a := by
  cases c with
  | true => exact ⟨rfl, h⟩
  | false => simp [T.ev] at h

theorem tpick_ev {c : Bool} {x y v : CV} (h : (tpick c x y).ev = some v) : v = bif c then x else y := by
  unfold tpick at h
  split at h
  · simp only [T.ev, Option.some.injEq] at h; subst h; cases c <;> rfl
  · rename_i j a k b
    by_cases hjk : j = k
    · subst hjk
      simp only [decide_true, cond_true, T.ev, Option.some.injEq] at h
      subst h; cases c <;> rfl
    · simp only [hjk, decide_false, cond_false, T.ev] at h
      cases c <;> simp_all
  · simp only [T.ev] at h
    cases c <;> simp_all

theorem tidx_ev {e : TypeId} {z : Nat} {cs : Array CV} {i : Int} {v : CV} : ∀ (n : Nat), (tidx P e z cs i n).ev = some v → inRange i n = true ∧ cpart P e cs (i.toNat * z) = some v
  | 0, h => by simp [tidx, T.ev] at h
  | j + 1, h => by
    simp only [tidx] at h
    rcases ev_ite h with ⟨h1, h2⟩ | ⟨h1, h2⟩
    · simp only [decide_eq_true_eq] at h1
      subst h1
      refine ⟨?_, ev_of' h2⟩
      simp only [inRange, Bool.and_eq_true, decide_eq_true_eq]
      omega
    · obtain ⟨h3, h4⟩ := tidx_ev j h2
      refine ⟨?_, h4⟩
      simp only [inRange, Bool.and_eq_true, decide_eq_true_eq] at h3 ⊢
      omega

theorem tptr_ev {b o z : Nat} {i : Int} {v : CV} : ∀ (n : Nat), (tptr b o z i n).ev = some v → inRange i n = true ∧ v = .pointer (some ⟨b, o + i.toNat * z, none⟩)
  | 0, h => by simp [tptr, T.ev] at h
  | j + 1, h => by
    simp only [tptr] at h
    rcases ev_ite h with ⟨h1, h2⟩ | ⟨h1, h2⟩
    · simp only [decide_eq_true_eq] at h1
      subst h1
      refine ⟨?_, (ev_ret h2).symm⟩
      simp only [inRange, Bool.and_eq_true, decide_eq_true_eq]
      omega
    · obtain ⟨h3, h4⟩ := tptr_ev j h2
      refine ⟨?_, h4⟩
      simp only [inRange, Bool.and_eq_true, decide_eq_true_eq] at h3 ⊢
      omega

theorem rcast_eq {a b : RC} {l : List a.den} {m : List b.den} (h : a.cast b l = some m) : ∃ e : a = b, m = e ▸ l := by
  cases a <;> cases b <;> first | (cases h; done) | (cases h; exact ⟨rfl, rfl⟩)

theorem VRel.pl_inv {r : RC} {l : List r.den} {y : Value} (h : VRel i (.pl r l) y) :
    (∃ B o c ys a', y = .slice (some a') l.length c ∧ LRel i (r.all l) ys ∧ (∀ (k : Nat) (v : Value), ys[k]? = some v → i.imm B (o + k) = some v) ∧ l.length ≤ c ∧ (c ≠ 0 → a' = ⟨B, o, none⟩)) ∨ (l = [] ∧ ∃ a c, y = .slice a 0 c) := by
  cases h with
  | pl h1 h2 h3 hc ha => exact .inl ⟨_, _, _, _, _, rfl, ⟨h1.symm, h3⟩, h2, hc, ha⟩
  | plNil => exact .inr ⟨rfl, _, _, rfl⟩
theorem VRel.plNil_inv {r : RC} {y : Value} (h : VRel i (.pl r []) y) : (∃ a c, y = .slice (some a) 0 c) ∨ y = .slice none 0 0 := by
  cases h with
  | pl => exact .inl ⟨_, _, rfl⟩
  | @plNil _ c a h =>
    cases a with
    | none => cases h rfl; exact .inr rfl
    | some a => exact .inl ⟨_, _, rfl⟩
theorem VRel.nnil_inv {y : Value} (h : VRel i .nnil y) : ∃ a c, y = .slice (some a) 0 c := by
  cases h with | nnil => exact ⟨_, _, rfl⟩
theorem VRel.kptr_inv {cs : List CV} {y : Value} (h : VRel i (.kptr cs) y) : ∃ B o ys, y = .pointer (some ⟨B, o, none⟩) ∧ LRel i cs ys ∧ ∀ (k : Nat) (v : Value), ys[k]? = some v → i.imm B (o + k) = some v := by
  cases h with | kptr h1 h2 h3 => exact ⟨_, _, _, rfl, ⟨h1.symm, h3⟩, h2⟩
theorem VRel.rptr_inv {b z k j : Nat} {y : Value} (h : VRel i (.rptr b z k j) y) : ∃ g, i b = some g ∧ g.esz = z ∧ y = .pointer (some ⟨g.B, g.off + (k * z + j), none⟩) := by
  cases h with | rptr hb hz => exact ⟨_, hb, hz, rfl⟩
theorem VRel.row_inv {b z n : Nat} {y : Value} (h : VRel i (.row b z n) y) :
    (∃ g a' cap', y = .slice (some a') n cap' ∧ i b = some g ∧ g.esz = z ∧ n * z = g.size ∧ CapOk g 0 n cap' ∧ (cap' ≠ 0 → a' = ⟨g.B, g.off, none⟩)) ∨ (n = 0 ∧ i.void b = true ∧ ∃ a, y = .slice a 0 0) := by
  cases h with
  | row hb hz hs hc ha => exact .inl ⟨_, _, _, rfl, hb, hz, hs, hc, ha⟩
  | rowVoid hv => exact .inr ⟨rfl, hv, _, rfl⟩
theorem VRel.win_inv {b z s n c : Nat} {y : Value} (h : VRel i (.win b z s n c) y) :
    (∃ g a' cap', y = .slice (some a') n cap' ∧ i b = some g ∧ g.esz = z ∧ CapOk g (s * z) c cap' ∧ (cap' ≠ 0 → a' = ⟨g.B, g.off + s * z, none⟩) ∧ n ≤ c) ∨ (n = 0 ∧ c = 0 ∧ ∃ a, y = .slice a 0 0) := by
  cases h with
  | win hb hz hc ha hl hle => exact .inl ⟨_, _, _, rfl, hb, hz, hc, ha, hl⟩
  | winVoid => exact .inr ⟨rfl, rfl, _, rfl⟩
theorem VRel.win_inv' {b z s n c : Nat} {y : Value} (h : VRel i (.win b z s n c) y) :
    (∃ g a' cap', y = .slice (some a') n cap' ∧ i b = some g ∧ g.esz = z ∧ CapOk g (s * z) c cap' ∧ (cap' ≠ 0 → a' = ⟨g.B, g.off + s * z, none⟩) ∧ n ≤ c ∧ (s + c) * z ≤ g.size) ∨ (n = 0 ∧ c = 0 ∧ ∃ a, y = .slice a 0 0) := by
  cases h with
  | win hb hz hc ha hl hle => exact .inl ⟨_, _, _, rfl, hb, hz, hc, ha, hl, hle⟩
  | winVoid => exact .inr ⟨rfl, rfl, _, rfl⟩
theorem VRel.win_le {b z s n c : Nat} {y : Value} (h : VRel i (.win b z s n c) y) : (∃ g, i b = some g ∧ (s + n) * z ≤ g.size) ∨ n = 0 := by
  cases h with
  | win hb hz hc ha hl hle => exact .inl ⟨_, hb, Nat.le_trans (Nat.mul_le_mul_right _ (by omega)) hle⟩
  | winVoid => exact .inr rfl
theorem VRel.win_len (R : Rel P N i h w) {b z s n c : Nat} {y : Value} {r : RC} {l : List r.den} {g : Img} (hv : VRel i (.win b z s n c) y) (hb : h b = some (.rows r l)) (hz : z = r.z) (hg : i b = some g) : s + n ≤ l.length ∨ n = 0 := by
  rcases hv.win_le with ⟨g', hg', hle⟩ | hn
  · rw [hg] at hg'; cases hg'
    have h2 : g.size = (r.all l).length := (R.obj b _ g hb hg).1
    rw [h2, r.all_length, hz] at hle
    exact .inl (Nat.le_of_mul_le_mul_right hle r.z_pos)
  · exact .inr hn
theorem VRel.empty_inv {y : Value} (h : VRel i .empty y) : ∃ a, y = .slice a 0 0 := by
  cases h with | empty => exact ⟨_, rfl⟩

theorem LRel.split {as cs : List CV} {ys : List Value} (h : LRel i (as ++ cs) ys) : ∃ y1 y2, ys = y1 ++ y2 ∧ LRel i as y1 ∧ LRel i cs y2 := by
  refine ⟨ys.take as.length, ys.drop as.length, (List.take_append_drop _ _).symm, ?_, ?_⟩
  · have := h.take as.length; simpa using this
  · have := h.drop as.length; simpa using this

theorem RC.all_elem (r : RC) (l : List r.den) {k : Nat} (hk : k < l.length) (d : r.den) : ((r.all l).drop (k * r.z)).take r.z = r.cells (l.getD k d) := by
  rw [r.all_drop]
  have h1 : l.drop k = l[k] :: l.drop (k + 1) := List.drop_eq_getElem_cons hk
  rw [h1, r.all_cons, List.take_append, List.take_of_length_le (by rw [r.cells_length]; exact Nat.le_refl _), r.cells_length, Nat.sub_self, List.take_zero, List.append_nil]
  simp [List.getD, hk]

theorem RC.all_parts (r : RC) (l : List r.den) {k : Nat} (hk : k < l.length) (d : r.den) : r.all l = r.all (l.take k) ++ (r.cells (l.getD k d) ++ r.all (l.drop (k + 1))) := by
  rw [← r.all_cons, ← r.all_append]
  congr 1
  have h1 : l.drop k = l[k] :: l.drop (k + 1) := List.drop_eq_getElem_cons hk
  have h2 : l.getD k d = l[k] := by simp [List.getD, hk]
  rw [h2, ← h1, List.take_append_drop]
theorem RC.all_set (r : RC) (l : List r.den) {k : Nat} (hk : k < l.length) (x : r.den) : r.all (l.set k x) = r.all (l.take k) ++ (r.cells x ++ r.all (l.drop (k + 1))) := by
  rw [← r.all_cons, ← r.all_append]
  congr 1
  rw [List.set_eq_take_append_cons_drop, if_pos hk]

theorem RC.cells_ok (r : RC) (x : r.den) : (r.cells x).all cellOk = true := by cases r <;> rfl
theorem RC.all_ok (r : RC) : ∀ (l : List r.den), (r.all l).all cellOk = true
  | [] => rfl
  | x :: l => by rw [r.all_cons, List.all_append, r.cells_ok, r.all_ok l]; rfl

theorem loadL_run {t : TypeId} {B o : Nat} {cs : List CV} {ys : List Value} {v : CV} (hl : LRel i cs ys) (hc : ∀ (k : Nat) (y : Value), ys[k]? = some y → w.cell? ⟨B, o + k, none⟩ = some y) (e : loadL P t cs = some v) :
    ∃ v', (loadVar t ⟨B, o, none⟩).run P w = .ok v' w ∧ VRel i v v' := by
  unfold loadL at e
  split at e
  · rename_i ha
    split at e
    · rename_i n hn
      rw [nble] at e
      by_cases hle : n ≤ cs.length
      · simp only [hle, decide_true, cond_true, Option.some.injEq] at e
        subst e
        have hys : (ys.take n).length = n := by simp [← hl.len, hle]
        refine ⟨.agg (ys.take n).toArray, ?_, .agg' (hl.take n)⟩
        have hr : (loadCells ⟨B, o, none⟩ n).run P w = .ok (ys.take n).toArray w := by
          have := run_loadCells_list (P := P) w ⟨B, o, none⟩ (ys.take n) (fun j v hv => by
            rw [Addr.add_mk]
            rw [List.getElem?_take] at hv
            split at hv
            · exact hc j v hv
            · cases hv)
          rwa [hys] at this
        simp [loadVar, Sem.run_bind, run_pAgg ha, run_pSize hn, Result.andThen, hr]
      · simp [hle] at e
    · cases e
  · rename_i ha
    obtain ⟨y, hy, hv⟩ := hl.get (k := 0) (by simpa using e)
    have := hc 0 y hy
    rw [Nat.add_zero] at this
    exact ⟨y, by simp [loadVar, Sem.run_bind, run_pAgg ha, Result.andThen, this], hv⟩
  · cases e

theorem CRel.elem {r : RC} {l : List r.den} {g : Img} (hR : CRel N i w g (r.all l) r.z 1) {k : Nat} (hk : k < l.length) (d : r.den) :
    ∃ ys, LRel i (r.cells (l.getD k d)) ys ∧ ∀ (j : Nat) (v : Value), ys[j]? = some v → w.cell? ⟨g.B, g.off + k * r.z + j, none⟩ = some v := by
  have hle : k * r.z + r.z ≤ (r.all l).length := by
    rw [r.all_length]
    have : (k + 1) * r.z ≤ l.length * r.z := Nat.mul_le_mul_right _ hk
    rw [Nat.add_mul] at this; omega
  obtain ⟨ys, h1, h2, h3⟩ := hR.cellsAt hle
  rw [r.all_elem l hk d] at h1
  exact ⟨ys, h1, h3⟩

theorem toInts_rel {c : CV} {l : List Int} {v : Value} (h : toInts c = some l) (hv : VRel i c v) : VRel i (.pl .ints l) v := by
  unfold toInts at h
  split at h <;> first | (cases h; done) | (cases h; first | exact hv | (cases hv; exact .plNil) | (obtain ⟨a, rfl⟩ := hv.empty_inv; exact .plNil))
theorem toOps_rel {c : CV} {l : List DOp} {v : Value} (h : toOps c = some l) (hv : VRel i c v) : VRel i (.pl .ops l) v := by
  unfold toOps at h
  split at h <;> first | (cases h; done) | (cases h; first | exact hv | (cases hv; exact .plNil) | (obtain ⟨a, rfl⟩ := hv.empty_inv; exact .plNil))
theorem toActs_rel {c : CV} {l : List DAct} {v : Value} (h : toActs c = some l) (hv : VRel i c v) : VRel i (.pl .acts l) v := by
  unfold toActs at h
  split at h <;> first | (cases h; done) | (cases h; first | exact hv | (cases hv; exact .plNil) | (obtain ⟨a, rfl⟩ := hv.empty_inv; exact .plNil))

theorem LRel.one {a b : CV} {r s : List CV} {ys : List Value} (h : LRel i (a :: r) ys) (h1 : ∀ v, VRel i a v → VRel i b v) (h2 : ∀ zs, LRel i r zs → LRel i s zs) : LRel i (b :: s) ys := by
  obtain ⟨y, ys', rfl, h3, h4⟩ := h.cons_inv
  exact .cons (h1 y h3) (h2 _ h4)
theorem LRel.same {r s : List CV} {a : CV} {ys : List Value} (h : LRel i (a :: r) ys) (h2 : ∀ zs, LRel i r zs → LRel i s zs) : LRel i (a :: s) ys := h.one (fun _ h => h) h2

theorem of_rel {r : RC} {cs : List CV} {x : r.den} {ys : List Value} (e : r.of cs = some x) (hl : LRel i cs ys) : LRel i (r.cells x) ys := by
  cases r <;> simp only [RC.of] at e
  · unfold ofInt at e; split at e <;> first | (cases e; done) | (cases e; exact hl)
  · unfold ofByte at e
    split at e
    · rename_i n
      by_cases hn : 0 ≤ n ∧ n < 256
      · simp [hn.1, hn.2] at e
        subst e
        have : ((UInt8.ofNat n.toNat).toNat : Int) = n := by
          simp; omega
        simp only [RC.cells, this]; exact hl
      · have : (decide (0 ≤ n) && decide (n < 256)) = false := by simpa using hn
        rw [this] at e; cases e
    · cases e
  · unfold ofBool at e; split at e <;> first | (cases e; done) | (cases e; exact hl)
  · unfold ofStr at e; split at e <;> first | (cases e; done) | (cases e; exact hl)
  · unfold ofRet at e; split at e <;> first | (cases e; done) | (cases e; exact hl)
  · unfold ofOp at e; split at e <;> first | (cases e; done) | (cases e; exact hl)
  · unfold ofState at e
    split at e
    · split at e
      · rename_i c _ l hc
        cases e
        exact hl.same fun _ h => h.same fun _ h => h.one (fun v hv => toInts_rel hc hv) fun _ h => h
      · cases e
    · cases e
  · unfold ofAct at e; split at e <;> first | (cases e; done) | (cases e; exact hl)
  · unfold ofTrans at e
    split at e
    · split at e
      · rename_i x y hc hd
        cases e
        exact hl.same fun _ h => h.same fun _ h => h.same fun _ h => h.one (fun v hv => toActs_rel hc hv) fun _ h => h.one (fun v hv => toInts_rel hd hv) fun _ h => h
      · cases e
    · cases e
  · unfold ofEdge at e; split at e <;> first | (cases e; done) | (cases e; exact hl)
  · unfold ofStep at e
    split at e
    · split at e
      · rename_i x y hc hd
        cases e
        exact hl.same fun _ h => h.same fun _ h => h.same fun _ h => h.same fun _ h => h.same fun _ h => h.same fun _ h => h.same fun _ h => h.same fun _ h => h.same fun _ h => h.same fun _ h => h.one (fun v hv => toInts_rel hc hv) fun _ h => h.same fun _ h => h.same fun _ h => h.one (fun v hv => toInts_rel hd hv) fun _ h => h
      · cases e
    · cases e
  · unfold ofNeed at e
    split at e
    · split at e
      · rename_i x y hc hd
        cases e
        exact hl.same fun _ h => h.same fun _ h => h.same fun _ h => h.same fun _ h => h.same fun _ h => h.one (fun v hv => toInts_rel hc hv) fun _ h => h.one (fun v hv => toInts_rel hd hv) fun _ h => h
      · cases e
    · cases e
  · unfold ofIntss at e
    split at e
    · exact hl.one (fun v hv => toInts_rel e hv) fun _ h => h
    · cases e
  · unfold ofOpss at e
    split at e
    · exact hl.one (fun v hv => toOps_rel e hv) fun _ h => h
    · cases e

theorem parseR_rel {r : RC} : ∀ (n : Nat) {cs : List CV} {l : List r.den} {ys : List Value}, parseR r n cs = some l → cs.length = n * r.z → LRel i cs ys → LRel i (r.all l) ys ∧ l.length = n
  | 0, cs, l, ys, e, hc, hl => by
    simp only [parseR, Option.some.injEq] at e; subst e
    have : cs = [] := by cases cs <;> simp_all
    subst this
    exact ⟨hl, rfl⟩
  | n + 1, cs, l, ys, e, hc, hl => by
    simp only [parseR] at e
    split at e
    · rename_i x l' h1 h2
      cases e
      have hs : cs = cs.take r.z ++ cs.drop r.z := (List.take_append_drop _ _).symm
      rw [hs] at hl
      obtain ⟨y1, y2, rfl, h3, h4⟩ := hl.split
      obtain ⟨h5, h6⟩ := parseR_rel n h2 (by simp [hc, Nat.add_mul]) h4
      exact ⟨by rw [r.all_cons]; exact (of_rel h1 h3).append h5, by simp [h6]⟩
    · cases e

theorem fupd_eall : ∀ (e : Eff) (h : HF), fupd h e = eall h e
  | [], h => rfl
  | (b, o) :: r, h => by
    simp only [fupd, eall]
    rw [fupd_eall r]
    congr 1
    funext k
    simp only [fset, nbeq]
    by_cases hk : k = b <;> simp [hk]
theorem eall_append : ∀ (e e' : Eff) (h : HF), eall h (e ++ e') = eall (eall h e) e'
  | [], e', h => rfl
  | (b, o) :: r, e', h => by simp only [List.cons_append, eall]; exact eall_append r e' _

structure Frz (P : Program) (N ro : Nat) (i : Inj) (h : HF) (w : World) (i' : Inj) (h' : HF) : Prop where
  rel : Rel P N i' h' w
  step : Step ro i h w i' h' w
  blk : ∀ b, i' b = i b ∧ i'.void b = i.void b
  none_ : ∀ b, h b = none → h' b = none

theorem Frz.refl {ro : Nat} (R : Rel P N i h w) : Frz P N ro i h w i h := ⟨R, .refl _ _ _ _, fun _ => ⟨rfl, rfl⟩, fun _ h => h⟩
theorem Frz.trans {ro : Nat} {i' i'' : Inj} {h' h'' : HF} (a : Frz P N ro i h w i' h') (b : Frz P N ro i' h' w i'' h'') : Frz P N ro i h w i'' h'' :=
  ⟨b.rel, a.step.trans b.step, fun k => ⟨(b.blk k).1.trans (a.blk k).1, (b.blk k).2.trans (a.blk k).2⟩, fun k hk => b.none_ k (a.none_ k hk)⟩

def kill (i : Inj) (g : Img) (ys : List Value) : Inj :=
  { i with imm := fun B k => if B = g.B then (if g.off ≤ k then ys[k - g.off]? else none) else i.imm B k }

theorem kill_frz (R : Rel P N i h w) {ro b : Nat} {r : RC} {l : List r.den} {g : Img} (hb : h b = some (.rows r l)) (hg : i b = some g) (hro : ro ≤ b) :
    ∃ ys, LRel i (r.all l) ys ∧ Frz P N ro i h w (kill i g ys) (fset h b .dead) := by
  have hwr : wr (CObj.rows r l) = true := rfl
  obtain ⟨h1, h2, h3, ⟨ys, h4, h5⟩, h6⟩ := R.obj b _ g hb hg
  have hle : i.le (kill i g ys) := ⟨fun _ _ h => h, fun B k v hv => by
    have hne : B ≠ g.B := fun e => by subst e; rw [R.ims b _ g hb hg hwr k] at hv; cases hv
    simp only [kill, hne, if_false]; exact hv, fun _ h => h, rfl⟩
  obtain ⟨Rp, Sp⟩ := R.put (ro := ro) (o2 := .dead) (w' := w) hb hg hro hwr rfl rfl rfl rfl (fun _ _ _ => rfl) trivial
  refine ⟨ys, h4, ⟨⟨?_, ?_, ?_, Rp.hN, ?_, ?_, ?_⟩, ⟨hle, Sp.keep, Nat.le_refl _, rfl, rfl, rfl, fun _ _ _ => rfl, ?_, ?_⟩, fun _ => ⟨rfl, rfl⟩, ?_⟩⟩
  · intro k o gg hk hgg
    exact (Rp.obj k o gg hk hgg).mono hle rfl
  · intro k k' x x' g1 g2 hne hk hk' hg1 hg2 hw hl
    exact Rp.sep k k' x x' g1 g2 hne hk hk' hg1 hg2 hw hl
  · intro k gg hgg; exact Rp.bnd k gg hgg
  · intro B k v hv
    by_cases e : B = g.B
    · subst e
      simp only [kill, if_true] at hv
      split at hv
      · rename_i hk
        have := h5 _ v hv
        rw [show g.off + (k - g.off) = k by omega] at this
        exact ⟨this, R.bnd b g hg, .inl ((R.obj b _ g hb hg).ge hwr)⟩
      · cases hv
    · simp only [kill, e, if_false] at hv
      exact R.imm B k v hv
  · intro k x gg hk hgg hw q
    have hkb : k ≠ b := fun e => by subst e; rw [fset_eq] at hk; cases hk; simp [wr] at hw
    have hne : gg.B ≠ g.B := fun e => by
      rw [fset_ne h _ hkb] at hk
      exact R.sep b k _ x g gg (Ne.symm hkb) hb hk hg hgg hwr (live_of_wr hw) e.symm
    simp only [kill, hne, if_false]
    rw [fset_ne h _ hkb] at hk
    exact R.ims k x gg hk hgg hw q
  · intro k hk; exact Rp.void k hk
  · intro B hB ht
    exact Sp.touch B hB ht
  · intro B k v hB hv
    by_cases e : B = g.B
    · exact .inr ⟨b, _, g, hro, hb, hwr, hg, e.symm⟩
    · simp only [kill, e, if_false] at hv; exact .inl hv
  · intro k hk
    have : k ≠ b := fun e => by subst e; rw [hb] at hk; cases hk
    rw [fset_ne h _ this]; exact hk

theorem kill_imm {g : Img} {ys : List Value} {k : Nat} {v : Value} (hv : ys[k]? = some v) : (kill i g ys).imm g.B (g.off + k) = some v := by
  simp [kill, hv]

theorem pl_of_cells {r : RC} {l : List r.den} {B o cap' : Nat} {a' : Addr} {ys : List Value} (hl : LRel i (r.all l) ys) (hi : ∀ (k : Nat) (y : Value), ys[k]? = some y → i.imm B (o + k) = some y) (hc : l.length ≤ cap') (ha : cap' ≠ 0 → a' = ⟨B, o, none⟩) : VRel i (.pl r l) (.slice (some a') l.length cap') :=
  .pl hl.len.symm hi hl.at_ hc ha

theorem dead_none (R : Rel P N i h w) {ro b : Nat} {ob : CObj} (hb : h b = some ob) (hib : i b = none) (hro : ro ≤ b) : Frz P N ro i h w i (fset h b .dead) := by
  refine ⟨⟨?_, ?_, R.bnd, R.hN, R.imm, ?_, ?_⟩, ⟨Inj.le_refl i, ?_, Nat.le_refl _, rfl, rfl, rfl, fun _ _ _ => rfl, ?_, fun _ _ _ _ h => .inl h⟩, fun _ => ⟨rfl, rfl⟩, ?_⟩
  · intro k o g hk hg
    have : k ≠ b := fun e => by subst e; rw [hib] at hg; cases hg
    rw [fset_ne h _ this] at hk; exact R.obj k o g hk hg
  · intro k k' o o' g g' hne hk hk' hg hg' hw hl
    have e1 : k ≠ b := fun e => by subst e; rw [hib] at hg; cases hg
    have e2 : k' ≠ b := fun e => by subst e; rw [hib] at hg'; cases hg'
    rw [fset_ne h _ e1] at hk; rw [fset_ne h _ e2] at hk'
    exact R.sep k k' o o' g g' hne hk hk' hg hg' hw hl
  · intro k o g hk hg hw q
    have : k ≠ b := fun e => by subst e; rw [hib] at hg; cases hg
    rw [fset_ne h _ this] at hk; exact R.ims k o g hk hg hw q
  · intro k hk
    refine ⟨(R.void k hk).1, fun r' l' hl' => ?_⟩
    by_cases e : k = b
    · subst e; rw [fset_eq] at hl'; cases hl'
    · rw [fset_ne h _ e] at hl'; exact (R.void k hk).2 r' l' hl'
  · intro k o hk ho
    have : k ≠ b := fun e => by omega
    rw [fset_ne h _ this]; exact ho
  · rintro B hB ⟨k, o, g, q1, q2, q3, q4, q5⟩
    have : k ≠ b := fun e => by subst e; rw [hib] at q4; cases q4
    rw [fset_ne h _ this] at q2
    exact ⟨k, o, g, q1, q2, q3, q4, q5⟩
  · intro k hk
    have : k ≠ b := fun e => by subst e; rw [hb] at hk; cases hk
    rw [fset_ne h _ this]; exact hk

theorem dead_frz (R : Rel P N i h w) {ro b : Nat} {r : RC} {l : List r.den} (hb : h b = some (.rows r l)) (hro : ro ≤ b) : ∃ i', Frz P N ro i h w i' (fset h b .dead) := by
  cases hg : i b with
  | none => exact ⟨i, dead_none R hb hg hro⟩
  | some g => obtain ⟨ys, _, F⟩ := kill_frz R hb hg hro; exact ⟨_, F⟩

theorem frz1_sound (R : Rel P N i h w) {ro : Nat} {x x2 : CV} {ef : Eff} {y : Value} (hv : VRel i x y) (e : frz1 ro h x = some (x2, ef)) :
    ∃ i', Frz P N ro i h w i' (eall h ef) ∧ VRel i' x2 y := by
  unfold frz1 at e
  split at e
  · rename_i b z n
    split at e
    · rename_i r l hb
      rw [nble, nbeq] at e
      by_cases hc : ro ≤ b ∧ z = r.z
      · obtain ⟨hro, hz⟩ := hc
        simp [hro, hz] at e
        obtain ⟨rfl, rfl⟩ := e
        rcases hv.row_inv with ⟨g, a', cap', rfl, hg, hgz, hs, hcap, ha⟩ | ⟨rfl, hvd, a, rfl⟩
        · obtain ⟨ys, h1, F⟩ := kill_frz R hb hg hro
          refine ⟨_, F, ?_⟩
          have hn : n = l.length := by
            have h2 : g.size = (r.all l).length := (R.obj b _ g hb hg).1
            rw [r.all_length, ← hs, hz] at h2
            exact Nat.eq_of_mul_eq_mul_right r.z_pos h2
          subst hn
          refine pl_of_cells (B := g.B) (o := g.off) (h1.mono F.step.ext) (fun k v hv => kill_imm hv) ?_ ha
          rcases hcap with rfl | ⟨_, _, h3, _⟩ <;> omega
        · have hl := (R.void b hvd).2 r l hb
          subst hl
          exact ⟨i, dead_none R hb (R.void b hvd).1 hro, .plNil⟩
      · have : (decide (ro ≤ b) && decide (z = r.z)) = false := by simpa using hc
        rw [this] at e; cases e
    · cases e
  · rename_i b z s n c
    split at e
    · rename_i r l hb
      cases hc : (Nat.ble ro b && Nat.beq z r.z) with
      | false => rw [hc] at e; cases e
      | true =>
        rw [hc] at e
        simp only [Bool.and_eq_true, nbeq, nble, decide_eq_true_eq] at hc
        obtain ⟨hro, hz⟩ := hc
        simp only [cond_true, Option.some.injEq, Prod.mk.injEq] at e
        obtain ⟨rfl, rfl⟩ := e
        rcases hv.win_inv with ⟨g, a', cap', rfl, hg, hgz, hcap, ha, hnc⟩ | ⟨rfl, _, a, rfl⟩
        · obtain ⟨ys, h1, F⟩ := kill_frz R hb hg hro
          refine ⟨_, F, ?_⟩
          have e1 : r.all ((l.drop s).take n) = ((r.all l).drop (s * r.z)).take (n * r.z) := by rw [r.all_drop, r.all_take]
          have h7 : LRel i (r.all ((l.drop s).take n)) ((ys.drop (s * r.z)).take (n * r.z)) := by rw [e1]; exact (h1.drop _).take _
          have hle := hv.win_len R hb hz hg
          have hlen : ((l.drop s).take n).length = n := by rw [List.length_take, List.length_drop]; omega
          have key := pl_of_cells (cap' := cap') (a' := a') (B := g.B) (o := g.off + s * r.z) (h7.mono F.step.ext) (fun k v hv => ?_) ?_ (by rw [← hz]; exact ha)
          · rw [hlen] at key; exact key
          · rw [List.getElem?_take] at hv
            split at hv
            · rw [List.getElem?_drop] at hv
              have := kill_imm (i := i) (g := g) (ys := ys) hv
              rw [Nat.add_assoc]; exact this
            · cases hv
          · rw [hlen]; rcases hcap with rfl | ⟨_, _, h3, _⟩ <;> omega
        · rw [List.take_zero]
          cases hib : i b with
          | none => exact ⟨i, dead_none R hb hib hro, .plNil⟩
          | some g => obtain ⟨ys, _, F⟩ := kill_frz R hb hib hro; exact ⟨_, F, .plNil⟩
    · cases e
  all_goals first
    | (cases e; exact ⟨i, .refl R, hv⟩)
    | cases e

end Go.Proofs.YtecidokjhplbgaaGreatDoorD

set_option linter.unusedVariables false
set_option linter.unusedSimpArgs false
namespace Go.Proofs.YtecidokjhplbgaaGreatDoorD
open Go Go.RowKit

variable {P : Program} {N : Nat} {i : Inj} {h : HF} {w : World}

theorem frzL_sound {ro : Nat} : ∀ {xs : List CV} {i : Inj} {h : HF} {xs2 : List CV} {ef : Eff} {ys : List Value}, Rel P N i h w → LRel i xs ys → frzL ro h xs = some (xs2, ef) →
    ∃ i', Frz P N ro i h w i' (eall h ef) ∧ LRel i' xs2 ys ∧ xs2.length = xs.length
  | [], i, h, xs2, ef, ys, R, hl, e => by
    simp only [frzL, Option.some.injEq, Prod.mk.injEq] at e
    obtain ⟨rfl, rfl⟩ := e
    exact ⟨i, .refl R, hl, rfl⟩
  | x :: xs, i, h, xs2, ef, ys, R, hl, e => by
    simp only [frzL] at e
    split at e
    · rename_i v' e1 h1
      split at e
      · rename_i vs es h2
        cases e
        obtain ⟨y, ys', rfl, h3, h4⟩ := hl.cons_inv
        obtain ⟨i1, F1, q1⟩ := frz1_sound R h3 h1
        rw [fupd_eall] at h2
        obtain ⟨i2, F2, q2, q3⟩ := frzL_sound F1.rel (h4.mono F1.step.ext) h2
        rw [eall_append]
        exact ⟨i2, F1.trans F2, .cons (q1.mono F2.step.ext) q2, by simp [q3]⟩
      · cases e
    · cases e

def Src (P : Program) (w : World) (i : Inj) (cs : List CV) (z n : Nat) (y : Value) : Prop :=
  (∀ w' : World, w'.heap = w.heap → (Builtin.lenOf y).run P w' = .ok n w') ∧ ∃ vs, LRel i cs vs ∧ ∀ w' : World, w'.heap = w.heap → (Builtin.firstCells z n y).run P w' = .ok vs.toArray w'

theorem src_none {a : Option Addr} {z c : Nat} : Src P w i [] z 0 (.slice a 0 c) :=
  ⟨fun _ _ => rfl, [], .nil i, fun w' _ => by cases a <;> simp [Builtin.firstCells, loadCells, loadCellsFrom]⟩

theorem src_cells {B o z n c : Nat} {a' : Addr} {cs : List CV} {ys : List Value} (hl : LRel i cs ys) (hc : ∀ (k : Nat) (v : Value), ys[k]? = some v → w.cell? ⟨B, o + k, none⟩ = some v) (hn : cs.length = n * z) (hle : n ≤ c) (ha : c ≠ 0 → a' = ⟨B, o, none⟩) :
    Src P w i cs z n (.slice (some a') n c) := by
  refine ⟨fun _ _ => rfl, ys, hl, fun w' hw => ?_⟩
  by_cases hc0 : c = 0
  · have : n = 0 := by omega
    subst this
    have : ys = [] := by have := hl.len; rw [hn] at this; cases ys <;> simp_all
    subst this
    simp [Builtin.firstCells, loadCells, loadCellsFrom]
  · have := ha hc0; subst this
    simp only [Builtin.firstCells]
    have hlen : ys.length = n * z := by rw [← hl.len, hn]
    rw [← hlen]
    exact run_loadCells_list (P := P) w' _ ys (fun j v hv => by rw [Addr.add_mk, World.cell?_of_block (w := w) (by rw [hw])]; exact hc j v hv)

theorem Src.mono {i' : Inj} {cs : List CV} {z n : Nat} {y : Value} (h : Src P w i cs z n y) (hi : i.le i') : Src P w i' cs z n y := by
  obtain ⟨h1, vs, h2, h3⟩ := h
  exact ⟨h1, vs, h2.mono hi, h3⟩

theorem row_len (R : Rel P N i h w) {b z n : Nat} {r : RC} {l : List r.den} {g : Img} (hb : h b = some (.rows r l)) (hg : i b = some g) (hz : z = r.z) (hs : n * z = g.size) : n = l.length := by
  have h2 : g.size = (r.all l).length := (R.obj b _ g hb hg).1
  rw [r.all_length, ← hs, hz] at h2
  exact Nat.eq_of_mul_eq_mul_right r.z_pos h2

theorem srcR_sound (R : Rel P N i h w) {ro : Nat} {r : RC} {x : CV} {y : Value} {l : List r.den} {ef : Eff} (hv : VRel i x y) (e : (srcR ro h r x).ev = some (l, ef)) :
    ∃ i', Frz P N ro i h w i' (eall h ef) ∧ Src P w i' (r.all l) r.z l.length y := by
  unfold srcR at e
  split at e
  · cases ev_ret e
    obtain ⟨_, _, rfl⟩ := hv.nilSlice_inv
    exact ⟨i, .refl R, src_none⟩
  · cases ev_ret e
    obtain ⟨a, c, rfl⟩ := hv.nnil_inv
    exact ⟨i, .refl R, src_none⟩
  · cases ev_ret e
    obtain ⟨a, rfl⟩ := hv.empty_inv
    exact ⟨i, .refl R, src_none⟩
  · rename_i r' l'
    split at e
    · rename_i l2 hc
      obtain ⟨rfl, rfl⟩ := rcast_eq hc
      cases ev_ret e
      refine ⟨i, .refl R, ?_⟩
      rcases hv.pl_inv with ⟨B, o, c, ys, a', rfl, h1, h2, h3, h4⟩ | ⟨rfl, a, c, rfl⟩
      · exact src_cells h1 (fun k v hv => (R.imm B _ v (h2 k v hv)).1) (RC.all_length _ _) h3 h4
      · exact src_none
    · exact (ev_fail e).elim
  · split at e
    · rename_i b z n _ r' l' hb
      split at e
      · rename_i l2 hc
        obtain ⟨rfl, rfl⟩ := rcast_eq hc
        obtain ⟨hz, e⟩ := ev_bif e
        rw [nbeq, decide_eq_true_eq] at hz
        cases ev_ret e
        refine ⟨i, .refl R, ?_⟩
        rcases hv.row_inv with ⟨g, a', cap', rfl, hg, hgz, hs, hcap, ha⟩ | ⟨rfl, hvd, a, rfl⟩
        · have hn := row_len R hb hg hz hs
          subst hn
          obtain ⟨h1, h2, h3, ⟨ys, h4, h5⟩, h6⟩ := R.obj b _ g hb hg
          refine src_cells h4 h5 (RC.all_length _ _) ?_ ha
          rcases hcap with rfl | ⟨_, _, h3, _⟩ <;> omega
        · have hl := (R.void b hvd).2 _ _ hb
          subst hl
          exact src_none
      · exact (ev_fail e).elim
    · exact (ev_fail e).elim
  · split at e
    · rename_i b z s n c _ r' l' hb
      split at e
      · rename_i l2 hc
        obtain ⟨rfl, rfl⟩ := rcast_eq hc
        obtain ⟨hz, e⟩ := ev_bif e
        rw [nbeq, decide_eq_true_eq] at hz
        obtain ⟨hle, e⟩ := ev_when e
        rw [nble, decide_eq_true_eq] at hle
        cases ev_ret e
        refine ⟨i, .refl R, ?_⟩
        have hlen : ((l2.drop s).take n).length = n := by simp; omega
        rw [hlen]
        rcases hv.win_inv with ⟨g, a', cap', rfl, hg, hgz, hcap, ha, hnc⟩ | ⟨rfl, rfl, a, rfl⟩
        · have hsn : s * r'.z + n * r'.z ≤ (r'.all l2).length := by
            rw [r'.all_length, ← Nat.add_mul]; exact Nat.mul_le_mul_right _ hle
          obtain ⟨ys, h1, h2, h3⟩ := (show CRel N i w g (r'.all l2) r'.z 1 from R.obj b _ g hb hg).cellsAt hsn
          rw [r'.all_drop, r'.all_take] at h1
          subst hz
          refine src_cells h1 h3 (by rw [r'.all_length, hlen]) ?_ ha
          rcases hcap with rfl | ⟨_, _, h3, _⟩ <;> omega
        · rw [List.take_zero]; exact src_none
      · exact (ev_fail e).elim
    · exact (ev_fail e).elim
  · split at e
    · rename_i b o len cap _ vs ez m hb
      obtain ⟨hle, e⟩ := ev_bif e
      rw [nble, decide_eq_true_eq] at hle
      split at e
      · rename_i cs ef2 hf
        split at e
        · rename_i l2 hp
          cases ev_ret e
          obtain ⟨g, a', cap', rfl, hg, hcap, ha, hl⟩ := hv.slice_inv
          obtain ⟨ys, h1, h2, h3⟩ := R.cellsAt hb hg hle
          obtain ⟨i1, F, q1, q2⟩ := frzL_sound R h1 hf
          have hcl : cs.length = len * r.z := by rw [q2]; simp; omega
          obtain ⟨q3, q4⟩ := parseR_rel len hp hcl q1
          refine ⟨i1, F, ?_⟩
          rw [q4]
          refine src_cells q3 h3 (by rw [r.all_length, q4]) ?_ ha
          rcases hcap with rfl | ⟨_, _, h3, _⟩ <;> omega
        · exact (ev_fail e).elim
      · exact (ev_fail e).elim
    · exact (ev_fail e).elim
  · exact (ev_fail e).elim

theorem mkRow_inv {id : Nat} {r : RC} {l : List r.den} {n : Nat} {ef : Eff} {p : CV × Eff} (e : (mkRow h id r l n ef).ev = some p) : h id = none ∧ p = (.row id r.z n, ef ++ [(id, .rows r l)]) := by
  unfold mkRow at e
  split at e
  · rename_i hid; exact ⟨hid, (ev_ret e).symm⟩
  · exact (ev_fail e).elim

theorem Does.after {ro id : Nat} {i1 : Inj} {h1 h2 : HF} {s : Sem Next} {v : CV} (F : Frz P N ro i h w i1 h1) (D : Does P N ro id i1 h1 w s v h2) : Does P N ro id i h w s v h2 := by
  obtain ⟨nx, i', w', v', d1, d2, d3, d4, d5, d6⟩ := D
  exact ⟨nx, i', w', v', d1, d2, d3, d4, F.step.trans d5, fun b hb => ⟨(d6 b hb).1.trans (F.blk b).1, (d6 b hb).2.trans (F.blk b).2⟩⟩

theorem does_rows (R : Rel P N i h w) (ro : Nat) {id : Nat} (hid : h id = none) (hi : i.free id) {s : Sem Next} {t : TypeId} {r : RC} {l : List r.den} {ys rest : List Value} {cap' : Nat} (hl : LRel i (r.all l) ys)
    (hrest : (ys ++ rest).length = cap' * r.z) (hcc : l.length ≤ cap' ∧ cap' ≤ 9223372036854775807)
    (hs : s.run P w = .ok (.value (.slice (some ⟨w.heap.size, 0, none⟩) l.length cap')) ({ w with drawn := w.drawn + 1 }.alloc (.cells (ys ++ rest).toArray t))) :
    Does P N ro id i h w s (.row id r.z l.length) (fset h id (.rows r l)) := by
  have R1 : Rel P N i h { w with drawn := w.drawn + 1 } := R.drawn rfl
  obtain ⟨R', S'⟩ := new_rows R1 ro hid hi t r (rest := rest) hl
  have S0 : Step ro i h w i h { w with drawn := w.drawn + 1 } := Step.drawn rfl rfl rfl rfl
  refine ⟨_, _, _, _, hs, .inl rfl, ?_, R', S0.trans S', fun b hb => ⟨upd_ne i _ hb, rfl⟩⟩
  refine .row (upd_same i id _) rfl (by simp [r.all_length]) (.inr ⟨rfl, ?_, hcc.1, ?_, hcc.2⟩) (fun _ => rfl)
  · simp [r.all_length]
  · simp only [Nat.zero_add]; rw [hrest]; exact Nat.le_refl _

theorem does_rows0 (R : Rel P N i h w) (ro : Nat) {id : Nat} (hid : h id = none) (hi : i.free id) {s : Sem Next} {t : TypeId} {r : RC} {l : List r.den} {ys : List Value} (hl : LRel i (r.all l) ys)
    (hs : s.run P w = .ok (.value (.slice (some ⟨w.heap.size, 0, none⟩) l.length l.length)) (w.alloc (.cells ys.toArray t))) :
    Does P N ro id i h w s (.row id r.z l.length) (fset h id (.rows r l)) := by
  obtain ⟨R', S'⟩ := new_rows R ro hid hi t r (rest := []) hl
  simp only [List.append_nil] at R' S'
  refine ⟨_, _, _, _, hs, .inl rfl, ?_, R', S', fun b hb => ⟨upd_ne i _ hb, rfl⟩⟩
  exact .row (upd_same i id _) rfl (by simp [r.all_length]) (.inl rfl) (fun _ => rfl)

theorem does_void (R : Rel P N i h w) (ro : Nat) {id : Nat} (hid : h id = none) (hi : i.free id) {s : Sem Next} {r : RC} {a : Option Addr} (hs : s.run P w = .ok (.value (.slice a 0 0)) w) :
    Does P N ro id i h w s (.row id r.z 0) (fset h id (.rows r [])) := by
  obtain ⟨R', S'⟩ := R.newVoid ro hid hi r
  exact ⟨_, _, _, _, hs, .inl rfl, .rowVoid (by simp [updVoid]), R', S', fun b hb => ⟨rfl, by simp [updVoid, hb]⟩⟩

structure App (P : Program) (w : World) (ts : Array TypeId) (r : RC) (it : TypeInfo) (t u e : TypeId) (d : TypeDesc) (zv : Value) : Prop where
  h0 : ts[0]? = some t
  h1 : ts[1]? = some u
  hu : P.underlying t = some (.slice e)
  hd : P.underlying u = some d
  hnd : isIntD d = false
  hi : P.info? e = some it
  hz : it.zero = some zv
  zsz : zv.cells.size = r.z
  b1 : 1 ≤ it.bytes
  b2 : it.bytes ≤ 2 ^ 20
  sz : it.size = r.z

theorem lrel_len {cs : List CV} {ys : List Value} {n z : Nat} (h : LRel i cs ys) (hc : cs.length = n * z) : ys.length = n * z := by rw [← h.len, hc]

structure Ay (P : Program) (w : World) (i : Inj) (ts : Array TypeId) (ty : TypeId) (r : RC) (it : TypeInfo) (ys : List r.den) (y : Value) (oy : List Value) : Prop where
  rel : LRel i (r.all ys) oy
  sz : it.size = r.z
  room : ∀ {base : Option Addr} {len cap : Nat} {w' : World}, len + ys.length ≤ cap → (∀ a, base = some a → (storeCells (a.add (len * it.size)) oy).run P w = .ok () w') → (base = none → w' = w) →
    (Builtin.append_ ts ty #[.slice base len cap, y]).run P w = .ok (.slice base (len + ys.length) cap) w'
  grow : ∀ {base : Option Addr} {len cap : Nat} {old : List Value}, cap < len + ys.length → (len + ys.length) * it.bytes ≤ 2 ^ 40 → (∀ w' : World, w'.heap = w.heap → (Builtin.firstCells it.size len (.slice base len cap)).run P w' = .ok old.toArray w') →
    ∃ (newCap : Nat) (e : TypeId) (rest : List Value), (len + ys.length ≤ newCap ∧ newCap ≤ 9223372036854775807) ∧ rest.length = (newCap - (len + ys.length)) * r.z ∧ (Builtin.append_ ts ty #[.slice base len cap, y]).run P w =
      .ok (.slice (some ⟨w.heap.size, 0, none⟩) (len + ys.length) newCap) ({ w with drawn := w.drawn + 1 }.alloc (.cells ((old ++ oy) ++ rest).toArray e))
theorem Ay.of {ts : Array TypeId} {ty t u e : TypeId} {r : RC} {it : TypeInfo} {d : TypeDesc} {zv : Value} (A : App P w ts r it t u e d zv) {ys : List r.den} {y : Value} (hy : Src P w i (r.all ys) r.z ys.length y) : ∃ oy, Ay P w i ts ty r it ys y oy := by
  obtain ⟨hy0, oy, hy1, hy2⟩ := hy
  refine ⟨oy, hy1, A.sz, fun hr hst hno => append_room_run A.h0 A.h1 A.hu A.hd A.hnd A.hi (hy0 w rfl) hr (by rw [A.sz]; exact hy2 w rfl) hst hno, fun hcap hroom hold => ?_⟩
  obtain ⟨nc, hnc, hrun⟩ := append_new_run (P := P) (ty := ty) A.h0 A.h1 A.hu A.hd A.hnd A.hi A.hz (hy0 w rfl) hcap hroom A.b1 A.b2 hold (by rw [A.sz]; exact hy2)
  exact ⟨nc, _, _, hnc, by simp only [zeroCells_size, A.zsz], hrun⟩

theorem app_newY (R : Rel P N i h w) (ro : Nat) {id : Nat} (hid : h id = none) (hi : i.free id) {ts : Array TypeId} {ty : TypeId} {r : RC} {it : TypeInfo}
    {base : Option Addr} {cap : Nat} {y : Value} {xs ys : List r.den} {oy : List Value} (A : Ay P w i ts ty r it ys y oy) (hx : Src P w i (r.all xs) r.z xs.length (.slice base xs.length cap)) (hcap : cap < xs.length + ys.length)
    (hroom : roomOk it (xs.length + ys.length) = true) : Does P N ro id i h w (do pure (Next.value (← Builtin.append_ ts ty #[.slice base xs.length cap, y]))) (.row id r.z (xs.length + ys.length)) (fset h id (.rows r (xs ++ ys))) := by
  obtain ⟨hx0, ox, hx1, hx2⟩ := hx
  have hy1 := A.rel
  simp only [roomOk, nble, decide_eq_true_eq] at hroom
  obtain ⟨nc, e, rest, hnc, hrest, hrun⟩ := A.grow (base := base) (cap := cap) hcap hroom (by rw [A.sz]; exact hx2)
  have l1 := lrel_len hx1 (r.all_length xs)
  have l2 := lrel_len hy1 (r.all_length ys)
  have hll : xs.length + ys.length = (xs ++ ys).length := by simp
  rw [hll] at hrun hnc ⊢
  refine does_rows (t := e) R ro hid hi (ys := ox ++ oy) (by rw [r.all_append]; exact hx1.append hy1) ?_ hnc (run_v hrun)
  simp only [List.length_append, hrest, l1, l2]
  rw [← Nat.add_mul, ← Nat.add_mul]
  congr 1
  simp only [List.length_append] at hnc; omega

theorem app_voidY (R : Rel P N i h w) (ro : Nat) {id : Nat} (hid : h id = none) (hi : i.free id) {ts : Array TypeId} {ty : TypeId} {r : RC} {it : TypeInfo}
    {base : Option Addr} {y : Value} {ys : List r.den} {oy : List Value} (A : Ay P w i ts ty r it ys y oy)
    (hroom : roomOk it ys.length = true) : Does P N ro id i h w (do pure (Next.value (← Builtin.append_ ts ty #[.slice base 0 0, y]))) (.row id r.z ys.length) (fset h id (.rows r ys)) := by
  by_cases h0 : ys.length = 0
  · have : ys = [] := List.eq_nil_of_length_eq_zero h0
    subst this
    have : oy = [] := by have := A.rel.nil_inv; exact this
    subst this
    have hr := A.room (base := base) (len := 0) (cap := 0) (w' := w) (Nat.le_refl _) (fun a _ => rfl) (fun _ => rfl)
    exact does_void R ro hid hi (run_v hr)
  · have := app_newY (ty := ty) R ro hid hi A (xs := []) (base := base) (cap := 0) src_none (by simp; omega) (by simpa using hroom)
    simpa using this

theorem app_rowY (R : Rel P N i h w) {ro : Nat} {id b s n c : Nat} (hid : h id = none) (hi : i.free id) (hro : ro ≤ b) {ts : Array TypeId} {ty : TypeId} {r : RC} {it : TypeInfo}
    {l : List r.den} {g : Img} (hb : h b = some (.rows r l)) (hg : i b = some g) (hgz : g.esz = r.z) {cap' : Nat} {a' : Addr} (hcap : CapOk g (s * r.z) c cap') (ha : cap' ≠ 0 → a' = ⟨g.B, g.off + s * r.z, none⟩) (hn : n ≤ c) (hend : s + c = l.length)
    {y : Value} {ys : List r.den} {oy : List Value} (A : Ay P w i ts ty r it ys y oy) (hgt : n + ys.length ≤ c → n = c)
    (hroom : roomOk it (n + ys.length) = true) :
    Does P N ro id i h w (do pure (Next.value (← Builtin.append_ ts ty #[.slice (some a') n cap', y]))) (.row id r.z (n + ys.length)) (fset (fset h b .dead) id (.rows r ((l.drop s).take n ++ ys))) := by
  have hbid : id ≠ b := fun e => by subst e; rw [hid] at hb; cases hb
  have hR : CRel N i w g (r.all l) r.z 1 := R.obj b _ g hb hg
  have hR' := hR
  obtain ⟨g1, g2, g3, g4, g6⟩ := hR'
  obtain ⟨g7, g8, g9, g10⟩ := g6 (by decide)
  have hsn : s * r.z + n * r.z ≤ (r.all l).length := by
    rw [r.all_length, ← Nat.add_mul]; exact Nat.mul_le_mul_right _ (by omega)
  obtain ⟨os, o1, o2, o3⟩ := hR.cellsAt hsn
  rw [r.all_drop, r.all_take] at o1
  have hlen : ((l.drop s).take n).length = n := by simp; omega
  have hx : Src P w i (r.all ((l.drop s).take n)) r.z ((l.drop s).take n).length (.slice (some a') ((l.drop s).take n).length cap') := by
    rw [hlen]
    refine src_cells o1 o3 (by rw [r.all_length, hlen]) ?_ ha
    rcases hcap with rfl | ⟨_, _, h3, _⟩ <;> omega
  by_cases hr : n + ys.length ≤ cap'
  · -- in its place
    have hy1 := A.rel
    have l2 := lrel_len hy1 (r.all_length ys)
    have htot : s * r.z + cap' * r.z ≤ g.total := by
      rcases hcap with rfl | ⟨c1, c2, c3, c4, c5⟩
      · rw [← Nat.add_mul, hend, ← r.all_length]; exact g8
      · rw [hgz] at c4; exact c4
    have hmul : n * r.z + ys.length * r.z ≤ cap' * r.z := by rw [← Nat.add_mul]; exact Nat.mul_le_mul_right _ hr
    have hsome : ∀ j, j < oy.length → (w.cell? ⟨g.B, g.off + (s * r.z + n * r.z) + 0 + j, none⟩).isSome = true := fun j hj => by
      have := g9 (s * r.z + n * r.z + j) (by omega)
      rwa [show g.off + (s * r.z + n * r.z + j) = g.off + (s * r.z + n * r.z) + 0 + j by omega] at this
    have hfr : ∀ j, j < oy.length → w.frozen? ⟨g.B, g.off + (s * r.z + n * r.z) + 0 + j, none⟩ = false := fun j hj => g10 _
    have hrun := run_storeCells_cells (P := P) g.B (g.off + (s * r.z + n * r.z)) oy 0 w hsome hfr (hy1.cellOk (r.all_ok ys))
    have hcin := fun k => World.cell?_setCells_in g.B oy (g.off + (s * r.z + n * r.z) + 0) w hsome k
    have hstore : ∀ a, some a' = some a → (storeCells (a.add (n * it.size)) oy).run P w = .ok () (w.setCells g.B (g.off + (s * r.z + n * r.z) + 0) oy) := by
      intro a hh
      cases hh
      by_cases hc0 : cap' = 0
      · have h1 : ys.length = 0 := by omega
        have : oy = [] := by cases oy with | nil => rfl | cons _ _ => simp [h1] at l2
        subst this
        rfl
      · rw [ha hc0, A.sz, Addr.add_mk, show g.off + s * r.z + n * r.z = g.off + (s * r.z + n * r.z) by omega]; exact hrun
    have hrr := A.room (base := some a') (len := n) (cap := cap') (w' := w.setCells g.B (g.off + (s * r.z + n * r.z) + 0) oy) hr hstore (fun hh => by cases hh)
    have hRG := R.regrow (w' := w.setCells g.B (g.off + (s * r.z + n * r.z) + 0) oy) (ro := ro) (b := b) (id := id) (g2 := ⟨g.B, g.off + s * r.z, g.total - s * r.z, true, (n + ys.length) * r.z, r.z⟩) hb hg hro rfl hid hi (setCells_size _ _ _ _) (setCells_os _ _ _ _) (setCells_tape _ _ _ _) (setCells_output _ _ _ _)
      (fun B hB hne => setCells_other g.B hne oy _ w) rfl (ob := .rows r ((l.drop s).take n ++ ys)) (by
        have hall : (r.all ((l.drop s).take n ++ ys)).length = (n + ys.length) * r.z := by rw [r.all_length, List.length_append, hlen]
        refine ⟨hall.symm, rfl, rfl, ⟨os ++ oy, by rw [r.all_append]; exact (o1.append hy1).mono (le_upd _ hi.1), fun k v hv => ?_⟩, fun _ => ⟨g7, by rw [hall, Nat.add_mul]; show _ ≤ g.total - s * r.z; omega, fun k hk => ?_, fun k => by rw [World.frozen?_setCells]; exact g10 k⟩⟩
        · rw [List.getElem?_append] at hv
          split at hv
          · rename_i hk
            rw [World.cell?_setCells_out g.B oy _ w _ (fun _ _ => by simp only []; omega)]
            exact o3 k v hv
          · rename_i hk
            have hk2 : k - os.length < oy.length := (List.getElem?_eq_some_iff.1 hv).1
            have := hcin (k - os.length) hk2
            rw [show g.off + (s * r.z + n * r.z) + 0 + (k - os.length) = g.off + s * r.z + k by omega] at this
            rw [this, ← (List.getElem?_eq_some_iff.1 hv).2]
        · have := g9 (s * r.z + k) (by simp at hk; omega)
          rw [← Nat.add_assoc] at this
          exact World.isSome_setCells g.B oy _ w _ this)
    refine ⟨_, _, _, _, run_v hrr, .inl rfl, ?_, hRG.1, hRG.2, fun b hb => ⟨upd_ne i _ hb, rfl⟩⟩
    refine .row (upd_same i id _) rfl rfl ?_ ha
    rcases hcap with hcc | ⟨c1, c2, c3, c4, c5⟩
    · have := hgt (by omega)
      exact .inl (by omega)
    · refine .inr ⟨rfl, by simp, hr, ?_, c5⟩
      simp only [Nat.zero_add]; omega
  · -- in a new block
    obtain ⟨Rd, Sd⟩ := R.put (ro := ro) (o2 := .dead) (w' := w) hb hg hro rfl rfl rfl rfl rfl (fun _ _ _ => rfl) trivial
    have hid' : fset h b .dead id = none := by rw [fset_ne h _ hbid]; exact hid
    have := app_newY (ty := ty) Rd ro hid' hi A (xs := (l.drop s).take n) (base := some a') (cap := cap') hx (by rw [hlen]; omega) (by rw [hlen]; exact hroom)
    rw [hlen] at this
    obtain ⟨nx, i', w', v', d1, d2, d3, d4, d5, d6⟩ := this
    exact ⟨nx, i', w', v', d1, d2, d3, d4, Sd.trans d5, d6⟩

theorem app_new (R : Rel P N i h w) (ro : Nat) {id : Nat} (hid : h id = none) (hi : i.free id) {ts : Array TypeId} {ty t u e : TypeId} {r : RC} {it : TypeInfo} {d : TypeDesc} {zv : Value} (A : App P w ts r it t u e d zv)
    {base : Option Addr} {cap : Nat} {y : Value} {xs ys : List r.den} (hx : Src P w i (r.all xs) r.z xs.length (.slice base xs.length cap)) (hy : Src P w i (r.all ys) r.z ys.length y) (hcap : cap < xs.length + ys.length)
    (hroom : roomOk it (xs.length + ys.length) = true) : Does P N ro id i h w (do pure (Next.value (← Builtin.append_ ts ty #[.slice base xs.length cap, y]))) (.row id r.z (xs.length + ys.length)) (fset h id (.rows r (xs ++ ys))) := by
  obtain ⟨oy, AY⟩ := Ay.of (ty := ty) A hy
  exact app_newY R ro hid hi AY hx hcap hroom
theorem app_void (R : Rel P N i h w) (ro : Nat) {id : Nat} (hid : h id = none) (hi : i.free id) {ts : Array TypeId} {ty t u e : TypeId} {r : RC} {it : TypeInfo} {d : TypeDesc} {zv : Value} (A : App P w ts r it t u e d zv)
    {base : Option Addr} {y : Value} {ys : List r.den} (hy : Src P w i (r.all ys) r.z ys.length y)
    (hroom : roomOk it ys.length = true) : Does P N ro id i h w (do pure (Next.value (← Builtin.append_ ts ty #[.slice base 0 0, y]))) (.row id r.z ys.length) (fset h id (.rows r ys)) := by
  obtain ⟨oy, AY⟩ := Ay.of (ty := ty) A hy
  exact app_voidY R ro hid hi AY hroom
theorem app_row (R : Rel P N i h w) {ro : Nat} {id b s n c : Nat} (hid : h id = none) (hi : i.free id) (hro : ro ≤ b) {ts : Array TypeId} {ty t u e : TypeId} {r : RC} {it : TypeInfo} {d : TypeDesc} {zv : Value} (A : App P w ts r it t u e d zv)
    {l : List r.den} {g : Img} (hb : h b = some (.rows r l)) (hg : i b = some g) (hgz : g.esz = r.z) {cap' : Nat} {a' : Addr} (hcap : CapOk g (s * r.z) c cap') (ha : cap' ≠ 0 → a' = ⟨g.B, g.off + s * r.z, none⟩) (hn : n ≤ c) (hend : s + c = l.length)
    {y : Value} {ys : List r.den} (hy : Src P w i (r.all ys) r.z ys.length y) (hgt : n + ys.length ≤ c → n = c)
    (hroom : roomOk it (n + ys.length) = true) :
    Does P N ro id i h w (do pure (Next.value (← Builtin.append_ ts ty #[.slice (some a') n cap', y]))) (.row id r.z (n + ys.length)) (fset (fset h b .dead) id (.rows r ((l.drop s).take n ++ ys))) := by
  obtain ⟨oy, AY⟩ := Ay.of (ty := ty) A hy
  exact app_rowY R hid hi hro hb hg hgz hcap ha hn hend AY hgt hroom

end Go.Proofs.YtecidokjhplbgaaGreatDoorD

set_option linter.unusedVariables false
set_option linter.unusedSimpArgs false
namespace Go.Proofs.YtecidokjhplbgaaGreatDoorD
open Go Go.RowKit

variable {P : Program} {N : Nat} {i : Inj} {h : HF} {w : World}

theorem setR_mid : ∀ (xs : List CV) (a b c : List CV) (j : Nat), j + xs.length ≤ b.length → setR (a ++ (b ++ c)) (a.length + j) xs = a ++ (setR b j xs ++ c)
  | [], a, b, c, j, h => rfl
  | x :: xs, a, b, c, j, h => by
    simp only [setR, List.length_cons] at h ⊢
    have h1 : (a ++ (b ++ c)).set (a.length + j) x = a ++ (b.set j x ++ c) := by
      rw [List.set_append, if_neg (by omega), Nat.add_sub_cancel_left, List.set_append, if_pos (by omega)]
    rw [h1, Nat.add_assoc, setR_mid xs a (b.set j x) c (j + 1) (by simp; omega)]

theorem setR_all : ∀ (xs b : List CV), xs.length = b.length → setR b 0 xs = xs := by
  intro xs b hl
  apply List.ext_getElem?
  intro k
  rw [setR_get xs b 0 (by omega)]
  split
  · rfl
  · rw [List.getElem?_eq_none (by omega), List.getElem?_eq_none (by omega)]

theorem setR_rows (r : RC) (l ys : List r.den) (o : Nat) (h : o + ys.length ≤ l.length) : setR (r.all l) (o * r.z) (r.all ys) = r.all (l.take o ++ ys ++ l.drop (o + ys.length)) := by
  have h1 : l = l.take o ++ ((l.drop o).take ys.length ++ l.drop (o + ys.length)) := by
    rw [← List.drop_drop, List.take_append_drop, List.take_append_drop]
  have h2 : (r.all (l.take o)).length = o * r.z := by rw [r.all_length]; congr 1; simp; omega
  have h3 : (r.all ((l.drop o).take ys.length)).length = ys.length * r.z := by rw [r.all_length]; congr 1; simp; omega
  have h4 : r.all l = r.all (l.take o) ++ (r.all ((l.drop o).take ys.length) ++ r.all (l.drop (o + ys.length))) := by rw [← r.all_append, ← r.all_append, ← h1]
  rw [h4, ← h2]
  have := setR_mid (r.all ys) (r.all (l.take o)) (r.all ((l.drop o).take ys.length)) (r.all (l.drop (o + ys.length))) 0 (by rw [h3, r.all_length]; omega)
  rw [Nat.add_zero] at this
  rw [this, setR_all _ _ (by rw [h3, r.all_length]), r.all_append, r.all_append, List.append_assoc]

theorem frz1_ok {ro : Nat} {x x2 : CV} {ef : Eff} (e : frz1 ro h x = some (x2, ef)) : cellOk x2 = true ∧ x ≠ .junk := by
  unfold frz1 at e
  split at e
  · split at e
    · rename_i r l hb
      cases hc : (Nat.ble ro _ && Nat.beq _ r.z) with
      | false => rw [hc] at e; cases e
      | true => rw [hc] at e; cases e; exact ⟨rfl, by simp⟩
    · cases e
  · split at e
    · rename_i r l hb
      cases hc : (Nat.ble ro _ && Nat.beq _ r.z) with
      | false => rw [hc] at e; cases e
      | true => rw [hc] at e; cases e; exact ⟨rfl, by simp⟩
    · cases e
  all_goals first
    | (cases e; exact ⟨rfl, by simp⟩)
    | cases e
theorem frzL_ok {ro : Nat} : ∀ {xs : List CV} {h : HF} {xs2 : List CV} {ef : Eff}, frzL ro h xs = some (xs2, ef) → xs2.all cellOk = true
  | [], h, xs2, ef, e => by simp only [frzL, Option.some.injEq, Prod.mk.injEq] at e; obtain ⟨rfl, rfl⟩ := e; rfl
  | x :: xs, h, xs2, ef, e => by
    simp only [frzL] at e
    split at e
    · rename_i v' e1 h1
      split at e
      · rename_i vs es h2
        cases e
        simp only [List.all_cons, (frz1_ok h1).1, frzL_ok h2, Bool.and_self]
      · cases e
    · cases e

theorem CRel.weaken {vs vs2 : List CV} {g : Img} {ez m : Nat} (h : CRel N i w g vs ez m) (hl : vs2.length = vs.length) (hr : ∀ ys, LRel i vs ys → LRel i vs2 ys) : CRel N i w g vs2 ez m := by
  obtain ⟨h1, h2, h3, ⟨vs', h4, h5⟩, h6⟩ := h
  exact ⟨by rw [h1, hl], h2, h3, ⟨vs', hr _ h4, h5⟩, fun hm => by rw [hl]; exact h6 hm⟩

theorem tappend_sound (R : Rel P N i h w) {ro id : Nat} (hi : i.free id) {ts : Array TypeId} {ty t u e' : TypeId} {r : RC} {it : TypeInfo} {d : TypeDesc} (h0 : ts[0]? = some t) (h1 : ts[1]? = some u) (hu : P.underlying t = some (.slice e')) (hd : P.underlying u = some d)
    (hnd : isIntD d = false) (hit : P.info? e' = some it) {x y v : CV} {x' y' : Value} {ef : Eff} (hx : VRel i x x') (hy : VRel i y y')
    (e : (tappend ro id r it x y h).ev = some (v, ef)) : Does P N ro id i h w (do pure (Next.value (← Builtin.append_ ts ty #[x', y']))) v (eall h ef) := by
  unfold tappend at e
  obtain ⟨hc, e0⟩ := ev_bif e
  clear e
  simp only [Bool.and_eq_true, nble, nbeq, decide_eq_true_eq] at hc
  obtain ⟨⟨⟨hb1, hb2⟩, hsz⟩, hzo⟩ := hc
  obtain ⟨zv, hzv, hzs⟩ : ∃ zv, it.zero = some zv ∧ zv.cells.size = r.z := by
    unfold zeroOk at hzo
    split at hzo
    · rename_i zv hz; rw [nbeq, decide_eq_true_eq] at hzo; exact ⟨zv, hz, hzo⟩
    · cases hzo
  obtain ⟨⟨ys, ef1⟩, he1, e⟩ := ev_bind _ e0
  clear e0
  simp only [] at e
  obtain ⟨i1, F, hs⟩ := srcR_sound R hy he1
  rw [fupd_eall] at e
  have A : App P w ts r it t u e' d zv := ⟨h0, h1, hu, hd, hnd, hit, hzv, hzs, hb1, hb2, hsz⟩
  have hi1 : i1.free id := ⟨(F.blk id).1.trans hi.1, (F.blk id).2.trans hi.2⟩
  have hx1 := hx.mono F.step.ext
  split at e
  · obtain ⟨hroom, e⟩ := ev_when e
    obtain ⟨hid, hp⟩ := mkRow_inv e
    cases hp
    obtain ⟨_, _, rfl⟩ := hx1.nilSlice_inv
    rw [eall_append]
    exact (app_void F.rel ro hid hi1 A hs hroom).after F
  · obtain ⟨hroom, e⟩ := ev_when e
    obtain ⟨hid, hp⟩ := mkRow_inv e
    cases hp
    obtain ⟨a, rfl⟩ := hx1.empty_inv
    rw [eall_append]
    exact (app_void F.rel ro hid hi1 A hs hroom).after F
  · rename_i b z n
    split at e
    · rename_i r' l hb
      split at e
      · rename_i l2 hc
        obtain ⟨hrr, hll⟩ := rcast_eq hc
        subst hrr
        simp only [] at hll
        subst hll
        obtain ⟨hcc, e⟩ := ev_bif e
        simp only [Bool.and_eq_true, nble, nbeq, decide_eq_true_eq] at hcc
        obtain ⟨hro, hz⟩ := hcc
        obtain ⟨hroom, e⟩ := ev_when e
        obtain ⟨hid, hp⟩ := mkRow_inv e
        cases hp
        subst hz
        rw [eall_append, eall_append]
        rcases hx1.row_inv with ⟨g, a', cap', rfl, hg, hgz, hss, hcap, ha⟩ | ⟨rfl, hvd, a, rfl⟩
        · have hn := row_len F.rel hb hg rfl hss
          subst hn
          have := app_row (ty := ty) (s := 0) (n := l2.length) (c := l2.length) F.rel hid hi1 hro A hb hg hgz (by simpa using hcap) (by simpa using ha) (Nat.le_refl _) (by simp) hs (fun _ => rfl) hroom
          simp only [List.drop_zero, List.take_length] at this
          exact this.after F
        · have hl := (F.rel.void b hvd).2 _ _ hb
          subst hl
          obtain ⟨i2, F2⟩ := dead_frz F.rel hb hro
          have hid2 : fset (eall h ef1) b .dead id = none := F2.none_ id hid
          have hi2 : i2.free id := ⟨(F2.blk id).1.trans hi1.1, (F2.blk id).2.trans hi1.2⟩
          have := app_void (ty := ty) (base := a) F2.rel ro hid2 hi2 A (hs.mono F2.step.ext) (by simpa using hroom)
          have h3 := (this.after F2).after F
          simpa [eall] using h3
      · exact (ev_fail e).elim
    · exact (ev_fail e).elim
  · rename_i b z s n c
    split at e
    · rename_i r' l hb
      split at e
      · rename_i l2 hc
        obtain ⟨hrr, hll⟩ := rcast_eq hc
        subst hrr
        simp only [] at hll
        subst hll
        obtain ⟨hcc, e⟩ := ev_bif e
        simp only [Bool.and_eq_true, nble, nbeq, decide_eq_true_eq] at hcc
        obtain ⟨hro, hz⟩ := hcc
        subst hz
        rcases ev_ite e with ⟨hle, e⟩ | ⟨hle, e⟩
        · rw [nble, decide_eq_true_eq] at hle
          obtain ⟨hsc, e⟩ := ev_when e
          rw [nble, decide_eq_true_eq] at hsc
          cases ev_ret e
          rw [eall_append]
          obtain ⟨hy0, oy, hy1, hy2⟩ := hs
          rcases hx1.win_inv with ⟨g, a', cap', rfl, hg, hgz, hcap, ha, hnc⟩ | ⟨rfl, rfl, a, rfl⟩
          · have hcc : c ≤ cap' := by rcases hcap with rfl | ⟨_, _, h3, _⟩ <;> omega
            have hxl : ((s + n) * r'.z) + (r'.all ys).length ≤ (r'.all l2).length := by
              rw [r'.all_length, r'.all_length, ← Nat.add_mul]; exact Nat.mul_le_mul_right _ (by omega)
            obtain ⟨w', q1, q2, q3⟩ := CRel.store (ob2 := .rows r' (l2.take (s + n) ++ ys ++ l2.drop (s + n + ys.length))) F.rel hb hg hro rfl (F.rel.obj b _ g hb hg) (fun {w'} hcr => by
              rw [setR_rows r' l2 ys (s + n) (by omega)] at hcr; exact hcr) (by decide) hxl (r'.all_ok ys) hy1
            have hst : ∀ a, some a' = some a → (storeCells (a.add (n * it.size)) oy).run P w = .ok () w' := by
              intro a hh
              cases hh
              by_cases hc0 : cap' = 0
              · have h1 : ys.length = 0 := by omega
                have l2 := lrel_len hy1 (r'.all_length ys)
                have : oy = [] := by cases oy with | nil => rfl | cons _ _ => simp [h1] at l2
                subst this
                have h5 : w' = w := by simp [storeCells] at q1; exact q1.symm
                rw [h5]; rfl
              · rw [ha hc0, A.sz, Addr.add_mk, show g.off + s * r'.z + n * r'.z = g.off + (s + n) * r'.z by rw [Nat.add_mul]; omega]; exact q1
            have hr := append_room_run (ty := ty) A.h0 A.h1 A.hu A.hd A.hnd A.hi (base := some a') (len := n) (cap := cap') (new := oy) (w' := w') (hy0 w rfl) (by omega) (by rw [A.sz]; exact hy2 w rfl) hst (fun hh => by cases hh)
            have D : Does P N ro id i1 (eall h ef1) w _ (.win b r'.z s (n + ys.length) c) (fset (eall h ef1) b (.rows r' (l2.take (s + n) ++ ys ++ l2.drop (s + n + ys.length)))) :=
              ⟨_, i1, w', _, run_v hr, .inl rfl, .win hg hgz hcap ha hle (by have hsz : g.size = (r'.all l2).length := (F.rel.obj b _ g hb hg).1; rw [hsz, r'.all_length]; exact Nat.mul_le_mul_right _ (by omega)), q2, q3, fun _ _ => ⟨rfl, rfl⟩⟩
            exact D.after F
          · have h1 : ys = [] := List.eq_nil_of_length_eq_zero (by omega)
            subst h1
            have : oy = [] := hy1.nil_inv
            subst this
            have hr := append_room_run (ty := ty) A.h0 A.h1 A.hu A.hd A.hnd A.hi (base := a) (len := 0) (cap := 0) (new := []) (w' := w) (hy0 w rfl) (Nat.le_refl _) (by rw [A.sz]; exact hy2 w rfl) (fun a _ => rfl) (fun _ => rfl)
            have hsame : fset (eall h ef1) b (.rows r' (l2.take (s + 0) ++ [] ++ l2.drop (s + 0 + ([] : List r'.den).length))) = eall h ef1 := by
              funext k
              by_cases hk : k = b
              · subst hk; rw [fset_eq, hb]; simp
              · rw [fset_ne _ _ hk]
            have D : Does P N ro id i1 (eall h ef1) w _ (.win b r'.z s (0 + 0) 0) (eall h ef1) :=
              ⟨_, i1, w, _, run_v hr, .inl rfl, .winVoid, F.rel, .refl _ _ _ _, fun _ _ => ⟨rfl, rfl⟩⟩
            simp only [eall]
            rw [hsame]
            exact D.after F
        · rw [nble, decide_eq_false_iff_not] at hle
          obtain ⟨hroom, e⟩ := ev_when e
          simp only [Bool.and_eq_true, nbeq, decide_eq_true_eq] at hroom
          obtain ⟨hroom, hend⟩ := hroom
          obtain ⟨hid, hp⟩ := mkRow_inv e
          cases hp
          rw [eall_append, eall_append]
          rcases hx1.win_inv with ⟨g, a', cap', rfl, hg, hgz, hcap, ha, hnc⟩ | ⟨rfl, rfl, a, rfl⟩
          · exact (app_row (ty := ty) F.rel hid hi1 hro A hb hg hgz hcap ha hnc hend hs (fun hh => (hle hh).elim) hroom).after F
          · obtain ⟨i2, F2⟩ := dead_frz F.rel hb hro
            have hid2 : fset (eall h ef1) b .dead id = none := F2.none_ id hid
            have hi2 : i2.free id := ⟨(F2.blk id).1.trans hi1.1, (F2.blk id).2.trans hi1.2⟩
            have h3 := app_void (ty := ty) (base := a) (r := r') F2.rel ro hid2 hi2 A (hs.mono F2.step.ext) (by simpa using hroom)
            have := (h3.after F2).after F
            simpa [eall] using this
      · exact (ev_fail e).elim
    · exact (ev_fail e).elim
  · rename_i b o
    split at e
    · rename_i vs ez hb
      obtain ⟨hroom, e⟩ := ev_when e
      obtain ⟨hid, hp⟩ := mkRow_inv e
      cases hp
      rw [eall_append]
      obtain ⟨g, a', cap', rfl, hg, hc, ha, hl⟩ := hx1.slice_inv
      have hgr : g.grown = false := (F.rel.obj b _ g hb hg).2.2.1
      have hce : cap' = 0 := by rcases hc with rfl | ⟨c1, _⟩; (· rfl); (· rw [hgr] at c1; cases c1)
      subst hce
      exact (app_void F.rel ro hid hi1 A hs hroom).after F
    · exact (ev_fail e).elim
  · rename_i b o len cap hno
    split at e
    · rename_i vs ez hb
      obtain ⟨⟨xs, ef2⟩, he2, e⟩ := ev_bind _ e
      simp only [] at e
      obtain ⟨hroom, e⟩ := ev_when e
      simp only [Bool.and_eq_true, Nat.blt_eq] at hroom
      obtain ⟨hroom, hcap⟩ := hroom
      obtain ⟨hid, hp⟩ := mkRow_inv e
      cases hp
      obtain ⟨i2, F2, hs2⟩ := srcR_sound F.rel hx1 he2
      rw [fupd_eall, eall_append] at hid
      rw [eall_append, eall_append]
      have hi2 : i2.free id := ⟨(F2.blk id).1.trans hi1.1, (F2.blk id).2.trans hi1.2⟩
      obtain ⟨g, a', cap', rfl, hg, hc, ha, hl⟩ := hx1.slice_inv
      have hgr : g.grown = false := (F.rel.obj b _ g hb hg).2.2.1
      have hce : cap' = cap := by rcases hc with rfl | ⟨c1, _⟩; (· rfl); (· rw [hgr] at c1; cases c1)
      have hxl : len = xs.length := by
        have := hs2.1 w rfl
        simp [Builtin.lenOf] at this
        exact this
      subst hxl
      exact ((app_new (ty := ty) F2.rel ro hid hi2 A hs2 (hs.mono F2.step.ext) (by omega) hroom).after F2).after F
    · exact (ev_fail e).elim
  · exact (ev_fail e).elim

end Go.Proofs.YtecidokjhplbgaaGreatDoorD

set_option linter.unusedVariables false
set_option linter.unusedSimpArgs false
namespace Go.Proofs.YtecidokjhplbgaaGreatDoorD
open Go Go.RowKit

variable {P : Program} {N : Nat} {i : Inj} {h : HF} {w : World}

theorem slice_run {t e : TypeId} {z : Nat} (hu : P.underlying t = some (.slice e)) (hz : pSize P e = some z) {base : Option Addr} {len cap cap' l hh m : Nat} {lo hi mx : Option CV} (hb : cbounds len cap lo hi mx = some (l, hh, m)) (hcap : cap ≤ cap') (w : World) :
    (Instr.sliceAt t (.slice base len cap') (lo.map CV.toV) (hi.map CV.toV) (mx.map CV.toV)).run P w = .ok (.slice (if (if mx = none then cap' else m) = l then base else base.map (·.add (l * z))) (hh - l) ((if mx = none then cap' else m) - l)) w ∧ l ≤ hh ∧ hh ≤ m ∧ m ≤ cap ∧ (mx = none → m = cap) := by
  obtain ⟨h1, h2, h3, h4, h5⟩ := cbounds_run (P := P) (isS := true) hb hcap w
  refine ⟨?_, h2, h3, h4, h5⟩
  simp only [Instr.sliceAt, Instr.slice, Sem.run_bind, run_underlying hu, Result.andThen_ok, h1, run_pSize hz, Sem.run_pure]

theorem tbnd_inv {v : Option CV} {y : Nat} {a : Option Nat} (e : (tbnd v y).ev = some a) : (v = none ∧ a = none) ∨ ∃ k n, v = some (.int k n) ∧ a = some n.toNat ∧ 0 ≤ n ∧ n ≤ (y : Int) := by
  unfold tbnd at e
  split at e
  · cases ev_ret e; exact .inl ⟨rfl, rfl⟩
  · rename_i k n
    obtain ⟨h1, h2⟩ := ev_when e
    cases ev_ret h2
    simp only [Bool.and_eq_true, decide_eq_true_eq] at h1
    exact .inr ⟨k, n, rfl, rfl, h1.1, h1.2⟩
  · exact (ev_fail e).elim

theorem trange_inv {lo hi : Option CV} {n : Nat} {k : Option Nat → Option Nat → T CV} {v : CV} (e : (trange lo hi n k).ev = some v) :
    ∃ a b, (k a b).ev = some v ∧ cbounds n n lo hi none = some (lo0 a, hi0 n b, n) ∧ lo0 a ≤ hi0 n b ∧ hi0 n b ≤ n := by
  unfold trange at e
  obtain ⟨b, h1, e⟩ := ev_bind _ e
  obtain ⟨a, h2, e⟩ := ev_bind _ e
  refine ⟨a, b, e, ?_⟩
  rcases tbnd_inv h1 with ⟨rfl, rfl⟩ | ⟨k1, n1, rfl, rfl, p1, p2⟩
  · rcases tbnd_inv h2 with ⟨rfl, rfl⟩ | ⟨k2, n2, rfl, rfl, p3, p4⟩
    · exact ⟨by simp [cbounds, cbd, lo0, hi0, noHigh, nble], Nat.zero_le _, Nat.le_refl _⟩
    · simp only [hi0] at p4
      refine ⟨?_, by simp [lo0, hi0]; omega, Nat.le_refl _⟩
      have : n2.toNat ≤ n := by omega
      simp [cbounds, cbd, lo0, hi0, noHigh, nble, p3, p4, this]
  · rcases tbnd_inv h2 with ⟨rfl, rfl⟩ | ⟨k2, n2, rfl, rfl, p3, p4⟩
    · have : n1.toNat ≤ n := by omega
      refine ⟨?_, Nat.zero_le _, by simp [hi0]; omega⟩
      simp [cbounds, cbd, lo0, hi0, noHigh, nble, p1, p2, this]
    · simp only [hi0] at p4
      obtain ⟨m1, rfl⟩ := Int.eq_ofNat_of_zero_le p1
      obtain ⟨m2, rfl⟩ := Int.eq_ofNat_of_zero_le p3
      simp only [Int.toNat_natCast] at p4 ⊢
      have q1 : m1 ≤ n := by omega
      have q2 : m2 ≤ m1 := by omega
      refine ⟨?_, by simp [lo0, hi0]; omega, by simp [hi0]; omega⟩
      simp [cbounds, cbd, lo0, hi0, noHigh, nble, q1, q2]

theorem lpart_eq {α : Type} (l : List α) (a b : Option Nat) : lpart l a b = (l.take (hi0 l.length b)).drop (lo0 a) := by
  cases a <;> cases b <;> simp [lpart, lo0, hi0]

theorem trangeC_inv {lo hi : Option CV} {n c : Nat} (hnc : n ≤ c) {k : Option Nat → Option Nat → T CV} {v : CV} (e : (trangeC lo hi n c k).ev = some v) :
    ∃ a b, (k a b).ev = some v ∧ cbounds n c lo hi none = some (lo0 a, hi0 n b, c) ∧ lo0 a ≤ hi0 n b ∧ hi0 n b ≤ c := by
  unfold trangeC at e
  obtain ⟨b, h1, e⟩ := ev_bind _ e
  obtain ⟨a, h2, e⟩ := ev_bind _ e
  refine ⟨a, b, e, ?_⟩
  rcases tbnd_inv h1 with ⟨rfl, rfl⟩ | ⟨k1, n1, rfl, rfl, p1, p2⟩
  · rcases tbnd_inv h2 with ⟨rfl, rfl⟩ | ⟨k2, n2, rfl, rfl, p3, p4⟩
    · exact ⟨by simp [cbounds, cbd, lo0, hi0, noHigh, nble, hnc], Nat.zero_le _, hnc⟩
    · simp only [hi0] at p4
      refine ⟨?_, by simp [lo0, hi0]; omega, hnc⟩
      have : n2.toNat ≤ n := by omega
      simp [cbounds, cbd, lo0, hi0, noHigh, nble, p3, p4, this, hnc]
  · rcases tbnd_inv h2 with ⟨rfl, rfl⟩ | ⟨k2, n2, rfl, rfl, p3, p4⟩
    · have : n1.toNat ≤ c := by omega
      refine ⟨?_, Nat.zero_le _, by simp [hi0]; omega⟩
      simp [cbounds, cbd, lo0, hi0, noHigh, nble, p1, p2, this]
    · simp only [hi0] at p4
      obtain ⟨m1, rfl⟩ := Int.eq_ofNat_of_zero_le p1
      obtain ⟨m2, rfl⟩ := Int.eq_ofNat_of_zero_le p3
      simp only [Int.toNat_natCast] at p4 ⊢
      have q1 : m1 ≤ c := by omega
      have q2 : m2 ≤ m1 := by omega
      refine ⟨?_, by simp [lo0, hi0]; omega, by simp [hi0]; omega⟩
      simp [cbounds, cbd, lo0, hi0, noHigh, nble, q1, q2]
theorem tr3_inv {lo hi : Option CV} {mv : CV} {n : Nat} {k : Nat → Nat → Nat → T CV} {v : CV} (e : (tr3 lo hi mv n k).ev = some v) :
    ∃ l h m, (k l h m).ev = some v ∧ cbounds n n lo hi (some mv) = some (l, h, m) ∧ l ≤ h ∧ h ≤ m ∧ m ≤ n := by
  unfold tr3 at e
  obtain ⟨m, h1, e2⟩ := ev_bind _ e
  clear e
  split at e2
  · exact (ev_fail e2).elim
  · rename_i hv
    obtain ⟨b, h2, e3⟩ := ev_bind _ e2
    obtain ⟨a, h3, e4⟩ := ev_bind _ e3
    clear e2 e3
    rcases tbnd_inv h1 with ⟨h4, _⟩ | ⟨k1, n1, h4, rfl, p1, p2⟩
    · cases h4
    cases h4
    rcases tbnd_inv h2 with ⟨h4, _⟩ | ⟨k2, n2, h4, rfl, p3, p4⟩
    · cases h4
    cases h4
    refine ⟨_, _, _, e4, ?_⟩
    obtain ⟨m1, rfl⟩ := Int.eq_ofNat_of_zero_le p1
    obtain ⟨m2, rfl⟩ := Int.eq_ofNat_of_zero_le p3
    simp only [Int.toNat_natCast, lo0] at p4 h3 ⊢
    have q1 : m1 ≤ n := by omega
    have q2 : m2 ≤ m1 := by omega
    rcases tbnd_inv h3 with ⟨rfl, rfl⟩ | ⟨k3, n3, rfl, rfl, p5, p6⟩
    · exact ⟨by simp [cbounds, cbd, lo0, noHigh, nble, q1, q2], Nat.zero_le _, q2, q1⟩
    · obtain ⟨m3, rfl⟩ := Int.eq_ofNat_of_zero_le p5
      simp only [Int.toNat_natCast, lo0] at p6 ⊢
      have q3 : m3 ≤ m2 := by omega
      exact ⟨by simp [cbounds, cbd, lo0, noHigh, nble, q1, q2, q3], q3, q2, q1⟩

theorem empty_bounds {lo hi mx : Option CV} {n c : Nat} (h : (noLow lo && (isZero mx && isZero hi)) = true) : cbounds n c lo hi mx = some (0, 0, 0) ∧ mx ≠ none := by
  simp only [Bool.and_eq_true] at h
  obtain ⟨h3, h1, h2⟩ := h
  unfold isZero at h1 h2
  split at h1 <;> first | (cases h1; done) | skip
  split at h2 <;> first | (cases h2; done) | skip
  unfold noLow at h3
  split at h3 <;> first | (cases h3; done) | skip
  refine ⟨?_, by simp⟩
  simp [cbounds, cbd, noHigh, nble]

theorem tslice_sound (R : Rel P N i h w) {t : TypeId} {x : CV} {y : Value} {lo hi mx : Option CV} {v : CV} (hx : VRel i x y) (e : (tslice P t x lo hi mx (.of (cslice P h t x lo hi mx))).ev = some v) :
    ∃ v', (Instr.sliceAt t y (lo.map CV.toV) (hi.map CV.toV) (mx.map CV.toV)).run P w = .ok v' w ∧ VRel i v v' := by
  unfold tslice at e
  split at e
  · -- a row that nobody writes
    rename_i r l
    split at e
    · rename_i el hu
      split at e
      · rename_i z hz
        obtain ⟨hzz, e1⟩ := ev_bif e
        clear e
        rw [nbeq, decide_eq_true_eq] at hzz
        subst hzz
        cases hem : (noLow lo && (isZero mx && isZero hi)) with
        | true =>
          rw [hem] at e1
          simp only [cond_true] at e1
          cases ev_ret e1
          rcases hx.pl_inv with ⟨B, o, c, ys, a', rfl, h1, h2, h3, h4⟩ | ⟨rfl, a, c, rfl⟩
          · obtain ⟨q1, q2⟩ := empty_bounds (n := l.length) (c := c) hem
            have := (slice_run (base := some a') hu hz q1 (Nat.le_refl c) w).1
            simp only [if_neg q2, Nat.sub_zero] at this
            exact ⟨_, this, .empty⟩
          · obtain ⟨q1, q2⟩ := empty_bounds (n := 0) (c := c) hem
            have := (slice_run (base := a) hu hz q1 (Nat.le_refl c) w).1
            simp only [if_neg q2, Nat.sub_zero] at this
            exact ⟨_, this, .empty⟩
        | false =>
          rw [hem] at e1
          simp only [cond_false] at e1
          split at e1
          · obtain ⟨a, b, e2, hb, q1, q2⟩ := trange_inv e1
            cases ev_ret e2
            rw [lpart_eq]
            rcases hx.pl_inv with ⟨B, o, c, ys, a', rfl, h1, h2, h3, h4⟩ | ⟨rfl, a', c, rfl⟩
            · have hr := (slice_run (base := some a') hu hz hb h3 w).1
              simp only [if_true] at hr
              refine ⟨_, hr, ?_⟩
              have hlen : ((l.take (hi0 l.length b)).drop (lo0 a)).length = hi0 l.length b - lo0 a := by simp; omega
              by_cases h0 : hi0 l.length b - lo0 a = 0
              · have : (l.take (hi0 l.length b)).drop (lo0 a) = [] := List.eq_nil_of_length_eq_zero (by omega)
                rw [this, h0]
                exact .plNil (fun hh => by split at hh <;> cases hh)
              · have hne : c ≠ lo0 a := by omega
                rw [if_neg hne, ← hlen]
                have hc0 : c ≠ 0 := by omega
                have := h4 hc0; subst this
                have hl2 := ((h1.take (hi0 l.length b * r.z)).drop (lo0 a * r.z))
                rw [r.all_take, r.all_drop] at hl2
                simp only [Option.map_some, Addr.add_mk]
                refine pl_of_cells (B := B) (o := o + lo0 a * r.z) hl2 (fun k v hv => ?_) (by rw [hlen]; omega) (fun _ => rfl)
                rw [List.getElem?_drop, List.getElem?_take] at hv
                split at hv
                · rw [Nat.add_assoc]; exact h2 _ v hv
                · cases hv
            · have hr := (slice_run (base := a') hu hz hb (Nat.zero_le c) w).1
              refine ⟨_, hr, ?_⟩
              have h0 : hi0 0 b = 0 := by have := q2; simp at this; exact this
              simp only [List.length_nil] at h0 ⊢
              rw [h0]
              simp only [List.take_nil, List.drop_nil, Nat.zero_sub]
              refine .plNil (fun hh => ?_)
              rcases hx.plNil_inv with ⟨a2, c2, e⟩ | e
              · cases e; simp at hh; split at hh <;> simp at hh
              · cases e; simp
          · exact (ev_fail e1).elim
      · exact (ev_fail e).elim
    · exact (ev_fail e).elim
  · -- a row of the run's own
    rename_i b0 z n
    split at e
    · rename_i el hu
      split at e
      · rename_i z' hz
        obtain ⟨hzz, e1⟩ := ev_bif e
        clear e
        rw [nbeq, decide_eq_true_eq] at hzz
        subst hzz
        cases hem : (noLow lo && (isZero mx && isZero hi)) with
        | true =>
          rw [hem] at e1
          simp only [cond_true] at e1
          cases ev_ret e1
          rcases hx.row_inv with ⟨g, a', cap', rfl, hg, hgz, hs, hcap, ha⟩ | ⟨rfl, hvd, a, rfl⟩
          · obtain ⟨q1, q2⟩ := empty_bounds (n := n) (c := cap') hem
            have := (slice_run (base := some a') hu hz q1 (Nat.le_refl cap') w).1
            simp only [if_neg q2, Nat.sub_zero] at this
            exact ⟨_, this, .empty⟩
          · obtain ⟨q1, q2⟩ := empty_bounds (n := 0) (c := 0) hem
            have := (slice_run (base := a) hu hz q1 (Nat.le_refl 0) w).1
            simp only [if_neg q2, Nat.sub_zero] at this
            exact ⟨_, this, .empty⟩
        | false =>
          rw [hem] at e1
          simp only [cond_false] at e1
          split at e1
          · obtain ⟨a, b, e2, hb, q1, q2⟩ := trange_inv e1
            cases ev_ret e2
            rcases hx.row_inv with ⟨g, a', cap', rfl, hg, hgz, hs, hcap, ha⟩ | ⟨rfl, hvd, a', rfl⟩
            · have hcc : n ≤ cap' := by rcases hcap with rfl | ⟨_, _, h3, _⟩ <;> omega
              have hr := (slice_run (base := some a') hu hz hb hcc w).1
              simp only [if_true] at hr
              refine ⟨_, hr, ?_⟩
              have hm : lo0 a * z' + (n - lo0 a) * z' = n * z' := by rw [← Nat.add_mul]; congr 1; omega
              have hm2 : lo0 a * z' + (cap' - lo0 a) * z' = cap' * z' := by rw [← Nat.add_mul]; congr 1; omega
              have hcap2 : CapOk g (lo0 a * z') (n - lo0 a) (cap' - lo0 a) := by
                rcases hcap with rfl | ⟨c1, c2, c3, c4, c5⟩
                · exact .inl rfl
                · refine .inr ⟨c1, ?_, by omega, ?_, by omega⟩
                  · rw [hgz] at c2 ⊢; omega
                  · rw [hgz] at c4 ⊢; omega
              by_cases hcl : cap' = lo0 a
              · rw [if_pos hcl]
                refine .win hg hgz hcap2 (fun hne => absurd (by omega) hne) (by omega) (by rw [← hs]; exact Nat.mul_le_mul_right _ (by omega))
              · rw [if_neg hcl]
                simp only [Option.map_some]
                refine .win hg hgz hcap2 (fun _ => ?_) (by omega) (by rw [← hs]; exact Nat.mul_le_mul_right _ (by omega))
                rw [ha (by omega), Addr.add_mk]
            · have hr := (slice_run (base := a') hu hz hb (Nat.le_refl 0) w).1
              refine ⟨_, hr, ?_⟩
              have h0 : hi0 0 b = 0 := by have := q2; simp at this; exact this
              simp only [h0, Nat.zero_sub, if_true]
              exact .winVoid
          · rename_i mv
            obtain ⟨a, c, m, e2, hb, q1, q2, q3⟩ := tr3_inv e1
            cases ev_ret e2
            rcases hx.row_inv with ⟨g, a', cap', rfl, hg, hgz, hs, hcap, ha⟩ | ⟨rfl, hvd, a', rfl⟩
            · have hcc : n ≤ cap' := by rcases hcap with rfl | ⟨_, _, h3, _⟩ <;> omega
              have hr := (slice_run (base := some a') hu hz hb hcc w).1
              simp only [reduceCtorEq, if_false] at hr
              refine ⟨_, hr, ?_⟩
              have hgs : (a + (m - a)) * z' ≤ g.size := by rw [← hs]; exact Nat.mul_le_mul_right _ (by omega)
              by_cases hcl : m = a
              · rw [if_pos hcl]
                exact .win hg hgz (.inl rfl) (fun hne => absurd (by omega) hne) (by omega) hgs
              · rw [if_neg hcl]
                simp only [Option.map_some]
                refine .win hg hgz (.inl rfl) (fun _ => ?_) (by omega) hgs
                rw [ha (by omega), Addr.add_mk]
            · have hr := (slice_run (base := a') hu hz hb (Nat.le_refl 0) w).1
              refine ⟨_, hr, ?_⟩
              have h0 : m = 0 := by omega
              have h1 : c = 0 := by omega
              have h2 : a = 0 := by omega
              subst h0; subst h1; subst h2
              simp only [Nat.sub_self, ite_self]
              have : (if (0 : Nat) = 0 then a' else Option.map (fun x => x.add (0 * z')) a') = a' := by simp
              exact .winVoid
      · exact (ev_fail e).elim
    · exact (ev_fail e).elim
  · -- a part of one
    rename_i b0 z s n c
    split at e
    · rename_i el hu
      split at e
      · rename_i z' hz
        obtain ⟨hzz, e1⟩ := ev_bif e
        clear e
        rw [nbeq, decide_eq_true_eq] at hzz
        subst hzz
        split at e1
        · have hnc0 : n ≤ c := by
            rcases hx.win_inv' with ⟨g, a', cap', _, _, _, _, _, hnc, _⟩ | ⟨rfl, rfl, _⟩
            · exact hnc
            · exact Nat.le_refl _
          obtain ⟨a, b, e2, hb, q1, q2⟩ := trangeC_inv hnc0 e1
          cases ev_ret e2
          rcases hx.win_inv' with ⟨g, a', cap', rfl, hg, hgz, hcap, ha, hnc, hle⟩ | ⟨rfl, rfl, a', rfl⟩
          · have hcc : c ≤ cap' := by rcases hcap with rfl | ⟨_, _, h3, _⟩ <;> omega
            have hr := (slice_run (base := some a') hu hz hb hcc w).1
            simp only [if_true] at hr
            refine ⟨_, hr, ?_⟩
            have hwl : ∀ q, q ≤ s + c → q * z' ≤ g.size := fun q hq => Nat.le_trans (Nat.mul_le_mul_right _ hq) hle
            have hm : (s + lo0 a) * z' + (c - lo0 a) * z' = s * z' + c * z' := by rw [← Nat.add_mul, ← Nat.add_mul]; congr 1; omega
            have hm2 : (s + lo0 a) * z' + (cap' - lo0 a) * z' = s * z' + cap' * z' := by rw [← Nat.add_mul, ← Nat.add_mul]; congr 1; omega
            have hcap2 : CapOk g ((s + lo0 a) * z') (c - lo0 a) (cap' - lo0 a) := by
              rcases hcap with rfl | ⟨c1, c2, c3, c4, c5⟩
              · exact .inl rfl
              · refine .inr ⟨c1, ?_, by omega, ?_, by omega⟩
                · rw [hgz] at c2 ⊢; omega
                · rw [hgz] at c4 ⊢; omega
            by_cases hcl : cap' = lo0 a
            · rw [if_pos hcl]
              refine .win hg hgz hcap2 (fun hne => absurd (by omega) hne) (by omega) (hwl _ (by omega))
            · rw [if_neg hcl]
              simp only [Option.map_some]
              refine .win hg hgz hcap2 (fun _ => ?_) (by omega) (hwl _ (by omega))
              rw [ha (by omega), Addr.add_mk, Nat.add_mul, Nat.add_assoc]
          · have hr := (slice_run (base := a') hu hz hb (Nat.le_refl 0) w).1
            refine ⟨_, hr, ?_⟩
            have h0 : hi0 0 b = 0 := by have := q2; simp at this; exact this
            simp only [h0, Nat.zero_sub, if_true]
            exact .winVoid
        · exact (ev_fail e1).elim
      · exact (ev_fail e).elim
    · exact (ev_fail e).elim
  · exact cslice_sound R hx (ev_of' e)

theorem rstore_sound (R : Rel P N i h w) {ro b k j n : Nat} {r : RC} {l : List r.den} {g : Img} (hb : h b = some (.rows r l)) (hg : i b = some g) (hro : ro ≤ b) (hk : k < l.length) (hj : j + n ≤ r.z) {cs : List CV} {ys : List Value} (hl : LRel i cs ys) (hn : cs.length = n) (hok : cs.all cellOk = true)
    {x : r.den} (hx : r.of (setR (r.cells (l.getD k r.zero)) j cs) = some x) :
    ∃ w', (storeCells ⟨g.B, g.off + (k * r.z + j), none⟩ ys).run P w = .ok () w' ∧ Rel P N i (fset h b (.rows r (l.set k x))) w' ∧ Step ro i h w i (fset h b (.rows r (l.set k x))) w' := by
  have hle : k * r.z + j + cs.length ≤ (r.all l).length := by
    rw [r.all_length]
    have : (k + 1) * r.z ≤ l.length * r.z := Nat.mul_le_mul_right _ hk
    rw [Nat.add_mul] at this; omega
  refine CRel.store (ob2 := .rows r (l.set k x)) R hb hg hro rfl (R.obj b _ g hb hg) (fun {w'} hcr => ?_) (by decide) hle hok hl
  refine hcr.weaken (by rw [setR_length, r.all_length, r.all_length]; simp) (fun zs hz => ?_)
  have hlen : (r.all (l.take k)).length = k * r.z := by rw [r.all_length]; congr 1; simp; omega
  rw [r.all_parts l hk r.zero, ← hlen, setR_mid cs _ _ _ j (by rw [r.cells_length]; omega)] at hz
  obtain ⟨z1, z2, rfl, q1, q2⟩ := hz.split
  obtain ⟨z3, z4, rfl, q3, q4⟩ := q2.split
  rw [r.all_set l hk x]
  exact q1.append ((of_rel hx q3).append q4)

theorem zeros_ay {ts : Array TypeId} {t u e ty : TypeId} {kd : IntKind} {r : RC} {it : TypeInfo} {z : Value} {x0 : r.den} (h0 : ts[0]? = some t) (h1 : ts[1]? = some u) (hu : P.underlying t = some (.slice e)) (hd : P.underlying u = some (.int kd))
    (hi : P.info? e = some it) (hz : it.zero = some z) (hsz : it.size = r.z) (hzsz : z.cells.size = r.z) (hall : ∀ q, LRel i (r.all (List.replicate q x0)) (zeroV z.cells.toList q)) {n : Nat} (hb1 : 1 ≤ it.bytes) (hb2 : it.bytes ≤ 2 ^ 20) (hnb : n ≤ 2 ^ 40) (hroom0 : n * it.bytes ≤ 2 ^ 40) :
    Ay P w i ts ty r it (List.replicate n x0) (.int .i64 (n : Int)) (zeroV z.cells.toList n) := by
  have hz1 : (Builtin.zeroCells z.cells n).toList = zeroV z.cells.toList n := by rw [zeroCells_row]
  have hcs : P.cellsOf e = it.size := by simp [Program.cellsOf, hi]
  have hb0 : ¬ it.bytes = 0 := by omega
  have hw1 : IntKind.i64.wrap (n : Int) = n := wrap_small (by omega) (by omega)
  have hneg : ¬ (n : Int) < 0 := by omega
  have hbig : ¬ (n : Int) * (it.bytes : Int) > 2 ^ 48 := by
    have : (n : Int) * (it.bytes : Int) = ((n * it.bytes : Nat) : Int) := by simp
    rw [this]; omega
  have hzv : ∀ w : World, (zeroValue e).run P w = .ok z w := fun w => by simp [zeroValue, Sem.run_bind, run_typeInfo w hi, Result.andThen, hz]
  have hpos := r.z_pos
  have hl : (List.replicate n x0).length = n := by simp
  have hn0 : n * it.size = 0 → n = 0 := fun h => by
    rcases Nat.mul_eq_zero.1 h with h | h
    · exact h
    · omega
  have happ : ∀ w : World, (if n * it.size = 0 then (pure #[] : Sem (Array Value)) else do pure (Builtin.zeroCells (← zeroValue e).cells n)).run P w = .ok (zeroV z.cells.toList n).toArray w := fun w => by
    by_cases hm : n * it.size = 0
    · have := hn0 hm; subst this
      rw [if_pos hm]; rfl
    · rw [if_neg hm]
      simp only [Sem.run_bind, hzv, Result.andThen_ok, Sem.run_pure, ← hz1]
  refine ⟨hall n, hsz, ?_, ?_⟩
  · intro base len cap w' hcap hst hno
    rw [hl] at hcap ⊢
    unfold Builtin.append_
    simp only [h0, h1, List.getElem?_toArray, List.getElem?_cons_zero, List.getElem?_cons_succ, Sem.run_bind, run_underlying hu, run_underlying hd, run_typeInfo w hi, Result.andThen_ok, run_sizeOf w hi, Sem.run_pure, asInt, asIntOf, hw1, hneg, hbig, Bool.false_eq_true, if_false, if_true, Int.toNat_natCast, hcap, hcs, Bool.not_true, happ]
    cases base with
    | none => rw [hno rfl]; rfl
    | some a => simp only [Sem.run_bind, hst a rfl, Result.andThen_ok, Sem.run_pure]
  · intro base len cap old hcap hroom hold
    rw [hl] at hcap hroom ⊢
    have hnc := nextcap_le hcap
    have hlim : ¬ Builtin.nextslicecap (len + n) cap * it.bytes > 2 ^ 48 := by
      have h2 : Builtin.nextslicecap (len + n) cap * it.bytes ≤ (2 * (len + n) + 200) * it.bytes := Nat.mul_le_mul_right _ hnc
      have h3 : (2 * (len + n) + 200) * it.bytes = 2 * ((len + n) * it.bytes) + 200 * it.bytes := by rw [Nat.add_mul, Nat.mul_assoc]
      omega
    have hmax : len + n ≤ 2 ^ 40 := Nat.le_trans (Nat.le_mul_of_pos_right _ hb1) hroom
    refine ⟨(Question.appendCap (len + n) cap e).cut (w.tape w.drawn (.appendCap (len + n) cap e)), e, (Builtin.zeroCells z.cells ((Question.appendCap (len + n) cap e).cut (w.tape w.drawn (.appendCap (len + n) cap e)) - (len + n))).toList, ⟨by simp [Question.cut], by
      have hlt := Nat.mod_lt (w.tape w.drawn (.appendCap (len + n) cap e)) (show 0 < 2 ^ 63 - (len + n) by omega)
      simp only [Question.cut]
      omega⟩, by simp only [zeroCells_size, hzsz], ?_⟩
    have hw2 : ({ w with drawn := w.drawn + 1 } : World).heap = w.heap := rfl
    have hch : ∀ q, Question.forced q = false → (choose q).run P w = .ok (q.cut (w.tape w.drawn q)) { w with drawn := w.drawn + 1 } := fun q hq => by simp [choose, Sem.run, hq]
    have hle : ¬ len + n ≤ cap := by omega
    have hmx : ¬ ((len + n : Nat) : Int) > IntKind.i64.max := by
      have : IntKind.i64.max = 9223372036854775807 := by decide
      rw [this]; omega
    have harr : ∀ c : Array Value, old.toArray ++ (zeroV z.cells.toList n).toArray ++ c = ((old ++ zeroV z.cells.toList n) ++ c.toList).toArray := fun c => by apply Array.ext'; simp
    unfold Builtin.append_
    simp only [h0, h1, List.getElem?_toArray, List.getElem?_cons_zero, List.getElem?_cons_succ, Sem.run_bind, run_underlying hu, run_underlying hd, run_typeInfo w hi, Result.andThen_ok, run_sizeOf w hi, Sem.run_pure, asInt, asIntOf, hw1, hneg, hbig, Bool.false_eq_true, if_false, if_true, Int.toNat_natCast, hle, hmx, false_and, hlim, hcs]
    rw [hch _ rfl]
    simp only [Result.andThen_ok, Sem.run_bind, run_typeInfo _ hi, run_askRoom, hold _ hw2, Bool.not_true, Bool.false_eq_true, if_false, happ, hzv, newRow, Sem.run_pure, run_newObj_alloc, harr]

theorem tzeros_sound (R : Rel P N i h w) {ro id : Nat} (hi : i.free id) {ts : Array TypeId} {ty t u e' : TypeId} (h0 : ts[0]? = some t) (h1 : ts[1]? = some u) (hu : P.underlying t = some (.slice e'))
    {x y v : CV} {x' y' : Value} {ef : Eff} (hx : VRel i x x') (hy : VRel i y y') (e : (tzeros P ro id e' u x y h).ev = some (v, ef)) : Does P N ro id i h w (do pure (Next.value (← Builtin.append_ ts ty #[x', y']))) v (eall h ef) := by
  unfold tzeros at e
  split at e
  · rename_i kd n r it hd hk hit
    have := hy.int_inv; subst this
    split at e
    · rename_i z hz
      split at e
      · rename_i x0 hx0
        obtain ⟨hcond, e⟩ := ev_bif e
        simp only [Bool.and_eq_true, nble, nbeq, decide_eq_true_eq] at hcond
        obtain ⟨⟨⟨hb1, hb2⟩, c2⟩, c3⟩ := hcond
        obtain ⟨zv, hzv, hzf, hze, hzt, hzl⟩ := zeroOf_inv hz
        have hzr : ∀ j : Inj, LRel j z.cells.toList zv.cells.toList := fun j => by
          have := LRel.cells_flat hzl j
          rwa [hzt] at this
        have hzsz : zv.cells.size = r.z := by have := (hzr i).len; simp at this; omega
        have hall : ∀ (j : Inj) q, LRel j (r.all (List.replicate q x0)) (zeroV zv.cells.toList q) := by
          intro j q
          induction q with
          | zero => exact .nil j
          | succ q ih =>
            rw [List.replicate_succ, r.all_cons]
            exact (of_rel hx0 (hzr j)).append ih
        cases hv : isVoid x with
        | true =>
          rw [hv, cond_true] at e
          obtain ⟨a, rfl⟩ : ∃ a, x' = .slice a 0 0 := by
            unfold isVoid at hv
            split at hv
            · exact ⟨none, (hx.nilSlice_inv).2.2⟩
            · exact hx.empty_inv
            · cases hv
          rcases ev_ite e with ⟨hn0, e⟩ | ⟨hn0, e⟩
          · have hn0 : n = 0 := by simpa using hn0
            subst hn0
            cases ev_ret e
            have AY := zeros_ay (w := w) (i := i) (ty := ty) (n := 0) h0 h1 hu hd hit hzv c2 hzsz (hall i) hb1 hb2 (by omega) (by omega)
            have hr := AY.room (base := a) (len := 0) (cap := 0) (w' := w) (Nat.le_refl _) (fun a _ => rfl) (fun _ => rfl)
            exact ⟨_, i, w, _, run_v hr, .inl rfl, hx, by simpa [eall] using R, .refl _ _ _ _, fun _ _ => ⟨rfl, rfl⟩⟩
          · obtain ⟨hlim, e1⟩ := ev_when e
            simp only [Bool.and_eq_true, decide_eq_true_eq] at hlim
            obtain ⟨⟨c1, c4⟩, hroom⟩ := hlim
            obtain ⟨hid, hp⟩ := mkRow_inv e1
            cases hp
            obtain ⟨m, rfl⟩ : ∃ m : Nat, n = (m : Int) := ⟨n.toNat, by omega⟩
            simp only [Int.toNat_natCast] at hroom ⊢
            have hroom' := hroom
            simp only [roomOk, nble, decide_eq_true_eq] at hroom'
            have AY := zeros_ay (w := w) (i := i) (ty := ty) (n := m) h0 h1 hu hd hit hzv c2 hzsz (hall i) hb1 hb2 (by omega) hroom'
            have := app_voidY R ro hid hi AY (base := a) (by rw [List.length_replicate]; exact hroom)
            rw [List.length_replicate] at this
            simpa [eall] using this
        | false =>
          rw [hv, cond_false] at e
          split at e
          · rename_i b zz m _
            split at e
            · rename_i r' l hb
              split at e
              · rename_i l2 hc
                obtain ⟨hrr, hll⟩ := rcast_eq hc
                subst hrr
                simp only [] at hll
                subst hll
                obtain ⟨hcc, e⟩ := ev_bif e
                simp only [Bool.and_eq_true, nble, nbeq, decide_eq_true_eq] at hcc
                obtain ⟨hro, hz⟩ := hcc
                obtain ⟨hlim, e1⟩ := ev_when e
                simp only [Bool.and_eq_true, decide_eq_true_eq] at hlim
                obtain ⟨⟨c1, c4⟩, hroom⟩ := hlim
                obtain ⟨hid, hp⟩ := mkRow_inv e1
                cases hp
                subst hz
                obtain ⟨q, rfl⟩ : ∃ q : Nat, n = (q : Int) := ⟨n.toNat, by omega⟩
                simp only [Int.toNat_natCast] at hroom ⊢
                have hroom' := hroom
                simp only [roomOk, nble, decide_eq_true_eq] at hroom'
                have hq0 : q * it.bytes ≤ 2 ^ 40 := Nat.le_trans (Nat.mul_le_mul_right _ (by omega)) hroom'
                have AY := zeros_ay (w := w) (i := i) (ty := ty) (n := q) h0 h1 hu hd hit hzv c2 hzsz (hall i) hb1 hb2 (by omega) hq0
                rcases hx.row_inv with ⟨g, a', cap', rfl, hg, hgz, hss, hcap, ha⟩ | ⟨rfl, hvd, a, rfl⟩
                · have hn := row_len R hb hg rfl hss
                  subst hn
                  have := app_rowY (ty := ty) (s := 0) (n := l2.length) (c := l2.length) R hid hi hro hb hg hgz (by simpa using hcap) (by simpa using ha) (Nat.le_refl _) (by simp) AY (fun _ => rfl) (by rw [List.length_replicate]; exact hroom)
                  simp only [List.drop_zero, List.take_length, List.length_replicate] at this
                  simpa [eall] using this
                · have hl := (R.void b hvd).2 _ _ hb
                  subst hl
                  obtain ⟨i2, F2⟩ := dead_frz R hb hro
                  have hid2 : fset h b .dead id = none := F2.none_ id hid
                  have hi2 : i2.free id := ⟨(F2.blk id).1.trans hi.1, (F2.blk id).2.trans hi.2⟩
                  have AY2 := zeros_ay (w := w) (i := i2) (ty := ty) (n := q) h0 h1 hu hd hit hzv c2 hzsz (hall i2) hb1 hb2 (by omega) hq0
                  have := app_voidY F2.rel ro hid2 hi2 AY2 (base := a) (by rw [List.length_replicate]; simpa using hroom)
                  rw [List.length_replicate] at this
                  have h3 := this.after F2
                  simpa [eall] using h3
              · exact (ev_fail e).elim
            · exact (ev_fail e).elim
          · exact (ev_fail e).elim
      · exact (ev_fail e).elim
    · exact (ev_fail e).elim
  · exact (ev_fail e).elim

theorem keyOf_inv {x : CV} {k : Value} {y : Value} (e : keyOf x = some k) (hv : VRel i x y) : k = y ∧ vflat k = true := by
  unfold keyOf at e
  split at e <;> first | (cases e; cases hv; exact ⟨rfl, rfl⟩) | cases e
theorem checkKey_plain {kt : TypeId} {k : Value} (hk : keyKind P kt k = true) (b : Bool) (w : World) : (Instr.checkKey b 10000 kt k).run P w = .ok () w := by
  unfold keyKind at hk
  rw [show (10000 : Nat) = 9999 + 1 from rfl, Instr.checkKey]
  split at hk
  · rename_i hu; simp [Sem.run_bind, run_underlying hu, Result.andThen]
  · rename_i hu; simp [Sem.run_bind, run_underlying hu, Result.andThen]
  · cases hk
theorem keyEq_same {kt : TypeId} {d : TypeDesc} {k k' : Value} {c : Bool} (hu : P.underlying kt = some d) (hk : keyKind P kt k = true) (e : keyEq k k' = some c) : Instr.sameNow d k k' = some c := by
  unfold keyKind at hk
  rw [hu] at hk
  cases k with
  | int kk a =>
    cases d <;> simp at hk
    cases k' <;> simp only [keyEq] at e <;> first | (cases e; done) | skip
    exact e
  | string s =>
    cases d <;> simp at hk
    cases k' <;> simp only [keyEq] at e <;> first | (cases e; done) | skip
    exact e
  | _ => cases d <;> simp at hk
theorem tfind_sound {kt : TypeId} {d : TypeDesc} {k : Value} (hu : P.underlying kt = some d) (hk : keyKind P kt k = true) : ∀ (es : List (Value × CV)) (es' : List MapEntry) (n : Nat) (r : Option (Nat × CV)), ERel i es es' → (tfind k es n).ev = some r →
    match r with
    | none => Instr.findNow d k es' n = some none
    | some (j, v) => ∃ v', Instr.findNow d k es' n = some (some (j, v')) ∧ VRel i v v' ∧ n ≤ j ∧ ∃ e', es'[j - n]? = some e' ∧ ∃ e, es[j - n]? = some e ∧ keyEq k e.1 = some true
  | [], es', n, r, he, e => by
    simp only [tfind] at e
    cases ev_ret e
    have := he.len
    cases es' with
    | nil => rfl
    | cons a l => simp at this
  | x :: es, [], n, r, he, e => by have := he.len; simp at this
  | x :: es, y :: es', n, r, he, e => by
    simp only [tfind] at e
    obtain ⟨q1, q2, q3⟩ := he.at_ 0 x y rfl rfl
    have ht : ERel i es es' := ⟨by have := he.len; simpa using this, fun j a b ha hb => he.at_ (j + 1) a b (by simpa using ha) (by simpa using hb)⟩
    split at e
    · rename_i c hc
      have hs := keyEq_same hu hk hc
      rw [← q2] at hs
      cases c with
      | true =>
        simp only [T.ev, cond_true, Option.some.injEq] at e
        subst e
        exact ⟨y.val, by simp [Instr.findNow, hs], q3, Nat.le_refl n, y, by simp, x, by simp, hc⟩
      | false =>
        simp only [T.ev, cond_false] at e
        have ih := tfind_sound hu hk es es' (n + 1) r ht e
        have hf : Instr.findNow d k (y :: es') n = Instr.findNow d k es' (n + 1) := by simp [Instr.findNow, hs]
        cases r with
        | none => rw [hf]; exact ih
        | some p =>
          obtain ⟨j, v⟩ := p
          obtain ⟨v', h1, h2, h3, e', h4, e0, h5, h6⟩ := ih
          refine ⟨v', by rw [hf]; exact h1, h2, by omega, e', ?_, e0, ?_, h6⟩
          · rw [show j - n = (j - (n + 1)) + 1 by omega]; simpa using h4
          · rw [show j - n = (j - (n + 1)) + 1 by omega]; simpa using h5
    · exact (ev_fail e).elim
theorem keyEq_true {k k' : Value} (e : keyEq k k' = some true) : k = k' := by
  unfold keyEq at e
  split at e
  · split at e
    · rename_i hk; subst hk; simp at e; rw [e]
    · cases e
  · rename_i a b
    simp only [Option.some.injEq] at e
    have h1 : (a.data == b.data) = true := e
    have h2 : a = b := by cases a; cases b; simp at h1; rw [h1]
    rw [h2]
  · cases e
theorem sameBits_key {k : Value} {kt : TypeId} (hk : keyKind P kt k = true) : Instr.sameBits 10000 k k = true := by
  unfold keyKind at hk
  cases k with
  | int kk a => simp [Instr.sameBits]
  | string s => show (s.data == s.data) = true; simp
  | _ => split at hk <;> first | (rename_i h; cases h; done) | cases hk

theorem tlookup0_sound (R : Rel P N i h w) {ro id : Nat} {t : TypeId} {x ix : CV} {y k' : Value} {ok : Bool} {v : CV} {ef : Eff} (hx : VRel i x y) (hk : VRel i ix k') (e : (tlookup0 P t x ix ok h).ev = some (v, ef)) :
    ef = [] ∧ ∃ v', (Instr.lookup t y k' ok).run P w = .ok v' w ∧ VRel i v v' := by
  unfold tlookup0 at e
  split at e
  · rename_i kt et k es hu hko hes
    obtain ⟨hkk, e⟩ := ev_bif e
    obtain ⟨r, h1, h2⟩ := ev_bind _ e
    obtain ⟨rfl, hkf⟩ := keyOf_inv hko hk
    obtain ⟨d, hd⟩ : ∃ d, P.underlying kt = some d := by
      unfold keyKind at hkk
      cases hu2 : P.underlying kt with
      | none => rw [hu2] at hkk; simp at hkk
      | some d => exact ⟨d, rfl⟩
    have hfk : ∀ (l : List MapEntry) q, Instr.findNow d k l 0 = some q → (Instr.findKey kt k l).run P w = .ok q w := fun l q hq => by
      simp [Instr.findKey, Sem.run_bind, run_underlying hd, Result.andThen, hq]
    have hall : ∃ (ea : Array MapEntry), ERel i es ea.toList ∧ (∀ j v', Instr.findNow d k ea.toList 0 = some (some (j, v')) → (Instr.lookup t y k ok).run P w = .ok (if ok then .tuple #[v', .bool true] else v') w) ∧
        (Instr.findNow d k ea.toList 0 = some none → ∀ z, (zeroValue et).run P w = .ok z w → (Instr.lookup t y k ok).run P w = .ok (if ok then .tuple #[z, .bool false] else z) w) := by
      unfold entriesOf at hes
      split at hes
      · cases hes
        cases hx
        refine ⟨#[], ⟨rfl, fun k e e' he => by simp at he⟩, fun j v' hq => by simp [Instr.findNow] at hq, fun hq z hz => ?_⟩
        have hf := hfk [] none rfl
        unfold Instr.lookup
        simp [Sem.run_bind, run_underlying hu, Result.andThen, checkKey_plain hkk, hf, hz]
      · rename_i b
        split at hes
        · rename_i es0 hb
          cases hes
          cases hx with
          | map hg =>
            obtain ⟨_, ea, cl, q1, q2⟩ := R.obj b _ _ hb hg
            refine ⟨ea, q2, fun j v' hq => ?_, fun hq z hz => ?_⟩
            · have hf := hfk _ _ hq
              unfold Instr.lookup
              simp [Sem.run_bind, run_underlying hu, Result.andThen, getObj, Sem.run, q1, checkKey_plain hkk, hf]
            · have hf := hfk _ _ hq
              unfold Instr.lookup
              simp [Sem.run_bind, run_underlying hu, Result.andThen, getObj, Sem.run, q1, checkKey_plain hkk, hf, hz]
        · cases hes
      · cases hes
    obtain ⟨ea, hE, hb1, hb2⟩ := hall
    have hfs := tfind_sound hd hkk es ea.toList 0 r hE h1
    cases r with
    | some p =>
      obtain ⟨j, u⟩ := p
      obtain ⟨v', q1, q2, _⟩ := hfs
      cases ev_ret h2
      refine ⟨rfl, _, hb1 j v' q1, ?_⟩
      · cases ok with
        | true => exact .tuple (as := [_, _]) (bs := [_, _]) rfl (fun n a b ha hb => by
            match n with
            | 0 => simp at ha hb; subst ha; subst hb; exact q2
            | 1 => simp at ha hb; subst ha; subst hb; exact .bool _
            | n + 2 => simp at ha)
        | false => exact q2
    | none =>
      simp only [] at h2
      split at h2
      · rename_i z hz
        cases ev_ret h2
        obtain ⟨z1, z2⟩ := run_pZero hz w
        refine ⟨rfl, _, hb2 hfs z.toV z1, ?_⟩
        · cases ok with
          | true => exact .tuple (as := [_, _]) (bs := [_, _]) rfl (fun n a b ha hb => by
              match n with
              | 0 => simp at ha hb; subst ha; subst hb; exact .of_flat i z z2
              | 1 => simp at ha hb; subst ha; subst hb; exact .bool _
              | n + 2 => simp at ha)
          | false => exact .of_flat i z z2
      · exact (ev_fail h2).elim
  · exact (ev_fail e).elim

theorem tmapSet0_sound (R : Rel P N i h w) {ro id : Nat} {t : TypeId} {m ix x : CV} {m' k' x' : Value} {v : CV} {ef : Eff} (hm : VRel i m m') (hk : VRel i ix k') (hx : VRel i x x') (e : (tmapSet0 P ro t m ix x h).ev = some (v, ef)) :
    v = cundef ∧ ∃ w', (Instr.mapUpdate t m' k' x').run P w = .ok () w' ∧ Rel P N i (eall h ef) w' ∧ Step ro i h w i (eall h ef) w' := by
  unfold tmapSet0 at e
  split at e
  · rename_i kt et k b hu hko
    split at e
    · rename_i es hb
      obtain ⟨hc, e⟩ := ev_bif e
      simp only [Bool.and_eq_true, nble, decide_eq_true_eq] at hc
      obtain ⟨hkk, hro⟩ := hc
      obtain ⟨r, h1, h2⟩ := ev_bind _ e
      obtain ⟨rfl, hkf⟩ := keyOf_inv hko hk
      cases hm with
      | @map _ g hg =>
      obtain ⟨hN, ea, cl, q1, q2⟩ := R.obj b _ g hb hg
      obtain ⟨d, hd⟩ : ∃ d, P.underlying kt = some d := by
        unfold keyKind at hkk
        cases hu2 : P.underlying kt with
        | none => rw [hu2] at hkk; simp at hkk
        | some d => exact ⟨d, rfl⟩
      have hfs := tfind_sound hd hkk es ea.toList 0 r q2 h1
      have hfk : ∀ q, Instr.findNow d k ea.toList 0 = some q → (Instr.findKey kt k ea.toList).run P w = .ok q w := fun q hq => by
        simp [Instr.findKey, Sem.run_bind, run_underlying hd, Result.andThen, hq]
      have hsize : g.B < w.heap.size := R.bnd b g hg
      have put : ∀ (es2 : List (Value × CV)) (ea2 : Array MapEntry) (cl2 : Nat), ERel i es2 ea2.toList →
          Rel P N i (fset h b (.map es2)) { w with heap := w.heap.setIfInBounds g.B (.map ea2 cl2) } ∧ Step ro i h w i (fset h b (.map es2)) { w with heap := w.heap.setIfInBounds g.B (.map ea2 cl2) } := fun es2 ea2 cl2 hE =>
        R.put (w' := { w with heap := w.heap.setIfInBounds g.B (.map ea2 cl2) }) hb hg hro rfl (by simp) rfl rfl rfl (fun B hB hne => by simp [Array.getElem?_setIfInBounds, Ne.symm hne]) ⟨hN, ea2, cl2, by simp [Array.getElem?_setIfInBounds, hsize], hE⟩
      have hset : ∀ (o : Obj), (setObj g.B o).run P w = .ok () { w with heap := w.heap.setIfInBounds g.B o } := fun o => by simp [setObj, Sem.run, q1]
      have hgo : ∀ (f : Obj → Sem Unit), (getObj g.B >>= f).run P w = (f (.map ea cl)).run P w := fun f => by simp [Sem.run_bind, getObj, Sem.run, q1, Result.andThen]
      cases r with
      | some p =>
        obtain ⟨j, u⟩ := p
        obtain ⟨v', p1, p2, _, e', p3, e0, p4, p5⟩ := hfs
        cases ev_ret h2
        simp only [Nat.sub_zero] at p3 p4
        have hkey : e'.key = k := by rw [(q2.at_ j e0 e' p4 p3).2.1]; exact (keyEq_true p5).symm
        have hE : ERel i (es.set j (k, x)) (ea.modify j fun e => { e with key := k, val := x' }).toList := by
          refine ⟨by simp [q2.len], fun n a c ha hc => ?_⟩
          rw [Array.toList_modify, List.getElem?_modify] at hc
          rw [List.getElem?_set] at ha
          have hjl : j < es.length := (List.getElem?_eq_some_iff.1 p4).1
          by_cases hn : j = n
          · subst hn
            simp only [hjl, if_true, Option.some.injEq] at ha
            subst ha
            rw [p3] at hc
            simp at hc
            subst hc
            exact ⟨hkf, rfl, hx⟩
          · rw [if_neg hn] at ha
            cases hz : ea.toList[n]? with
            | none => rw [hz] at hc; simp at hc
            | some c0 =>
              rw [hz] at hc
              simp [hn] at hc
              subst hc
              exact q2.at_ n a c0 ha hz
        obtain ⟨R', S'⟩ := put _ _ cl hE
        refine ⟨rfl, _, ?_, R', S'⟩
        unfold Instr.mapUpdate
        simp only [Sem.run_bind, run_underlying hu, Result.andThen_ok]
        have := hgo (fun o => do
          let .map es clock := o | stuck "MapUpdate: map expected"
          Instr.checkKey false 10000 kt k
          match ← Instr.findKey kt k es.toList with
          | some (i, _) => do
            let key ← Instr.keyThatStays (((es[i]?).map (·.key)).getD k) k
            setObj g.B (.map (es.modify i fun e => { e with key, val := x' }) clock)
          | none => setObj g.B (.map (es.push { key := k, val := x', born := clock }) (clock + 1)))
        simp only [Sem.run_bind] at this
        refine this.trans ?_
        have hks : ((ea[j]?).map (·.key)).getD k = k := by
          have : ea[j]? = some e' := by simpa using p3
          rw [this]; simpa using hkey
        simp [Sem.run_bind, checkKey_plain hkk, hfk _ p1, Result.andThen, hks, Instr.keyThatStays, sameBits_key hkk, hset]
      | none =>
        cases ev_ret h2
        have hE : ERel i (es ++ [(k, x)]) (ea.push { key := k, val := x', born := cl }).toList := by
          refine ⟨by simp [q2.len], fun n a c ha hc => ?_⟩
          rw [Array.toList_push] at hc
          rw [List.getElem?_append] at ha hc
          have hl : es.length = ea.size := by simpa using q2.len
          by_cases hn : n < es.length
          · rw [if_pos hn] at ha
            rw [if_pos (by simpa [hl] using hn)] at hc
            exact q2.at_ n a c ha hc
          · rw [if_neg hn] at ha
            rw [if_neg (by simpa [hl] using hn)] at hc
            have hn0 : n = es.length := by
              have := (List.getElem?_eq_some_iff.1 ha).1
              simp at this; omega
            subst hn0
            simp at ha
            simp [hl] at hc
            subst ha; subst hc
            exact ⟨hkf, rfl, hx⟩
        obtain ⟨R', S'⟩ := put _ _ (cl + 1) hE
        refine ⟨rfl, _, ?_, R', S'⟩
        unfold Instr.mapUpdate
        simp only [Sem.run_bind, run_underlying hu, Result.andThen_ok]
        have := hgo (fun o => do
          let .map es clock := o | stuck "MapUpdate: map expected"
          Instr.checkKey false 10000 kt k
          match ← Instr.findKey kt k es.toList with
          | some (i, _) => do
            let key ← Instr.keyThatStays (((es[i]?).map (·.key)).getD k) k
            setObj g.B (.map (es.modify i fun e => { e with key, val := x' }) clock)
          | none => setObj g.B (.map (es.push { key := k, val := x', born := clock }) (clock + 1)))
        simp only [Sem.run_bind] at this
        refine this.trans ?_
        simp [Sem.run_bind, checkKey_plain hkk, hfk _ hfs, Result.andThen, hset]
    · exact (ev_fail e).elim
  · exact (ev_fail e).elim

theorem strKey_inv {kt : TypeId} (h : strKey P kt = true) : P.underlying kt = some .string := by
  unfold strKey at h
  split at h
  · assumption
  · cases h
theorem keyKind_str {kt : TypeId} (h : P.underlying kt = some .string) (s : ByteArray) : keyKind P kt (.string s) = true := by simp [keyKind, h]
theorem keys_find {kt : TypeId} {s : ByteArray} (hd : P.underlying kt = some .string) : ∀ (es : List MapEntry) (l : List ByteArray) (n : Nat), es.map (·.key) = l.map Value.string →
    (hasK l s = true → ∃ j v e', Instr.findNow .string (.string s) es n = some (some (j, v)) ∧ n ≤ j ∧ es[j - n]? = some e' ∧ e'.key = .string s) ∧ (hasK l s = false → Instr.findNow .string (.string s) es n = some none)
  | [], [], n, _ => ⟨fun h => by simp [hasK] at h, fun _ => rfl⟩
  | [], _ :: _, n, h => by simp at h
  | _ :: _, [], n, h => by simp at h
  | e :: es, x :: l, n, h => by
    simp only [List.map_cons, List.cons.injEq] at h
    have hs : Instr.sameNow .string (.string s) e.key = some (s == x) := by
      rw [h.1]; exact keyEq_same hd (keyKind_str hd s) rfl
    have ih := keys_find (s := s) hd es l (n + 1) h.2
    cases hx : (s == x) with
    | true =>
      rw [hx] at hs
      have hk : Value.string s = .string x := keyEq_true (by simp [keyEq, hx])
      refine ⟨fun _ => ⟨n, e.val, e, by simp [Instr.findNow, hs], Nat.le_refl n, by simp, by rw [h.1, hk]⟩, fun hh => by simp [hasK, hx] at hh⟩
    | false =>
      rw [hx] at hs
      have hf : Instr.findNow .string (.string s) (e :: es) n = Instr.findNow .string (.string s) es (n + 1) := by simp [Instr.findNow, hs]
      refine ⟨fun hh => ?_, fun hh => ?_⟩
      · obtain ⟨j, v, e', h1, h2, h3, h4⟩ := ih.1 (by simpa [hasK, hx] using hh)
        exact ⟨j, v, e', by rw [hf]; exact h1, by omega, by rw [show j - n = (j - (n + 1)) + 1 by omega]; simpa using h3, h4⟩
      · rw [hf]; exact ih.2 (by simpa [hasK, hx] using hh)
theorem keysAt_inv {x : CV} {y : Value} {b : Nat} {l : List ByteArray} (R : Rel P N i h w) (e : keysAt h x = some (b, l)) (hv : VRel i x y) : ∃ g, h b = some (.keys l) ∧ i b = some g ∧ y = .map (some g.B) ∧ N ≤ g.B ∧ ∃ (es' : Array MapEntry) (cl : Nat), w.heap[g.B]? = some (.map es' cl) ∧ es'.toList.map (·.key) = l.map Value.string := by
  unfold keysAt at e
  split at e
  · rename_i c
    split at e
    · rename_i l' hb
      cases e
      cases hv with
      | map hg => exact ⟨_, hb, hg, rfl, R.obj _ _ _ hb hg⟩
    · cases e
  · cases e
theorem tlookup_sound (R : Rel P N i h w) {ro id : Nat} {t : TypeId} {x ix : CV} {y k' : Value} {ok : Bool} {v : CV} {ef : Eff} (hx : VRel i x y) (hk : VRel i ix k') (e : (tlookup P t x ix ok h).ev = some (v, ef)) :
    ef = [] ∧ ∃ v', (Instr.lookup t y k' ok).run P w = .ok v' w ∧ VRel i v v' := by
  unfold tlookup at e
  split at e
  · rename_i b l hkey
    obtain ⟨g, hb, hg, rfl, hN, ea, cl, q1, q2⟩ := keysAt_inv R hkey hx
    unfold tlookK at e
    split at e
    · rename_i kt et s hu
      obtain ⟨hst, e⟩ := ev_bif e
      cases hk
      have hd := strKey_inv hst
      split at e
      · rename_i z hz
        obtain ⟨z1, z2⟩ := run_pZero hz w
        have hkf := keys_find (s := s) hd ea.toList l 0 q2
        have hfk : ∀ q, Instr.findNow .string (.string s) ea.toList 0 = some q → (Instr.findKey kt (.string s) ea.toList).run P w = .ok q w := fun q hq => by
          simp [Instr.findKey, Sem.run_bind, run_underlying hd, Result.andThen, hq]
        have hck := fun b => checkKey_plain (keyKind_str hd s) b w
        rcases ev_ite e with ⟨hc, e⟩ | ⟨hc, e⟩
        · obtain ⟨j, v', e', h1, _⟩ := hkf.1 hc
          have hf := hfk _ h1
          cases ev_ret e
          refine ⟨rfl, if ok then .tuple #[v', .bool true] else v', ?_, ?_⟩
          · unfold Instr.lookup
            simp [Sem.run_bind, run_underlying hu, Result.andThen, getObj, Sem.run, q1, hck, hf]
          · cases ok with
            | true => exact VRel.tuple (LRel.cons (.junk v') (.cons (.bool true) (.nil i))).len (LRel.cons (.junk v') (.cons (.bool true) (.nil i))).at_
            | false => exact .junk v'
        · have hf := hfk _ (hkf.2 hc)
          cases ev_ret e
          refine ⟨rfl, if ok then .tuple #[z.toV, .bool false] else z.toV, ?_, ?_⟩
          · unfold Instr.lookup
            simp [Sem.run_bind, run_underlying hu, Result.andThen, getObj, Sem.run, q1, hck, hf, z1]
          · cases ok with
            | true => exact VRel.tuple (LRel.cons (.of_flat i z z2) (.cons (.bool false) (.nil i))).len (LRel.cons (.of_flat i z z2) (.cons (.bool false) (.nil i))).at_
            | false => exact .of_flat i z z2
      · exact (ev_fail e).elim
    · exact (ev_fail e).elim
  · exact tlookup0_sound (id := id) (ro := ro) R hx hk e
theorem tmapSet_sound (R : Rel P N i h w) {ro id : Nat} {t : TypeId} {m ix x : CV} {m' k' x' : Value} {v : CV} {ef : Eff} (hm : VRel i m m') (hk : VRel i ix k') (hx : VRel i x x') (e : (tmapSet P ro t m ix x h).ev = some (v, ef)) :
    v = cundef ∧ ∃ w', (Instr.mapUpdate t m' k' x').run P w = .ok () w' ∧ Rel P N i (eall h ef) w' ∧ Step ro i h w i (eall h ef) w' := by
  unfold tmapSet at e
  split at e
  · rename_i b l hkey
    obtain ⟨g, hb, hg, rfl, hN, ea, cl, q1, q2⟩ := keysAt_inv R hkey hm
    unfold tsetK at e
    split at e
    · rename_i kt et s hu
      obtain ⟨hcc, e⟩ := ev_bif e
      simp only [Bool.and_eq_true, nble, decide_eq_true_eq] at hcc
      obtain ⟨hst, hro⟩ := hcc
      cases hk
      cases ev_ret e
      have hd := strKey_inv hst
      have hsize : g.B < w.heap.size := R.bnd b g hg
      have hkf := keys_find (s := s) hd ea.toList l 0 q2
      have hfk : ∀ q, Instr.findNow .string (.string s) ea.toList 0 = some q → (Instr.findKey kt (.string s) ea.toList).run P w = .ok q w := fun q hq => by
        simp [Instr.findKey, Sem.run_bind, run_underlying hd, Result.andThen, hq]
      have hck := fun b => checkKey_plain (keyKind_str hd s) b w
      have put : ∀ (l2 : List ByteArray) (ea2 : Array MapEntry) (cl2 : Nat), ea2.toList.map (·.key) = l2.map Value.string →
          Rel P N i (fset h b (.keys l2)) { w with heap := w.heap.setIfInBounds g.B (.map ea2 cl2) } ∧ Step ro i h w i (fset h b (.keys l2)) { w with heap := w.heap.setIfInBounds g.B (.map ea2 cl2) } := fun l2 ea2 cl2 hE =>
        R.put (w' := { w with heap := w.heap.setIfInBounds g.B (.map ea2 cl2) }) hb hg hro rfl (by simp) rfl rfl rfl (fun B hB hne => by simp [Array.getElem?_setIfInBounds, Ne.symm hne]) ⟨hN, ea2, cl2, by simp [Array.getElem?_setIfInBounds, hsize], hE⟩
      have hset : ∀ (o : Obj), (setObj g.B o).run P w = .ok () { w with heap := w.heap.setIfInBounds g.B o } := fun o => by simp [setObj, Sem.run, q1]
      cases hc : hasK l s with
      | true =>
        obtain ⟨j, v', e', h1, h2, h3, h4⟩ := hkf.1 hc
        simp only [Nat.sub_zero] at h3
        have hE : (ea.modify j fun e => { e with key := .string s, val := x' }).toList.map (·.key) = (putK l s).map Value.string := by
          rw [putK, hc, cond_true, ← q2]
          apply List.ext_getElem?
          intro n
          rw [List.getElem?_map, List.getElem?_map, Array.toList_modify, List.getElem?_modify]
          by_cases hn : j = n
          · subst hn; rw [h3]; simp [h4]
          · cases ea.toList[n]? <;> simp [hn]
        obtain ⟨R', S'⟩ := put _ _ cl hE
        refine ⟨rfl, _, ?_, R', S'⟩
        unfold Instr.mapUpdate
        have hks : ((ea[j]?).map (·.key)).getD (.string s) = .string s := by
          have : ea[j]? = some e' := by simpa using h3
          rw [this]; simpa using h4
        simp [Sem.run_bind, run_underlying hu, getObj, Sem.run, q1, hck, hfk _ h1, Result.andThen, hks, Instr.keyThatStays, sameBits_key (keyKind_str hd s), setObj]
      | false =>
        have hE : (ea.push { key := .string s, val := x', born := cl }).toList.map (·.key) = (putK l s).map Value.string := by
          rw [putK, hc, cond_false, Array.toList_push, List.map_append, List.map_append, q2]; rfl
        obtain ⟨R', S'⟩ := put _ _ (cl + 1) hE
        refine ⟨rfl, _, ?_, R', S'⟩
        unfold Instr.mapUpdate
        simp [Sem.run_bind, run_underlying hu, getObj, Sem.run, q1, hck, hfk _ (hkf.2 hc), Result.andThen, setObj]
    · exact (ev_fail e).elim
  · exact tmapSet0_sound (id := id) (ro := ro) R hm hk hx e

theorem tmem_sound (R : Rel P N i h w) {ρ : Operand → Option CV} {ρ' : Operand → Value} (hρ : ∀ x v, ρ x = some v → VRel i v (ρ' x)) {ro id : Nat} (hi : i.free id) {o : Oper} {v : CV} {ef : Eff}
    (e : (tmem P ρ ro id o h).ev = some (v, ef)) : Does P N ro id i h w (execOp ρ' o) v (eall h ef) := by
  have hc : ∀ {e : (T.of (cmem P ρ ro id o h)).ev = some (v, ef)}, Does P N ro id i h w (execOp ρ' o) v (eall h ef) := fun {e} => cmem_sound R hρ hi (ev_of' e)
  have hpure : ∀ {v' : Value}, (execOp ρ' o).run P w = .ok (.value v') w → VRel i v v' → ef = [] → Does P N ro id i h w (execOp ρ' o) v (eall h ef) := fun {v'} h1 h2 h3 => by
    subst h3; exact ⟨_, i, w, v', h1, .inl rfl, h2, R, .refl _ _ _ _, fun _ _ => ⟨rfl, rfl⟩⟩
  rw [tmem_eq] at e
  unfold tmem0 at e
  split at e
  · -- pick
    rename_i c a b hop
    split at e
    · rename_i t x y hcc ha hb
      obtain ⟨u, h1, h2⟩ := ev_bind _ e
      cases ev_ret h2
      have := tpick_ev h1
      subst this
      refine cmem_sound R hρ hi ?_
      simp only [cmem_eq, cmem0, hop, cpure_eq, cpure0, hcc]
      cases t <;> simp [ha, hb]
    · exact (ev_fail e).elim
  · -- index
    rename_i t x ix hop
    split at e
    · rename_i cs k n hx hn
      split at e
      · rename_i m el hu
        split at e
        · rename_i z hz
          obtain ⟨u, h1, h2⟩ := ev_bind _ e
          cases ev_ret h2
          obtain ⟨h3, h4⟩ := tidx_ev m h1
          refine cmem_sound R hρ hi ?_
          simp only [cmem_eq, cmem0, hop, cpure_eq, cpure0, hx, hn, hu, hz, h3, cond_true, h4]
        · exact (ev_fail e).elim
      · exact (ev_fail e).elim
    · rename_i s k n hx hn
      split at e
      · rename_i hu
        obtain ⟨hcc, e⟩ := ev_when e
        cases ev_ret e
        refine cmem_sound R hρ hi ?_
        simp only [inRange, Bool.and_eq_true, decide_eq_true_eq] at hcc
        obtain ⟨q, rfl⟩ := Int.eq_ofNat_of_zero_le hcc.1
        have hq : q < s.size := by omega
        have h0 : decide ((0 : Int) ≤ (q : Int)) = true := by simp
        have h1 : s[q]? = some (s.data.toList.getD q 0) := by
          rw [getElem?_pos s q hq]
          have : s.data.toList[q]? = some (s[q]) := by
            rw [List.getElem?_eq_getElem (by simpa using hq)]; rfl
          simp [List.getD, this]
        simp only [cmem_eq, cmem0, hop, cpure_eq, cpure0, hx, hn, hu, h0, cond_true, Int.toNat_natCast, h1]
      · exact (ev_fail e).elim
    · exact hc (e := e)
  · -- beside nil
    rename_i t x y u hop
    split at e
    · rename_i r l hx hy
      split at e
      · rename_i el hu
        obtain ⟨h1, h2⟩ := ev_when e
        cases ev_ret h2
        obtain ⟨_, _, e1⟩ := (hρ _ _ hy).nilSlice_inv
        have e2 : ∃ a n c, ρ' x = .slice (some a) n c := by
          rcases (hρ _ _ hx).pl_inv with ⟨B, o, c, ys, a', h3, _⟩ | ⟨rfl, _⟩
          · exact ⟨_, _, _, h3⟩
          · simp at h1
        obtain ⟨a, n, c, e2⟩ := e2
        refine hpure (v' := .bool false) ?_ (.bool false) rfl
        have q1 : (Op.equal t (.slice (some a) n c) (.slice none 0 0)).run P w = .ok false w := by
          rw [Op.equal, Op.maxDepth, show (10000 : Nat) = 9999 + 1 from rfl, Op.equalIn]
          simp only [Sem.run_bind, run_underlying hu, Result.andThen_ok]
          try rfl
        have q2 := (binOp_eql q1 (by simp) (by simp) (by simp) (by simp) (by simp)).1
        have q3 := run_eqGuard_plain (P := P) .eql t x y (.slice (some a) n c) (.slice none 0 0) w (by simp) (by simp)
        obtain ⟨dst, op, type, pos, after, guard⟩ := o
        simp only [] at hop; subst hop
        simp only [execOp, e1, e2]
        have q4 : (do eqGuard .eql t x y (.slice (some a) n c) (.slice none 0 0); binOp .eql t (.slice (some a) n c) (.slice none 0 0) : Sem Value).run P w = .ok (.bool false) w := by
          simp only [Sem.run_bind, q3, Result.andThen_ok, q2]
        simp only [Sem.run_bind] at q4 ⊢
        rw [q3] at q4 ⊢
        simp only [Result.andThen_ok] at q4 ⊢
        rw [q2]
        rfl
      · exact (ev_fail e).elim
    · exact hc (e := e)
  · -- rem
    rename_i t x y u hop
    split at e
    · rename_i a b hx hy
      obtain ⟨h1, h2⟩ := ev_when e
      cases ev_ret h2
      have hb : b ≠ 0 := by simpa using h1
      refine cmem_sound R hρ hi ?_
      simp [cmem_eq, cmem0, hop, cpure_eq, cpure0, hx, hy, cbin, cint, stillF, binOp_rem, Op.intDiv, hb]; rfl
    · exact hc (e := e)
  · -- quo
    rename_i t x y u hop
    split at e
    · rename_i a b hx hy
      obtain ⟨h1, h2⟩ := ev_when e
      cases ev_ret h2
      have hb : b ≠ 0 := by simpa using h1
      refine cmem_sound R hρ hi ?_
      simp [cmem_eq, cmem0, hop, cpure_eq, cpure0, hx, hy, cbin, cint, stillF, binOp_quo, Op.intDiv, hb]; rfl
    · exact hc (e := e)
  · -- load
    rename_i t a hop
    obtain ⟨dst, op, type, pos, after, guard⟩ := o
    simp only [] at hop; subst hop
    split at e
    · rename_i cs ha
      obtain ⟨u, h1, h2⟩ := ev_bind _ e
      cases ev_ret h2
      obtain ⟨B, o, ys, he, hl, him⟩ := (hρ _ _ ha).kptr_inv
      obtain ⟨v', h3, h4⟩ := loadL_run (P := P) (w := w) hl (fun k y hy => (R.imm B _ y (him k y hy)).1) (ev_of' h1)
      exact hpure (run_v (by simp [Instr.loadAt, he, Instr.sureAddr, Sem.run_bind, Result.andThen, h3])) h4 rfl
    · rename_i b z k j ha
      split at e
      · rename_i r l hb
        obtain ⟨hzz, e1⟩ := ev_bif e
        rw [nbeq, decide_eq_true_eq] at hzz
        obtain ⟨hk, e2⟩ := ev_when e1
        rw [Nat.blt_eq] at hk
        obtain ⟨u, h1, h2⟩ := ev_bind _ e2
        cases ev_ret h2
        obtain ⟨g, hg, hgz, he⟩ := (hρ _ _ ha).rptr_inv
        subst hzz
        obtain ⟨ys, h3, h4⟩ := (show CRel N i w g (r.all l) r.z 1 from R.obj b _ g hb hg).elem hk r.zero
        obtain ⟨v', h5, h6⟩ := loadL_run (P := P) (w := w) (B := g.B) (o := g.off + (k * r.z + j)) (h3.drop j) (fun q y hy => by
          rw [List.getElem?_drop] at hy
          have := h4 _ y hy
          rwa [show g.off + k * r.z + (j + q) = g.off + (k * r.z + j) + q by omega] at this) (ev_of' h1)
        exact hpure (run_v (by simp [Instr.loadAt, he, Instr.sureAddr, Sem.run_bind, Result.andThen, h5])) h6 rfl
      · exact (ev_fail e).elim
    · exact hc (e := e)
  · -- store
    rename_i t a x hop
    split at e
    · rename_i b z k j u ha hx
      split at e
      · rename_i n hn
        obtain ⟨hcn, e1⟩ := ev_bif e
        clear e
        rw [nbeq, decide_eq_true_eq] at hcn
        split at e1
        · rename_i cs ef1 hf
          split at e1
          · rename_i r l hb
            obtain ⟨hcc, e2⟩ := ev_bif e1
            simp only [Bool.and_eq_true, nbeq, nble, decide_eq_true_eq] at hcc
            obtain ⟨⟨hz, hro⟩, hj⟩ := hcc
            obtain ⟨hk, e3⟩ := ev_when e2
            rw [Nat.blt_eq] at hk
            split at e3
            · rename_i y hy
              cases ev_ret e3
              subst hz
              have huj : u ≠ .junk := fun hh => by
                subst hh
                simp [CV.cells, frzL, frz1] at hf
              have hxr := hρ _ _ hx
              obtain ⟨i1, F, hl1, hlen⟩ := frzL_sound R (hxr.cells huj) hf
              rw [fupd_eall] at hb
              obtain ⟨g, hg, hgz, he⟩ := ((hρ _ _ ha).mono F.step.ext).rptr_inv
              obtain ⟨w', q1, q2, q3⟩ := rstore_sound F.rel hb hg hro hk hj hl1 (by rw [hlen, Array.length_toList, hcn]) (frzL_ok hf) hy
              have hsz' : (ρ' x).cells.size = n := by rw [size_cells hxr huj]; exact hcn
              rw [eall_append]
              have D : Does P N ro id i1 (eall h ef1) w (execOp ρ' o) cundef (fset (eall h ef1) b (.rows r (l.set k y))) := by
                obtain ⟨dst, op, type, pos, after, guard⟩ := o
                simp only [] at hop; subst hop
                refine ⟨.skip, i1, w', undef, ?_, .inr ⟨rfl, rfl⟩, .undef i1, q2, q3, fun _ _ => ⟨rfl, rfl⟩⟩
                simp [execOp, Instr.storeAt, he, Instr.sureAddr, storeVar, Sem.run_bind, Result.andThen, run_pSize hn, hsz', q1]
              exact D.after F
            · exact (ev_fail e3).elim
          · exact (ev_fail e1).elim
        · exact (ev_fail e1).elim
      · exact (ev_fail e).elim
    · exact hc (e := e)
  · -- nilCheck
    rename_i x hop
    obtain ⟨dst, op, type, pos, after, guard⟩ := o
    simp only [] at hop; subst hop
    split at e
    · rename_i cs hx
      cases ev_ret e
      have hr := hρ _ _ hx
      obtain ⟨B, o, ys, he, _, _⟩ := hr.kptr_inv
      rw [he] at hr
      exact hpure (v' := .pointer (some ⟨B, o, none⟩)) (by simp [execOp, he]) hr rfl
    · rename_i b z k j hx
      cases ev_ret e
      have hr := hρ _ _ hx
      obtain ⟨g, _, _, he⟩ := hr.rptr_inv
      rw [he] at hr
      exact hpure (v' := .pointer (some ⟨g.B, g.off + (k * z + j), none⟩)) (by simp [execOp, he]) hr rfl
    · exact hc (e := e)
  · -- fieldAddr
    rename_i t x k hop
    obtain ⟨dst, op, type, pos, after, guard⟩ := o
    simp only [] at hop; subst hop
    split at e
    · rename_i cs hx
      split at e
      · rename_i f hf
        obtain ⟨fs, hu, hk⟩ := fieldOf_under hf
        split at e
        · rename_i z hz
          obtain ⟨hle, e1⟩ := ev_bif e
          cases ev_ret e1
          obtain ⟨B, o, ys, he, hl, him⟩ := (hρ _ _ hx).kptr_inv
          refine hpure (v' := .pointer (some ⟨B, o + f.offset, none⟩)) (run_v ?_) ?_ rfl
          · simp [Instr.fieldAt, Sem.run_bind, run_underlying hu, Result.andThen, hk, he, Instr.sureAddr, fieldPlace, run_pSize hz, Addr.add_mk, Nat.add_assoc]
          · have hd := hl.drop f.offset
            exact .kptr hd.len.symm (fun q y hy => by rw [List.getElem?_drop] at hy; rw [Nat.add_assoc]; exact him _ y hy) hd.at_
        · exact (ev_fail e).elim
      · exact (ev_fail e).elim
    · rename_i b z q j hx
      split at e
      · rename_i f hf
        obtain ⟨fs, hu, hk⟩ := fieldOf_under hf
        split at e
        · rename_i z' hz
          cases ev_ret e
          obtain ⟨g, hg, hgz, he⟩ := (hρ _ _ hx).rptr_inv
          refine hpure (v' := .pointer (some ⟨g.B, g.off + (q * z + (j + f.offset)), none⟩)) (run_v ?_) (.rptr hg hgz) rfl
          simp [Instr.fieldAt, Sem.run_bind, run_underlying hu, Result.andThen, hk, he, Instr.sureAddr, fieldPlace, run_pSize hz, Addr.add_mk, Nat.add_assoc]
        · exact (ev_fail e).elim
      · exact (ev_fail e).elim
    · exact hc (e := e)
  · -- indexAddr
    rename_i t x ix hop
    obtain ⟨dst, op, type, pos, after, guard⟩ := o
    simp only [] at hop; subst hop
    split at e
    · rename_i r l k n hx hn
      have hn' := (hρ _ _ hn).int_inv
      split at e
      · rename_i el hu
        split at e
        · rename_i z hz
          obtain ⟨hzz, e1⟩ := ev_bif e
          rw [nbeq, decide_eq_true_eq] at hzz
          obtain ⟨hir, e2⟩ := ev_when e1
          cases ev_ret e2
          subst hzz
          obtain ⟨h0, h1⟩ := inRange_iff.1 hir
          have hk : n.toNat < l.length := by omega
          rcases (hρ _ _ hx).pl_inv with ⟨B, o, c, ys, a', he, hl, him, hlc, ha⟩ | ⟨hnil, _⟩
          · have hc0 : c ≠ 0 := by omega
            have := ha hc0; subst this
            refine hpure (v' := .pointer (some ⟨B, o + n.toNat * r.z, none⟩)) (run_v ?_) ?_ rfl
            · simp [Instr.indexAt, Sem.run_bind, hn', asIntOf, he, run_underlying hu, Result.andThen, h0, h1, run_pSize hz, Addr.add_mk, Nat.add_assoc]
            · have hd := (hl.drop (n.toNat * r.z)).take r.z
              rw [r.all_elem l hk r.zero] at hd
              refine .kptr hd.len.symm (fun q y hy => ?_) hd.at_
              rw [List.getElem?_take] at hy
              split at hy
              · rw [List.getElem?_drop] at hy; rw [Nat.add_assoc]; exact him _ y hy
              · cases hy
          · subst hnil; simp at hk
        · exact (ev_fail e).elim
      · exact (ev_fail e).elim
    · rename_i b z m k n hx hn
      have hn' := (hρ _ _ hn).int_inv
      split at e
      · rename_i el hu
        split at e
        · rename_i z' hz
          obtain ⟨hzz, e1⟩ := ev_bif e
          rw [nbeq, decide_eq_true_eq] at hzz
          obtain ⟨hir, e2⟩ := ev_when e1
          cases ev_ret e2
          subst hzz
          obtain ⟨h0, h1⟩ := inRange_iff.1 hir
          rcases (hρ _ _ hx).row_inv with ⟨g, a', cap', he, hg, hgz, hs, hcap, ha⟩ | ⟨hz0, _⟩
          · have hc0 : cap' ≠ 0 := by rcases hcap with rfl | ⟨_, _, h3, _⟩ <;> omega
            have := ha hc0; subst this
            refine hpure (v' := .pointer (some ⟨g.B, g.off + (n.toNat * z' + 0), none⟩)) (run_v ?_) (.rptr hg hgz) rfl
            simp [Instr.indexAt, Sem.run_bind, hn', asIntOf, he, run_underlying hu, Result.andThen, h0, h1, run_pSize hz, Addr.add_mk, Nat.add_assoc]
          · omega
        · exact (ev_fail e).elim
      · exact (ev_fail e).elim
    · rename_i b z s m c k n hx hn
      have hn' := (hρ _ _ hn).int_inv
      split at e
      · rename_i el hu
        split at e
        · rename_i z' hz
          obtain ⟨hzz, e1⟩ := ev_bif e
          rw [nbeq, decide_eq_true_eq] at hzz
          obtain ⟨hir, e2⟩ := ev_when e1
          cases ev_ret e2
          subst hzz
          obtain ⟨h0, h1⟩ := inRange_iff.1 hir
          rcases (hρ _ _ hx).win_inv with ⟨g, a', cap', he, hg, hgz, hcap, ha, hnc⟩ | ⟨hz0, _⟩
          · have hc0 : cap' ≠ 0 := by rcases hcap with rfl | ⟨_, _, h3, _⟩ <;> omega
            have := ha hc0; subst this
            refine hpure (v' := .pointer (some ⟨g.B, g.off + ((s + n.toNat) * z' + 0), none⟩)) (run_v ?_) (.rptr hg hgz) rfl
            simp [Instr.indexAt, Sem.run_bind, hn', asIntOf, he, run_underlying hu, Result.andThen, h0, h1, run_pSize hz, Addr.add_mk, Nat.add_assoc, Nat.add_mul]
          · omega
        · exact (ev_fail e).elim
      · exact (ev_fail e).elim
    · rename_i b o len cap k n hx hn
      split at e
      · rename_i el hu
        split at e
        · rename_i z hz
          obtain ⟨u, h1, h2⟩ := ev_bind _ e
          cases ev_ret h2
          obtain ⟨h3, rfl⟩ := tptr_ev len h1
          refine cmem_sound R hρ hi ?_
          simp only [cmem_eq, cmem0, cpure_eq, cpure0, hx, hn, hu, hz, h3, cond_true]
        · exact (ev_fail e).elim
      · exact (ev_fail e).elim
    · rename_i b o k n hx hn
      split at e
      · rename_i m el hu
        split at e
        · rename_i z hz
          obtain ⟨u, h1, h2⟩ := ev_bind _ e
          cases ev_ret h2
          obtain ⟨h3, rfl⟩ := tptr_ev m h1
          refine cmem_sound R hρ hi ?_
          simp only [cmem_eq, cmem0, cpure_eq, cpure0, hx, hn, hu, hz, h3, cond_true]
        · exact (ev_fail e).elim
      · exact (ev_fail e).elim
    · exact hc (e := e)
  · -- slice
    rename_i t x lo hh mx hop
    obtain ⟨dst, op, type, pos, after, guard⟩ := o
    simp only [] at hop; subst hop
    split at e
    · rename_i u l h2 m hx hl hhh hm
      obtain ⟨v1, e1, e2⟩ := ev_bind _ e
      cases ev_ret e2
      have hr := hρ _ _ hx
      have hb : ∀ {v : Option CV} {y : Nat} {a : Option Nat}, (tbnd v y).ev = some a → ∀ q, v = some q → ∃ k n, q = .int k n := fun {v y a} hh q hq => by
        rcases tbnd_inv hh with ⟨h1, _⟩ | ⟨k, n, h1, _⟩
        · rw [h1] at hq; cases hq
        · rw [h1] at hq; cases hq; exact ⟨_, _, rfl⟩
      have hrg : ∀ {lo hi : Option CV} {n : Nat} {k : Option Nat → Option Nat → T CV}, (trange lo hi n k).ev = some v → (∀ q, lo = some q → ∃ k n, q = .int k n) ∧ (∀ q, hi = some q → ∃ k n, q = .int k n) := fun {lo hi n k} hh => by
        unfold trange at hh
        obtain ⟨b, q1, hh⟩ := ev_bind _ hh
        obtain ⟨a, q2, hh⟩ := ev_bind _ hh
        exact ⟨hb q2, hb q1⟩
      have hzz : ∀ {a : Option CV}, isZero a = true → ∀ q, a = some q → ∃ k n, q = .int k n := fun {a} ha q hq => by
        subst hq
        unfold isZero at ha
        split at ha
        · rename_i hs; cases hs; exact ⟨_, _, rfl⟩
        · cases ha
      have hint : (∀ q, l = some q → ∃ k n, q = .int k n) ∧ (∀ q, h2 = some q → ∃ k n, q = .int k n) ∧ (∀ q, m = some q → ∃ k n, q = .int k n) := by
        have hemp : (noLow l && (isZero m && isZero h2)) = true → (∀ q, l = some q → ∃ k n, q = .int k n) ∧ (∀ q, h2 = some q → ∃ k n, q = .int k n) ∧ (∀ q, m = some q → ∃ k n, q = .int k n) := by
          intro hem
          simp only [Bool.and_eq_true] at hem
          refine ⟨fun q hq => ?_, hzz hem.2.2, hzz hem.2.1⟩
          subst hq; simp [noLow] at hem
        have hmid : ∀ {n : Nat} {k : Option Nat → Option Nat → T CV}, (match m with | none => trange l h2 n k | some _ => .fail).ev = some v → (∀ q, l = some q → ∃ k n, q = .int k n) ∧ (∀ q, h2 = some q → ∃ k n, q = .int k n) ∧ (∀ q, m = some q → ∃ k n, q = .int k n) := by
          intro n k hh
          split at hh
          · obtain ⟨q1, q2⟩ := hrg hh
            exact ⟨q1, q2, fun q hq => by cases hq⟩
          · exact (ev_fail hh).elim
        have hmidC : ∀ {n c : Nat} {k : Option Nat → Option Nat → T CV}, (match m with | none => trangeC l h2 n c k | some _ => .fail).ev = some v → (∀ q, l = some q → ∃ k n, q = .int k n) ∧ (∀ q, h2 = some q → ∃ k n, q = .int k n) ∧ (∀ q, m = some q → ∃ k n, q = .int k n) := by
          intro n c k hh
          split at hh
          · unfold trangeC at hh
            obtain ⟨b, q1, hh⟩ := ev_bind _ hh
            obtain ⟨a, q2, hh⟩ := ev_bind _ hh
            exact ⟨hb q2, hb q1, fun q hq => by cases hq⟩
          · exact (ev_fail hh).elim
        have hmid3 : ∀ {n : Nat} {k : Option Nat → Option Nat → T CV} {k3 : Nat → Nat → Nat → T CV}, (match m with | none => trange l h2 n k | some mv => tr3 l h2 mv n k3).ev = some v → (∀ q, l = some q → ∃ k n, q = .int k n) ∧ (∀ q, h2 = some q → ∃ k n, q = .int k n) ∧ (∀ q, m = some q → ∃ k n, q = .int k n) := by
          intro n k k3 hh
          split at hh
          · obtain ⟨q1, q2⟩ := hrg hh
            exact ⟨q1, q2, fun q hq => by cases hq⟩
          · rename_i mv
            unfold tr3 at hh
            obtain ⟨b, q1, hh⟩ := ev_bind _ hh
            split at hh
            · exact (ev_fail hh).elim
            · rename_i hv
              obtain ⟨c, q2, hh⟩ := ev_bind _ hh
              obtain ⟨a, q3, hh⟩ := ev_bind _ hh
              exact ⟨hb q3, hb q2, hb q1⟩
        unfold tslice at e1
        split at e1
        · split at e1
          · split at e1
            · have e3 := (ev_bif e1).2
              cases hem : (noLow l && (isZero m && isZero h2)) with
              | true => exact hemp hem
              | false => rw [hem] at e3; exact hmid e3
            · exact (ev_fail e1).elim
          · exact (ev_fail e1).elim
        · split at e1
          · split at e1
            · have e3 := (ev_bif e1).2
              cases hem : (noLow l && (isZero m && isZero h2)) with
              | true => exact hemp hem
              | false => rw [hem] at e3; exact hmid3 e3
            · exact (ev_fail e1).elim
          · exact (ev_fail e1).elim
        · split at e1
          · split at e1
            · exact hmidC (ev_bif e1).2
            · exact (ev_fail e1).elim
          · exact (ev_fail e1).elim
        · have e3 := ev_of' e1
          unfold cslice at e3
          repeat' split at e3
          all_goals first | (cases e3; done) | exact cbounds_int ‹cbounds _ _ _ _ _ = some _›
      have q1 := optEval_rel hρ hl hint.1
      have q2 := optEval_rel hρ hhh hint.2.1
      have q3 := optEval_rel hρ hm hint.2.2
      obtain ⟨v', h1, h3⟩ := tslice_sound R hr e1
      refine hpure (run_v ?_) h3 rfl
      show (Instr.sliceAt t (ρ' x) (lo.map ρ') (hh.map ρ') (mx.map ρ')).run P w = _
      rw [q1, q2, q3]; exact h1
    · exact (ev_fail e).elim
  · -- makeSlice
    rename_i t l c hop
    split at e
    · rename_i el k n hu hn
      split at e
      · rename_i r it hk hit
        split at e
        · rename_i z hz
          split at e
          · rename_i x0 hx0
            cases hcond : (opSame l c && Nat.beq it.size r.z && Nat.beq z.cells.size r.z) with
            | false => rw [hcond] at e; exact hc (e := e)
            | true =>
              rw [hcond] at e
              simp only [cond_true] at e
              simp only [Bool.and_eq_true, nbeq, decide_eq_true_eq] at hcond
              obtain ⟨⟨hsame, c2⟩, c3⟩ := hcond
              obtain ⟨hlim, e1⟩ := ev_when e
              simp only [Bool.and_eq_true, decide_eq_true_eq] at hlim
              obtain ⟨⟨c1, c4⟩, c5⟩ := hlim
              obtain ⟨hid, hp⟩ := mkRow_inv e1
              cases hp
              have hlc : ρ' l = ρ' c := by
                unfold opSame at hsame
                split at hsame
                · rw [nbeq, decide_eq_true_eq] at hsame; rw [hsame]
                · cases hsame
              have hn' := (hρ _ _ hn).int_inv
              obtain ⟨zv, hzv, hzf, hze, hzt, hzl⟩ := zeroOf_inv hz
              have hzr := LRel.cells_flat hzl i
              rw [hzt] at hzr
              have hzsz : zv.cells.size = r.z := by have := hzr.len; simp at this; omega
              have hel := of_rel hx0 hzr
              have hall : ∀ q, LRel i (r.all (List.replicate q x0)) (zeroV zv.cells.toList q) := by
                intro q
                induction q with
                | zero => exact .nil i
                | succ q ih => rw [List.replicate_succ, r.all_cons, zeroV]; exact hel.append ih
              have hrun : (execOp ρ' o).run P w = .ok (.value (.slice (some ⟨w.heap.size, 0, none⟩) n.toNat n.toNat)) (w.alloc (.cells (zeroV zv.cells.toList n.toNat).toArray el)) := by
                obtain ⟨dst, op, type, pos, after, guard⟩ := o
                simp only [] at hop; subst hop
                refine run_v ?_
                have w1 := wrap_small c1 c5
                have hsz : P.cellsOf el = it.size := by simp [Program.cellsOf, hit]
                have hrow : ((Array.range (n.toNat * it.size)).map fun x => (zv.cells)[x % zv.cells.size]!) = (zeroV zv.cells.toList n.toNat).toArray := by
                  rw [c2, ← hzsz]; exact zeroRow_array zv.cells n.toNat
                have hz0 : ∀ zz : Array Value, n.toNat * it.size = 0 → Array.map (fun x => zz[x % zz.size]!) (Array.range (n.toNat * it.size)) = (zeroV zv.cells.toList n.toNat).toArray := fun zz h0 => by
                  rw [← hrow]; simp [h0]
                have hzv2 : ∀ w : World, (zeroValue el).run P w = .ok zv w := fun w => by simp [zeroValue, Sem.run_bind, run_typeInfo w hit, Result.andThen, hzv]
                have hbig : (decide (n < 0) || decide ((it.bytes : Int) * n > 2 ^ 48)) = false := by
                  have : (it.bytes : Int) * n ≤ 2 ^ 40 := by rw [Int.mul_comm]; exact c4
                  simp; omega
                have hno : (decide (n < 0) || decide ((it.bytes : Int) * n > 2 ^ 48) || decide (n < 0) || decide (n > n)) = false := by
                  rw [hbig]; simp; omega
                simp only [Instr.makeSlice, Sem.run_bind, run_underlying hu, Result.andThen_ok, ← hlc, hn', asInt, asIntOf, Sem.run_pure, run_typeInfo w hit, w1, hno, Bool.false_eq_true, if_false, run_askRoom, run_sizeOf w hit, hsz]
                by_cases h0 : n.toNat * it.size = 0
                · simp only [if_pos h0, Sem.run_bind, Sem.run_pure, Result.andThen_ok, hz0 _ h0, newRow, run_newObj_alloc]
                · simp only [if_neg h0, Sem.run_bind, Sem.run_pure, Result.andThen_ok, hzv2, hrow, newRow, run_newObj_alloc]
              have hl2 : (List.replicate n.toNat x0).length = n.toNat := by simp
              have := does_rows0 (t := el) R ro hid hi (hall n.toNat) (by rw [hl2]; exact hrun)
              rw [hl2] at this
              simpa [eall] using this
          · exact hc (e := e)
        · exact (ev_fail e).elim
      · exact hc (e := e)
    · exact hc (e := e)
  · -- len
    rename_i args ts hop
    obtain ⟨dst, op, type, pos, after, guard⟩ := o
    simp only [] at hop; subst hop
    have hlen : ∀ {x : CV} {t el : TypeId} {m : Nat}, evals ρ args.toList = some [x] → ts[0]? = some t → P.underlying t = some (.slice el) → (∀ y, VRel i x y → ∃ a c, y = .slice a m c) → v = .int .i64 m → ef = [] →
        Does P N ro id i h w (execOp ρ' { dst := dst, op := .call { callee := .builtin .len, args := args, argTypes := ts }, type := type, pos := pos, after := after, guard := guard }) v (eall h ef) := by
      intro x t el m hx ht hu hm hv he
      subst hv
      obtain ⟨y, ys, h1, h2, h3⟩ := (evals_rel hρ _ hx).cons_inv
      have := h3.nil_inv; subst this
      have hmap : args.map ρ' = #[y] := by rw [map_toArray, h1]
      obtain ⟨a, c, rfl⟩ := hm y h2
      exact hpure (v' := .int .i64 m) (by simp [execOp, resolve, invoke, builtin, Builtin.len_, ht, Sem.run_bind, run_underlying hu, Result.andThen, hmap, goInt]) (.int _ _) he
    split at e
    · rename_i r l t hx ht
      split at e
      · rename_i el hu
        cases ev_ret e
        exact hlen hx ht hu (fun y hy => by rcases hy.pl_inv with ⟨B, o, c, ys, a', rfl, _⟩ | ⟨rfl, a, c, rfl⟩ <;> exact ⟨_, _, rfl⟩) rfl rfl
      · exact (ev_fail e).elim
    · rename_i b z n t hx ht
      split at e
      · rename_i el hu
        cases ev_ret e
        exact hlen hx ht hu (fun y hy => by rcases hy.row_inv with ⟨g, a', cap', rfl, _⟩ | ⟨rfl, _, a, rfl⟩ <;> exact ⟨_, _, rfl⟩) rfl rfl
      · exact (ev_fail e).elim
    · rename_i b z s n c t hx ht
      split at e
      · rename_i el hu
        cases ev_ret e
        exact hlen hx ht hu (fun y hy => by rcases hy.win_inv with ⟨g, a', cap', rfl, _⟩ | ⟨rfl, _, a, rfl⟩ <;> exact ⟨_, _, rfl⟩) rfl rfl
      · exact (ev_fail e).elim
    · rename_i t hx ht
      split at e
      · rename_i el hu
        cases ev_ret e
        exact hlen (m := 0) hx ht hu (fun y hy => by obtain ⟨a, rfl⟩ := hy.empty_inv; exact ⟨_, _, rfl⟩) rfl rfl
      · exact (ev_fail e).elim
    · exact hc (e := e)
  · -- append
    rename_i args ts hop
    split at e
    · rename_i x y t u hxy h0 h1
      split at e
      · rename_i el hu hnt
        obtain ⟨d, hd, hnd⟩ := isIntT_false hnt
        split at e
        · rename_i r it hk hit
          cases hnest : (nested r && onCells x) with
          | true => rw [hnest, cond_true] at e; exact hc (e := e)
          | false =>
          rw [hnest, cond_false] at e
          obtain ⟨x', r1, e1, hx, hr⟩ := (evals_rel hρ _ hxy).cons_inv
          obtain ⟨y', r2, e2, hy, hr2⟩ := hr.cons_inv
          have := hr2.nil_inv; subst this; subst e2
          have hmap : args.map ρ' = #[x', y'] := by rw [map_toArray, e1]
          obtain ⟨dst, op, type, pos, after, guard⟩ := o
          simp only [] at hop; subst hop
          obtain ⟨nx, i', w', v', d1, d2⟩ := tappend_sound (ty := type) R hi h0 h1 hu hd hnd hit hx hy e
          refine ⟨nx, i', w', v', ?_, d2⟩
          rw [← d1]
          simp [execOp, resolve, invoke, builtin, Sem.run_bind, Result.andThen, hmap]
        · exact hc (e := e)
      · rename_i el hu hnt
        obtain ⟨x', r1, e1, hx, hr⟩ := (evals_rel hρ _ hxy).cons_inv
        obtain ⟨y', r2, e2, hy, hr2⟩ := hr.cons_inv
        have := hr2.nil_inv; subst this; subst e2
        have hmap : args.map ρ' = #[x', y'] := by rw [map_toArray, e1]
        obtain ⟨dst, op, type, pos, after, guard⟩ := o
        simp only [] at hop; subst hop
        obtain ⟨nx, i', w', v', d1, d2⟩ := tzeros_sound (ty := type) (ro := ro) R hi h0 h1 hu hx hy e
        refine ⟨nx, i', w', v', ?_, d2⟩
        rw [← d1]
        simp [execOp, resolve, invoke, builtin, Sem.run_bind, Result.andThen, hmap]
      · exact (ev_fail e).elim
    · exact (ev_fail e).elim
  · -- clear
    rename_i args ts hop
    split at e
    · rename_i b z s n c t hxy ht
      split at e
      · rename_i el hu
        split at e
        · rename_i l hz hzv hb
          obtain ⟨hcc, e⟩ := ev_bif e
          cases ev_ret e
          simp only [Bool.and_eq_true, nble, nbeq, decide_eq_true_eq] at hcc
          obtain ⟨hro, rfl⟩ := hcc
          obtain ⟨x', r1, e1, hx, hr⟩ := (evals_rel hρ _ hxy).cons_inv
          have := hr.nil_inv; subst this
          have hmap : args.map ρ' = #[x'] := by rw [map_toArray, e1]
          obtain ⟨dst, op, type, pos, after, guard⟩ := o
          simp only [] at hop; subst hop
          show Does P N ro id i h w _ _ (fset h b (.rows .ints (l.take s ++ List.replicate n 0 ++ l.drop (s + n))))
          have hsame : n = 0 → fset h b (.rows .ints (l.take s ++ List.replicate n 0 ++ l.drop (s + n))) = h := fun hn => by
            subst hn
            funext k
            by_cases hk : k = b
            · subst hk; rw [fset_eq, hb]; simp
            · rw [fset_ne _ _ hk]
          by_cases hn0 : n = 0
          · rw [hsame hn0]
            subst hn0
            obtain ⟨a, c', rfl⟩ : ∃ a c', x' = .slice a 0 c' := by
              rcases hx.win_inv with ⟨g, a', cap', rfl, _⟩ | ⟨_, _, a, rfl⟩ <;> exact ⟨_, _, rfl⟩
            exact ⟨_, i, w, _, (by cases a <;> (simp [execOp, resolve, invoke, builtin, Builtin.clear_, Sem.run_bind, Result.andThen, hmap, ht, run_underlying hu]; rfl)), .inl rfl, .undef i, R, .refl _ _ _ _, fun _ _ => ⟨rfl, rfl⟩⟩
          · rcases hx.win_inv' with ⟨g, a', cap', rfl, hg, hgz, hcap, ha, hnc, hle⟩ | ⟨hn, _⟩
            · have hc0 : cap' ≠ 0 := by rcases hcap with rfl | ⟨_, _, h3, _⟩ <;> omega
              have := ha hc0; subst this
              have hsz : g.size = (RC.ints.all l).length := (R.obj b _ g hb hg).1
              have hsl : s + n ≤ l.length := by
                rw [hsz, RC.all_length, show RC.ints.z = 1 from rfl] at hle; omega
              have hzl : ∀ m : Nat, LRel i (RC.ints.all (List.replicate m 0)) (zeroV [Value.int .i64 0] m) := by
                intro m
                induction m with
                | zero => exact .nil _
                | succ m ih => exact .cons (.int _ _) ih
              have hxl : s * 1 + (RC.ints.all (List.replicate n (0 : Int))).length ≤ (RC.ints.all l).length := by
                rw [RC.all_length, RC.all_length, List.length_replicate]; simp only [show RC.ints.z = 1 from rfl]; omega
              obtain ⟨w', s1, s2, s3⟩ := CRel.store (P := P) (ob2 := .rows .ints (l.take s ++ List.replicate n 0 ++ l.drop (s + n))) R hb hg hro rfl (R.obj b _ g hb hg) (fun {w'} hcr => by
                have := setR_rows RC.ints l (List.replicate n (0 : Int)) s (by rw [List.length_replicate]; exact hsl)
                rw [List.length_replicate] at this
                rw [show s * 1 = s * RC.ints.z from rfl, this] at hcr; exact hcr) (by decide) hxl (RC.ints.all_ok _) (hzl n)
              refine ⟨_, i, w', _, ?_, .inl rfl, .undef i, s2, s3, fun _ _ => ⟨rfl, rfl⟩⟩
              obtain ⟨n', rfl⟩ : ∃ k, n = k + 1 := ⟨n - 1, by omega⟩
              have hzr : (Builtin.zeroCells (Value.int .i64 0).cells (n' + 1)).toList = zeroV [Value.int .i64 0] (n' + 1) := by rw [zeroCells_row]; rfl
              have hz2 := (run_pZero hzv w).1
              simp only [Nat.mul_one] at s1
              simp [execOp, resolve, invoke, builtin, Builtin.clear_, Sem.run_bind, Result.andThen, hmap, ht, run_underlying hu, hz2, hzr, s1, CV.toV]
              rfl
            · exact absurd hn hn0
        · exact (ev_fail e).elim
      · exact (ev_fail e).elim
    · exact hc (e := e)
  · -- cap
    rename_i args ts hop
    have go : ∀ {x : CV} {t el : TypeId}, evals ρ args.toList = some [x] → ts[0]? = some t → P.underlying t = some (.slice el) → (∀ y, VRel i x y → ∃ a, y = .slice a 0 0) → v = .int .i64 0 → ef = [] → Does P N ro id i h w (execOp ρ' o) v (eall h ef) := by
      intro x t el hx ht hu hy e1 e2
      obtain ⟨x', r1, e3, h3, hr⟩ := (evals_rel hρ _ hx).cons_inv
      have := hr.nil_inv; subst this
      obtain ⟨a, rfl⟩ := hy x' h3
      have hmap : args.map ρ' = #[.slice a 0 0] := by rw [map_toArray, e3]
      obtain ⟨dst, op, type, pos, after, guard⟩ := o
      simp only [] at hop; subst hop
      subst e1
      exact hpure (v' := .int .i64 0) (by simp [execOp, resolve, invoke, builtin, Builtin.cap_, ht, Sem.run_bind, run_underlying hu, Result.andThen, hmap, goInt]) (.int _ _) e2
    split at e
    · rename_i t hx ht
      split at e
      · rename_i el hu
        cases ev_ret e
        exact go hx ht hu (fun y hy => ⟨none, (hy.nilSlice_inv).2.2⟩) rfl rfl
      · exact (ev_fail e).elim
    · rename_i t hx ht
      split at e
      · rename_i el hu
        cases ev_ret e
        exact go hx ht hu (fun y hy => hy.empty_inv) rfl rfl
      · exact (ev_fail e).elim
    · exact hc (e := e)
  · -- makeMap
    rename_i t hop
    have e1 := ev_of' e
    unfold cnew at e1
    split at e1
    · rename_i hid
      cases e1
      have hO : ORel P N (upd i id ⟨w.heap.size, 0, 0, false, 0, 0⟩) (w.alloc (Obj.map #[] 0)) ⟨w.heap.size, 0, 0, false, 0, 0⟩ (bif isMarks P t then .keys [] else .map []) := by
        have hcell : (w.alloc (Obj.map #[] 0)).heap[w.heap.size]? = some (.map #[] 0) := by rw [← World.alloc_eq]; simp
        cases isMarks P t with
        | true => exact ⟨R.hN, #[], 0, hcell, rfl⟩
        | false => exact ⟨R.hN, #[], 0, hcell, rfl, fun k e e' he => by simp at he⟩
      obtain ⟨R', S'⟩ := R.alloc ro hid hi (bif isMarks P t then .keys [] else .map []) (.map #[] 0) ⟨w.heap.size, 0, 0, false, 0, 0⟩ rfl hO
      obtain ⟨dst, op, type, pos, after, guard⟩ := o
      simp only [] at hop; subst hop
      exact ⟨.value (.map (some w.heap.size)), _, w.alloc (.map #[] 0), _, by simp [execOp, Instr.makeMap, Sem.run_bind, run_newObj_alloc, Result.andThen], .inl rfl, .map (g := ⟨w.heap.size, 0, 0, false, 0, 0⟩) (upd_same i id _), R', S', fun b hb => ⟨upd_ne i _ hb, rfl⟩⟩
    · cases e1
  · -- lookup
    rename_i t x ix ok hop
    split at e
    · rename_i m k hm hk
      obtain ⟨rfl, v', h1, h2⟩ := tlookup_sound (id := id) (ro := ro) R (hρ _ _ hm) (hρ _ _ hk) e
      obtain ⟨dst, op, type, pos, after, guard⟩ := o
      simp only [] at hop; subst hop
      exact hpure (v' := v') (run_v h1) h2 rfl
    · exact (ev_fail e).elim
  · -- mapUpdate
    rename_i t m k x hop
    split at e
    · rename_i m' k' x' hm hk hx
      obtain ⟨rfl, w', h1, h2, h3⟩ := tmapSet_sound (id := id) (ro := ro) R (hρ _ _ hm) (hρ _ _ hk) (hρ _ _ hx) e
      obtain ⟨dst, op, type, pos, after, guard⟩ := o
      simp only [] at hop; subst hop
      exact ⟨.skip, i, w', undef, by simp [execOp, Sem.run_bind, h1, Result.andThen], .inr ⟨rfl, rfl⟩, .undef i, h2, h3, fun _ _ => ⟨rfl, rfl⟩⟩
    · exact (ev_fail e).elim
  · -- insert
    rename_i t m k x hop
    split at e
    · rename_i m' k' x' hm hk hx
      obtain ⟨rfl, w', h1, h2, h3⟩ := tmapSet_sound (id := id) (ro := ro) R (hρ _ _ hm) (hρ _ _ hk) (hρ _ _ hx) e
      obtain ⟨dst, op, type, pos, after, guard⟩ := o
      simp only [] at hop; subst hop
      exact ⟨.skip, i, w', undef, by simp [execOp, Sem.run_bind, h1, Result.andThen], .inr ⟨rfl, rfl⟩, .undef i, h2, h3, fun _ _ => ⟨rfl, rfl⟩⟩
    · exact (ev_fail e).elim
  · -- convert
    rename_i src dst x hop
    split at e
    · rename_i b z n hx
      obtain ⟨dst', op, type, pos, after, guard⟩ := o
      simp only [] at hop; subst hop
      unfold tstr at e
      split at e
      · rename_i el l hs hd hb
        split at e
        · rename_i he
          obtain ⟨hcc, e⟩ := ev_bif e
          cases ev_ret e
          simp only [Bool.and_eq_true, nbeq, decide_eq_true_eq] at hcc
          obtain ⟨rfl, rfl⟩ := hcc
          have key : ∃ y, ρ' x = y ∧ (convert src dst y).run P w = .ok (.string ⟨l.toArray⟩) w := by
            rcases (hρ _ _ hx).row_inv with ⟨g, a', cap', hy, hg, hgz, hgs, hcap, ha'⟩ | ⟨h0, hvd, a, hy⟩
            · refine ⟨_, hy, ?_⟩
              obtain ⟨g1, g2, g3, ⟨ys, hly, hcells⟩, g6⟩ := R.obj b _ g hb hg
              refine run_convert_bytes_back w src dst el a' cap' l hs he hd fun j hj => ?_
              have hc0 : cap' ≠ 0 := by rcases hcap with rfl | ⟨_, _, h3, _⟩ <;> omega
              have := ha' hc0; subst this
              rw [Addr.add_mk]
              have hx1 : (RC.bytes.all l)[j]? = some (.int .u8 l[j].toNat) := by
                have : ∀ (l : List UInt8) (j : Nat) (hj : j < l.length), (RC.bytes.all l)[j]? = some (.int .u8 l[j].toNat) := fun l => by
                  induction l with
                  | nil => intro j hj; simp at hj
                  | cons c r ih =>
                    intro j hj
                    rw [RC.all_cons]
                    cases j with
                    | zero => rfl
                    | succ j => exact ih j (by simpa using hj)
                exact this l j hj
              have hyl : j < ys.length := by
                rw [← hly.len]; exact (List.getElem?_eq_some_iff.1 hx1).1
              have hv := hly.at_ j _ ys[j] hx1 (List.getElem?_eq_getElem hyl)
              have hy2 : ys[j] = .int .u8 l[j].toNat := (fun v (h : VRel i (.int .u8 l[j].toNat) v) => by cases h; rfl : ∀ v, VRel i (.int .u8 l[j].toNat) v → v = .int .u8 l[j].toNat) _ hv
              exact hcells j _ (by rw [List.getElem?_eq_getElem hyl, hy2])
            · refine ⟨_, hy, ?_⟩
              have hl0 : l = [] := List.length_eq_zero_iff.1 h0
              subst hl0
              rw [run_convert_bytes_string w src dst el a _ _ hs he hd]
              cases a with
              | none => simp [Conv.bytesToString]; rfl
              | some a =>
                have := run_convert_bytes_back (P := P) w src dst el a 0 [] hs he hd (fun j hj => by simp at hj)
                rw [run_convert_bytes_string w src dst el (some a) _ _ hs he hd] at this
                exact this
          obtain ⟨y, hy, hrun⟩ := key
          exact hpure (v' := .string ⟨l.toArray⟩) (run_v (by rw [hy]; exact hrun)) (.string _) rfl
        · exact (ev_fail e).elim
      · exact (ev_fail e).elim
    · exact hc (e := e)
  · exact hc (e := e)

end Go.Proofs.YtecidokjhplbgaaGreatDoorD
