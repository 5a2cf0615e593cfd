/-
  append and its like, where the kinds of the elements are known.
-/
import Derived.Test.YtkdjllolnlndkaaTOps1
set_option linter.unusedVariables false
set_option linter.unusedSimpArgs false
namespace Go.Proofs.YtkdjllolnlndkaaD
open Go Go.RowKit

variable {P : Program} {N : Nat} {i : Inj} {h : HF} {w : World}

theorem frzL_sound {ro : Nat} : ∀ {xs : List CV} {i : Inj} {h : HF} {xs2 : List CV} {ef : Eff} {ys : List Value}, Rel P N i h w → LRel i xs ys → frzL ro h xs = some (xs2, ef) →
    ∃ i', Frz P N ro i h w i' (eall h ef) ∧ LRel i' xs2 ys ∧ xs2.length = xs.length
  | [], i, h, xs2, ef, ys, R, hl, e => by
    simp only [frzL, Option.some.injEq, Prod.mk.injEq] at e
    obtain ⟨rfl, rfl⟩ := e
    exact ⟨i, .refl R, hl, rfl⟩
  | x :: xs, i, h, xs2, ef, ys, R, hl, e => by
    simp only [frzL] at e
    split at e
    · rename_i v' e1 h1
      split at e
      · rename_i vs es h2
        cases e
        obtain ⟨y, ys', rfl, h3, h4⟩ := hl.cons_inv
        obtain ⟨i1, F1, q1⟩ := frz1_sound R h3 h1
        rw [fupd_eall] at h2
        obtain ⟨i2, F2, q2, q3⟩ := frzL_sound F1.rel (h4.mono F1.step.ext) h2
        rw [eall_append]
        exact ⟨i2, F1.trans F2, .cons (q1.mono F2.step.ext) q2, by simp [q3]⟩
      · cases e
    · cases e

/-- What the first cells of a slice are, and its length, in every world of this heap. -/
def Src (P : Program) (w : World) (i : Inj) (cs : List CV) (z n : Nat) (y : Value) : Prop :=
  (∀ w' : World, w'.heap = w.heap → (Builtin.lenOf y).run P w' = .ok n w') ∧ ∃ vs, LRel i cs vs ∧ ∀ w' : World, w'.heap = w.heap → (Builtin.firstCells z n y).run P w' = .ok vs.toArray w'

theorem src_none {a : Option Addr} {z c : Nat} : Src P w i [] z 0 (.slice a 0 c) :=
  ⟨fun _ _ => rfl, [], .nil i, fun w' _ => by cases a <;> simp [Builtin.firstCells, loadCells, loadCellsFrom]⟩

theorem src_cells {B o z n c : Nat} {a' : Addr} {cs : List CV} {ys : List Value} (hl : LRel i cs ys) (hc : ∀ (k : Nat) (v : Value), ys[k]? = some v → w.cell? ⟨B, o + k, none⟩ = some v) (hn : cs.length = n * z) (hle : n ≤ c) (ha : c ≠ 0 → a' = ⟨B, o, none⟩) :
    Src P w i cs z n (.slice (some a') n c) := by
  refine ⟨fun _ _ => rfl, ys, hl, fun w' hw => ?_⟩
  by_cases hc0 : c = 0
  · have : n = 0 := by omega
    subst this
    have : ys = [] := by have := hl.len; rw [hn] at this; cases ys <;> simp_all
    subst this
    simp [Builtin.firstCells, loadCells, loadCellsFrom]
  · have := ha hc0; subst this
    simp only [Builtin.firstCells]
    have hlen : ys.length = n * z := by rw [← hl.len, hn]
    rw [← hlen]
    exact run_loadCells_list (P := P) w' _ ys (fun j v hv => by rw [Addr.add_mk, World.cell?_of_block (w := w) (by rw [hw])]; exact hc j v hv)

theorem Src.mono {i' : Inj} {cs : List CV} {z n : Nat} {y : Value} (h : Src P w i cs z n y) (hi : i.le i') : Src P w i' cs z n y := by
  obtain ⟨h1, vs, h2, h3⟩ := h
  exact ⟨h1, vs, h2.mono hi, h3⟩

theorem row_len (R : Rel P N i h w) {b z n : Nat} {r : RC} {l : List r.den} {g : Img} (hb : h b = some (.rows r l)) (hg : i b = some g) (hz : z = r.z) (hs : n * z = g.size) : n = l.length := by
  have h2 : g.size = (r.all l).length := (R.obj b _ g hb hg).1
  rw [r.all_length, ← hs, hz] at h2
  exact Nat.eq_of_mul_eq_mul_right r.z_pos h2

theorem srcR_sound (R : Rel P N i h w) {ro : Nat} {r : RC} {x : CV} {y : Value} {l : List r.den} {ef : Eff} (hv : VRel i x y) (e : (srcR ro h r x).ev = some (l, ef)) :
    ∃ i', Frz P N ro i h w i' (eall h ef) ∧ Src P w i' (r.all l) r.z l.length y := by
  unfold srcR at e
  split at e
  · cases ev_ret e
    obtain ⟨_, _, rfl⟩ := hv.nilSlice_inv
    exact ⟨i, .refl R, src_none⟩
  · cases ev_ret e
    obtain ⟨a, rfl⟩ := hv.empty_inv
    exact ⟨i, .refl R, src_none⟩
  · rename_i r' l'
    split at e
    · rename_i l2 hc
      obtain ⟨rfl, rfl⟩ := rcast_eq hc
      cases ev_ret e
      refine ⟨i, .refl R, ?_⟩
      rcases hv.pl_inv with ⟨B, o, c, ys, a', rfl, h1, h2, h3, h4⟩ | ⟨rfl, a, c, rfl⟩
      · exact src_cells h1 (fun k v hv => (R.imm B _ v (h2 k v hv)).1) (RC.all_length _ _) h3 h4
      · exact src_none
    · exact (ev_fail e).elim
  · split at e
    · rename_i b z n _ r' l' hb
      split at e
      · rename_i l2 hc
        obtain ⟨rfl, rfl⟩ := rcast_eq hc
        obtain ⟨hz, e⟩ := ev_bif e
        rw [nbeq, decide_eq_true_eq] at hz
        cases ev_ret e
        refine ⟨i, .refl R, ?_⟩
        rcases hv.row_inv with ⟨g, a', cap', rfl, hg, hgz, hs, hcap, ha⟩ | ⟨rfl, hvd, a, rfl⟩
        · have hn := row_len R hb hg hz hs
          subst hn
          obtain ⟨h1, h2, h3, ⟨ys, h4, h5⟩, h6⟩ := R.obj b _ g hb hg
          refine src_cells h4 h5 (RC.all_length _ _) ?_ ha
          rcases hcap with rfl | ⟨_, _, h3, _⟩ <;> omega
        · have hl := (R.void b hvd).2 _ _ hb
          subst hl
          exact src_none
      · exact (ev_fail e).elim
    · exact (ev_fail e).elim
  · split at e
    · rename_i b z s n c _ r' l' hb
      split at e
      · rename_i l2 hc
        obtain ⟨rfl, rfl⟩ := rcast_eq hc
        obtain ⟨hz, e⟩ := ev_bif e
        rw [nbeq, decide_eq_true_eq] at hz
        obtain ⟨hle, e⟩ := ev_when e
        rw [nble, decide_eq_true_eq] at hle
        cases ev_ret e
        refine ⟨i, .refl R, ?_⟩
        have hlen : ((l2.drop s).take n).length = n := by simp; omega
        rw [hlen]
        rcases hv.win_inv with ⟨g, a', cap', rfl, hg, hgz, hcap, ha, hnc⟩ | ⟨rfl, rfl, a, rfl⟩
        · have hsn : s * r'.z + n * r'.z ≤ (r'.all l2).length := by
            rw [r'.all_length, ← Nat.add_mul]; exact Nat.mul_le_mul_right _ hle
          obtain ⟨ys, h1, h2, h3⟩ := (show CRel N i w g (r'.all l2) r'.z 1 from R.obj b _ g hb hg).cellsAt hsn
          rw [r'.all_drop, r'.all_take] at h1
          subst hz
          refine src_cells h1 h3 (by rw [r'.all_length, hlen]) ?_ ha
          rcases hcap with rfl | ⟨_, _, h3, _⟩ <;> omega
        · rw [List.take_zero]; exact src_none
      · exact (ev_fail e).elim
    · exact (ev_fail e).elim
  · split at e
    · rename_i b o len cap _ vs ez m hb
      obtain ⟨hle, e⟩ := ev_bif e
      rw [nble, decide_eq_true_eq] at hle
      split at e
      · rename_i cs ef2 hf
        split at e
        · rename_i l2 hp
          cases ev_ret e
          obtain ⟨g, a', cap', rfl, hg, hcap, ha, hl⟩ := hv.slice_inv
          obtain ⟨ys, h1, h2, h3⟩ := R.cellsAt hb hg hle
          obtain ⟨i1, F, q1, q2⟩ := frzL_sound R h1 hf
          have hcl : cs.length = len * r.z := by rw [q2]; simp; omega
          obtain ⟨q3, q4⟩ := parseR_rel len hp hcl q1
          refine ⟨i1, F, ?_⟩
          rw [q4]
          refine src_cells q3 h3 (by rw [r.all_length, q4]) ?_ ha
          rcases hcap with rfl | ⟨_, _, h3, _⟩ <;> omega
        · exact (ev_fail e).elim
      · exact (ev_fail e).elim
    · exact (ev_fail e).elim
  · exact (ev_fail e).elim

/-! ### New rows -/
theorem mkRow_inv {id : Nat} {r : RC} {l : List r.den} {n : Nat} {ef : Eff} {p : CV × Eff} (e : (mkRow h id r l n ef).ev = some p) : h id = none ∧ p = (.row id r.z n, ef ++ [(id, .rows r l)]) := by
  unfold mkRow at e
  split at e
  · rename_i hid; exact ⟨hid, (ev_ret e).symm⟩
  · exact (ev_fail e).elim

/-- After a step that only freezes, an operation. -/
theorem Does.after {ro id : Nat} {i1 : Inj} {h1 h2 : HF} {s : Sem Next} {v : CV} (F : Frz P N ro i h w i1 h1) (D : Does P N ro id i1 h1 w s v h2) : Does P N ro id i h w s v h2 := by
  obtain ⟨nx, i', w', v', d1, d2, d3, d4, d5, d6⟩ := D
  exact ⟨nx, i', w', v', d1, d2, d3, d4, F.step.trans d5, fun b hb => ⟨(d6 b hb).1.trans (F.blk b).1, (d6 b hb).2.trans (F.blk b).2⟩⟩

/-- A row in a new block. -/
theorem does_rows (R : Rel P N i h w) (ro : Nat) {id : Nat} (hid : h id = none) (hi : i.free id) {s : Sem Next} {t : TypeId} {r : RC} {l : List r.den} {ys rest : List Value} {cap' : Nat} (hl : LRel i (r.all l) ys)
    (hrest : (ys ++ rest).length = cap' * r.z) (hcc : l.length ≤ cap' ∧ cap' ≤ 9223372036854775807)
    (hs : s.run P w = .ok (.value (.slice (some ⟨w.heap.size, 0, none⟩) l.length cap')) ({ w with drawn := w.drawn + 1 }.alloc (.cells (ys ++ rest).toArray t))) :
    Does P N ro id i h w s (.row id r.z l.length) (fset h id (.rows r l)) := by
  have R1 : Rel P N i h { w with drawn := w.drawn + 1 } := R.drawn rfl
  obtain ⟨R', S'⟩ := new_rows R1 ro hid hi t r (rest := rest) hl
  have S0 : Step ro i h w i h { w with drawn := w.drawn + 1 } := Step.drawn rfl rfl rfl rfl
  refine ⟨_, _, _, _, hs, .inl rfl, ?_, R', S0.trans S', fun b hb => ⟨upd_ne i _ hb, rfl⟩⟩
  refine .row (upd_same i id _) rfl (by simp [r.all_length]) (.inr ⟨rfl, ?_, hcc.1, ?_, hcc.2⟩) (fun _ => rfl)
  · simp [r.all_length]
  · simp only [Nat.zero_add]; rw [hrest]; exact Nat.le_refl _

/-- .. of exactly its length. -/
theorem does_rows0 (R : Rel P N i h w) (ro : Nat) {id : Nat} (hid : h id = none) (hi : i.free id) {s : Sem Next} {t : TypeId} {r : RC} {l : List r.den} {ys : List Value} (hl : LRel i (r.all l) ys)
    (hs : s.run P w = .ok (.value (.slice (some ⟨w.heap.size, 0, none⟩) l.length l.length)) (w.alloc (.cells ys.toArray t))) :
    Does P N ro id i h w s (.row id r.z l.length) (fset h id (.rows r l)) := by
  obtain ⟨R', S'⟩ := new_rows R ro hid hi t r (rest := []) hl
  simp only [List.append_nil] at R' S'
  refine ⟨_, _, _, _, hs, .inl rfl, ?_, R', S', fun b hb => ⟨upd_ne i _ hb, rfl⟩⟩
  exact .row (upd_same i id _) rfl (by simp [r.all_length]) (.inl rfl) (fun _ => rfl)

/-- .. without a block. -/
theorem does_void (R : Rel P N i h w) (ro : Nat) {id : Nat} (hid : h id = none) (hi : i.free id) {s : Sem Next} {r : RC} {a : Option Addr} (hs : s.run P w = .ok (.value (.slice a 0 0)) w) :
    Does P N ro id i h w s (.row id r.z 0) (fset h id (.rows r [])) := by
  obtain ⟨R', S'⟩ := R.newVoid ro hid hi r
  exact ⟨_, _, _, _, hs, .inl rfl, .rowVoid (by simp [updVoid]), R', S', fun b hb => ⟨rfl, by simp [updVoid, hb]⟩⟩

/-- What is the same of all ways of 'append'. -/
structure App (P : Program) (w : World) (ts : Array TypeId) (r : RC) (it : TypeInfo) (t u e : TypeId) (d : TypeDesc) (zv : Value) : Prop where
  h0 : ts[0]? = some t
  h1 : ts[1]? = some u
  hu : P.underlying t = some (.slice e)
  hd : P.underlying u = some d
  hnd : isIntD d = false
  hi : P.info? e = some it
  hz : it.zero = some zv
  zsz : zv.cells.size = r.z
  b1 : 1 ≤ it.bytes
  b2 : it.bytes ≤ 2 ^ 20
  sz : it.size = r.z

theorem lrel_len {cs : List CV} {ys : List Value} {n z : Nat} (h : LRel i cs ys) (hc : cs.length = n * z) : ys.length = n * z := by rw [← h.len, hc]

/-- Onto a slice whose room is known to be used up, a new block; onto one without length and room, too. -/
theorem app_new (R : Rel P N i h w) (ro : Nat) {id : Nat} (hid : h id = none) (hi : i.free id) {ts : Array TypeId} {ty t u e : TypeId} {r : RC} {it : TypeInfo} {d : TypeDesc} {zv : Value} (A : App P w ts r it t u e d zv)
    {base : Option Addr} {cap : Nat} {y : Value} {xs ys : List r.den} (hx : Src P w i (r.all xs) r.z xs.length (.slice base xs.length cap)) (hy : Src P w i (r.all ys) r.z ys.length y) (hcap : cap < xs.length + ys.length)
    (hroom : roomOk it (xs.length + ys.length) = true) : Does P N ro id i h w (do pure (Next.value (← Builtin.append_ ts ty #[.slice base xs.length cap, y]))) (.row id r.z (xs.length + ys.length)) (fset h id (.rows r (xs ++ ys))) := by
  obtain ⟨hx0, ox, hx1, hx2⟩ := hx
  obtain ⟨hy0, oy, hy1, hy2⟩ := hy
  simp only [roomOk, nble, decide_eq_true_eq] at hroom
  obtain ⟨nc, hnc, hrun⟩ := append_new_run (P := P) (ty := ty) A.h0 A.h1 A.hu A.hd A.hnd A.hi A.hz (hy0 w rfl) hcap hroom A.b1 A.b2 (by rw [A.sz]; exact hx2) (by rw [A.sz]; exact hy2)
  have l1 := lrel_len hx1 (r.all_length xs)
  have l2 := lrel_len hy1 (r.all_length ys)
  have hll : xs.length + ys.length = (xs ++ ys).length := by simp
  rw [hll] at hrun hnc ⊢
  refine does_rows (t := e) R ro hid hi (ys := ox ++ oy) (by rw [r.all_append]; exact hx1.append hy1) ?_ hnc (run_v hrun)
  simp only [List.length_append, zeroCells_size, A.zsz, l1, l2]
  rw [← Nat.add_mul, ← Nat.add_mul]
  congr 1
  simp only [List.length_append] at hnc; omega

/-- Onto a slice without length and room. -/
theorem app_void (R : Rel P N i h w) (ro : Nat) {id : Nat} (hid : h id = none) (hi : i.free id) {ts : Array TypeId} {ty t u e : TypeId} {r : RC} {it : TypeInfo} {d : TypeDesc} {zv : Value} (A : App P w ts r it t u e d zv)
    {base : Option Addr} {y : Value} {ys : List r.den} (hy : Src P w i (r.all ys) r.z ys.length y)
    (hroom : roomOk it ys.length = true) : Does P N ro id i h w (do pure (Next.value (← Builtin.append_ ts ty #[.slice base 0 0, y]))) (.row id r.z ys.length) (fset h id (.rows r ys)) := by
  by_cases h0 : ys.length = 0
  · have : ys = [] := List.eq_nil_of_length_eq_zero h0
    subst this
    obtain ⟨hy0, oy, hy1, hy2⟩ := hy
    have : oy = [] := by have := hy1.nil_inv; exact this
    subst this
    have hr := append_room_run (P := P) (ty := ty) A.h0 A.h1 A.hu A.hd A.hnd A.hi (base := base) (len := 0) (cap := 0) (new := []) (w' := w) (hy0 w rfl) (Nat.le_refl _) (by rw [A.sz]; exact hy2 w rfl) (fun a _ => rfl) (fun _ => rfl)
    exact does_void R ro hid hi (run_v hr)
  · have := app_new (ty := ty) R ro hid hi A (xs := []) (base := base) (cap := 0) src_none hy (by simp; omega) (by simpa using hroom)
    simpa using this

/-- Onto a part at the end of a row that may have room behind it. -/
theorem app_row (R : Rel P N i h w) {ro : Nat} {id b s n c : Nat} (hid : h id = none) (hi : i.free id) (hro : ro ≤ b) {ts : Array TypeId} {ty t u e : TypeId} {r : RC} {it : TypeInfo} {d : TypeDesc} {zv : Value} (A : App P w ts r it t u e d zv)
    {l : List r.den} {g : Img} (hb : h b = some (.rows r l)) (hg : i b = some g) (hgz : g.esz = r.z) {cap' : Nat} {a' : Addr} (hcap : CapOk g (s * r.z) c cap') (ha : cap' ≠ 0 → a' = ⟨g.B, g.off + s * r.z, none⟩) (hn : n ≤ c) (hend : s + c = l.length)
    {y : Value} {ys : List r.den} (hy : Src P w i (r.all ys) r.z ys.length y) (hgt : n + ys.length ≤ c → n = c)
    (hroom : roomOk it (n + ys.length) = true) :
    Does P N ro id i h w (do pure (Next.value (← Builtin.append_ ts ty #[.slice (some a') n cap', y]))) (.row id r.z (n + ys.length)) (fset (fset h b .dead) id (.rows r ((l.drop s).take n ++ ys))) := by
  have hbid : id ≠ b := fun e => by subst e; rw [hid] at hb; cases hb
  have hR : CRel N i w g (r.all l) r.z 1 := R.obj b _ g hb hg
  have hR' := hR
  obtain ⟨g1, g2, g3, g4, g6⟩ := hR'
  obtain ⟨g7, g8, g9, g10⟩ := g6 (by decide)
  have hsn : s * r.z + n * r.z ≤ (r.all l).length := by
    rw [r.all_length, ← Nat.add_mul]; exact Nat.mul_le_mul_right _ (by omega)
  obtain ⟨os, o1, o2, o3⟩ := hR.cellsAt hsn
  rw [r.all_drop, r.all_take] at o1
  have hlen : ((l.drop s).take n).length = n := by simp; omega
  have hx : Src P w i (r.all ((l.drop s).take n)) r.z ((l.drop s).take n).length (.slice (some a') ((l.drop s).take n).length cap') := by
    rw [hlen]
    refine src_cells o1 o3 (by rw [r.all_length, hlen]) ?_ ha
    rcases hcap with rfl | ⟨_, _, h3, _⟩ <;> omega
  by_cases hr : n + ys.length ≤ cap'
  · -- in its place
    obtain ⟨hy0, oy, hy1, hy2⟩ := hy
    have l2 := lrel_len hy1 (r.all_length ys)
    have htot : s * r.z + cap' * r.z ≤ g.total := by
      rcases hcap with rfl | ⟨c1, c2, c3, c4, c5⟩
      · rw [← Nat.add_mul, hend, ← r.all_length]; exact g8
      · rw [hgz] at c4; exact c4
    have hmul : n * r.z + ys.length * r.z ≤ cap' * r.z := by rw [← Nat.add_mul]; exact Nat.mul_le_mul_right _ hr
    have hsome : ∀ j, j < oy.length → (w.cell? ⟨g.B, g.off + (s * r.z + n * r.z) + 0 + j, none⟩).isSome = true := fun j hj => by
      have := g9 (s * r.z + n * r.z + j) (by omega)
      rwa [show g.off + (s * r.z + n * r.z + j) = g.off + (s * r.z + n * r.z) + 0 + j by omega] at this
    have hfr : ∀ j, j < oy.length → w.frozen? ⟨g.B, g.off + (s * r.z + n * r.z) + 0 + j, none⟩ = false := fun j hj => g10 _
    have hrun := run_storeCells_cells (P := P) g.B (g.off + (s * r.z + n * r.z)) oy 0 w hsome hfr (hy1.cellOk (r.all_ok ys))
    have hcin := fun k => World.cell?_setCells_in g.B oy (g.off + (s * r.z + n * r.z) + 0) w hsome k
    have hstore : ∀ a, some a' = some a → (storeCells (a.add (n * it.size)) oy).run P w = .ok () (w.setCells g.B (g.off + (s * r.z + n * r.z) + 0) oy) := by
      intro a hh
      cases hh
      by_cases hc0 : cap' = 0
      · have h1 : ys.length = 0 := by omega
        have : oy = [] := by cases oy with | nil => rfl | cons _ _ => simp [h1] at l2
        subst this
        rfl
      · rw [ha hc0, A.sz, Addr.add_mk, show g.off + s * r.z + n * r.z = g.off + (s * r.z + n * r.z) by omega]; exact hrun
    have hrr := append_room_run (P := P) (ty := ty) A.h0 A.h1 A.hu A.hd A.hnd A.hi (base := some a') (len := n) (cap := cap') (new := oy) (w' := w.setCells g.B (g.off + (s * r.z + n * r.z) + 0) oy) (hy0 w rfl) hr (by rw [A.sz]; exact hy2 w rfl) hstore (fun hh => by cases hh)
    have hRG := R.regrow (w' := w.setCells g.B (g.off + (s * r.z + n * r.z) + 0) oy) (ro := ro) (b := b) (id := id) (g2 := ⟨g.B, g.off + s * r.z, g.total - s * r.z, true, (n + ys.length) * r.z, r.z⟩) hb hg hro rfl hid hi (setCells_size _ _ _ _) (setCells_os _ _ _ _) (setCells_tape _ _ _ _) (setCells_output _ _ _ _)
      (fun B hB hne => setCells_other g.B hne oy _ w) rfl (ob := .rows r ((l.drop s).take n ++ ys)) (by
        have hall : (r.all ((l.drop s).take n ++ ys)).length = (n + ys.length) * r.z := by rw [r.all_length, List.length_append, hlen]
        refine ⟨hall.symm, rfl, rfl, ⟨os ++ oy, by rw [r.all_append]; exact (o1.append hy1).mono (le_upd _ hi.1), fun k v hv => ?_⟩, fun _ => ⟨g7, by rw [hall, Nat.add_mul]; show _ ≤ g.total - s * r.z; omega, fun k hk => ?_, fun k => by rw [World.frozen?_setCells]; exact g10 k⟩⟩
        · rw [List.getElem?_append] at hv
          split at hv
          · rename_i hk
            rw [World.cell?_setCells_out g.B oy _ w _ (fun _ _ => by simp only []; omega)]
            exact o3 k v hv
          · rename_i hk
            have hk2 : k - os.length < oy.length := (List.getElem?_eq_some_iff.1 hv).1
            have := hcin (k - os.length) hk2
            rw [show g.off + (s * r.z + n * r.z) + 0 + (k - os.length) = g.off + s * r.z + k by omega] at this
            rw [this, ← (List.getElem?_eq_some_iff.1 hv).2]
        · have := g9 (s * r.z + k) (by simp at hk; omega)
          rw [← Nat.add_assoc] at this
          exact World.isSome_setCells g.B oy _ w _ this)
    refine ⟨_, _, _, _, run_v hrr, .inl rfl, ?_, hRG.1, hRG.2, fun b hb => ⟨upd_ne i _ hb, rfl⟩⟩
    refine .row (upd_same i id _) rfl rfl ?_ ha
    rcases hcap with hcc | ⟨c1, c2, c3, c4, c5⟩
    · have := hgt (by omega)
      exact .inl (by omega)
    · refine .inr ⟨rfl, by simp, hr, ?_, c5⟩
      simp only [Nat.zero_add]; omega
  · -- in a new block
    obtain ⟨Rd, Sd⟩ := R.put (ro := ro) (o2 := .dead) (w' := w) hb hg hro rfl rfl rfl rfl rfl (fun _ _ _ => rfl) trivial
    have hid' : fset h b .dead id = none := by rw [fset_ne h _ hbid]; exact hid
    have := app_new (ty := ty) Rd ro hid' hi A (xs := (l.drop s).take n) (base := some a') (cap := cap') hx hy (by rw [hlen]; omega) (by rw [hlen]; exact hroom)
    rw [hlen] at this
    obtain ⟨nx, i', w', v', d1, d2, d3, d4, d5, d6⟩ := this
    exact ⟨nx, i', w', v', d1, d2, d3, d4, Sd.trans d5, d6⟩

end Go.Proofs.YtkdjllolnlndkaaD
