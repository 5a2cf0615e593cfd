/-
  The operations that make or write memory: the law.
-/
import Derived.Test.YtkdjllolnlndkaaOps5
set_option linter.unusedVariables false
set_option linter.unusedSimpArgs false
namespace Go.Proofs.YtkdjllolnlndkaaD
open Go Go.RowKit

variable {P : Program} {N : Nat} {i : Inj} {h : HF} {w : World}

/-- What an operation comes to, in the model. -/
def Does (P : Program) (N ro id : Nat) (i : Inj) (h : HF) (w : World) (s : Sem Next) (v : CV) (h' : HF) : Prop :=
  ∃ nx i' w' v', s.run P w = .ok nx w' ∧ (nx = .value v' ∨ (nx = .skip ∧ v' = undef)) ∧ VRel i' v v' ∧ Rel P N i' h' w' ∧ Step ro i h w i' h' w' ∧ (∀ b, b ≠ id → i' b = i b ∧ i'.void b = i.void b)

theorem run_newVar (t : TypeId) (v : Value) (w : World) : (newVar t v).run P w = .ok ⟨w.heap.size, 0, none⟩ (w.alloc (.cells v.cells t)) := by
  rfl

theorem does_box (R : Rel P N i h w) (ro : Nat) {id : Nat} (hi : i.free id) {s : Sem Next} {t : TypeId} {x : CV} {y : Value} (hv : VRel i x y) (hj : x ≠ .junk) {v : CV} {ef : Eff}
    (hs : s.run P w = .ok (.value (.pointer (some ⟨w.heap.size, 0, none⟩))) (w.alloc (.cells y.cells t)))
    (e : cnew h id (.cells x.cells.toList 1 0) (.pointer (some ⟨id, 0, none⟩)) = some (v, ef)) : Does P N ro id i h w s v (eall h ef) := by
  unfold cnew at e
  split at e
  · rename_i hid
    cases e
    obtain ⟨R', S'⟩ := new_sound R ro hid hi t 1 0 (rest := []) (hv.cells hj)
    simp only [List.append_nil, Array.toArray_toList] at R' S'
    refine ⟨_, _, _, _, hs, .inl rfl, ?_, R', S', fun b hb => ⟨upd_ne i _ hb, rfl⟩⟩
    exact VRel.ptr (g := ⟨w.heap.size, 0, _, _, _, _⟩) (upd_same i id _)
  · cases e

theorem csrc_sound (R : Rel P N i h w) {z n len : Nat} {x : CV} {y : Value} {xs : List CV} (hv : VRel i x y) (hlen : clenOf x = some len) (hn : n ≤ len) (e : csrc h z n x = some xs) :
    ∃ ys, (∀ w' : World, w'.heap = w.heap → (Builtin.firstCells z n y).run P w' = .ok ys.toArray w') ∧ LRel i xs ys ∧ xs.length = n * z := by
  unfold csrc at e
  split at e
  · rename_i l c
    obtain ⟨rfl, rfl, rfl⟩ := hv.nilSlice_inv
    simp [clenOf] at hlen
    have : n = 0 := by omega
    subst this
    simp [nbeq] at e; subst e
    exact ⟨[], fun _ _ => rfl, .nil i, by simp⟩
  · rename_i b o l c
    obtain ⟨g, a', cap', rfl, hg, hc, ha, hl⟩ := hv.slice_inv
    split at e
    · rename_i vs ez m hb
      rw [nble, nble] at e
      by_cases hle : n ≤ l ∧ o + n * z ≤ vs.length
      · simp [hle.1, hle.2] at e
        subst e
        by_cases hc0 : cap' = 0
        · have hcl : l = 0 := by rcases hc with rfl | ⟨_, _, h3, _⟩ <;> omega
          have : n = 0 := by omega
          subst this
          exact ⟨[], fun _ _ => by simp [Builtin.firstCells, loadCells, loadCellsFrom], by simpa using LRel.nil i, by simp⟩
        · have := ha hc0; subst this
          obtain ⟨ys, h1, h2, h3⟩ := R.cellsAt hb hg hle.2
          refine ⟨ys, fun w' hw => ?_, h1, by rw [h1.len, h2]⟩
          simp only [Builtin.firstCells]
          rw [← h2]
          exact run_loadCells_list (P := P) w' _ ys (fun j v hv => by rw [Addr.add_mk, World.cell?_of_block (w := w) (by rw [hw])]; exact h3 j v hv)
      · have : (decide (n ≤ l) && decide (o + n * z ≤ vs.length)) = false := by simpa using hle
        simp [this] at e
    · cases e
  · rename_i s
    have := hv.string_inv; subst this
    rw [nbeq, nble] at e
    by_cases hc : z = 1 ∧ n ≤ s.size
    · simp [hc.1, hc.2] at e
      subst e
      obtain ⟨rfl, hc2⟩ := hc
      refine ⟨(toVL (bytesVals s)).take n, fun w' _ => ?_, LRel.take (LRel.of_flat ?_ i) n, ?_⟩
      · simp only [Builtin.firstCells, Sem.run_pure]
        congr 1
        apply Array.ext'
        simp [bytesVals, toVL_eq, Function.comp_def, CV.toV, ByteArray.data_extract, Array.toList_extract, List.extract, List.map_take]
      · unfold bytesVals
        generalize s.data.toList = l
        induction l with
        | nil => rfl
        | cons a r ih => simp [flatL, flat, ih]
      · simp [bytesVals]
        have : s.data.size = s.size := rfl
        omega
    · have : (decide (z = 1) && decide (n ≤ s.size)) = false := by simpa using hc
      simp [this] at e
  · cases e

theorem growBy_le (n : Nat) : ∀ (r c : Nat), c < n → Builtin.growBy n r c ≤ 2 * n + 200
  | 0, c, h => by simp [Builtin.growBy]; omega
  | r + 1, c, h => by
    simp only [Builtin.growBy]
    split
    · omega
    · by_cases h2 : c + (c + 768) / 4 < n
      · exact growBy_le n r _ h2
      · have : ∀ r, Builtin.growBy n r (c + (c + 768) / 4) = c + (c + 768) / 4 := fun r => by
          cases r with
          | zero => rfl
          | succ r => simp only [Builtin.growBy]; rw [if_pos (by omega)]
        rw [this]; omega

theorem nextcap_le {n c : Nat} (h : c < n) : Builtin.nextslicecap n c ≤ 2 * n + 200 := by
  unfold Builtin.nextslicecap
  split
  · omega
  · split
    · omega
    · exact growBy_le n 4 c h

def isIntD : TypeDesc → Bool
  | .int _ => true
  | _ => false

/-- The model's append, where the array is too small. -/
theorem append_new_run {ts : Array TypeId} {t u e ty : TypeId} {d : TypeDesc} {it : TypeInfo} {z : Value} (h0 : ts[0]? = some t) (h1 : ts[1]? = some u) (hu : P.underlying t = some (.slice e)) (hd : P.underlying u = some d)
    (hnd : isIntD d = false) (hi : P.info? e = some it) (hz : it.zero = some z) {base : Option Addr} {len cap n : Nat} {y : Value} {old new : List Value}
    (hn : (Builtin.lenOf y).run P w = .ok n w) (hcap : cap < len + n) (hb : (len + n) * it.bytes ≤ 2 ^ 40) (hb1 : 1 ≤ it.bytes) (hb2 : it.bytes ≤ 2 ^ 20)
    (hold : ∀ w', w'.heap = w.heap → (Builtin.firstCells it.size len (.slice base len cap)).run P w' = .ok old.toArray w')
    (hnew : ∀ w', w'.heap = w.heap → (Builtin.firstCells it.size n y).run P w' = .ok new.toArray w') :
    ∃ newCap, (len + n ≤ newCap ∧ newCap ≤ 9223372036854775807) ∧ (Builtin.append_ ts ty #[.slice base len cap, y]).run P w =
      .ok (.slice (some ⟨w.heap.size, 0, none⟩) (len + n) newCap) ({ w with drawn := w.drawn + 1 }.alloc (.cells ((old ++ new) ++ (Builtin.zeroCells z.cells (newCap - (len + n))).toList).toArray e)) := by
  have hnc := nextcap_le hcap
  have hlim : ¬ Builtin.nextslicecap (len + n) cap * it.bytes > 2 ^ 48 := by
    have h2 : Builtin.nextslicecap (len + n) cap * it.bytes ≤ (2 * (len + n) + 200) * it.bytes := Nat.mul_le_mul_right _ hnc
    have h3 : (2 * (len + n) + 200) * it.bytes = 2 * ((len + n) * it.bytes) + 200 * it.bytes := by rw [Nat.add_mul, Nat.mul_assoc]
    omega
  have hmax : len + n ≤ 2 ^ 40 := Nat.le_trans (Nat.le_mul_of_pos_right _ hb1) hb
  refine ⟨(Question.appendCap (len + n) cap e).cut (w.tape w.drawn (.appendCap (len + n) cap e)), ⟨by simp [Question.cut], by
    have hlt := Nat.mod_lt (w.tape w.drawn (.appendCap (len + n) cap e)) (show 0 < 2 ^ 63 - (len + n) by omega)
    simp only [Question.cut]
    omega⟩, ?_⟩
  have hw1 : ({ w with drawn := w.drawn + 1 } : World).heap = w.heap := rfl
  have hch : ∀ q, Question.forced q = false → (choose q).run P w = .ok (q.cut (w.tape w.drawn q)) { w with drawn := w.drawn + 1 } := fun q hq => by simp [choose, Sem.run, hq]
  unfold Builtin.append_
  have hcs : P.cellsOf e = it.size := by simp [Program.cellsOf, hi]
  have hb0 : ¬ it.bytes = 0 := by omega
  have hle : ¬ len + n ≤ cap := by omega
  have hzv : ∀ w : World, (zeroValue e).run P w = .ok z w := fun w => by simp [zeroValue, Sem.run_bind, run_typeInfo w hi, Result.andThen, hz]
  have harr : ∀ c : Array Value, old.toArray ++ new.toArray ++ c = ((old ++ new) ++ c.toList).toArray := fun c => by apply Array.ext'; simp
  cases d <;> first | (cases hnd; done) | skip
  all_goals
    simp only [h0, h1, List.getElem?_toArray, List.getElem?_cons_zero, List.getElem?_cons_succ, Sem.run_bind, run_underlying hu, run_underlying hd, run_typeInfo w hi, Result.andThen_ok, run_sizeOf w hi, Sem.run_pure, Bool.false_eq_true, if_false, hn, hle, false_or, hb0, and_false, hlim, hcs]
    rw [hch _ rfl]
    simp only [Result.andThen_ok, Sem.run_bind, run_typeInfo _ hi, run_askRoom, hold _ hw1, hnew _ hw1, Bool.not_false, if_true, hzv, newRow, Sem.run_pure, run_newObj_alloc, harr]
    try rfl

/-- .. and where there is room in it. -/
theorem append_room_run {ts : Array TypeId} {t u e ty : TypeId} {d : TypeDesc} {it : TypeInfo} (h0 : ts[0]? = some t) (h1 : ts[1]? = some u) (hu : P.underlying t = some (.slice e)) (hd : P.underlying u = some d)
    (hnd : isIntD d = false) (hi : P.info? e = some it) {base : Option Addr} {len cap n : Nat} {y : Value} {new : List Value} {w w' : World}
    (hn : (Builtin.lenOf y).run P w = .ok n w) (hcap : len + n ≤ cap)
    (hnew : (Builtin.firstCells it.size n y).run P w = .ok new.toArray w)
    (hst : ∀ a, base = some a → (storeCells (a.add (len * it.size)) new).run P w = .ok () w') (hno : base = none → w' = w) :
    (Builtin.append_ ts ty #[.slice base len cap, y]).run P w = .ok (.slice base (len + n) cap) w' := by
  unfold Builtin.append_
  have hcs : P.cellsOf e = it.size := by simp [Program.cellsOf, hi]
  cases d <;> first | (cases hnd; done) | skip
  all_goals
    simp only [h0, h1, List.getElem?_toArray, List.getElem?_cons_zero, List.getElem?_cons_succ, Sem.run_bind, run_underlying hu, run_underlying hd, run_typeInfo w hi, Result.andThen_ok, run_sizeOf w hi, Sem.run_pure, Bool.false_eq_true, if_false, hn, hcap, if_true, hcs, Bool.not_false, hnew]
    cases base with
    | none => rw [hno rfl]; rfl
    | some a => simp only [Sem.run_bind, hst a rfl, Result.andThen_ok, Sem.run_pure]

end Go.Proofs.YtkdjllolnlndkaaD
