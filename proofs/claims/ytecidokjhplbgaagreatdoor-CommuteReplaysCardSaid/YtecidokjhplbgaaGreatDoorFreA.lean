/-
  Functions whose answers' lists are new memory: their callers may write them.
-/
import Derived.Test.YtecidokjhplbgaaGreatDoorStA
set_option linter.unusedVariables false
set_option linter.unusedSimpArgs false
namespace Go.Proofs.YtecidokjhplbgaaGreatDoorD
open Go Go.RowKit

variable {P : Program} {N : Nat}

def flatR : RC → Bool
  | .ints => true
  | .bytes => true
  | .bools => true
  | .strs => true
  | .rets => true
  | .ops => true
  | .acts => true
  | .edges => true
  | _ => false
theorem flatL_all {r : RC} (hr : flatR r = true) (l : List r.den) : flatL (r.all l) = true := by
  induction l with
  | nil => rfl
  | cons x l ih =>
    rw [r.all_cons]
    rw [flatL_append, ih, Bool.and_true]
    cases r <;> first | (simp [flatR] at hr; done) | rfl
theorem LRel.of_flat' {i j : Inj} {xs : List CV} {ys : List Value} (h : LRel i xs ys) (hf : flatL xs = true) : LRel j xs ys := by
  refine ⟨h.len, fun k x y hx hy => ?_⟩
  have h1 := flatL_mem hf hx
  have := (h.at_ k x y hx hy).flat_eq h1
  subst this
  exact .of_flat j x h1

mutual
def thV : CV → Nat → CV × List CObj
  | .pl r l, m => (.row m r.z l.length, [.rows r l])
  | .agg ⟨cs⟩, m => (.agg ⟨(thL cs m).1⟩, (thL cs m).2)
  | .tuple ⟨cs⟩, m => (.tuple ⟨(thL cs m).1⟩, (thL cs m).2)
  | v, _ => (v, [])
def thL : List CV → Nat → List CV × List CObj
  | [], _ => ([], [])
  | v :: r, m => ((thV v m).1 :: (thL r (m + (thV v m).2.length)).1, (thV v m).2 ++ (thL r (m + (thV v m).2.length)).2)
end

structure Own (P : Program) (N : Nat) (w : World) (gs : List (Option Img)) (os : List CObj) : Prop where
  len : os.length = gs.length
  obj : ∀ (q : Nat) (g : Img) (o : CObj), gs[q]? = some (some g) → os[q]? = some o → g.B < w.heap.size ∧ N ≤ g.B ∧ (∃ r l, o = .rows r l) ∧ ∀ j, ORel P N j w g o
  void : ∀ (q : Nat) (o : CObj), gs[q]? = some none → os[q]? = some o → ∃ r, o = .rows r []
def At (j : Inj) (m : Nat) (gs : List (Option Img)) : Prop :=
  (∀ q g, gs[q]? = some (some g) → j (m + q) = some g) ∧ ∀ q, gs[q]? = some none → j.void (m + q) = true
def OwnV (P : Program) (N : Nat) (w : World) (d : CV) (y : Value) (gs : List (Option Img)) : Prop :=
  ∀ m, Own P N w gs (thV d m).2 ∧ ∀ j, At j m gs → VRel j (thV d m).1 y
def OwnL (P : Program) (N : Nat) (w : World) (ds : List CV) (ys : List Value) (gs : List (Option Img)) : Prop :=
  ∀ m, Own P N w gs (thL ds m).2 ∧ ∀ j, At j m gs → LRel j (thL ds m).1 ys
def Apart (gs : List (Option Img)) : Prop := ∀ (q q' : Nat) (g g' : Img), q ≠ q' → gs[q]? = some (some g) → gs[q']? = some (some g') → g.B ≠ g'.B

theorem Own.nil {w : World} : Own P N w [] [] := ⟨rfl, fun q g o h => by simp at h, fun q o h => by simp at h⟩
theorem Own.append {w : World} {gs hs : List (Option Img)} {os ps : List CObj} (a : Own P N w gs os) (b : Own P N w hs ps) : Own P N w (gs ++ hs) (os ++ ps) := by
  refine ⟨by simp [a.len, b.len], fun q g o h1 h2 => ?_, fun q o h1 h2 => ?_⟩
  · rw [List.getElem?_append] at h1 h2
    rw [a.len] at h2
    split at h1
    · rename_i hq; rw [if_pos hq] at h2; exact a.obj q g o h1 h2
    · rename_i hq; rw [if_neg hq] at h2; exact b.obj _ g o h1 h2
  · rw [List.getElem?_append] at h1 h2
    rw [a.len] at h2
    split at h1
    · rename_i hq; rw [if_pos hq] at h2; exact a.void q o h1 h2
    · rename_i hq; rw [if_neg hq] at h2; exact b.void _ o h1 h2
theorem At.left {j : Inj} {m : Nat} {gs hs : List (Option Img)} (h : At j m (gs ++ hs)) : At j m gs := by
  refine ⟨fun q g hq => h.1 q g ?_, fun q hq => h.2 q ?_⟩
  all_goals
    rw [List.getElem?_append, if_pos (List.getElem?_eq_some_iff.1 hq).1]; exact hq
theorem At.right {j : Inj} {m : Nat} {gs hs : List (Option Img)} (h : At j m (gs ++ hs)) : At j (m + gs.length) hs := by
  refine ⟨fun q g hq => ?_, fun q hq => ?_⟩
  · rw [Nat.add_assoc]; refine h.1 _ g ?_
    rw [List.getElem?_append, if_neg (by omega), show gs.length + q - gs.length = q by omega]; exact hq
  · rw [Nat.add_assoc]; refine h.2 _ ?_
    rw [List.getElem?_append, if_neg (by omega), show gs.length + q - gs.length = q by omega]; exact hq
theorem OwnL.nil {w : World} : OwnL P N w [] [] [] := fun m => ⟨by simpa [thL] using Own.nil, fun j _ => by simpa [thL] using LRel.nil j⟩
theorem OwnL.cons {w : World} {d : CV} {y : Value} {gs : List (Option Img)} {ds : List CV} {ys : List Value} {hs : List (Option Img)} (a : OwnV P N w d y gs) (b : OwnL P N w ds ys hs) : OwnL P N w (d :: ds) (y :: ys) (gs ++ hs) := fun m => by
  simp only [thL]
  obtain ⟨a1, a2⟩ := a m
  obtain ⟨b1, b2⟩ := b (m + (thV d m).2.length)
  refine ⟨a1.append b1, fun j hj => .cons (a2 j hj.left) (b2 j ?_)⟩
  rw [a1.len]; exact hj.right

def frLeaf (h : HF) (r : RC) : CV → T (CV × List (Option Nat))
  | .row b z n => match h b with
    | some (.rows r' l) => match r'.cast r l with
      | some l => bif Nat.beq z r.z then .ret (.pl r l, [some b]) else .fail
      | none => .fail
    | _ => .fail
  | .win b z s n c => match h b with
    | some (.rows r' l) => match r'.cast r l with
      | some l => bif Nat.beq z r.z then T.when (small c) (.ret (.pl r ((l.drop s).take n), [some b])) else .fail
      | none => .fail
    | _ => .fail
  | .slice none 0 0 => .ret (.pl r [], [none])
  | .empty => .ret (.pl r [], [none])
  | _ => .fail
mutual
def frD (h : HF) : Sg → CV → T (CV × List (Option Nat))
  | .l r, v => bif flatR r then frLeaf h r v else .fail
  | .agg ss, .agg ⟨cs⟩ => (frDL h ss cs).bind fun p => .ret (.agg ⟨p.1⟩, p.2)
  | .tup ss, .tuple ⟨cs⟩ => (frDL h ss cs).bind fun p => .ret (.tuple ⟨p.1⟩, p.2)
  | _, v => bif flat v then .ret (v, []) else .fail
def frDL (h : HF) : List Sg → List CV → T (List CV × List (Option Nat))
  | [], [] => .ret ([], [])
  | s :: ss, v :: vs => (frD h s v).bind fun p => (frDL h ss vs).bind fun q => .ret (p.1 :: q.1, p.2 ++ q.2)
  | _, _ => .fail
end
def apartB : List (Option Nat) → Bool
  | [] => true
  | none :: r => apartB r
  | some b :: r => r.all (fun x => match x with | some c => !(Nat.beq b c) | none => true) && apartB r

def Of (i : Inj) (h : HF) (gs : List (Option Img)) (bs : List (Option Nat)) : Prop :=
  gs.length = bs.length ∧ ∀ (q : Nat) (g : Img), gs[q]? = some (some g) → ∃ (b : Nat) (g0 : Img) (r : RC) (l : List r.den), bs[q]? = some (some b) ∧ i b = some g0 ∧ g0.B = g.B ∧ h b = some (.rows r l)
theorem Of.nil {i : Inj} {h : HF} : Of i h [] [] := ⟨rfl, fun q g hq => by simp at hq⟩
theorem Of.append {i : Inj} {h : HF} {gs hs : List (Option Img)} {bs cs : List (Option Nat)} (a : Of i h gs bs) (b : Of i h hs cs) : Of i h (gs ++ hs) (bs ++ cs) := by
  refine ⟨by simp [a.1, b.1], fun q g hq => ?_⟩
  rw [List.getElem?_append] at hq
  rw [List.getElem?_append, ← a.1]
  split at hq
  · rename_i hl; rw [if_pos hl]; exact a.2 q g hq
  · rename_i hl; rw [if_neg hl]; exact b.2 _ g hq

theorem thV_flat {d : CV} (hf : flat d = true) (m : Nat) : thV d m = (d, []) := by
  have main : ∀ (n : Nat) (d : CV), SizeOf.sizeOf d < n → flat d = true → ∀ m, thV d m = (d, []) := by
    intro n
    induction n with
    | zero => intro d h; omega
    | succ n ih =>
      intro d hs hf m
      have lst : ∀ (l : List CV), SizeOf.sizeOf l < n → flatL l = true → ∀ m, thL l m = (l, []) := by
        intro l
        induction l with
        | nil => intro _ _ m; rfl
        | cons a l ihl =>
          intro hl hfl m
          simp only [flatL, Bool.and_eq_true] at hfl
          simp at hl
          simp only [thL, ih a (by omega) hfl.1, ihl (by omega) hfl.2, List.append_nil]
      cases d with
      | agg cs => cases cs with | mk l => simp only [thV, lst l (by simp at hs; omega) (by simpa [flat, flatA] using hf)]
      | tuple cs => cases cs with | mk l => simp only [thV, lst l (by simp at hs; omega) (by simpa [flat, flatA] using hf)]
      | pl r l => simp [flat] at hf
      | _ => rfl
  exact main (SizeOf.sizeOf d + 1) d (by omega) hf m
theorem ownV_flat {w : World} {i : Inj} {d : CV} {y : Value} (hv : VRel i d y) (hf : flat d = true) : OwnV P N w d y [] := fun m => by
  rw [thV_flat hf]
  refine ⟨Own.nil, fun j _ => ?_⟩
  have := hv.flat_eq hf
  subst this
  exact .of_flat j d hf

theorem frLeaf_own {i : Inj} {h : HF} {w : World} (R : Rel P N i h w) {r : RC} (hr : flatR r = true) {v d : CV} {y : Value} {bs : List (Option Nat)} (e : (frLeaf h r v).ev = some (d, bs)) (hv : VRel i v y) :
    ∃ gs, OwnV P N w d y gs ∧ Of i h gs bs := by
  have none_ : ∀ a : Option Addr, OwnV P N w (.pl r []) (.slice a 0 0) [none] := fun a m => by
    refine ⟨⟨rfl, fun q g o h1 => ?_, fun q o h1 h2 => ?_⟩, fun j hj => ?_⟩
    · cases q <;> simp at h1
    · cases q with
      | zero => simp [thV] at h2; exact ⟨r, h2.symm⟩
      | succ q => simp at h1
    · have := hj.2 0 rfl
      simp only [thV, List.length_nil]
      exact .rowVoid (by simpa using this)
  have of_ : ∀ b : Option Nat, Of i h [none] [b] := fun b => ⟨rfl, fun q g hq => by cases q <;> simp at hq⟩
  unfold frLeaf at e
  split at e
  · rename_i b z n
    split at e
    · rename_i r l hb
      split at e
      · rename_i l' hl
        obtain ⟨e0, e1⟩ := cast_eq hl
        subst e0; rw [show l' = l from e1] at e; clear e1 hl
        obtain ⟨hz, e⟩ := ev_bif e
        rw [nbeq, decide_eq_true_eq] at hz
        cases ev_ret e
        rcases hv.row_inv with ⟨g, a', cap', rfl, hg, hgz, hs, hcap, ha⟩ | ⟨rfl, hvd, a, rfl⟩
        · have hn := row_len R hb hg hz hs
          subst hn
          have ho := R.obj b _ g hb hg
          refine ⟨[some g], fun m => ⟨⟨rfl, fun q g' o h1 h2 => ?_, fun q o h1 => ?_⟩, fun j hj => ?_⟩, ⟨rfl, fun q g' hq => ?_⟩⟩
          · cases q with
            | zero =>
              simp [thV] at h1 h2
              subst h1; subst h2
              refine ⟨R.bnd b _ hg, ho.ge rfl, ⟨_, _, rfl⟩, fun j => ?_⟩
              obtain ⟨q1, q2, q3, ⟨vs', q4, q5⟩, q6⟩ := ho
              exact ⟨q1, q2, q3, ⟨vs', q4.of_flat' (flatL_all hr _), q5⟩, q6⟩
            | succ q => simp at h1
          · cases q <;> simp at h1
          · have := hj.1 0 g rfl
            simp only [thV]
            exact .row (by simpa using this) (hgz.trans hz) (by rw [← hz]; exact hs) hcap ha
          · cases q with
            | zero => simp at hq; subst hq; exact ⟨b, g, _, _, rfl, hg, rfl, hb⟩
            | succ q => simp at hq
        · have hl := (R.void b hvd).2 _ _ hb
          subst hl
          exact ⟨[none], none_ a, of_ _⟩
      · exact (ev_fail e).elim
    · exact (ev_fail e).elim
  · rename_i b z s n c
    split at e
    · rename_i r l hb
      split at e
      · rename_i l' hl
        obtain ⟨e0, e1⟩ := cast_eq hl
        subst e0; rw [show l' = l from e1] at e; clear e1 hl
        obtain ⟨hz, e⟩ := ev_bif e
        rw [nbeq, decide_eq_true_eq] at hz
        obtain ⟨hc, e⟩ := ev_when e
        rw [small_iff] at hc
        cases ev_ret e
        rcases hv.win_inv' with ⟨g, a', cap', rfl, hg, hgz, hcap, ha, hnc, hsz⟩ | ⟨rfl, _, a, rfl⟩
        · obtain ⟨q1, q2, q3, ⟨vs', q4, q5⟩, q6⟩ := R.obj b _ g hb hg
          obtain ⟨q7, q8, q9, q10⟩ := q6 (by decide)
          rw [q1, r.all_length, hz] at hsz
          have hle : s + c ≤ l.length := Nat.le_of_mul_le_mul_right hsz r.z_pos
          have hlen : ((l.drop s).take n).length = n := by rw [List.length_take, List.length_drop]; omega
          have e1 : r.all ((l.drop s).take n) = ((r.all l).drop (s * r.z)).take (n * r.z) := by rw [r.all_drop, r.all_take]
          have h7 : LRel i (r.all ((l.drop s).take n)) ((vs'.drop (s * r.z)).take (n * r.z)) := by rw [e1]; exact (q4.drop _).take _
          have hall : (r.all l).length = l.length * r.z := r.all_length l
          have m1 : s * r.z + c * r.z ≤ l.length * r.z := by rw [← Nat.add_mul]; exact hsz
          have m2 : n * r.z ≤ c * r.z := Nat.mul_le_mul_right _ hnc
          let g' : Img := ⟨g.B, g.off + s * r.z, g.total - s * r.z, true, n * r.z, r.z⟩
          refine ⟨[some g'], fun m => ⟨⟨rfl, fun q g1 o h1 h2 => ?_, fun q o h1 => ?_⟩, fun j hj => ?_⟩, ⟨rfl, fun q g1 hq => ?_⟩⟩
          · cases q with
            | zero =>
              simp [thV] at h1 h2
              subst h1; subst h2
              refine ⟨show g.B < w.heap.size from R.bnd b g hg, q7, ⟨_, _, rfl⟩, fun j => ⟨?_, rfl, rfl, ⟨_, h7.of_flat' (flatL_all hr _), fun k v hk => ?_⟩, fun _ => ⟨q7, ?_, fun k hk => ?_, fun k => q10 k⟩⟩⟩
              · show n * r.z = _; rw [r.all_length, hlen]
              · rw [List.getElem?_take] at hk
                split at hk
                · rw [List.getElem?_drop] at hk
                  have := q5 _ v hk
                  show w.cell? ⟨g.B, g.off + s * r.z + k, none⟩ = _
                  rw [Nat.add_assoc]; exact this
                · cases hk
              · show _ ≤ g.total - s * r.z; rw [r.all_length, hlen]; omega
              · have := q9 (s * r.z + k) (by have : k < g.total - s * r.z := hk; omega)
                show (w.cell? ⟨g.B, g.off + s * r.z + k, none⟩).isSome = true
                rw [Nat.add_assoc]; exact this
            | succ q => simp at h1
          · cases q <;> simp at h1
          · have := hj.1 0 g' rfl
            simp only [thV]
            rw [hlen]
            refine .row (by simpa using this) rfl rfl (.inr ⟨rfl, by show 0 + n * r.z = n * r.z; omega, ?_, ?_, ?_⟩) (fun h0 => ha h0 |>.trans (by rw [hz]))
            · rcases hcap with rfl | ⟨_, _, h3, _⟩ <;> omega
            · show 0 + cap' * r.z ≤ g.total - s * r.z
              rcases hcap with rfl | ⟨_, _, _, h3, _⟩
              · omega
              · rw [hgz, hz] at h3; omega
            · rcases hcap with rfl | ⟨_, _, _, _, h3⟩ <;> omega
          · cases q with
            | zero => simp at hq; subst hq; exact ⟨b, g, _, _, rfl, hg, rfl, hb⟩
            | succ q => simp at hq
        · rw [List.take_zero]; exact ⟨[none], none_ a, of_ _⟩
      · exact (ev_fail e).elim
    · exact (ev_fail e).elim
  · cases ev_ret e
    cases hv
    exact ⟨[none], none_ _, of_ _⟩
  · cases ev_ret e
    obtain ⟨a, rfl⟩ := hv.empty_inv
    exact ⟨[none], none_ a, of_ _⟩
  · exact (ev_fail e).elim

mutual
theorem frD_own {i : Inj} {h : HF} {w : World} (R : Rel P N i h w) : ∀ (s : Sg) (v d : CV) (y : Value) (bs : List (Option Nat)), (frD h s v).ev = some (d, bs) → VRel i v y → ∃ gs, OwnV P N w d y gs ∧ Of i h gs bs := by
  intro s v d y bs e hv
  unfold frD at e
  split at e
  · rename_i r v
    obtain ⟨hr, e⟩ := ev_bif e
    exact frLeaf_own R hr e hv
  · rename_i ss cs
    obtain ⟨⟨ds, bs'⟩, h1, h2⟩ := ev_bind _ e
    cases ev_ret h2
    obtain ⟨ys, rfl, hl⟩ := hv.agg_inv
    obtain ⟨gs, h3, h4⟩ := frDL_own R ss cs ds ys.toList _ h1 hl
    refine ⟨gs, fun m => ?_, h4⟩
    obtain ⟨h5, h6⟩ := h3 m
    exact ⟨h5, fun j hj => VRel.agg' (h6 j hj)⟩
  · rename_i ss cs
    obtain ⟨⟨ds, bs'⟩, h1, h2⟩ := ev_bind _ e
    cases ev_ret h2
    obtain ⟨ys, rfl, hl⟩ := hv.tuple_inv
    obtain ⟨gs, h3, h4⟩ := frDL_own R ss cs ds ys.toList _ h1 hl
    refine ⟨gs, fun m => ?_, h4⟩
    obtain ⟨h5, h6⟩ := h3 m
    exact ⟨h5, fun j hj => VRel.tuple' (h6 j hj)⟩
  · obtain ⟨hf, e⟩ := ev_bif e
    cases ev_ret e
    exact ⟨[], ownV_flat hv hf, .nil⟩
theorem frDL_own {i : Inj} {h : HF} {w : World} (R : Rel P N i h w) : ∀ (ss : List Sg) (vs ds : List CV) (ys : List Value) (bs : List (Option Nat)), (frDL h ss vs).ev = some (ds, bs) → LRel i vs ys → ∃ gs, OwnL P N w ds ys gs ∧ Of i h gs bs
  | [], [], ds, ys, bs, e, hl => by
    simp only [frDL] at e
    cases ev_ret e
    have := hl.nil_inv; subst this
    exact ⟨[], .nil, .nil⟩
  | [], v :: vs, ds, ys, bs, e, hl => by simp only [frDL] at e; exact (ev_fail e).elim
  | s :: ss, [], ds, ys, bs, e, hl => by simp only [frDL] at e; exact (ev_fail e).elim
  | s :: ss, v :: vs, ds, ys, bs, e, hl => by
    simp only [frDL] at e
    obtain ⟨⟨d, b1⟩, h1, h2⟩ := ev_bind _ e
    obtain ⟨⟨ds', b2⟩, h3, h4⟩ := ev_bind _ h2
    cases ev_ret h4
    obtain ⟨y, ys', rfl, h5, h6⟩ := hl.cons_inv
    obtain ⟨g1, q1, q2⟩ := frD_own R s v d y b1 h1 h5
    obtain ⟨g2, q3, q4⟩ := frDL_own R ss vs ds' ys' b2 h3 h6
    exact ⟨g1 ++ g2, .cons q1 q3, q2.append q4⟩
end

theorem apartB_get : ∀ {bs : List (Option Nat)}, apartB bs = true → ∀ (q q' b b' : Nat), q < q' → bs[q]? = some (some b) → bs[q']? = some (some b') → b ≠ b'
  | [], _, q, q', b, b', _, h, _ => by simp at h
  | x :: r, hx, q, q', b, b', hq, h, h' => by
    cases q' with
    | zero => omega
    | succ q' =>
      cases q with
      | zero =>
        simp at h h'
        subst h
        simp only [apartB, Bool.and_eq_true, List.all_eq_true] at hx
        have := hx.1 (some b') (List.mem_of_getElem? h')
        simpa [nbeq] using this
      | succ q =>
        have hr : apartB r = true := by
          cases x with
          | none => simpa [apartB] using hx
          | some x => simp only [apartB, Bool.and_eq_true] at hx; exact hx.2
        exact apartB_get hr q q' b b' (by omega) (by simpa using h) (by simpa using h')
theorem Of.apart {i : Inj} {h : HF} {w : World} (R : Rel P N i h w) {gs : List (Option Img)} {bs : List (Option Nat)} (a : Of i h gs bs) (hb : apartB bs = true) : Apart gs := by
  intro q q' g g' hne h1 h2
  obtain ⟨b, g0, r, l, e1, e2, e3, e4⟩ := a.2 q g h1
  obtain ⟨b', g0', r', l', f1, f2, f3, f4⟩ := a.2 q' g' h2
  have hbb : b ≠ b' := by
    rcases Nat.lt_or_gt_of_ne hne with h | h
    · exact apartB_get hb q q' b b' h e1 f1
    · exact Ne.symm (apartB_get hb q' q b' b h f1 e1)
  rw [← e3, ← f3]
  exact R.sep b b' _ _ g0 g0' hbb e4 f4 e2 f2 rfl rfl

def FreshAt (P : Program) (f : FuncId) (args : List CV) (d : CV) : Prop :=
  ∀ (im : Imm) (w : World) (args' : Array Value), ImmOk im w → LRel (immOf im) args args'.toList →
    Calls P f args' w fun e w' => ∃ (v' : Value) (gs : List (Option Img)), e = .returned v' ∧ OwnV P w.heap.size w' d v' gs ∧ Apart gs ∧ Below w.heap.size w w'
def FreshFn (P : Program) (f : FuncId) (G : List CV → T CV) : Prop :=
  (∃ fn c, P.funcs[f]? = some fn ∧ fn.body = some c) ∧ ∀ args d, (G args).ev = some d → FreshAt P f args d

def T.fresh (s : Sg) (t : T (CV × CSt)) : T CV := t.bind fun r => (frD r.2.heap.get s r.1).bind fun p => bif apartB p.2 then .ret p.1 else .fail

theorem fresh_of (hP : plainNames P = true) (hM : P.follows .mixedOrders = true) {E : List (Nat × ExtFn)} (hE : ∀ N, ExtsOk P N E) {L : List (Nat × List Nat × LoopFn)} (hL : ∀ N, LoopsOk P N L) {s : Sg} {k f : Nat} {args : List CV} {d : CV}
    (e : (((tden P E L k).call 0 f args ⟨.nil, 0⟩).fresh s).ev = some d) : (∃ fn c, P.funcs[f]? = some fn ∧ fn.body = some c) ∧ FreshAt P f args d := by
  obtain ⟨⟨v, st⟩, h1, h2⟩ := ev_bind _ e
  obtain ⟨⟨d', bs⟩, h3, h4⟩ := ev_bind _ h2
  obtain ⟨h5, h6⟩ := ev_bif h4
  cases ev_ret h6
  have e1 := (tden_ev P E L k).call h1
  refine ⟨((den_sound (N := 0) hP hM (hE 0) (hL 0) k).call 0 f args _ v st e1).1, fun im w args' him hl => ?_⟩
  obtain ⟨_, h⟩ := (den_sound (N := w.heap.size) hP hM (hE _) (hL _) k).call 0 f args _ v st e1
  have h7 := h (immOf im) w args' (srel_imm him) hl
  refine callsIn_wide.1 (CallsIn.mono (F := Fence.wide) h7 ?_)
  rintro e w' ⟨i', v', rfl, hvr, haf⟩
  obtain ⟨gs, q1, q2⟩ := frD_own haf.srel.rel s v d' v' bs h3 hvr
  exact ⟨v', gs, rfl, q1, q2.apart haf.srel.rel h5, Step.below (srel_imm (P := P) him).rel haf.step⟩

theorem freshAt0 (hP : plainNames P = true) (hM : P.follows .mixedOrders = true) {E : List (Nat × ExtFn)} (hE : ∀ N, ExtsOk P N E) {L : List (Nat × List Nat × LoopFn)} (hL : ∀ N, LoopsOk P N L) {s : Sg} {k f : Nat} {args : List CV} {d : CV} {q : Cut}
    (e : ((((tden P E L k).call 0 f args ⟨.nil, 0⟩).fresh s).cut q).ev = some d) : FreshAt P f args d := (fresh_of hP hM hE hL (cut_ev q _ e)).2
structure IsE (d' d : CV) : Prop where
  eq : d = d'
theorem freshAtS (hP : plainNames P = true) (hM : P.follows .mixedOrders = true) {E : List (Nat × ExtFn)} (hE : ∀ N, ExtsOk P N E) {L : List (Nat × List Nat × LoopFn)} (hL : ∀ N, LoopsOk P N L) {s : Sg} {k f : Nat} {args : List CV} {q : Cut} {d' : CV} {t : T CV}
    (ht : ((((tden P E L k).call 0 f args ⟨.nil, 0⟩).fresh s).cut q).ev = t.ev) (e : t.Sat (IsE d')) : FreshAt P f args d' := by
  obtain ⟨d, h1, ⟨rfl⟩⟩ := e
  exact freshAt0 hP hM hE hL (ht.trans h1)
theorem FreshAt.args {f : FuncId} {args : List CV} {d : CV} (ss : List Sg) (h : FreshAt P f (nsL ss args) d) : FreshAt P f args d :=
  fun im w args' him hl => h im w args' him (nsL_rel ss args _ hl)
theorem freshFn_mk {f : FuncId} {ss : List Sg} {G : List CV → T CV} (hf : ∃ fn c, P.funcs[f]? = some fn ∧ fn.body = some c) (h : ∀ args d, (G args).ev = some d → FreshAt P f args d) : FreshFn P f (sigExt ss G) :=
  ⟨hf, fun args d hd => (h (nsL ss args) d hd).args ss⟩

def addObjs : Tr CObj → Nat → List CObj → Tr CObj
  | h, _, [] => h
  | h, m, o :: r => addObjs (h.set m o) (m + 1) r
def noneAt (h : Tr CObj) : Nat → Nat → Bool
  | _, 0 => true
  | m, n + 1 => (match h.get m with | none => true | some _ => false) && noneAt h (m + 1) n

def freshExt (G : List CV → T CV) : ExtFn := fun ro args s =>
  match viewArgs s.heap.get args with
  | some args2 => (G args2).bind fun d => bif noneAt s.heap s.next (thV d s.next).2.length then .ret ((thV d s.next).1, ⟨addObjs s.heap s.next (thV d s.next).2, s.next + (thV d s.next).2.length⟩) else .fail
  | none => .fail

theorem addObjs_get : ∀ (os : List CObj) (h : Tr CObj) (m b : Nat), (addObjs h m os).get b = if b < m then h.get b else match os[b - m]? with | some o => some o | none => h.get b
  | [], h, m, b => by simp [addObjs]
  | o :: r, h, m, b => by
    rw [addObjs, addObjs_get r (h.set m o) (m + 1) b]
    by_cases h1 : b < m
    · rw [if_pos h1, if_pos (by omega), Tr.get_set_ne _ _ (by omega)]
    · by_cases h2 : b = m
      · subst h2
        rw [if_pos (by omega), if_neg (by omega), Tr.get_set_eq]; simp
      · rw [if_neg h1, if_neg (by omega), show b - m = (b - (m + 1)) + 1 by omega, List.getElem?_cons_succ, Tr.get_set_ne _ _ h2]

theorem noneAt_get {h : Tr CObj} : ∀ {n m : Nat}, noneAt h m n = true → ∀ b, m ≤ b → b < m + n → h.get b = none
  | 0, m, _, b, h1, h2 => by omega
  | n + 1, m, hn, b, h1, h2 => by
    simp only [noneAt, Bool.and_eq_true] at hn
    rcases Nat.eq_or_lt_of_le h1 with rfl | h3
    · cases hx : h.get m with
      | none => rfl
      | some x => rw [hx] at hn; cases hn.1
    · exact noneAt_get hn.2 b h3 (by omega)

def addInj (i : Inj) (m : Nat) (gs : List (Option Img)) : Inj :=
  { i with blk := fun b => if b < m then i b else match gs[b - m]? with | some (some g) => some g | _ => none,
           void := fun b => if b < m then i.void b else match gs[b - m]? with | some none => true | _ => false }
theorem addInj_at (i : Inj) (m : Nat) (gs : List (Option Img)) : At (addInj i m gs) m gs := by
  refine ⟨fun q g hq => ?_, fun q hq => ?_⟩
  · show (if m + q < m then _ else _) = _
    rw [if_neg (by omega), show m + q - m = q by omega, hq]
  · show (if m + q < m then _ else _) = _
    rw [if_neg (by omega), show m + q - m = q by omega, hq]

theorem extOk_fresh {f : FuncId} {G : List CV → T CV} (h : FreshFn P f G) : ExtOk1 P N f (freshExt G) := by
  refine ⟨h.1, fun ro args s v s' e i w args' hs hl => ?_⟩
  unfold freshExt at e
  split at e
  · rename_i args2 hv
    obtain ⟨d, h1, h2⟩ := ev_bind _ e
    obtain ⟨hfree, h2⟩ := ev_bif h2
    cases ev_ret h2
    refine (callsIn_wide (n := 0)).2 ((h.2 args2 d h1 (immAll w) w args' (immAll_ok w) (viewArgs_rel hs.rel hv hl)).mono ?_)
    rintro e w' ⟨v', gs, rfl, q1, q2, q3⟩
    obtain ⟨o1, o2⟩ := q1 s.next
    have R := hs.rel
    generalize hos : (thV d s.next).2 = os at *
    have hlo : ∀ b, b < s.next → (addInj i s.next gs) b = i b ∧ (addInj i s.next gs).void b = i.void b := fun b hb => ⟨by show (if b < s.next then _ else _) = _; rw [if_pos hb], by show (if b < s.next then _ else _) = _; rw [if_pos hb]⟩
    have hhi : ∀ b g, (addInj i s.next gs) b = some g → (b < s.next ∧ i b = some g) ∨ (s.next ≤ b ∧ gs[b - s.next]? = some (some g)) := by
      intro b g hb
      rcases Nat.lt_or_ge b s.next with h3 | h3
      · exact .inl ⟨h3, by rw [← (hlo b h3).1]; exact hb⟩
      · have : (match gs[b - s.next]? with | some (some g) => some g | _ => none) = some g := by
          have h4 : (addInj i s.next gs) b = (if b < s.next then i b else match gs[b - s.next]? with | some (some g) => some g | _ => none) := rfl
          rw [if_neg (by omega)] at h4
          rw [← h4]; exact hb
        split at this
        · rename_i g' hg'; cases this; exact .inr ⟨h3, hg'⟩
        · cases this
    have hle : i.le (addInj i s.next gs) := ⟨fun b g hb => by
        have : b < s.next := by
          rcases Nat.lt_or_ge b s.next with h3 | h3
          · exact h3
          · rw [(hs.fresh b h3).1] at hb; cases hb
        rw [(hlo b this).1]; exact hb, fun _ _ _ h => h, fun b hb => by
        have : b < s.next := by
          rcases Nat.lt_or_ge b s.next with h3 | h3
          · exact h3
          · rw [(hs.fresh b h3).2] at hb; cases hb
        rw [(hlo b this).2]; exact hb, rfl⟩
    have hget : ∀ b o g, (addObjs s.heap s.next os).get b = some o → (addInj i s.next gs) b = some g → (b < s.next ∧ s.heap.get b = some o ∧ i b = some g) ∨ (s.next ≤ b ∧ os[b - s.next]? = some o ∧ gs[b - s.next]? = some (some g)) := by
      intro b o g hb hg
      rw [addObjs_get] at hb
      rcases hhi b g hg with ⟨h3, h4⟩ | ⟨h3, h4⟩
      · rw [if_pos h3] at hb; exact .inl ⟨h3, hb, h4⟩
      · rw [if_neg (by omega)] at hb
        have hq : b - s.next < os.length := by rw [o1.len]; exact (List.getElem?_eq_some_iff.1 h4).1
        rw [List.getElem?_eq_getElem hq] at hb
        simp only [] at hb
        exact .inr ⟨h3, by rw [List.getElem?_eq_getElem hq]; exact hb, h4⟩
    have hN : N ≤ w.heap.size := R.hN
    have key : After P N ro i s w (addInj i s.next gs) ⟨addObjs s.heap s.next os, s.next + os.length⟩ w' := by
      refine ⟨⟨⟨?_, ?_, ?_, Nat.le_trans hN q3.size, ?_, ?_, ?_⟩, ?_⟩, ⟨hle, ?_, q3.size, q3.os, q3.tape, q3.output, ?_, ?_, ?_⟩, hlo, Nat.le_add_right _ _⟩
      · intro b o g hb hg
        rcases hget b o g hb hg with ⟨_, h4, h5⟩ | ⟨_, h4, h5⟩
        · exact (R.obj b o g h4 h5).mono hle (q3.block _ (R.bnd b g h5))
        · obtain ⟨_, h6, ⟨r, l, rfl⟩, h7⟩ := o1.obj _ g o h5 h4
          obtain ⟨p1, p2, p3, p4, p5⟩ := h7 (addInj i s.next gs)
          exact ⟨p1, p2, p3, p4, fun hm => ⟨Nat.le_trans hN (p5 hm).1, (p5 hm).2⟩⟩
      · intro b b' o o' g g' hne hb hb' hg hg' hw hlv
        rcases hget b o g hb hg with ⟨h3, h4, h5⟩ | ⟨h3, h4, h5⟩ <;> rcases hget b' o' g' hb' hg' with ⟨h3', h4', h5'⟩ | ⟨h3', h4', h5'⟩
        · exact R.sep b b' o o' g g' hne h4 h4' h5 h5' hw hlv
        · have := (o1.obj _ g' o' h5' h4').2.1
          have := R.bnd b g h5
          omega
        · have := (o1.obj _ g o h5 h4).2.1
          have := R.bnd b' g' h5'
          omega
        · exact q2 _ _ g g' (by omega) h5 h5'
      · intro b g hg
        rcases hhi b g hg with ⟨_, h4⟩ | ⟨_, h4⟩
        · exact Nat.lt_of_lt_of_le (R.bnd b g h4) q3.size
        · have hq : b - s.next < os.length := by rw [o1.len]; exact (List.getElem?_eq_some_iff.1 h4).1
          exact (o1.obj _ g _ h4 (List.getElem?_eq_getElem hq)).1
      · intro B k x hx
        obtain ⟨p1, p2, p3⟩ := R.imm B k x hx
        exact ⟨by rw [World.cell?_of_block (w := w) (q3.block _ p2)]; exact p1, Nat.lt_of_lt_of_le p2 q3.size, p3⟩
      · intro b o g hb hg hw k
        rcases hget b o g hb hg with ⟨_, h4, h5⟩ | ⟨_, h4, h5⟩
        · exact R.ims b o g h4 h5 hw k
        · have h6 := (o1.obj _ g o h5 h4).2.1
          show i.imm g.B k = none
          cases hx : i.imm g.B k with
          | none => rfl
          | some x => have := (R.imm _ _ _ hx).2.1; omega
      · intro b hb
        rcases Nat.lt_or_ge b s.next with h3 | h3
        · rw [(hlo b h3).2] at hb
          refine ⟨by rw [(hlo b h3).1]; exact (R.void b hb).1, fun r l hl => ?_⟩
          rw [addObjs_get, if_pos h3] at hl
          exact (R.void b hb).2 r l hl
        · have h4 : (match gs[b - s.next]? with | some none => true | _ => false) = true := by
            have h5 : (addInj i s.next gs).void b = (if b < s.next then i.void b else match gs[b - s.next]? with | some none => true | _ => false) := rfl
            rw [if_neg (by omega)] at h5
            rw [← h5]; exact hb
          split at h4
          · rename_i hn
            have hq : b - s.next < os.length := by rw [o1.len]; exact (List.getElem?_eq_some_iff.1 hn).1
            refine ⟨?_, fun r l hl => ?_⟩
            · show (if b < s.next then i b else match gs[b - s.next]? with | some (some g) => some g | _ => none) = none
              rw [if_neg (by omega), hn]
            · rw [addObjs_get, if_neg (by omega), List.getElem?_eq_getElem hq] at hl
              simp only [Option.some.injEq] at hl
              obtain ⟨r', h6⟩ := o1.void _ _ hn (List.getElem?_eq_getElem hq)
              rw [h6] at hl; cases hl; rfl
          · cases h4
      · intro b hb
        have hq : gs[b - s.next]? = none := by rw [List.getElem?_eq_none_iff, ← o1.len]; have : s.next + os.length ≤ b := hb; omega
        have hge : ¬ b < s.next := by have : s.next + os.length ≤ b := hb; omega
        refine ⟨?_, ?_⟩
        · show (if b < s.next then i b else match gs[b - s.next]? with | some (some g) => some g | _ => none) = none
          rw [if_neg hge, hq]
        · show (if b < s.next then i.void b else match gs[b - s.next]? with | some none => true | _ => false) = false
          rw [if_neg hge, hq]
      · intro b o hb ho
        show (addObjs s.heap s.next os).get b = some o
        rw [addObjs_get]
        split
        · exact ho
        · rename_i hge
          split
          · rename_i o' ho'
            have := noneAt_get hfree b (by omega) (by have := (List.getElem?_eq_some_iff.1 ho').1; omega)
            rw [this] at ho; cases ho
          · exact ho
      · intro B hB _; exact q3.block B hB
      · intro B hB ht
        obtain ⟨b, o, g, t1, t2, t3, t4, t5⟩ := ht
        rcases hget b o g t2 t4 with ⟨_, h4, h5⟩ | ⟨_, h4, h5⟩
        · exact ⟨b, o, g, t1, h4, t3, h5, t5⟩
        · have := (o1.obj _ g o h5 h4).2.1; omega
      · intro B k x hB hx; exact .inl hx
    exact ⟨_, v', rfl, o2 _ (addInj_at i s.next gs), key⟩
  · exact (ev_fail e).elim

mutual
def okD : CV → Bool
  | .pl r _ => flatR r
  | .agg ⟨cs⟩ => okDL cs
  | .tuple ⟨cs⟩ => okDL cs
  | v => flat v
def okDL : List CV → Bool
  | [] => true
  | v :: r => okD v && okDL r
end
def immNew (im : Imm) (n : Nat) (w : World) : Imm := fun B k => if B < n then im B k else if B < w.heap.size then w.cell? ⟨B, k, none⟩ else none

def AtL (j : Inj) (N : Nat) (w : World) (m : Nat) (os : List CObj) : Prop :=
  (∀ q o g, os[q]? = some o → j (m + q) = some g → g.B < w.heap.size ∧ ORel P N j w g o ∧ N ≤ g.B) ∧ ∀ q o, os[q]? = some o → j.void (m + q) = true → ∃ r, o = .rows r []
theorem AtL.left {j : Inj} {N : Nat} {w : World} {m : Nat} {os ps : List CObj} (h : AtL (P := P) j N w m (os ++ ps)) : AtL (P := P) j N w m os :=
  ⟨fun q o g hq => h.1 q o g (by rw [List.getElem?_append, if_pos (List.getElem?_eq_some_iff.1 hq).1]; exact hq), fun q o hq => h.2 q o (by rw [List.getElem?_append, if_pos (List.getElem?_eq_some_iff.1 hq).1]; exact hq)⟩
theorem AtL.right {j : Inj} {N : Nat} {w : World} {m : Nat} {os ps : List CObj} (h : AtL (P := P) j N w m (os ++ ps)) : AtL (P := P) j N w (m + os.length) ps := by
  have key : ∀ q o, ps[q]? = some o → (os ++ ps)[os.length + q]? = some o := fun q o hq => by rw [List.getElem?_append, if_neg (by omega), show os.length + q - os.length = q by omega]; exact hq
  exact ⟨fun q o g hq hg => h.1 _ o g (key q o hq) (by rw [← Nat.add_assoc]; exact hg), fun q o hq hg => h.2 _ o (key q o hq) (by rw [← Nat.add_assoc]; exact hg)⟩

mutual
theorem unthaw {j : Inj} {w : World} {im : Imm} : ∀ (d : CV) (m : Nat) (y : Value), okD d = true → AtL (P := P) j N w m (thV d m).2 → VRel j (thV d m).1 y → VRel (immOf (immNew im N w)) d y := by
  intro d m y hd ha hv
  have hfl : flat d = true → VRel (immOf (immNew im N w)) d y := fun hf => by
    rw [thV_flat hf] at hv
    have := hv.flat_eq hf
    subst this
    exact .of_flat _ d hf
  cases d with
  | pl r l =>
    simp only [thV] at hv ha
    rcases hv.row_inv with ⟨g, a', cap', rfl, hg, hgz, hs, hcap, haa⟩ | ⟨hl, hvd, a, rfl⟩
    · obtain ⟨h1, ⟨q1, q2, q3, ⟨vs', q4, q5⟩, q6⟩, hN⟩ := ha.1 0 _ g rfl (by simpa using hg)
      refine pl_of_cells (B := g.B) (o := g.off) (q4.of_flat' (flatL_all (by simpa [okD] using hd) l)) (fun k x hx => ?_) ?_ haa
      · simp only [immOf, immNew]
        rw [if_neg (by omega), if_pos h1]; exact q5 k x hx
      · rcases hcap with rfl | ⟨_, _, h3, _⟩ <;> omega
    · have : l = [] := List.eq_nil_of_length_eq_zero hl
      subst this
      exact .plNil
  | agg cs =>
    cases cs with | mk cs =>
    simp only [thV] at hv ha
    obtain ⟨ys, rfl, hl⟩ := hv.agg_inv
    exact VRel.agg' (unthawL cs m ys.toList (by simpa [okD] using hd) ha hl)
  | tuple cs =>
    cases cs with | mk cs =>
    simp only [thV] at hv ha
    obtain ⟨ys, rfl, hl⟩ := hv.tuple_inv
    exact VRel.tuple' (unthawL cs m ys.toList (by simpa [okD] using hd) ha hl)
  | _ => exact hfl (by simpa [okD] using hd)
theorem unthawL {j : Inj} {w : World} {im : Imm} : ∀ (ds : List CV) (m : Nat) (ys : List Value), okDL ds = true → AtL (P := P) j N w m (thL ds m).2 → LRel j (thL ds m).1 ys → LRel (immOf (immNew im N w)) ds ys
  | [], m, ys, _, _, hl => by
    simp only [thL] at hl
    have := hl.nil_inv; subst this; exact .nil _
  | d :: ds, m, ys, hd, ha, hl => by
    simp only [thL] at hl ha
    simp only [okDL, Bool.and_eq_true] at hd
    obtain ⟨y, ys', rfl, h1, h2⟩ := hl.cons_inv
    exact .cons (unthaw d m y hd.1 ha.left h1) (unthawL ds _ ys' hd.2 ha.right h2)
end

end Go.Proofs.YtecidokjhplbgaaGreatDoorD
