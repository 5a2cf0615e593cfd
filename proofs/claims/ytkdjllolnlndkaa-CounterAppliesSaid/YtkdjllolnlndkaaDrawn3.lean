/-
  Regions that draw their order: whatever the order, the run comes to what the run in the order of the text comes to.
-/
import Derived.Test.YtkdjllolnlndkaaDrawn2
set_option linter.unusedVariables false
set_option linter.unusedSimpArgs false
namespace Go.Proofs.YtkdjllolnlndkaaD
open Go Go.RowKit

variable {P : Program} {N : Nat}

theorem Rel.congr {i : Inj} {h h' : HF} {w : World} (R : Rel P N i h w) (e : ∀ b, ((i b).isSome = true ∨ i.void b = true) → h' b = h b) : Rel P N i h' w := by
  have e' : ∀ {b g}, i b = some g → h' b = h b := fun {b g} hb => e b (.inl (by rw [hb]; rfl))
  refine ⟨fun b o g hb hg => R.obj b o g (by rw [← e' hg]; exact hb) hg, fun b b' o o' g g' hne hb hb' hg hg' => ?_, R.bnd, R.hN, R.imm, fun b o g hb hg => R.ims b o g (by rw [← e' hg]; exact hb) hg, fun b hb => ?_⟩
  · rw [e' hg] at hb; rw [e' hg'] at hb'
    exact R.sep b b' o o' g g' hne hb hb' hg hg'
  · rw [e b (.inr hb)]; exact R.void b hb

/-- A step that starts from another picture of the same blocks. -/
theorem Step.left {ro : Nat} {i i' : Inj} {h h2 h' : HF} {w w' : World} (s : Step ro i h2 w i' h' w') (e : ∀ b, (i b).isSome = true → h2 b = h b) (hk : ∀ b o, b < ro → h b = some o → h' b = some o) : Step ro i h w i' h' w' := by
  have ht : ∀ {B}, Touch ro i h2 B → Touch ro i h B := fun {B} ⟨b, o, g, h1, h3, h4, h5, h6⟩ => ⟨b, o, g, h1, by rw [← e b (by rw [h5]; rfl)]; exact h3, h4, h5, h6⟩
  have ht' : ∀ {B}, Touch ro i h B → Touch ro i h2 B := fun {B} ⟨b, o, g, h1, h3, h4, h5, h6⟩ => ⟨b, o, g, h1, by rw [e b (by rw [h5]; rfl)]; exact h3, h4, h5, h6⟩
  exact ⟨s.ext, hk, s.size, s.os, s.tape, s.output, fun B hB hn => s.frame B hB (fun h => hn (ht h)), fun B hB h => ht (s.touch B hB h), fun B k v hB h => (s.immn B k v hB h).imp id ht⟩

def ActAt (c : Ctx) (tm : Nat → List CV) (i : Nat) : Prop := ∃ o, Wants c tm i o ∧ isAct o.op = true

theorem first_act (A : Nat → Prop) (a : Nat) : ∀ b, a ≤ b → (∀ m, a ≤ m → m < b → ¬ A m) ∨ ∃ j, a ≤ j ∧ j < b ∧ A j ∧ ∀ m, a ≤ m → m < j → ¬ A m
  | 0, h => .inl fun m h1 h2 => by omega
  | b + 1, h => by
    by_cases hb : a ≤ b
    · rcases first_act A a b hb with h1 | ⟨j, h1, h2, h3⟩
      · by_cases hA : A b
        · exact .inr ⟨b, hb, by omega, hA, h1⟩
        · exact .inl fun m h2 h3 => by
            by_cases hm : m = b
            · subst hm; exact hA
            · exact h1 m h2 (by omega)
      · exact .inr ⟨j, h1, by omega, h3⟩
    · exact .inl fun m h1 h2 => by omega

theorem last_act (A : Nat → Prop) (a : Nat) : ∀ b, a ≤ b → (∀ m, a ≤ m → m < b → ¬ A m) ∨ ∃ j, a ≤ j ∧ j < b ∧ A j ∧ ∀ m, j < m → m < b → ¬ A m
  | 0, h => .inl fun m h1 h2 => by omega
  | b + 1, h => by
    by_cases hb : a ≤ b
    · by_cases hA : A b
      · exact .inr ⟨b, hb, by omega, hA, fun m h1 h2 => by omega⟩
      · rcases last_act A a b hb with h1 | ⟨j, h1, h2, h3, h4⟩
        · exact .inl fun m h2 h3 => by
            by_cases hm : m = b
            · subst hm; exact hA
            · exact h1 m h2 (by omega)
        · exact .inr ⟨j, h1, by omega, h3, fun m h5 h6 => by
            by_cases hm : m = b
            · subst hm; exact hA
            · exact h4 m h5 (by omega)⟩
    · exact .inl fun m h1 h2 => by omega

section
variable {c : Ctx} {n : Nat} {tm : Nat → List CV} {st : Nat → CSt} {val : Nat → CV}

theorem st_const (hn : n = c.ops.size) (T : DTr P c 0 n tm st val [] []) {a : Nat} : ∀ b, a ≤ b → b ≤ n → (∀ m, a ≤ m → m < b → ¬ ActAt c tm m) → st b = st a
  | 0, h1, h2, h => by
    have : a = 0 := by omega
    rw [this]
  | b + 1, h1, h2, h => by
    by_cases hb : a ≤ b
    · rw [← st_const hn T b hb (by omega) (fun m h3 h4 => h m h3 (by omega))]
      have hlt : b < c.ops.size := by omega
      have ho : c.ops[b]? = some c.ops[b] := Array.getElem?_eq_getElem hlt
      cases hw : Region.wanted c.ops[b] (cyielded c.ops (tm b)) with
      | false => exact (T.idle b _ (Nat.zero_le b) (by omega) ho hw).2
      | true =>
        cases ha : isAct c.ops[b].op with
        | false => exact (T.quiet b _ (Nat.zero_le b) (by omega) ⟨ho, hw⟩ ha).1
        | true => exact absurd ⟨_, ⟨ho, hw⟩, ha⟩ (h b hb (by omega))
    · have : a = b + 1 := by omega
      rw [this]

structure DInv (P : Program) (N : Nat) (c : Ctx) (n : Nat) (tm : Nat → List CV) (st : Nat → CSt) (inj0 : Inj) (h0 : HF) (w0 : World) (L : Array Bool) (a' : Act) (w : World) (inj : Inj) (ts : List CV) (J : Nat) : Prop where
  size : L.size = n
  hJ : J ≤ n
  cut1 : ∀ k, k < J → ActAt c tm k → L.getD k false = true
  cut2 : ∀ k, J ≤ k → ActAt c tm k → L.getD k false = false
  rel : Rel P N inj (st J).heap.get w
  fresh : ∀ b, (st J).next ≤ b → inj.free b
  ids : ∀ k, k < n → L.getD k false = false → inj.free (c.base + k)
  len : ∀ k, k ≤ n → ts.length = (tm k).length
  tmps : LRel inj ts a'.tmps.toList
  marks : MRel inj c.marks a'.defers
  same : ∀ d i, i ≤ n → (∀ k o, c.ops[k]? = some o → o.dst = some d → (k < i ↔ L.getD k false = true)) → ts[d]? = (tm i)[d]?
  step : Step c.ro inj0 h0 w0 inj (st J).heap.get w
  low : ∀ b, b < c.base → inj b = inj0 b ∧ inj.void b = inj0.void b
  nx : c.base + n ≤ (st J).next
  clo : ∀ k, L.getD k false = true → ∀ i, tb (c.B.getD k 0) i = true → L.getD i false = true

variable {inj0 : Inj} {h0 : HF} {w0 : World} {L : Array Bool} {a' : Act} {w : World} {inj : Inj} {ts : List CV} {J : Nat}

/-- What holds of an operation that may come up. -/
theorem DInv.ready (V : DInv P N c n tm st inj0 h0 w0 L a' w inj ts J) (hn : n = c.ops.size) (G : Good c.ops c.B) {i : Nat} (hi : i ∈ Region.ready .any c.ops L) :
    ∃ o, c.ops[i]? = some o ∧ i < n ∧ L.getD i false = false ∧ (∀ m, tb (c.B.getD i 0) m = true → L.getD m false = true) ∧ (∀ d ∈ o.looksAt c.ops, ts[d]? = (tm i)[d]?) := by
  obtain ⟨hun, o, ho, hall⟩ := mem_ready.1 hi
  have hlt : i < n := by
    rw [hn]; rcases Nat.lt_or_ge i c.ops.size with h | h
    · exact h
    · rw [Array.getElem?_eq_none h] at ho; cases ho
  have hL : L.getD i false = false := by
    have hs : i < L.size := by rw [V.size]; exact hlt
    simp [hs] at hun ⊢; exact hun
  have hpre : ∀ m, tb (c.B.getD i 0) m = true → L.getD m false = true := fun m hm => by
    obtain ⟨e, he, hb, h⟩ := G.bf i o ho m hm
    have h1 := hall e (by simpa using he) hb
    rcases h with h | h
    · rw [← h]; exact h1
    · exact V.clo _ h1 m h
  refine ⟨o, ho, hlt, hL, hpre, fun d hd => V.same d i (by omega) fun k ok hk hkd => ⟨fun hki => ?_, fun hkL => ?_⟩⟩
  · exact hpre k (G.wr k i ok o d hki hk ho hkd (.inr hd))
  · rcases Nat.lt_trichotomy k i with h | h | h
    · exact h
    · subst h; rw [hL] at hkL; cases hkL
    · have := V.clo k hkL i (G.rd i k o ok d h ho hk hd hkd)
      rw [hL] at this; cases this

theorem getD_set (L : Array Bool) {i : Nat} (hi : i < L.size) (k : Nat) : (L.setIfInBounds i true).getD k false = true ↔ (k = i ∨ L.getD k false = true) := by
  by_cases h : k = i
  · subst h; simp [hi]
  · rw [getD_set_ne false (fun e => h e.symm)]; simp [h]

theorem DInv.next (V : DInv P N c n tm st inj0 h0 w0 L a' w inj ts J) (hn : n = c.ops.size) (G : Good c.ops c.B) (T : DTr P c 0 n tm st val [] []) {i : Nat} {o : Oper} (ho : c.ops[i]? = some o) (hlt : i < n) (hL : L.getD i false = false)
    (hpre : ∀ m, tb (c.B.getD i 0) m = true → L.getD m false = true) {inj' : Inj} {w' : World} {v' : Value} {J' : Nat} (hv : VRel inj' (val i) v') (hJ' : J' ≤ n)
    (c1 : ∀ k, k < J' → ActAt c tm k → k = i ∨ L.getD k false = true) (c2 : ∀ k, J' ≤ k → ActAt c tm k → k ≠ i ∧ L.getD k false = false)
    (hr : Rel P N inj' (st J').heap.get w') (hf : ∀ b, (st J').next ≤ b → inj'.free b) (hlow : ∀ b, b < (st J).next → b ≠ c.base + i → inj' b = inj b ∧ inj'.void b = inj.void b) (hs : Step c.ro inj (st J).heap.get w inj' (st J').heap.get w') (hnx : (st J).next ≤ (st J').next) :
    DInv P N c n tm st inj0 h0 w0 (L.setIfInBounds i true) (a'.put o.dst v') w' inj' (cput ts o.dst (val i)) J' := by
  have hsz : i < L.size := by rw [V.size]; exact hlt
  have hget := getD_set L hsz
  have hff : ∀ {k}, (L.setIfInBounds i true).getD k false = false ↔ (k ≠ i ∧ L.getD k false = false) := fun {k} => by
    have := hget k
    cases h1 : (L.setIfInBounds i true).getD k false <;> cases h2 : L.getD k false <;> simp_all
  have hb := V.nx
  refine ⟨by simp [V.size], hJ', fun k h1 h2 => (hget k).2 (c1 k h1 h2), fun k h1 h2 => hff.2 (c2 k h1 h2), hr, hf, fun k h1 h2 => ?_, fun k hk => by rw [cput_len]; exact V.len k hk, ?_, (by have := V.marks.mono hs.ext; cases o.dst <;> exact this), ?_, V.step.trans hs, fun b hlt' => ?_, by omega, ?_⟩
  · obtain ⟨h3, h4⟩ := hff.1 h2
    have h5 := hlow (c.base + k) (by omega) (by omega)
    have h6 := V.ids k h1 h4
    exact ⟨h5.1.trans h6.1, h5.2.trans h6.2⟩
  · have := V.tmps.mono hs.ext
    cases hd : o.dst with
    | none => exact this
    | some d => simpa [cput, Act.put] using this.set d hv
  · intro d m hm hcut
    by_cases hd : o.dst = some d
    · have hmi : i < m := (hcut i o ho hd).2 ((hget i).2 (.inl rfl))
      have hfix : ∀ q, i + 1 ≤ q → q ≤ m → (tm q)[d]? = (tm (i + 1))[d]? := by
        intro q
        induction q with
        | zero => intro h; omega
        | succ q ih =>
          intro h1 h2
          by_cases hq : q = i
          · rw [hq]
          · have hlq : q < c.ops.size := by omega
            have hoq : c.ops[q]? = some c.ops[q] := Array.getElem?_eq_getElem hlq
            rw [T.put q _ (Nat.zero_le q) (by omega) hoq, ← ih (by omega) (by omega)]
            have hne : c.ops[q].dst ≠ some d := fun hqd => by
              have h3 := (hget q).1 ((hcut q _ hoq hqd).1 (by omega))
              rcases h3 with h3 | h3
              · exact hq h3
              · have h4 := V.clo q h3 i (G.wr i q o _ d (by omega) ho hoq hd (.inl hqd))
                rw [hL] at h4; cases h4
            cases hdq : c.ops[q].dst with
            | none => rfl
            | some d' =>
              have : d' ≠ d := fun e => hne (by rw [hdq, e])
              simp [cput, List.getElem?_set_ne this]
      rw [hfix m (by omega) (Nat.le_refl m), T.put i o (Nat.zero_le i) hlt ho, hd]
      simp only [cput]
      rw [List.getElem?_set, List.getElem?_set, V.len i (by omega)]
      simp
    · have h1 : (cput ts o.dst (val i))[d]? = ts[d]? := by
        cases hdq : o.dst with
        | none => rfl
        | some d' =>
          have : d' ≠ d := fun e => hd (by rw [hdq, e])
          simp [cput, List.getElem?_set_ne this]
      rw [h1]
      refine V.same d m hm fun k ok hk hkd => ?_
      rw [hcut k ok hk hkd, hget k]
      have : k ≠ i := fun e => by subst e; rw [ho] at hk; cases hk; exact hd hkd
      simp [this]
  · have h5 := hlow b (by omega) (by omega)
    have h6 := V.low b hlt'
    exact ⟨h5.1.trans h6.1, h5.2.trans h6.2⟩
  · intro k hk m hm
    rcases (hget k).1 hk with rfl | hk
    · exact (hget m).2 (.inr (hpre m hm))
    · exact (hget m).2 (.inr (V.clo k hk m hm))

/-- A quiet operation answers the same whenever it may come up. -/
theorem DInv.quiet (V : DInv P N c n tm st inj0 h0 w0 L a' w inj ts J) (hn : n = c.ops.size) (T : DTr P c 0 n tm st val [] []) {i : Nat} {o : Oper} (hw : Wants c tm i o) (hq : isAct o.op = false) (hlt : i < n) (hL : L.getD i false = false)
    (hpre : ∀ m, tb (c.B.getD i 0) m = true → L.getD m false = true) : cqt P c (tm i) i o (st J).heap = some (val i) := by
  have hbase := T.quiet i o (Nat.zero_le i) hlt hw hq
  have hJ := V.hJ
  by_cases h : J ≤ i
  · rcases first_act (ActAt c tm) J i h with h1 | ⟨j, h1, h2, ⟨oj, hwj, haj⟩, h4⟩
    · rw [← st_const hn T i h (by omega) h1]; exact hbase.2
    · rw [← st_const hn T j h1 (by omega) h4]
      rcases T.w2 i j o oj (Nat.zero_le j) h2 hlt hw hq hwj haj with h5 | h5
      · have h6 := hpre j h5
        rw [V.cut2 j h1 ⟨oj, hwj, haj⟩] at h6; cases h6
      · exact h5
  · rcases last_act (ActAt c tm) i J (by omega) with h1 | ⟨j, h1, h2, ⟨oj, hwj, haj⟩, h4⟩
    · rw [st_const hn T J (by omega) hJ h1]; exact hbase.2
    · have hji : j ≠ i := fun e => by
        subst e
        have := hwj.1; rw [hw.1] at this; cases this
        rw [hq] at haj; cases haj
      rw [st_const hn T (a := j + 1) J (by omega) hJ (fun m h5 h6 => h4 m (by omega) h6)]
      rcases T.w1 i j o oj (Nat.zero_le i) (by omega) (by omega) hw hq hwj haj with h5 | h5
      · have h6 := V.clo j (V.cut1 j h2 ⟨oj, hwj, haj⟩) i h5
        rw [hL] at h6; cases h6
      · exact h5

end

end Go.Proofs.YtkdjllolnlndkaaD
