/-
  Regions that draw their order: the theorem.
-/
import Derived.Test.YtkdjllolnlndkaaDrawn3
set_option linter.unusedVariables false
set_option linter.unusedSimpArgs false
namespace Go.Proofs.YtkdjllolnlndkaaD
open Go Go.RowKit

variable {P : Program} {N : Nat}

theorem tmem_isZ {ρ : Operand → Option CV} {ro id : Nat} {o : Oper} {h : HF} (hz : isZ o.op = true) : (tmem P ρ ro id o h).ev = (T.of (cmem P ρ ro id o h)).ev := by
  obtain ⟨dst, op, type, pos, after, guard⟩ := o
  cases op <;> first | (simp [isZ] at hz; done) | rfl

theorem tmem_defer {ρ : Operand → Option CV} {ro id : Nat} {o : Oper} {h : HF} {c : Call} (hc : o.op = .defer c) : (tmem P ρ ro id o h).ev = none := by
  simp [tmem, cmem, cpure, hc, T.of, T.ev]

section
variable {c : Ctx} {n : Nat} {tm : Nat → List CV} {st : Nat → CSt} {val : Nat → CV} {inj0 : Inj} {h0 : HF} {w0 : World}

theorem DInv.done {L : Array Bool} {a' : Act} {w : World} {inj : Inj} {ts : List CV} {J : Nat} (V : DInv P N c n tm st inj0 h0 w0 L a' w inj ts J) (hn : n = c.ops.size) (T : DTr P c 0 n tm st val [] []) (hall : ∀ i, i < n → L.getD i false = true) :
    ActRel inj ⟨tm n, c.marks⟩ a' ∧ SRel P N inj (st n) w ∧ Step c.ro inj0 h0 w0 inj (st n).heap.get w ∧ (∀ b, b < c.base → inj b = inj0 b ∧ inj.void b = inj0.void b) ∧ c.base + n ≤ (st n).next := by
  have hk : ∀ {k o}, c.ops[k]? = some o → k < n := fun {k o} h => by
    rw [hn]; rcases Nat.lt_or_ge k c.ops.size with h' | h'
    · exact h'
    · rw [Array.getElem?_eq_none h'] at h; cases h
  have hts : ts = tm n := List.ext_getElem? fun d => V.same d n (Nat.le_refl n) fun k o ho hd => ⟨fun _ => hall k (hk ho), fun _ => hk ho⟩
  have hst : st n = st J := st_const hn T n V.hJ (Nat.le_refl n) fun m h1 h2 ha => by
    have := V.cut2 m h1 ha; rw [hall m h2] at this; cases this
  rw [hst]
  exact ⟨⟨by rw [← hts]; exact V.tmps, V.marks⟩, ⟨V.rel, V.fresh⟩, V.step, V.low, V.nx⟩

theorem wanted_congr {ops : Array Oper} {ts ts' : List CV} {o : Oper} (h : ∀ d ∈ o.looksAt ops, ts[d]? = ts'[d]?) : Region.wanted o (cyielded ops ts) = Region.wanted o (cyielded ops ts') := by
  unfold Region.wanted
  cases hg : o.guard with
  | none => rfl
  | some gw =>
    obtain ⟨g, want⟩ := gw
    simp only []
    have : cyielded ops ts g = cyielded ops ts' g := by
      unfold cyielded
      cases hd : (ops[g]?).bind (·.dst) with
      | none => rfl
      | some t =>
        simp only [Option.bind_some]
        rw [h t (by simp [Oper.looksAt, hg, hd])]
    rw [this]

theorem gfine_congr {ops : Array Oper} {ts ts' : List CV} {o : Oper} (h : ∀ d ∈ o.looksAt ops, ts[d]? = ts'[d]?) : gfine ops o ts = gfine ops o ts' := by
  unfold gfine
  cases hg : o.guard with
  | none => rfl
  | some gw =>
    obtain ⟨g, want⟩ := gw
    simp only []
    cases hd : (ops[g]?).bind (·.dst) with
    | none => rfl
    | some t =>
      simp only [Option.bind_some]
      rw [h t (by simp [Oper.looksAt, hg, hd])]

theorem ceval_congr {ops : Array Oper} {ts ts' : List CV} {o : Oper} (h : ∀ d ∈ o.looksAt ops, ts[d]? = ts'[d]?) : ∀ x ∈ o.op.operands, ceval ts x = ceval ts' x := by
  intro x hx
  cases x with
  | tmp t =>
    simp only [ceval]
    rw [List.getD_eq_getElem?_getD, List.getD_eq_getElem?_getD, h t (by
      simp only [Oper.looksAt, List.mem_append, List.mem_filterMap]
      exact .inl ⟨.tmp t, by simpa using hx, rfl⟩)]
  | const v => rfl
  | global g => rfl
  | func f => rfl

theorem count_mark {L : Array Bool} {i : Nat} (hi : i < L.size) (hL : L.getD i false = false) : (L.setIfInBounds i true).toList.count true = L.toList.count true + 1 := by
  have h1 : L[i] = false := by simpa [hi] using hL
  rw [Array.toList_setIfInBounds, List.count_set (by simpa using hi)]
  simp [h1]

theorem drawn_any (hP : plainNames P = true) (hself : SelfOk P N c.self) (hn : n = c.ops.size) (G : Good c.ops c.B) (T : DTr P c 0 n tm st val [] []) {rd : Option Nat} {nn : Nat} {Q : Exit → Act → World → Prop}
    (hQ : ∀ inj w a', ActRel inj ⟨tm n, c.marks⟩ a' → SRel P N inj (st n) w → Step c.ro inj0 h0 w0 inj (st n).heap.get w → (∀ b, b < c.base → inj b = inj0 b ∧ inj.void b = inj0.void b) → c.base + n ≤ (st n).next → Q .normal a' w) :
    ∀ (fuel : Nat) (L : Array Bool) (a' : Act) (w : World) (inj : Inj) (ts : List CV) (J : Nat), DInv P N c n tm st inj0 h0 w0 L a' w inj ts J → L.toList.count true + fuel = n →
      wpAnyIn (FW rd) nn P .any c.ops Q fuel L a' w := by
  intro fuel
  induction fuel with
  | zero =>
    intro L a' w inj ts J V hc
    have hall : ∀ i, i < n → L.getD i false = true := fun i hi => by
      have h1 : L.toList.count true = L.toList.length := by rw [Array.length_toList, V.size]; omega
      have h2 := List.count_eq_length.1 h1 
      have hs : i < L.size := by rw [V.size]; exact hi
      have := h2 L[i] (by simp)
      simp [hs, ← this]
    refine ⟨List.eq_nil_iff_forall_not_mem.2 fun i hi => ?_, ?_⟩
    · obtain ⟨o, ho, hlt, hL, _⟩ := V.ready hn G hi
      rw [hall i hlt] at hL; cases hL
    · obtain ⟨h1, h2, h3, h4, h5⟩ := V.done hn T hall
      exact hQ _ _ _ h1 h2 h3 h4 h5
  | succ fuel ih =>
    intro L a' w inj ts J V hc
    refine ⟨fun hnil => ?_, fun i hi => ?_⟩
    · have hall : ∀ i, i < n → L.getD i false = true := fun i => by
        induction i using Nat.strongRecOn with
        | _ i ihi =>
          intro hi
          have hlt : i < c.ops.size := by omega
          have ho : c.ops[i]? = some c.ops[i] := Array.getElem?_eq_getElem hlt
          cases hL : L.getD i false with
          | true => rfl
          | false =>
            have hs : i < L.size := by rw [V.size]; exact hi
            have : i ∈ Region.ready .any c.ops L := mem_ready.2 ⟨by simp [hs] at hL ⊢; exact hL, _, ho, fun e he hb => by
              have := G.edge i _ ho e (by simpa using he) hb
              exact ihi e.on this (by omega)⟩
            rw [hnil] at this; cases this
      obtain ⟨h1, h2, h3, h4, h5⟩ := V.done hn T hall
      exact hQ _ _ _ h1 h2 h3 h4 h5
    · obtain ⟨o, ho, hlt, hL, hpre, hag⟩ := V.ready hn G hi
      have hcnt : (L.setIfInBounds i true).toList.count true + fuel = n := by
        rw [count_mark (by rw [V.size]; exact hlt) hL]; omega
      have hact : ActRel inj ⟨ts, c.marks⟩ a' := ⟨V.tmps, V.marks⟩
      have hid := V.ids i hlt hL
      have hwant : Region.wanted o (yielded c.ops a'.tmps) = Region.wanted o (cyielded c.ops (tm i)) := by
        rw [← wanted_rel hact c.ops o (by rw [gfine_congr hag]; exact T.fine i o (Nat.zero_le i) hlt ho), wanted_congr hag]
      have hev := ceval_congr hag
      unfold wpOpIn
      rw [ho]
      simp only []
      cases hw : Region.wanted o (cyielded c.ops (tm i)) with
      | false =>
        rw [hwant, hw]
        simp only [Bool.false_eq_true, if_false]
        refine ⟨fun _ _ => trivial, ?_⟩
        obtain ⟨hv, hst⟩ := T.idle i o (Nat.zero_le i) hlt ho hw
        refine ih _ _ _ inj (cput ts o.dst (val i)) J (V.next hn G T ho hlt hL hpre (J' := J) (by rw [hv]; exact .undef _) V.hJ (fun k h1 h2 => .inr (V.cut1 k h1 h2)) (fun k h1 h2 => ⟨fun e => ?_, V.cut2 k h1 h2⟩) V.rel V.fresh (fun _ _ _ => ⟨rfl, rfl⟩) (.refl _ _ _ _) (Nat.le_refl _)) hcnt
        subst e
        obtain ⟨ok, hwk, _⟩ := h2
        have := hwk.1; rw [ho] at this; cases this
        rw [hwk.2] at hw; cases hw
      | true =>
        rw [hwant, hw]
        simp only [if_true]
        have hW : Wants c tm i o := ⟨ho, hw⟩
        cases ha : isAct o.op with
        | true =>
          have hJi : J ≤ i := by
            rcases Nat.lt_or_ge i J with h | h
            · have := V.cut1 i h ⟨o, hW, ha⟩; rw [hL] at this; cases this
            · exact h
          have hbefore : ∀ k, k < i → ActAt c tm k → L.getD k false = true := fun k h1 ⟨ok, hwk, hak⟩ => hpre k (G.act k i ok o h1 hwk.1 ho hak ha)
          have hst : st i = st J := st_const hn T i hJi (by omega) fun m h1 h2 h3 => by
            have := V.cut2 m h1 h3; rw [hbefore m h2 h3] at this; cases this
          have e := T.acts i o (Nat.zero_le i) hlt hW ha
          rw [cOper_congr (b := ⟨ts, c.marks⟩) o (fun x hx => (hev x hx).symm), hst] at e
          refine cOper_sound hP hself e ⟨V.rel, V.fresh⟩ hact hid (by have := V.nx; omega) ?_
          intro i' w' v' hv haf
          exact ih _ _ _ i' _ (i + 1) (V.next hn G T ho hlt hL hpre (J' := i + 1) hv (by omega)
            (fun k h1 h2 => by
              by_cases hk : k = i
              · exact .inl hk
              · exact .inr (hbefore k (by omega) h2))
            (fun k h1 h2 => ⟨by omega, V.cut2 k (by omega) h2⟩) haf.srel.rel haf.srel.fresh (fun b h1 h2 => haf.low b h1 h2) haf.step haf.nx) hcnt
        | false =>
          have hq := V.quiet hn T hW ha hlt hL hpre
          unfold cqt at hq
          rw [cq_congr (σ := ceval ts) _ o (fun x hx => (hev x hx).symm)] at hq
          have go : ∀ {nx : Next} {i' : Inj} {w' : World} {v' : Value}, (∀ cl, o.op ≠ .defer cl) → (execOp a'.eval o).run P w = .ok nx w' → (nx = .value v' ∨ (nx = .skip ∧ v' = undef)) → VRel i' (val i) v' → Rel P N i' (st J).heap.get w' →
              Step c.ro inj (st J).heap.get w i' (st J).heap.get w' → (∀ b, b ≠ c.base + i → i' b = inj b ∧ i'.void b = inj.void b) →
              o.wpIn (FW rd) nn P a' w (wpAnyIn (FW rd) nn P .any c.ops Q fuel (L.setIfInBounds i true)) Q := by
            intro nx i' w' v' hdef d1 d2 d3 d4 d5 d6
            refine wpIn_of_run hdef d1 d2 ?_
            refine ih _ _ _ i' (cput ts o.dst (val i)) J (V.next hn G T ho hlt hL hpre (J' := J) d3 V.hJ (fun k h1 h2 => .inr (V.cut1 k h1 h2)) (fun k h1 h2 => ⟨fun e => ?_, V.cut2 k h1 h2⟩) d4 (fun b hb => ?_) (fun b _ hb => d6 b hb) d5 (Nat.le_refl _)) hcnt
            · subst e
              obtain ⟨ok, hwk, hak⟩ := h2
              have := hwk.1; rw [ho] at this; cases this
              rw [ha] at hak; cases hak
            · have h1 := d6 b (by have := V.nx; omega)
              have h2 := V.fresh b hb
              exact ⟨h1.1.trans h2.1, h1.2.trans h2.2⟩
          unfold cq at hq
          cases hzz : isZ o.op with
          | true =>
            rw [hzz] at hq
            simp only [cond_true] at hq
            split at hq
            · rename_i v0 ws e' m' vs e m hzo hh
              cases hcond : (veqL (veq 8) vs ws && Nat.beq e e' && Nat.beq m m') with
              | false => rw [hcond] at hq; cases hq
              | true =>
                rw [hcond] at hq
                simp only [cond_true] at hq
                simp only [Bool.and_eq_true, nbeq, decide_eq_true_eq] at hcond
                obtain ⟨⟨q3, q4⟩, q5⟩ := hcond
                have hvs := veqL_eq (veq_eq 8) _ _ q3
                subst hvs; subst q4; subst q5
                have hR : Rel P N inj (fun b => if b = c.base + i then none else (st J).heap.get b) w := V.rel.congr fun b hb => by
                  by_cases hbi : b = c.base + i
                  · subst hbi; rcases hb with hb | hb
                    · rw [hid.1] at hb; cases hb
                    · rw [hid.2] at hb; cases hb
                  · simp [hbi]
                have hcm : (tmem P (ceval ts) c.ro (c.base + i) o (fun b => if b = c.base + i then none else (st J).heap.get b)).ev = some (val i, [(c.base + i, .cells vs e m)]) := by
                  rw [tmem_isZ hzz, zobj_cmem hzz hzo (by simp), Option.some.inj hq]; rfl
                obtain ⟨nx, i', w', v', d1, d2, d3, d4, d5, d6⟩ := tmem_sound hR (ceval_rel hact) hid hcm
                have hheap : eall (fun b => if b = c.base + i then none else (st J).heap.get b) [(c.base + i, .cells vs e m)] = (st J).heap.get := by
                  funext b
                  simp only [eall]
                  by_cases hbi : b = c.base + i
                  · subst hbi; simp [fset, hh]
                  · simp [fset, hbi]
                rw [hheap] at d4 d5
                refine go (fun cl hcl => by rw [hcl] at hzz; cases hzz) d1 d2 d3 d4 (d5.left (fun b hb => ?_) (fun _ _ _ h => h)) d6
                by_cases hbi : b = c.base + i
                · subst hbi; rw [hid.1] at hb; cases hb
                · simp [hbi]
            · cases hq
          | false =>
            rw [hzz] at hq
            simp only [cond_false] at hq
            split at hq
            · rename_i v hcm
              cases hq
              obtain ⟨nx, i', w', v', d1, d2, d3, d4, d5, d6⟩ := tmem_sound V.rel (ceval_rel hact) hid hcm
              exact go (fun cl hcl => by rw [tmem_defer hcl] at hcm; cases hcm) d1 d2 d3 d4 d5 d6
            · cases hq

end

theorem preset_get : ∀ (l : List Oper) (id : Nat) (h h' : Tr CObj), preset P l id h = some h' → (∀ b o, h.get b = some o → h'.get b = some o) ∧ ∀ b, b < id → h'.get b = h.get b
  | [], id, h, h', e => by simp only [preset] at e; cases e; exact ⟨fun _ _ h => h, fun _ _ => rfl⟩
  | o :: r, id, h, h', e => by
    simp only [preset] at e
    cases hz : isZ o.op with
    | true =>
      rw [hz] at e
      simp only [cond_true] at e
      split at e
      · rename_i v ob hzo hn
        obtain ⟨h1, h2⟩ := preset_get r (id + 1) _ h' e
        refine ⟨fun b o hb => h1 b o ?_, fun b hb => ?_⟩
        · rw [Tr.get_set]
          by_cases e : b = id
          · subst e; rw [hn] at hb; cases hb
          · simp [e, hb]
        · rw [h2 b (by omega), Tr.get_set_ne _ _ (by omega)]
      · cases e
    | false =>
      rw [hz] at e
      simp only [cond_false] at e
      obtain ⟨h1, h2⟩ := preset_get r (id + 1) _ h' e
      exact ⟨h1, fun b hb => h2 b (by omega)⟩

/-- A region that draws its order. -/
theorem dRegion_sound (hP : plainNames P = true) (hM : P.follows .mixedOrders = true) {self : Self} (hself : SelfOk P N self) {ro id : Nat} {ops : Array Oper} {a a2 : CAct} {s s2 : CSt}
    (e : dRegion self P ro ops a s = some (a2, s2)) {i : Inj} {w : World} {a' : Act} {rd : Option Nat} {n : Nat} (hs : SRel P N i s w) (ha : ActRel i a a') :
    (Code.region id ops true).wpIn (FW rd) n P (ExecPost P N ro i s w .normal a2 s2) a' w := by
  unfold dRegion at e
  simp only [] at e
  cases hg : (edgesOk ops.toList 0 && allFit (infos ops ops.toList 0 [])) with
  | false => rw [hg] at e; simp at e
  | true =>
  rw [hg] at e
  simp only [cond_true] at e
  split at e
  · rename_i h hpre
    have G := good_of hg
    obtain ⟨p1, p2⟩ := preset_get _ _ _ _ hpre
    obtain ⟨tm, st, val, t1, t2, t3, t4, t5, T⟩ := dOps_trace (P := P) (c := ⟨self, ro, s.next, ops, (infos ops ops.toList 0 []).map (·.bf), a.marks⟩) ops.toList 0 [] [] a _ e rfl (by simp)
    simp only [Nat.zero_add, Array.length_toList] at t3 t4 T
    refine wpIn_region_any hM ?_
    have hdr : ({ w with drawn := w.drawn + 1 } : World).heap = w.heap := rfl
    have hdom0 : ∀ b, ((i b).isSome = true ∨ i.void b = true) → s.heap.get b = h.get b := fun b hb => by
      refine (p2 b ?_).symm
      rcases Nat.lt_or_ge b s.next with h | h
      · exact h
      · rcases hb with hb | hb
        · rw [(hs.fresh b h).1] at hb; cases hb
        · rw [(hs.fresh b h).2] at hb; cases hb
    have hdom : ∀ b, (i b).isSome = true → s.heap.get b = h.get b := fun b hb => hdom0 b (.inl hb)
    have hR : Rel P N i h.get { w with drawn := w.drawn + 1 } := (hs.rel.congr (fun b hb => (hdom0 b hb).symm)).drawn rfl
    have hlen : ∀ k, k ≤ ops.size → (tm 0).length = (tm k).length := by
      intro k
      induction k with
      | zero => intro _; rfl
      | succ k ih =>
        intro hk
        have hlt : k < ops.size := by omega
        rw [T.put k ops[k] (Nat.zero_le k) hlt (Array.getElem?_eq_getElem hlt), cput_len]
        exact ih (by omega)
    refine drawn_any (c := ⟨self, ro, s.next, ops, (infos ops ops.toList 0 []).map (·.bf), a.marks⟩) (n := ops.size) (inj0 := i) (h0 := s.heap.get) (w0 := w) hP hself rfl G T ?_ ops.size (Array.replicate ops.size false) a' _ i (tm 0) 0
      ⟨by simp, Nat.zero_le _, fun k h1 => by omega, fun k _ _ => ?_, by rw [t2]; exact hR, fun b hb => ?_, fun k hk _ => hs.fresh _ (by simp), hlen, by rw [t1]; exact ha.tmps, ha.marks, fun d k hk hc => ?_, ?_, fun _ _ => ⟨rfl, rfl⟩, by rw [t2]; simp, fun k hk => ?_⟩ ?_
    · intro inj w2 a2' q1 q2 q3 q4 q5
      simp only [] at t3 t4 t5 q1 q2 q3 q4 q5
      rw [t3] at q1; rw [t4] at q2 q3 q5
      refine ⟨inj, rfl, ?_, q2, q3, q4, by omega⟩
      rw [← t5] at q1; exact q1
    · simp only [Array.getD_eq_getD_getElem?, Array.getElem?_replicate]; split <;> rfl
    · rw [t2] at hb; exact hs.fresh b (by simp only [] at hb; omega)
    · have h0 : ∀ k, (Array.replicate ops.size false).getD k false = false := fun k => by
        simp only [Array.getD_eq_getD_getElem?, Array.getElem?_replicate]; split <;> rfl
      have hno : ∀ j, j < k → ∀ o, ops[j]? = some o → o.dst ≠ some d := fun j hj o ho hd => by
        have := (hc j o ho hd).1 hj; rw [h0] at this; cases this
      have : ∀ q, q ≤ k → (tm q)[d]? = (tm 0)[d]? := by
        intro q
        induction q with
        | zero => intro _; rfl
        | succ q ih =>
          intro hq
          have hlq : q < ops.size := by omega
          have hoq : ops[q]? = some ops[q] := Array.getElem?_eq_getElem hlq
          rw [T.put q ops[q] (Nat.zero_le q) (by omega) hoq, ← ih (by omega)]
          have hne := hno q (by omega) _ hoq
          cases hdq : ops[q].dst with
          | none => rfl
          | some d' =>
            have : d' ≠ d := fun e => hne (by rw [hdq, e])
            simp [cput, List.getElem?_set_ne this]
      exact (this k (Nat.le_refl k)).symm
    · rw [t2]
      have h1 : Step ro i s.heap.get w i s.heap.get { w with drawn := w.drawn + 1 } := .drawn rfl rfl rfl rfl
      have h2 : Step ro i s.heap.get { w with drawn := w.drawn + 1 } i h.get { w with drawn := w.drawn + 1 } :=
        (Step.refl ro i h.get { w with drawn := w.drawn + 1 }).left (fun b hb => (hdom b hb).symm) (fun b o _ hb => p1 b o hb)
      exact h1.trans h2
    · have h0 : (Array.replicate ops.size false).getD k false = false := by
        simp only [Array.getD_eq_getD_getElem?, Array.getElem?_replicate]; split <;> rfl
      rw [h0] at hk; cases hk
    · rw [Array.toList_replicate, List.count_replicate]; simp
  · cases e

end Go.Proofs.YtkdjllolnlndkaaD
