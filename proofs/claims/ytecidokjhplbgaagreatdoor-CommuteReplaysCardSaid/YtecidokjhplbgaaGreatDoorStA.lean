/-
  Functions with rows that are written: heap in, heap out; told to the runs of their callers.
  Functions with rows that are written: trees, answers as data.
-/
import Derived.Test.YtecidokjhplbgaaGreatDoorTRunA
import Derived.Test.YtecidokjhplbgaaGreatDoorTac
set_option linter.unusedVariables false
set_option linter.unusedSimpArgs false
namespace Go.Proofs.YtecidokjhplbgaaGreatDoorD
open Go Go.RowKit

variable {P : Program} {N : Nat}

def StAt (P : Program) (f : FuncId) (n0 n : NSt) : Prop :=
  ∀ (N : Nat) (i : Inj) (w : World) (args' : Array Value), SRel P N i n0.fst w → LRel i n0.fact.tmps args'.toList →
    CallsIn (FW none) 0 P f args' w fun e w' => ∃ (i' : Inj) (v' : Value), e = .returned v' ∧ LRel i' n.fact.tmps [v'] ∧ LStep P N n0.next i n0.fst w i' n.fst w'
def StFn (P : Program) (f : FuncId) (G : NSt → T NSt) : Prop :=
  (∃ fn c, P.funcs[f]? = some fn ∧ fn.body = some c) ∧ ∀ n0 n, (G n0).ev = some n → n0.next ≤ n.next ∧ StAt P f n0 n

def stRunV (P : Program) (E : List (Nat × ExtFn)) (L : List (Nat × List Nat × LoopFn)) (V : List (Nat × RC)) (k f : Nat) (n0 : NSt) : T NSt :=
  ((tden P E L k).call 0 f n0.fact.tmps n0.fst).bind fun r =>
    match nz n0.next 1 V ⟨[r.1], []⟩ r.2 with
    | some n => .ret n
    | none => .fail

theorem nz_next {base mask : Nat} {V : List (Nat × RC)} {a : CAct} {s : CSt} {n : NSt} (e : nz base mask V a s = some n) : base ≤ n.next := (nz_less (P := default) (N := 0) e).nx

theorem st_of (hP : plainNames P = true) (hM : P.follows .mixedOrders = true) {E : List (Nat × ExtFn)} (hE : ∀ N, ExtsOk P N E) {L : List (Nat × List Nat × LoopFn)} (hL : ∀ N, LoopsOk P N L) {V : List (Nat × RC)} {k f : Nat} {n0 n : NSt}
    (e : (stRunV P E L V k f n0).ev = some n) : n0.next ≤ n.next ∧ StAt P f n0 n := by
  obtain ⟨⟨v, s⟩, h1, h2⟩ := ev_bind _ e
  simp only [] at h2
  split at h2
  · rename_i n' hn
    cases ev_ret h2
    have e1 := (tden_ev P E L k).call h1
    refine ⟨nz_next hn, fun N i w args' hs hl => ?_⟩
    obtain ⟨_, h⟩ := (den_sound (N := N) hP hM (hE _) (hL _) k).call 0 f _ _ v s e1
    refine (h i w args' hs hl).mono ?_
    rintro e w' ⟨i', v', rfl, hvr, haf⟩
    have hls : Less P N n0.next ⟨[v], []⟩ s n.fact n.fst := nz_less hn
    obtain ⟨j, j1, j2, j3, j4, j6, j5⟩ := hls.rel i' w' ⟨#[v'], []⟩ haf.srel ⟨.cons hvr (.nil _), .nil⟩
    have st : LStep P N n0.next i' s w' j n.fst w' := ⟨j1, Nat.le_refl _, rfl, rfl, rfl, fun _ _ _ => rfl, fun B _ h => j5 B h, fun B k v _ h => .inl (by rw [← j4]; exact h), j3, fun B k v h => by rw [j4]; exact h, j6⟩
    exact ⟨j, v', rfl, j2.tmps, (haf.lstep (Nat.le_refl _)).trans st⟩
  · exact (ev_fail h2).elim

def backN (q : List Nat) (nx k : Nat) : Option Nat := if k < q.length then q[k]? else some (nx + (k - q.length))
def backObj (q : List Nat) (nx : Nat) (h2 : Tr CObj) (k : Nat) : CObj :=
  match h2.get k with
  | some o => renO (backN q nx) o
  | none => .dead
def putBack (q : List Nat) (nx : Nat) (h2 : Tr CObj) : Nat → Tr CObj → Tr CObj
  | 0, t => t
  | k + 1, t => match backN q nx k with
    | some c => (putBack q nx h2 k t).set c (backObj q nx h2 k)
    | none => putBack q nx h2 k t
def wrUpto (h2 : Tr CObj) : Nat → Bool
  | 0 => true
  | k + 1 => (match h2.get k with
    | some o => wr o
    | none => true) && wrUpto h2 k
def ltAll (nx : Nat) : List Nat → Bool
  | [] => true
  | x :: r => Nat.blt x nx && ltAll nx r

def stExt (G : NSt → T NSt) : ExtFn := fun ro args s =>
  bif Nat.beq ro 0 then
    let q := reached 0 (2 ^ args.length - 1) ⟨args, []⟩ s
    match norm 0 (2 ^ args.length - 1) q ⟨args, []⟩ s with
    | some m => (G m.fin).bind fun n =>
        match n.fact.tmps with
        | [v] => bif wrUpto n.fst.heap n.next && ltAll s.next q then .ret (renV (backN q s.next) v, ⟨putBack q s.next n.fst.heap n.next s.heap, s.next + (n.next - q.length)⟩) else .fail
        | _ => .fail
    | none => .fail
  else .fail

theorem ltAll_get {nx : Nat} : ∀ {q : List Nat}, ltAll nx q = true → ∀ (k c : Nat), q[k]? = some c → c < nx
  | [], _, k, c, h => by simp at h
  | x :: r, hq, k, c, h => by
    simp only [ltAll, Bool.and_eq_true, Nat.blt_eq] at hq
    cases k with
    | zero => simp at h; omega
    | succ k => exact ltAll_get hq.2 k c (by simpa using h)
theorem wrUpto_get {h2 : Tr CObj} : ∀ {n : Nat}, wrUpto h2 n = true → ∀ (k : Nat) (o : CObj), k < n → h2.get k = some o → wr o = true
  | 0, _, k, o, hk, _ => by omega
  | n + 1, hq, k, o, hk, ho => by
    simp only [wrUpto, Bool.and_eq_true] at hq
    rcases Nat.lt_succ_iff_lt_or_eq.1 hk with h | rfl
    · exact wrUpto_get hq.2 k o h ho
    · rw [ho] at hq; exact hq.1
theorem backN_inj {q : List Nat} {nx : Nat} (hf : freshList 0 q = true) (hlt : ltAll nx q = true) {k m c : Nat} (h1 : backN q nx k = some c) (h2 : backN q nx m = some c) : k = m := by
  unfold backN at h1 h2
  split at h1 <;> split at h2
  · exact freshList_inj hf k m c h1 h2
  · have := ltAll_get hlt k c h1; cases h2; omega
  · have := ltAll_get hlt m c h2; cases h1; omega
  · cases h1; simp only [Option.some.injEq] at h2; omega
theorem putBack_in {q : List Nat} {nx : Nat} {h2 : Tr CObj} (hf : freshList 0 q = true) (hlt : ltAll nx q = true) {t : Tr CObj} : ∀ {n k c : Nat}, k < n → backN q nx k = some c → (putBack q nx h2 n t).get c = some (backObj q nx h2 k)
  | 0, k, c, hk, _ => by omega
  | n + 1, k, c, hk, hc => by
    unfold putBack
    rcases Nat.lt_succ_iff_lt_or_eq.1 hk with h | rfl
    · split
      · rename_i d hd
        have : d ≠ c := fun e => by subst e; have := backN_inj hf hlt hd hc; omega
        rw [Tr.get_set_ne _ _ (Ne.symm this)]
        exact putBack_in hf hlt h hc
      · exact putBack_in hf hlt h hc
    · rw [hc]
      simp only []
      rw [Tr.get_set_eq]
theorem putBack_out {q : List Nat} {nx : Nat} {h2 : Tr CObj} {t : Tr CObj} {c : Nat} : ∀ {n : Nat}, (∀ k, k < n → backN q nx k ≠ some c) → (putBack q nx h2 n t).get c = t.get c
  | 0, _ => rfl
  | n + 1, h => by
    unfold putBack
    split
    · rename_i d hd
      have : d ≠ c := fun e => by subst e; exact h n (by omega) hd
      rw [Tr.get_set_ne _ _ (Ne.symm this)]
      exact putBack_out fun k hk => h k (by omega)
    · exact putBack_out fun k hk => h k (by omega)

theorem extOk_st {f : FuncId} {G : NSt → T NSt} (h : StFn P f G) : ExtOk1 P N f (stExt G) := by
  refine ⟨h.1, fun ro args s v s' e i w args' hs hl => ?_⟩
  unfold stExt at e
  rw [nbeq] at e
  by_cases hro : ro = 0
  · subst hro
    simp only [decide_true, cond_true] at e
    generalize reached 0 (2 ^ args.length - 1) ⟨args, []⟩ s = q at e
    split at e
    · rename_i m hm
      obtain ⟨n, h1, h2⟩ := ev_bind _ e
      split at h2
      · rename_i v0 hv0
        obtain ⟨hc, h3⟩ := ev_bif h2
        simp only [Bool.and_eq_true] at hc
        obtain ⟨hwr, hlt⟩ := hc
        cases ev_ret h3
        obtain ⟨_, hnext, hfresh, hat⟩ := norm_at (P := P) (N := N) hm
        obtain ⟨r1, r2, _, r4, r5⟩ := hat i w ⟨args', []⟩ hs ⟨hl, .nil⟩
        obtain ⟨j, j1, j2, j3, j4, j6, j5⟩ := (less_fin (P := P) (N := N) (base := m.next) (n := m) (Nat.le_refl _)).rel (renInj 0 q i) w ⟨args', []⟩ r1 r2
        obtain ⟨hnn, hst⟩ := h.2 _ _ h1
        have hq : m.fin.next = q.length := by show m.next = q.length; omega
        rw [hq] at hnn
        refine (hst N j w args' j1 j2.tmps).mono ?_
        rintro e w' ⟨i', v', rfl, hv, st⟩
        have hin : ∀ b c, q[b]? = some c → i' b = i c ∧ i'.void b = i.void c := by
          intro b c hb
          have hbl : b < q.length := (List.getElem?_eq_some_iff.1 hb).1
          have e1 := st.low b (by rw [hq]; exact hbl)
          have e2 := j3 b (by omega)
          have e3 : srcN 0 q b = some c := by simp [srcN, hb]
          have e4 : renInj 0 q i b = i c := by show (match srcN 0 q b with | some b => i b | none => none) = _; rw [e3]
          have e5 : (renInj 0 q i).void b = i.void c := by show (match srcN 0 q b with | some b => i.void b | none => false) = _; rw [e3]
          exact ⟨e1.1.trans (e2.1.trans e4), e1.2.trans (e2.2.trans e5)⟩
        let i2 : Inj := { blk := fun c => if c < s.next then i c else i' (q.length + (c - s.next)), imm := i'.imm, void := fun c => if c < s.next then i.void c else i'.void (q.length + (c - s.next)), old := i.old }
        have hback : ∀ k c, backN q s.next k = some c → i2 c = i' k ∧ i2.void c = i'.void k := by
          intro k c hk
          unfold backN at hk
          split at hk
          · have hcl := ltAll_get hlt k c hk
            obtain ⟨e1, e2⟩ := hin k c hk
            refine ⟨?_, ?_⟩
            · show (if c < s.next then i c else _) = _; rw [if_pos hcl, e1]
            · show (if c < s.next then i.void c else _) = _; rw [if_pos hcl, e2]
          · cases hk
            have e0 : q.length + (s.next + (k - q.length) - s.next) = k := by omega
            refine ⟨?_, ?_⟩
            · show (if s.next + (k - q.length) < s.next then _ else i' (q.length + (s.next + (k - q.length) - s.next))) = _; rw [if_neg (by omega), e0]
            · show (if s.next + (k - q.length) < s.next then _ else i'.void (q.length + (s.next + (k - q.length) - s.next))) = _; rw [if_neg (by omega), e0]
        have hR : RenOk (backN q s.next) i' i2 := ⟨fun b c hb => (hback b c hb).1, fun b c hb => (hback b c hb).2, rfl⟩
        have hlo : ∀ c, c < s.next → i2 c = i c ∧ i2.void c = i.void c := fun c hc => ⟨by show (if c < s.next then i c else _) = _; rw [if_pos hc], by show (if c < s.next then i.void c else _) = _; rw [if_pos hc]⟩
        have himm : ∀ B k v, i.imm B k = some v → i2.imm B k = some v := fun B k v hv => st.imm B k v (by rw [j4]; exact hv)
        have hold : i2.old = i.old := rfl
        have hle : i.le i2 := ⟨fun b g hb => by
            have : b < s.next := by
              rcases Nat.lt_or_ge b s.next with h | h
              · exact h
              · rw [(hs.fresh b h).1] at hb; cases hb
            rw [(hlo b this).1]; exact hb, himm, fun b hb => by
            have : b < s.next := by
              rcases Nat.lt_or_ge b s.next with h | h
              · exact h
              · rw [(hs.fresh b h).2] at hb; cases hb
            rw [(hlo b this).2]; exact hb, rfl⟩
        -- a block that the function does not know
        have hfar : ∀ c o g, (∀ k, k < n.next → backN q s.next k ≠ some c) → s.heap.get c = some o → i c = some g → live o = true → ¬ Touch 0 j m.fin.fst.heap.get g.B := by
          intro c o g hn ho hg hlv ht
          obtain ⟨b, o1, g1, _, t2, t3, t4, t5⟩ := j5 g.B ht
          obtain ⟨x, p, x1, x2, rfl⟩ := r5 b o1 t2
          have hx : q[b]? = some x := by simpa [srcN] using x1
          have hbl : b < q.length := (List.getElem?_eq_some_iff.1 hx).1
          have hg1 : i x = some g1 := by
            have e4 : renInj 0 q i b = i x := by show (match srcN 0 q b with | some b => i b | none => none) = _; rw [x1]
            rw [← e4]; exact t4
          have hne : x ≠ c := fun e => hn b (by omega) (by unfold backN; rw [if_pos hbl, hx, e])
          exact hs.rel.sep x c p o g1 g hne x2 ho hg1 hg (wr_renO t3) hlv t5
        have hjt : ∀ B, Touch 0 j m.fin.fst.heap.get B → Touch 0 i s.heap.get B := fun B hB => r4 B (j5 B hB)
        have hH : ∀ c o g, (putBack q s.next n.fst.heap n.next s.heap).get c = some o → i2 c = some g →
            (∃ k p, k < n.next ∧ backN q s.next k = some c ∧ n.fst.heap.get k = some p ∧ o = renO (backN q s.next) p ∧ i' k = some g) ∨ o = .dead ∨
            ((∀ k, k < n.next → backN q s.next k ≠ some c) ∧ s.heap.get c = some o ∧ i c = some g) := by
          intro c o g ho hg
          by_cases hx : ∃ k, k < n.next ∧ backN q s.next k = some c
          · obtain ⟨k, hk, hkc⟩ := hx
            rw [putBack_in hfresh hlt hk hkc] at ho
            cases ho
            unfold backObj
            cases hp : n.fst.heap.get k with
            | none => exact .inr (.inl rfl)
            | some p => exact .inl ⟨k, p, hk, hkc, hp, rfl, by rw [← (hback k c hkc).1]; exact hg⟩
          · have hx2 : ∀ k, k < n.next → backN q s.next k ≠ some c := fun k hk he => hx ⟨k, hk, he⟩
            rw [putBack_out hx2] at ho
            refine .inr (.inr ⟨hx2, ho, ?_⟩)
            rcases Nat.lt_or_ge c s.next with h | h
            · rw [← (hlo c h).1]; exact hg
            · have hg2 : i' (q.length + (c - s.next)) = some g := by
                have : i2 c = i' (q.length + (c - s.next)) := by show (if c < s.next then i c else _) = _; rw [if_neg (by omega)]
                rw [← this]; exact hg
              rcases Nat.lt_or_ge (q.length + (c - s.next)) n.next with h5 | h5
              · exact absurd (by unfold backN; rw [if_neg (by omega)]; congr 1; omega) (hx2 _ h5)
              · rw [(st.srel.fresh _ h5).1] at hg2; cases hg2
        have hdead : ∀ {o : CObj}, live o = false → o = .dead := fun {o} h => by cases o <;> simp_all [live]
        have hcross : ∀ {c k : Nat} {o p : CObj} {g g' : Img}, (∀ k, k < n.next → backN q s.next k ≠ some c) → s.heap.get c = some o → i c = some g → live o = true → n.fst.heap.get k = some p → i' k = some g' → wr p = true → g.B ≠ g'.B := by
          intro c k o p g g' h5 h6 h7 h8 h9 h10 h11 he
          refine hfar c o g h5 h6 h7 h8 (st.touch g.B (hs.rel.bnd c g h7) ⟨k, p, g', Nat.zero_le _, h9, h11, h10, he.symm⟩)
        refine ⟨i2, v', rfl, ?_, ⟨⟨⟨?_, ?_, ?_, ?_, ?_, ?_, ?_⟩, ?_⟩, ⟨hle, ?_, st.size, st.os, st.tape, st.output, ?_, ?_, ?_⟩, hlo, ?_⟩⟩
        · rw [hv0] at hv; exact hv.head.ren hR
        · intro c o g ho hg
          rcases hH c o g ho hg with ⟨k, p, h5, h6, h7, rfl, h9⟩ | rfl | ⟨h5, h6, h7⟩
          · exact (st.srel.rel.obj k p g h7 h9).ren hR
          · trivial
          · cases hlv : live o with
            | false => rw [hdead hlv]; trivial
            | true => exact (hs.rel.obj c o g h6 h7).mono hle (st.frame g.B (hs.rel.bnd c g h7) (hfar c o g h5 h6 h7 hlv))
        · intro c c' o o' g g' hne ho ho' hg hg' hw hl
          rcases hH c o g ho hg with ⟨k, p, h5, h6, h7, rfl, h9⟩ | rfl | ⟨h5, h6, h7⟩
          · rcases hH c' o' g' ho' hg' with ⟨k', p', h5', h6', h7', rfl, h9'⟩ | rfl | ⟨h5', h6', h7'⟩
            · exact st.srel.rel.sep k k' p p' g g' (fun e => hne (by subst e; rw [h6] at h6'; cases h6'; rfl)) h7 h7' h9 h9' (wr_renO hw) (live_renO hl)
            · simp [live] at hl
            · exact Ne.symm (hcross h5' h6' h7' hl h7 h9 (wr_renO hw))
          · simp [wr] at hw
          · rcases hH c' o' g' ho' hg' with ⟨k', p', h5', h6', h7', rfl, h9'⟩ | rfl | ⟨h5', h6', h7'⟩
            · exact hcross h5 h6 h7 (live_of_wr hw) h7' h9' (wrUpto_get hwr k' p' h5' h7')
            · simp [live] at hl
            · exact hs.rel.sep c c' o o' g g' hne h6 h6' h7 h7' hw hl
        · intro c g hg
          rcases Nat.lt_or_ge c s.next with h | h
          · rw [(hlo c h).1] at hg; exact Nat.lt_of_lt_of_le (hs.rel.bnd c g hg) st.size
          · have : i2 c = i' (q.length + (c - s.next)) := by show (if c < s.next then i c else _) = _; rw [if_neg (by omega)]
            rw [this] at hg; exact st.srel.rel.bnd _ g hg
        · exact Nat.le_trans hs.rel.hN st.size
        · intro B k v hv
          obtain ⟨h5, h6, h7⟩ := st.srel.rel.imm B k v hv
          refine ⟨h5, h6, h7.imp id fun h => ?_⟩
          rw [st.old, j6] at h; exact h
        · intro c o g ho hg hw k
          rcases hH c o g ho hg with ⟨k', p, h5, h6, h7, rfl, h9⟩ | rfl | ⟨h5, h6, h7⟩
          · exact st.srel.rel.ims k' p g h7 h9 (wr_renO hw) k
          · simp [wr] at hw
          · show i'.imm g.B k = none
            cases hx : i'.imm g.B k with
            | none => rfl
            | some v =>
              rcases st.immn g.B k v (hs.rel.bnd c g h7) hx with h8 | h8
              · rw [j4] at h8
                have h9 : i.imm g.B k = some v := h8
                rw [hs.rel.ims c o g h6 h7 hw k] at h9; cases h9
              · exact (hfar c o g h5 h6 h7 (live_of_wr hw) h8).elim
        · intro c hc
          have hx : ∀ k, k < n.next → backN q s.next k = some c → i' k = none ∧ ∀ r l, n.fst.heap.get k = some (.rows r l) → l = [] := by
            intro k hk hkc
            have := (hback k c hkc).2
            rw [hc] at this
            exact st.srel.rel.void k this.symm
          have hz : i2 c = none := by
            rcases Nat.lt_or_ge c s.next with h | h
            · rw [(hlo c h).1]; rw [(hlo c h).2] at hc; exact (hs.rel.void c hc).1
            · have e1 : i2 c = i' (q.length + (c - s.next)) := by show (if c < s.next then i c else _) = _; rw [if_neg (by omega)]
              have e2 : i2.void c = i'.void (q.length + (c - s.next)) := by show (if c < s.next then i.void c else _) = _; rw [if_neg (by omega)]
              rw [e2] at hc; rw [e1]; exact (st.srel.rel.void _ hc).1
          refine ⟨hz, fun r l hl => ?_⟩
          by_cases hx2 : ∃ k, k < n.next ∧ backN q s.next k = some c
          · obtain ⟨k, hk, hkc⟩ := hx2
            rw [putBack_in hfresh hlt hk hkc] at hl
            unfold backObj at hl
            cases hp : n.fst.heap.get k with
            | none => rw [hp] at hl; cases hl
            | some p =>
              rw [hp] at hl
              simp only [Option.some.injEq] at hl
              cases p <;> simp only [renO] at hl <;> first | (cases hl; done) | skip
              · cases hl; exact (hx k hk hkc).2 _ _ hp
              · split at hl <;> cases hl
          · have hx3 : ∀ k, k < n.next → backN q s.next k ≠ some c := fun k hk he => hx2 ⟨k, hk, he⟩
            rw [putBack_out hx3] at hl
            rcases Nat.lt_or_ge c s.next with h | h
            · rw [(hlo c h).2] at hc; exact (hs.rel.void c hc).2 _ _ hl
            · have e2 : i2.void c = i'.void (q.length + (c - s.next)) := by show (if c < s.next then i.void c else _) = _; rw [if_neg (by omega)]
              rw [e2] at hc
              rcases Nat.lt_or_ge (q.length + (c - s.next)) n.next with h5 | h5
              · exact absurd (by unfold backN; rw [if_neg (by omega)]; congr 1; omega) (hx3 _ h5)
              · rw [(st.srel.fresh _ h5).2] at hc; cases hc
        · intro b hb
          simp only [] at hb
          have e1 : i2 b = i' (q.length + (b - s.next)) := by show (if b < s.next then i b else _) = _; rw [if_neg (by omega)]
          have e2 : i2.void b = i'.void (q.length + (b - s.next)) := by show (if b < s.next then i.void b else _) = _; rw [if_neg (by omega)]
          have := st.srel.fresh (q.length + (b - s.next)) (by show n.next ≤ _; omega)
          exact ⟨by rw [e1]; exact this.1, by rw [e2]; exact this.2⟩
        · intro b o hb; omega
        · intro B hB ht
          exact st.frame B hB fun h => ht (hjt B h)
        · rintro B hB ⟨b, o, g, t1, t2, t3, t4, t5⟩
          rcases hH b o g t2 t4 with ⟨k, p, h5, h6, h7, rfl, h9⟩ | rfl | ⟨h5, h6, h7⟩
          · exact hjt B (st.touch B hB ⟨k, p, g, Nat.zero_le _, h7, wr_renO t3, h9, t5⟩)
          · simp [wr] at t3
          · exact ⟨b, o, g, t1, h6, t3, h7, t5⟩
        · intro B k v hB hv
          rcases st.immn B k v hB hv with h5 | h5
          · rw [j4] at h5; exact .inl h5
          · exact .inr (hjt B h5)
        · show s.next ≤ s.next + _; omega
      · exact (ev_fail h2).elim
    · exact (ev_fail e).elim
  · simp [hro, T.ev] at e

end Go.Proofs.YtecidokjhplbgaaGreatDoorD

set_option linter.unusedVariables false
set_option linter.unusedSimpArgs false
namespace Go.Proofs.YtecidokjhplbgaaGreatDoorD
open Go Go.RowKit

variable {P : Program} {N : Nat}

theorem findExt_append (f : Nat) : ∀ (E E' : List (Nat × ExtFn)), findExt (E ++ E') f = match findExt E f with | some x => some x | none => findExt E' f
  | [], _ => rfl
  | (g, x) :: r, E' => by
    simp only [List.cons_append, findExt]
    cases Nat.beq g f with
    | true => rfl
    | false => exact findExt_append f r E'
theorem exts_append {E E' : List (Nat × ExtFn)} (h : ExtsOk P N E) (h' : ExtsOk P N E') : ExtsOk P N (E ++ E') := by
  intro f x hx
  rw [findExt_append] at hx
  split at hx
  · rename_i y hy; cases hx; exact h f x hy
  · exact h' f x hx
theorem PureAt.nil2 {f : FuncId} {r : RC} {d : CV} (h1 : PureAt P f [.slice none 0 0] d) (h2 : PureAt P f [.nnil] d) : PureAt P f [.pl r []] d := by
  intro im w args' him hl
  obtain ⟨y, ys, e, h3, h4⟩ := hl.cons_inv
  cases h4.nil_inv
  rcases h3.plNil_inv with ⟨a, c, rfl⟩ | rfl
  · exact h2 im w args' him (by rw [e]; exact .cons .nnil (.nil _))
  · exact h1 im w args' him (by rw [e]; exact .cons .nilSlice (.nil _))
theorem StAt.nil2 {f : FuncId} {r : RC} {n : NSt} (h1 : StAt P f ⟨[.slice none 0 0], [], [], 0⟩ n) (h2 : StAt P f ⟨[.nnil], [], [], 0⟩ n) : StAt P f ⟨[.pl r []], [], [], 0⟩ n := by
  intro N i w args' hs hl
  obtain ⟨y, ys, e, h3, h4⟩ := LRel.cons_inv (show LRel i [.pl r []] args'.toList from hl)
  cases h4.nil_inv
  rcases h3.plNil_inv with ⟨a, c, rfl⟩ | rfl
  · exact h2 N i w args' hs (by rw [e]; exact .cons .nnil (.nil _))
  · exact h1 N i w args' hs (by rw [e]; exact .cons .nilSlice (.nil _))

def stAt (sk : NSt) (ls : List Leaf) : T NSt :=
  match fillN sk ls with
  | some n => .ret n
  | none => .fail

theorem st_cut (hP : plainNames P = true) (hM : P.follows .mixedOrders = true) {E : List (Nat × ExtFn)} (hE : ∀ N, ExtsOk P N E) {L : List (Nat × List Nat × LoopFn)} (hL : ∀ N, LoopsOk P N L) {V : List (Nat × RC)} {k f : Nat} {n0 n : NSt} {q : Cut}
    (e : ((stRunV P E L V k f n0).cut q).ev = some n) : n0.next ≤ n.next ∧ StAt P f n0 n := st_of hP hM hE hL (cut_ev q _ e)

mutual
theorem expV_data {h : HF} : ∀ (v : CV), dataV v = true → expV h v = v := by
  intro v hv
  unfold expV
  split <;> first
    | rfl
    | (simp [dataV] at hv; done)
    | (rename_i cs; rw [expA_data cs (by simpa [dataV] using hv)])
    | (rename_i t v; rw [expV_data v (by simpa [dataV] using hv)])
theorem expA_data {h : HF} : ∀ (v : Array CV), dataA v = true → expA h v = v
  | ⟨l⟩, hl => by rw [expA, expL_data l (by simpa [dataA] using hl)]
theorem expL_data {h : HF} : ∀ (l : List CV), dataL l = true → expL h l = l
  | [], _ => rfl
  | v :: r, hl => by
    simp only [dataL, Bool.and_eq_true] at hl
    rw [expL, expV_data v hl.1, expL_data r hl.2]
end

def pureOfSt (G : NSt → T NSt) : List CV → T CV := fun args =>
  bif dataL args then (G ⟨args, [], [], 0⟩).bind fun n => match n.fact.tmps with
    | [v] => match frzR n.fst.heap.get v with
      | some (d, _) => bif dataV d then .ret d else .fail
      | none => .fail
    | _ => .fail
  else .fail

theorem pure_of_st {f : FuncId} {G : NSt → T NSt} (h : StFn P f G) : PureFn P f (pureOfSt G) := by
  refine ⟨h.1, fun args d hd im w args' him hl => ?_⟩
  unfold pureOfSt at hd
  obtain ⟨hda, h1⟩ := ev_bif hd
  obtain ⟨n, h2, h3⟩ := ev_bind _ h1
  split at h3
  · rename_i v hv
    split at h3
    · rename_i d' ef hf
      obtain ⟨hdd, h3⟩ := ev_bif h3
      cases ev_ret h3
      have hs0 : SRel P w.heap.size (immOf im) (⟨args, [], [], 0⟩ : NSt).fst w := srel_imm him
      have hl0 : LRel (immOf im) (⟨args, [], [], 0⟩ : NSt).fact.tmps args'.toList := by
        show LRel (immOf im) (expL _ args) args'.toList
        rw [expL_data args hda]; exact hl
      have h4 := (h.2 _ _ h2).2 w.heap.size (immOf im) w args' hs0 hl0
      refine callsIn_wide.1 (CallsIn.mono (F := Fence.wide) h4 ?_)
      rintro e w' ⟨i', v', rfl, hvr, st⟩
      rw [hv] at hvr
      obtain ⟨j, F, hvj⟩ := frzR_sound st.srel.rel hvr.head hf
      refine ⟨j.imm, v', rfl, fun B k v hv => ⟨(F.rel.imm B k v hv).1, (F.rel.imm B k v hv).2.1⟩, fun B k v hv => F.step.ext.imm _ _ _ (st.imm _ _ _ hv), fun B k v hB hv => ?_, VRel.data (i := j) (j := immOf j.imm) (fun _ _ _ h => h) hvj ?_,
        ⟨st.os, st.tape, st.output, st.size, fun k hk => st.frame k hk (fun ⟨b, o, g, _, hb, _⟩ => by simp [NSt.fst, ofHL, mapHL, Tr.get] at hb)⟩⟩
      · rcases (F.rel.imm B k v hv).2.2 with h5 | h5
        · omega
        · rw [F.step.ext.old, st.old] at h5; exact h5
      · exact hdd
    · exact (ev_fail h3).elim
  · exact (ev_fail h3).elim

end Go.Proofs.YtecidokjhplbgaaGreatDoorD
