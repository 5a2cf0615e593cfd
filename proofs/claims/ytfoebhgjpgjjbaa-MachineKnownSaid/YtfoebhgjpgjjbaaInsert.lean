/-
  slices.Insert at whole numbers, told apart: the kit's contracts beside the reference run.
-/
import Derived.Test.YtfoebhgjpgjjbaaSound4
import Derived.Shelf.Spec.SlicesInsert
import Derived.Shelf.Spec.SlicesInsertGrow
set_option linter.unusedVariables false
set_option linter.unusedSimpArgs false
namespace Go.Proofs.YtfoebhgjpgjjbaaD
open Go Go.RowKit Go.Shelf

variable {P : Program} {N : Nat} {i : Inj} {h : HF} {w : World}

theorem Rel.fresh (R : Rel N i h w) (ro : Nat) {id : Nat} (hid : h id = none) (hi : i id = none) (ob : CObj) {w' : World} (g : Img) (hsz : w'.heap.size = w.heap.size + 1) (h1 : w'.os = w.os) (h2 : w'.tape = w.tape) (h3 : w'.output = w.output)
    (hold : ∀ B, B < w.heap.size → w'.heap[B]? = w.heap[B]?) (hB : g.B = w.heap.size) (hO : ORel N (upd i id g) w' g ob) :
    Rel N (upd i id g) (fset h id ob) w' ∧ Step ro i h w (upd i id g) (fset h id ob) w' := by
  have hle := le_upd g hi
  have hget : ∀ b, b ≠ id → fset h id ob b = h b := fun b hb => fset_ne h ob hb
  refine ⟨⟨?_, ?_, ?_, ?_⟩, ⟨hle, ?_, by omega, h1, h2, h3, ?_, ?_⟩⟩
  · intro b o gg hb hg
    by_cases e : b = id
    · subst e
      rw [fset_eq] at hb; cases hb
      rw [upd_same] at hg; cases hg
      exact hO
    · rw [hget b e] at hb; rw [upd_ne i g e] at hg
      exact (R.obj b o gg hb hg).mono hle (hold _ (R.bnd b gg hg))
  · intro b b' o o' g1 g2 hne hb hb' h1 h2 hw hl
    by_cases e : b = id
    · subst e
      have e' : b' ≠ b := fun e => hne e.symm
      rw [upd_same] at h1; cases h1
      rw [upd_ne i g e'] at h2
      have := R.bnd b' g2 h2; omega
    · rw [upd_ne i g e] at h1; rw [hget b e] at hb
      by_cases e' : b' = id
      · subst e'
        rw [upd_same] at h2; cases h2
        have := R.bnd b g1 h1; omega
      · rw [upd_ne i g e'] at h2; rw [hget b' e'] at hb'
        exact R.sep b b' o o' g1 g2 hne hb hb' h1 h2 hw hl
  · intro b gg hg
    rw [hsz]
    by_cases e : b = id
    · subst e; rw [upd_same] at hg; cases hg; omega
    · rw [upd_ne i g e] at hg; have := R.bnd b gg hg; omega
  · rw [hsz]; have := R.hN; omega
  · intro b o hb ho
    by_cases e : b = id
    · subst e; rw [hid] at ho; cases ho
    · rw [hget b e]; exact ho
  · intro B hB _; exact hold B hB
  · rintro B hlt ⟨b, o, gg, h1, h2, h3, h4, h5⟩
    by_cases e : b = id
    · subst e; rw [upd_same] at h4; cases h4; omega
    · rw [upd_ne i g e] at h4; rw [hget b e] at h2; exact ⟨b, o, gg, h1, h2, h3, h4, h5⟩

/-- A grown row in a new block. -/
theorem ins_new (R : Rel N i h w) (ro : Nat) {id : Nat} (hid : h id = none) (hi : i id = none) {xs ys : List Value} (hl : LRel i xs ys) {w' : World} {cap : Nat} (hcap : xs.length ≤ cap) (hmax : cap ≤ 9223372036854775807)
    (hsz : w'.heap.size = w.heap.size + 1) (h1 : w'.os = w.os) (h2 : w'.tape = w.tape) (h3 : w'.output = w.output) (hold : ∀ B, B < w.heap.size → w'.heap[B]? = w.heap[B]?)
    (hcells : ∀ k v, ys[k]? = some v → w'.cell? ⟨w.heap.size, k, none⟩ = some v) (hsome : ∀ k, k < cap → (w'.cell? ⟨w.heap.size, k, none⟩).isSome = true) (hfz : ∀ k, w'.frozen? ⟨w.heap.size, k, none⟩ = false) :
    ∃ i', Rel N i' (fset h id (.cells xs 1 1)) w' ∧ Step ro i h w i' (fset h id (.cells xs 1 1)) w' ∧ (∀ b, b ≠ id → i' b = i b) ∧
      VRel i' (.slice (some ⟨id, 0, none⟩) xs.length xs.length) (.slice (some ⟨w.heap.size, 0, none⟩) xs.length cap) := by
  obtain ⟨R', S'⟩ := R.fresh ro hid hi (.cells xs 1 1) ⟨w.heap.size, 0, cap, true, xs.length, 1⟩ hsz h1 h2 h3 hold rfl
    ⟨rfl, rfl, rfl, ⟨ys, hl.mono (le_upd _ hi), fun k v hv => by rw [Nat.zero_add]; exact hcells k v hv⟩, fun _ => ⟨R.hN, hcap, fun k hk => by rw [Nat.zero_add]; exact hsome k hk, hfz⟩⟩
  refine ⟨_, R', S', fun b hb => upd_ne i _ hb, .slice (upd_same i id _) (.inr ⟨rfl, by simp, hcap, by simp, hmax⟩) (fun _ => rfl) (Nat.le_refl _)⟩

/-- A grown row in its place. -/
theorem ins_place (R : Rel N i h w) {ro b id o : Nat} {os : List Value} {g : Img} (hb : h b = some (.cells os 1 1)) (hg : i b = some g) (hro : ro ≤ b) (hid : h id = none) (hi : i id = none) {xs ys : List Value} (hl : LRel i xs ys) {w' : World} {cap : Nat}
    (hcap : xs.length ≤ cap) (hmax : cap ≤ 9223372036854775807) (htot : o + cap ≤ g.total)
    (hsz : w'.heap.size = w.heap.size) (h1 : w'.os = w.os) (h2 : w'.tape = w.tape) (h3 : w'.output = w.output) (hoth : ∀ B, B < w.heap.size → B ≠ g.B → w'.heap[B]? = w.heap[B]?)
    (hcells : ∀ k v, ys[k]? = some v → w'.cell? ⟨g.B, g.off + o + k, none⟩ = some v) (hsome : ∀ x, (w.cell? x).isSome = true → (w'.cell? x).isSome = true) (hfz : ∀ x, w'.frozen? x = w.frozen? x) :
    ∃ i', Rel N i' (fset (fset h b .dead) id (.cells xs 1 1)) w' ∧ Step ro i h w i' (fset (fset h b .dead) id (.cells xs 1 1)) w' ∧ (∀ b, b ≠ id → i' b = i b) ∧
      VRel i' (.slice (some ⟨id, 0, none⟩) xs.length xs.length) (.slice (some ⟨g.B, g.off + o, none⟩) xs.length cap) := by
  obtain ⟨g1, g2, g3, _, g6⟩ := R.obj b _ g hb hg
  obtain ⟨g7, g8, g9, g10⟩ := g6 (by decide)
  obtain ⟨R', S'⟩ := R.regrow (w' := w') (ro := ro) (b := b) (id := id) (g2 := ⟨g.B, g.off + o, g.total - o, true, xs.length, 1⟩) hb hg hro (by simp [wr, nbeq]) hid hi hsz h1 h2 h3 hoth rfl (ob := .cells xs 1 1)
    ⟨rfl, rfl, rfl, ⟨ys, hl.mono (le_upd _ hi), fun k v hv => hcells k v hv⟩, fun _ => ⟨g7, by show xs.length ≤ g.total - o; omega, fun k hk => by
      have hk' : k < g.total - o := hk
      have := hsome _ (g9 (o + k) (by omega))
      rwa [← Nat.add_assoc] at this, fun k => by rw [hfz]; exact g10 k⟩⟩
  refine ⟨_, R', S', fun b hb => upd_ne i _ hb, .slice (upd_same i id _) (.inr ⟨rfl, by simp, hcap, by simp only [Nat.zero_add, Nat.mul_one]; omega, hmax⟩) (fun _ => by simp) (Nat.le_refl _)⟩

theorem size_of_cell {x : Addr} (hx : (w.cell? x).isSome = true) (hs : x.spot = none) : ∃ t k, w.shape? x.block = some (t, k) ∧ k ≠ 0 := by
  obtain ⟨b, o, sp⟩ := x
  simp only [] at hs; subst hs
  unfold World.cell? at hx
  unfold World.shape?
  simp only [] at hx ⊢
  cases ho : w.heap[b]? with
  | none => rw [ho] at hx; simp at hx
  | some ob =>
    rw [ho] at hx
    cases ob with
    | cells c t fr =>
      refine ⟨t, c.size, rfl, fun hz => ?_⟩
      simp only [] at hx
      rw [Array.getElem?_eq_none (by omega)] at hx
      cases hx
    | _ => simp at hx

theorem set_back {s : CSt} {b : Nat} {o o2 : CObj} {id : Nat} : ((s.heap.set b o).set id o2).get = fset (fset s.heap.get b o) id o2 := by rw [get_fset, get_fset]

theorem calls_any {f : FuncId} {args : Array Value} {R : Ending → World → Prop} (hc : Calls P f args w R) : CallsIn (FW none) 0 P f args w R :=
  (callsIn_wide (n := 0)).2 hc

theorem after_of {ro : Nat} {s : CSt} {i' : Inj} {h' : Tr CObj} {w' : World} (hs : SRel N i s w) (R : Rel N i' h'.get w') (S : Step ro i s.heap.get w i' h'.get w') (hlow : ∀ b, b ≠ s.next → i' b = i b) :
    After N ro i s w i' { heap := h', next := s.next + 1 } w' :=
  ⟨⟨R, fun b hb => by simp only [] at hb; rw [hlow b (by omega)]; exact hs.fresh b (by omega)⟩, S, fun b hb => hlow b (by omega), Nat.le_succ _⟩

theorem cutAt_get {cs vs : List Value} {k : Nat} (hk : k ≤ cs.length) (j : Nat) :
    (cs.take k ++ vs ++ cs.drop k)[j]? = if j < k then cs[j]? else if j < k + vs.length then vs[j - k]? else cs[j - vs.length]? := by
  have hlen : (cs.take k).length = k := by simp; omega
  by_cases h1 : j < k
  · rw [if_pos h1, List.append_assoc, List.getElem?_append_left (by omega), List.getElem?_take, if_pos h1]
  · rw [if_neg h1]
    by_cases h2 : j < k + vs.length
    · rw [if_pos h2, List.append_assoc, List.getElem?_append_right (by omega), List.getElem?_append_left (by omega), hlen]
    · have h3 : (cs.take k ++ vs).length ≤ j := by rw [List.length_append, hlen]; omega
      rw [if_neg h2, List.getElem?_append_right h3, List.getElem?_drop]
      have e : k + (j - (cs.take k ++ vs).length) = j - vs.length := by
        rw [List.length_append, hlen]; omega
      rw [e]

theorem zsize (l : List Value) (n : Nat) : (l.toArray ++ Builtin.zeroCells (Value.int .i64 0).cells n).size = l.length + n := by
  have hz := zeroCells_size (Value.int .i64 0).cells n
  rw [Array.length_toList] at hz
  rw [Array.size_append, hz, List.size_toArray]
  show l.length + n * 1 = _
  rw [Nat.mul_one]

theorem ev_of {α : Type} {x : Option α} {a : α} (e : (T.of x).ev = some a) : x = some a := by
  cases x with
  | none => simp [T.of, T.ev] at e
  | some b => simpa [T.of, T.ev] using e

/-- slices.Insert. -/
theorem insert_sound {ρ : Ren} (L : Lays2.n21 P ρ) {ro : Nat} {args : List Value} {s s' : CSt} {v : Value} (e : insertRun ro args s = some (v, s')) {args' : Array Value} (hs : SRel N i s w) (ha : LRel i args args'.toList) :
    Calls P (ρ.f 21) args' w fun e w' => ∃ i' v', e = .returned v' ∧ VRel i' v v' ∧ After N ro i s w i' s' w' := by
  unfold insertRun at e
  split at e
  · rename_i base n c k vb vo m vc
    split at e
    · rename_i vs hvs
      by_cases hk0 : 0 ≤ k
      · simp only [hk0, decide_true, cond_true] at e
        obtain ⟨y1, r1, hr1, hy1, hr⟩ := ha.cons_inv
        obtain ⟨y2, r2, rfl, hy2, hr2⟩ := hr.cons_inv
        obtain ⟨y3, r3, rfl, hy3, hr3⟩ := hr2.cons_inv
        have := hr3.nil_inv; subst this
        have hargs : args' = #[y1, y2, y3] := Array.toList_inj.1 (by rw [hr1])
        subst hargs
        cases hy2
        obtain ⟨gv, av, vc', rfl, hgv, hcv, hav, hlv⟩ := hy3.slice_inv
        obtain ⟨j, rfl⟩ := Int.eq_ofNat_of_zero_le hk0
        simp only [Int.toNat_natCast] at e
        unfold cinsert at e
        rw [nble, nble, nble, nble] at e
        cases hcond : (decide (1 ≤ m) && decide (j ≤ n) && decide ((n + m) * 8 ≤ 140737488355328) && decide (c ≤ 4611686018427387904) && vs.all cellOk && notRead s.heap.get vb) with
        | false => rw [hcond] at e; cases e
        | true =>
          rw [hcond] at e
          simp only [cond_true] at e
          simp only [Bool.and_eq_true, decide_eq_true_eq] at hcond
          obtain ⟨⟨⟨⟨⟨q1, q2⟩, q3⟩, q4⟩, q5⟩, q6⟩ := hcond
          -- the values
          obtain ⟨vvs, vez, vmd, hvb, hvm⟩ : ∃ vvs vez vmd, s.heap.get vb = some (.cells vvs vez vmd) ∧ vmd ≠ 2 := by
            unfold notRead at q6
            split at q6
            · rename_i a b d hh; exact ⟨a, b, d, hh, by simpa [nbeq] using q6⟩
            · cases q6
          obtain ⟨_, hvle, hvseq⟩ := csrc_inv hvs hvb
          obtain ⟨ys, hly, hylen, hycells⟩ := hs.rel.cellsAt hvb hgv hvle
          rw [← hvseq] at hly
          rw [Nat.mul_one] at hylen
          have hxlen : vs.length = m := by rw [hly.len]; exact hylen
          have hvc0 : vc' ≠ 0 := by rcases hcv with rfl | ⟨_, _, h3, _⟩ <;> omega
          have := hav hvc0; subst this
          obtain ⟨_, _, _, _, hv6⟩ := hs.rel.obj vb _ gv hvb hgv
          obtain ⟨hv7, hv8, hv9, hv10⟩ := hv6 hvm
          have hok := hly.cellOk q5
          obtain ⟨tA, kA, hsa, _⟩ := size_of_cell (hv9 vo (by omega)) rfl
          split at e
          · -- onto nothing
            rename_i hnew
            rw [nbeq, nbeq] at e
            by_cases hnc : n = 0 ∧ c = 0
            · obtain ⟨rfl, rfl⟩ := hnc
              simp only [decide_true, Bool.and_self, cond_true] at e
              cases e
              obtain ⟨_, _, rfl⟩ := hy1.nilSlice_inv
              have hj : j = 0 := by omega
              subst hj
              refine (Any2.slices_Insert_int_end_grow L none 0 0 gv.B (gv.off + vo) m vc' [] ys w (by omega) (Nat.le_refl _) (by omega) q3 rfl hylen (fun _ => rfl) (fun a hh => by cases hh) hycells hok).mono ?_
              rintro ex w' ⟨rfl, rfl⟩
              have hg1 := grownCap_ge w (0 + m) 0 (ρ.t 3)
              have hg2 := grownCap_le_maxLen w (0 + m) 0 (ρ.t 3) (by unfold maxLen; omega)
              unfold maxLen at hg2
              obtain ⟨i', R', S', hlow, hv⟩ := ins_new (w' := w.drew.alloc (.cells (([] ++ ys).toArray ++ Builtin.zeroCells (Value.int .i64 0).cells (grownCap w (0 + m) 0 (ρ.t 3) - (0 + m))) (ρ.t 3))) hs.rel ro hnew (hs.fresh _ (Nat.le_refl _)) hly (cap := grownCap w (0 + m) 0 (ρ.t 3)) (by omega) (by omega) (World.size_alloc _ _) rfl rfl rfl
                (fun B hB => Below.heap_alloc w.drew _ B hB)
                (fun q u hq => by
                  have hc := World.cell?_alloc_new (w := w.drew) (([] ++ ys).toArray ++ Builtin.zeroCells (Value.int .i64 0).cells (grownCap w (0 + m) 0 (ρ.t 3) - (0 + m))) (ρ.t 3) q
                  have hlt : q < ys.length := (List.getElem?_eq_some_iff.1 hq).1
                  refine hc.trans ?_
                  rw [Array.getElem?_append_left (by simpa using hlt)]
                  simpa using hq)
                (fun q hq => by
                  have hc := World.cell?_alloc_new (w := w.drew) (([] ++ ys).toArray ++ Builtin.zeroCells (Value.int .i64 0).cells (grownCap w (0 + m) 0 (ρ.t 3) - (0 + m))) (ρ.t 3) q
                  have hsz : (([] ++ ys).toArray ++ Builtin.zeroCells (Value.int .i64 0).cells (grownCap w (0 + m) 0 (ρ.t 3) - (0 + m))).size = grownCap w (0 + m) 0 (ρ.t 3) := by
                    rw [zsize, List.nil_append, hylen]; omega
                  refine (congrArg Option.isSome hc).trans ?_
                  rw [Array.getElem?_eq_getElem (by rw [hsz]; exact hq)]; rfl)
                (fun q => World.frozen?_alloc_new (w := w.drew) _ _ q)
              refine ⟨i', _, rfl, ?_, after_of hs (by rw [get_fset]; exact R') (by rw [get_fset]; exact S') hlow⟩
              have hxl : vs.length = 0 + m := by omega
              rw [hxlen] at hv
              simpa using hv
            · have : (decide (n = 0) && decide (c = 0)) = false := by simpa using hnc
              rw [this] at e; cases e
          · rename_i b o hnew
            split at e
            · rename_i cs os ez md hcs hb
              cases hco : cs.all cellOk with
              | false => rw [hco] at e; cases e
              | true =>
              rw [hco] at e
              simp only [cond_true] at e
              rw [nbeq, nble, nbeq, nbeq, nbeq, nble] at e
              obtain ⟨g, a', cap', rfl, hg, hc, ha', hl⟩ := hy1.slice_inv
              obtain ⟨_, hole, hcseq⟩ := csrc_inv hcs hb
              obtain ⟨zs, hlz, hzlen, hzcells⟩ := hs.rel.cellsAt hb hg hole
              rw [← hcseq] at hlz
              rw [Nat.mul_one] at hzlen
              have hcslen : cs.length = n := by rw [hlz.len]; exact hzlen
              have hokc := hlz.cellOk hco
              have hLR : LRel i (cs.take j ++ vs ++ cs.drop j) (zs.take j ++ ys ++ zs.drop j) := ((hlz.take j).append hly).append (hlz.drop j)
              have hxl : (cs.take j ++ vs ++ cs.drop j).length = n + m := by simp; omega
              have hget := cutAt_get (cs := zs) (vs := ys) (k := j) (by omega)
              have hcc : c ≤ cap' := by rcases hc with rfl | ⟨_, _, h3, _⟩ <;> omega
              have hid := hs.fresh s.next (Nat.le_refl _)
              -- in a new array
              have hgrow : ∀ (h' : Tr CObj), Rel N i h'.get w → Step ro i s.heap.get w i h'.get w → h'.get s.next = none → cap' < n + m →
                  Calls P (ρ.f 21) #[.slice (some a') n cap', .int .i64 j, .slice (some ⟨gv.B, gv.off + vo, none⟩) m vc'] w fun e w' => ∃ i' v', e = .returned v' ∧
                    VRel i' (.slice (some ⟨s.next, 0, none⟩) (n + m) (n + m)) v' ∧ After N ro i s w i' { heap := h'.set s.next (.cells (cs.take j ++ vs ++ cs.drop j) 1 1), next := s.next + 1 } w' := by
                intro h' R' S' hnew' hroom
                have hg1 := grownCap_ge w (n + m) cap' (ρ.t 3)
                have hg2 := grownCap_le_maxLen w (n + m) cap' (ρ.t 3) (by unfold maxLen; omega)
                unfold maxLen at hg2
                have fin : ∀ w' : World, w'.heap.size = w.heap.size + 1 → w'.os = w.os → w'.tape = w.tape → w'.output = w.output → (∀ B, B < w.heap.size → w'.heap[B]? = w.heap[B]?) →
                    (∀ q u, (zs.take j ++ ys ++ zs.drop j)[q]? = some u → w'.cell? ⟨w.heap.size, q, none⟩ = some u) → (∀ q, q < grownCap w (n + m) cap' (ρ.t 3) → (w'.cell? ⟨w.heap.size, q, none⟩).isSome = true) → (∀ q, w'.frozen? ⟨w.heap.size, q, none⟩ = false) →
                    ∃ i' v', Ending.returned (Value.slice (some ⟨w.heap.size, 0, none⟩) (n + m) (grownCap w (n + m) cap' (ρ.t 3))) = .returned v' ∧ VRel i' (.slice (some ⟨s.next, 0, none⟩) (n + m) (n + m)) v' ∧
                      After N ro i s w i' { heap := h'.set s.next (.cells (cs.take j ++ vs ++ cs.drop j) 1 1), next := s.next + 1 } w' := by
                  intro w' z1 z2 z3 z4 z5 z6 z7 z8
                  obtain ⟨i', R2, S2, hlow, hv⟩ := ins_new R' ro hnew' hid hLR (cap := grownCap w (n + m) cap' (ρ.t 3)) (by omega) (by omega) z1 z2 z3 z4 z5 z6 z7 z8
                  rw [hxl] at hv
                  exact ⟨i', _, rfl, hv, after_of hs (by rw [get_fset]; exact R2) (by rw [get_fset]; exact S'.trans S2) hlow⟩
                by_cases hjn : j < n
                · have := ha' (by omega); subst this
                  refine (Any2.slices_Insert_int_grow L g.B (g.off + o) n cap' j gv.B (gv.off + vo) m vc' zs ys w hjn (by omega) (by omega) hroom q3 hzlen hylen hzcells hycells hokc hok).mono ?_
                  rintro ex w' ⟨rfl, rfl⟩
                  have hc1 := fun q => World.cell?_alloc_new (w := w) ((zs.take j).toArray ++ Builtin.zeroCells (Value.int .i64 0).cells (n + m - j) ++ Builtin.zeroCells (Value.int .i64 0).cells (grownCap w (n + m) cap' (ρ.t 3) - (n + m))) (ρ.t 3) q
                  have hf1 := fun q => World.frozen?_alloc_new (w := w) ((zs.take j).toArray ++ Builtin.zeroCells (Value.int .i64 0).cells (n + m - j) ++ Builtin.zeroCells (Value.int .i64 0).cells (grownCap w (n + m) cap' (ρ.t 3) - (n + m))) (ρ.t 3) q
                  have hsz : ((zs.take j).toArray ++ Builtin.zeroCells (Value.int .i64 0).cells (n + m - j) ++ Builtin.zeroCells (Value.int .i64 0).cells (grownCap w (n + m) cap' (ρ.t 3) - (n + m))).size = grownCap w (n + m) cap' (ρ.t 3) := by
                    rw [Array.size_append, zsize]
                    have := zsize [] (grownCap w (n + m) cap' (ρ.t 3) - (n + m))
                    simp only [Array.size_append, List.size_toArray, List.length_nil, Nat.zero_add] at this
                    rw [this, List.length_take]; omega
                  generalize harr : ((zs.take j).toArray ++ Builtin.zeroCells (Value.int .i64 0).cells (n + m - j) ++ Builtin.zeroCells (Value.int .i64 0).cells (grownCap w (n + m) cap' (ρ.t 3) - (n + m))) = arr at *
                  have hs1 : ∀ q, q < grownCap w (n + m) cap' (ρ.t 3) → ((w.alloc (.cells arr (ρ.t 3))).cell? ⟨w.heap.size, q, none⟩).isSome = true := fun q hq => by
                    rw [hc1, Array.getElem?_eq_getElem (by rw [hsz]; exact hq)]; rfl
                  have hin1 := World.cell?_setCells_in w.heap.size ys j (w.alloc (.cells arr (ρ.t 3))).drew (fun q hq => hs1 (j + q) (by omega))
                  have hs2 : ∀ q, q < grownCap w (n + m) cap' (ρ.t 3) → (((w.alloc (.cells arr (ρ.t 3))).drew.setCells w.heap.size j ys).drew.cell? ⟨w.heap.size, q, none⟩).isSome = true := fun q hq =>
                    World.isSome_setCells w.heap.size ys j (w.alloc (.cells arr (ρ.t 3))).drew _ (hs1 q hq)
                  have hdl : (zs.drop j).length = n - j := by rw [List.length_drop, hzlen]
                  have hin2 := World.cell?_setCells_in w.heap.size (zs.drop j) (j + m) ((w.alloc (.cells arr (ρ.t 3))).drew.setCells w.heap.size j ys).drew (fun q hq => hs2 (j + m + q) (by omega))
                  refine fin _ ?_ ?_ ?_ ?_ ?_ ?_ ?_ ?_
                  · rw [setCells_size]; show ((w.alloc (.cells arr (ρ.t 3))).drew.setCells w.heap.size j ys).heap.size = _; rw [setCells_size]; exact World.size_alloc _ _
                  · rw [setCells_os]; show ((w.alloc (.cells arr (ρ.t 3))).drew.setCells w.heap.size j ys).os = _; rw [setCells_os]; rfl
                  · rw [setCells_tape]; show ((w.alloc (.cells arr (ρ.t 3))).drew.setCells w.heap.size j ys).tape = _; rw [setCells_tape]; rfl
                  · rw [setCells_output]; show ((w.alloc (.cells arr (ρ.t 3))).drew.setCells w.heap.size j ys).output = _; rw [setCells_output]; rfl
                  · intro B hB
                    rw [setCells_other _ (by omega)]; show ((w.alloc (.cells arr (ρ.t 3))).drew.setCells w.heap.size j ys).heap[B]? = _
                    rw [setCells_other _ (by omega)]; exact Below.heap_alloc w _ B hB
                  · intro q u hq
                    rw [hget] at hq
                    by_cases hq1 : q < j
                    · rw [if_pos hq1] at hq
                      rw [World.cell?_setCells_out _ _ _ _ _ (fun _ _ => by simp only []; omega)]
                      show ((w.alloc (.cells arr (ρ.t 3))).drew.setCells w.heap.size j ys).cell? _ = _
                      rw [World.cell?_setCells_out _ _ _ _ _ (fun _ _ => by simp only []; omega)]
                      refine (hc1 q).trans ?_
                      rw [← harr, Array.getElem?_append_left (by rw [zsize, List.length_take]; omega), Array.getElem?_append_left (by simp; omega)]
                      simp only [List.getElem?_toArray]
                      rw [List.getElem?_take, if_pos hq1]; exact hq
                    · rw [if_neg hq1] at hq
                      by_cases hq2 : q < j + ys.length
                      · rw [if_pos hq2] at hq
                        rw [World.cell?_setCells_out _ _ _ _ _ (fun _ _ => by simp only []; omega)]
                        have := hin1 (q - j) (by omega)
                        rw [show j + (q - j) = q by omega] at this
                        refine Eq.trans this ?_
                        rw [← hq, List.getElem?_eq_getElem]
                      · rw [if_neg hq2] at hq
                        have hlt := (List.getElem?_eq_some_iff.1 hq).1
                        have := hin2 (q - (j + m)) (by omega)
                        rw [show j + m + (q - (j + m)) = q by omega] at this
                        rw [this, ← hq, ← List.getElem?_eq_getElem, List.getElem?_drop]
                        congr 1; omega
                  · intro q hq
                    exact World.isSome_setCells w.heap.size (zs.drop j) (j + m) _ _ (hs2 q hq)
                  · intro q
                    rw [World.frozen?_setCells]; show ((w.alloc (.cells arr (ρ.t 3))).drew.setCells w.heap.size j ys).frozen? _ = _
                    rw [World.frozen?_setCells]; exact hf1 q
                · have hj : j = n := by omega
                  subst hj
                  refine (Any2.slices_Insert_int_end_grow L (some a') j cap' gv.B (gv.off + vo) m vc' zs ys w (by omega) (by omega) hroom q3 hzlen hylen (fun hh => by cases hh) (fun a hh => by
                    cases hh
                    intro q u hq
                    have hlt := (List.getElem?_eq_some_iff.1 hq).1
                    have := ha' (by omega); subst this
                    rw [Addr.add_mk]
                    exact hzcells q u hq) hycells hok).mono ?_
                  rintro ex w' ⟨rfl, rfl⟩
                  have hc1 := fun q => World.cell?_alloc_new (w := w.drew) ((zs ++ ys).toArray ++ Builtin.zeroCells (Value.int .i64 0).cells (grownCap w (j + m) cap' (ρ.t 3) - (j + m))) (ρ.t 3) q
                  refine fin _ (World.size_alloc _ _) rfl rfl rfl (fun B hB => Below.heap_alloc w.drew _ B hB) (fun q u hq => ?_) (fun q hq => ?_) (fun q => World.frozen?_alloc_new (w := w.drew) _ _ q)
                  · rw [List.take_of_length_le (by omega), List.drop_of_length_le (by omega), List.append_nil] at hq
                    refine (hc1 q).trans ?_
                    have hlt := (List.getElem?_eq_some_iff.1 hq).1
                    rw [Array.getElem?_append_left (by simpa using hlt)]
                    simpa using hq
                  · refine (congrArg Option.isSome (hc1 q)).trans ?_
                    rw [Array.getElem?_eq_getElem (by rw [zsize, List.length_append, hylen, hzlen]; omega)]; rfl
              by_cases hmd : md = 1
              · subst hmd
                simp only [decide_true, cond_true] at e
                by_cases hk : ro ≤ b ∧ ez = 1 ∧ o + c = os.length ∧ vb ≠ b
                · obtain ⟨k1, rfl, k3, k4⟩ := hk
                  simp only [k1, k3, k4, decide_true, decide_false, Bool.not_false, Bool.and_self, cond_true] at e
                  cases e
                  have hnb : s.next ≠ b := fun hh => by rw [hh, hb] at hnew; cases hnew
                  by_cases hroom : n + m ≤ cap'
                  · -- in its place
                    have := ha' (by omega); subst this
                    obtain ⟨g1, g2, g3, _, g6⟩ := hs.rel.obj b _ g hb hg
                    obtain ⟨g7, g8, g9, g10⟩ := g6 (by decide)
                    have hmax : cap' ≤ 9223372036854775807 := by rcases hc with rfl | ⟨_, _, _, _, c5⟩ <;> omega
                    have htot : o + cap' ≤ g.total := by
                      rcases hc with rfl | ⟨_, _, _, c4, _⟩
                      · omega
                      · rw [g2, Nat.mul_one] at c4; exact c4
                    have hsep : gv.B ≠ g.B := fun hh => hs.rel.sep b vb _ _ g gv (fun e => k4 e.symm) hb hvb hg hgv (by simp [wr, nbeq]) (by rfl) hh.symm
                    have hsp : ∀ q, q < cap' → (w.cell? ⟨g.B, g.off + o + q, none⟩).isSome = true := fun q hq => by
                      have := g9 (o + q) (by omega); rwa [← Nat.add_assoc] at this
                    have fin : ∀ w' : World, w'.heap.size = w.heap.size → w'.os = w.os → w'.tape = w.tape → w'.output = w.output → (∀ B, B < w.heap.size → B ≠ g.B → w'.heap[B]? = w.heap[B]?) →
                        (∀ q u, (zs.take j ++ ys ++ zs.drop j)[q]? = some u → w'.cell? ⟨g.B, g.off + o + q, none⟩ = some u) → (∀ x, (w.cell? x).isSome = true → (w'.cell? x).isSome = true) → (∀ x, w'.frozen? x = w.frozen? x) →
                        ∃ i' v', Ending.returned (Value.slice (some ⟨g.B, g.off + o, none⟩) (n + m) cap') = .returned v' ∧ VRel i' (.slice (some ⟨s.next, 0, none⟩) (n + m) (n + m)) v' ∧
                          After N ro i s w i' { heap := (s.heap.set b .dead).set s.next (.cells (cs.take j ++ vs ++ cs.drop j) 1 1), next := s.next + 1 } w' := by
                      intro w' z1 z2 z3 z4 z5 z6 z7 z8
                      obtain ⟨i', R2, S2, hlow, hv⟩ := ins_place hs.rel hb hg k1 hnew hid hLR (cap := cap') (by omega) hmax htot z1 z2 z3 z4 z5 z6 z7 z8
                      rw [hxl] at hv
                      exact ⟨i', _, rfl, hv, after_of hs (by rw [set_back]; exact R2) (by rw [set_back]; exact S2) hlow⟩
                    by_cases hjn : j < n
                    · obtain ⟨tB, kB, hsb, hkB⟩ := size_of_cell (hsp 0 (by omega)) rfl
                      refine (Any2.slices_Insert_int_shift L g.B (g.off + o) n cap' j gv.B (gv.off + vo) m vc' zs ys w hjn (by omega) hroom hmax hsep hzlen hylen hzcells (fun q hq => hsp q (by omega)) (fun q _ => g10 _) hycells hokc hok
                        tA tB kA kB hsa hsb hkB (hv10 _) (hv10 _)).mono ?_
                      rintro ex w' ⟨rfl, rfl⟩
                      have hdl : (zs.drop j).length = n - j := by rw [List.length_drop, hzlen]
                      have hs2 : ∀ x, (w.cell? x).isSome = true → ((w.drew.setCells g.B (g.off + o + (j + m)) (zs.drop j)).cell? x).isSome = true := fun x hx => World.isSome_setCells _ _ _ _ x hx
                      have hin1 := World.cell?_setCells_in g.B (zs.drop j) (g.off + o + (j + m)) w.drew (fun q hq => by
                        have := hsp (j + m + q) (by omega); rw [← Nat.add_assoc] at this; exact this)
                      have hin2 := World.cell?_setCells_in g.B ys (g.off + o + j) (w.drew.setCells g.B (g.off + o + (j + m)) (zs.drop j)) (fun q hq => hs2 _ (by
                        have := hsp (j + q) (by omega); rwa [← Nat.add_assoc] at this))
                      refine fin _ ?_ ?_ ?_ ?_ ?_ ?_ ?_ ?_
                      · rw [setCells_size, setCells_size]; rfl
                      · rw [setCells_os, setCells_os]; rfl
                      · rw [setCells_tape, setCells_tape]; rfl
                      · rw [setCells_output, setCells_output]; rfl
                      · intro B hB hne; rw [setCells_other _ hne, setCells_other _ hne]; rfl
                      · intro q u hq
                        rw [hget] at hq
                        by_cases hq1 : q < j
                        · rw [if_pos hq1] at hq
                          rw [World.cell?_setCells_out _ _ _ _ _ (fun _ _ => by simp only []; omega), World.cell?_setCells_out _ _ _ _ _ (fun _ _ => by simp only []; omega)]
                          exact hzcells q u hq
                        · rw [if_neg hq1] at hq
                          by_cases hq2 : q < j + ys.length
                          · rw [if_pos hq2] at hq
                            have := hin2 (q - j) (by omega)
                            rw [show g.off + o + j + (q - j) = g.off + o + q by omega] at this
                            rw [this, ← hq, List.getElem?_eq_getElem]
                          · rw [if_neg hq2] at hq
                            have hlt := (List.getElem?_eq_some_iff.1 hq).1
                            rw [World.cell?_setCells_out _ _ _ _ _ (fun _ _ => by simp only []; omega)]
                            have := hin1 (q - (j + m)) (by omega)
                            rw [show g.off + o + (j + m) + (q - (j + m)) = g.off + o + q by omega] at this
                            rw [this, ← hq, ← List.getElem?_eq_getElem, List.getElem?_drop]
                            congr 1; omega
                      · intro x hx; exact World.isSome_setCells _ _ _ _ x (hs2 x hx)
                      · intro x; rw [World.frozen?_setCells, World.frozen?_setCells]; rfl
                    · have hj : j = n := by omega
                      subst hj
                      refine (Any2.slices_Insert_int_end_room L g.B (g.off + o) j cap' gv.B (gv.off + vo) m vc' ys w (by omega) hroom hmax hylen (fun q hq => by
                        have := hsp (j + q) (by omega); rwa [← Nat.add_assoc] at this) (fun q _ => g10 _) hycells hok).mono ?_
                      rintro ex w' ⟨rfl, rfl⟩
                      have hin2 := World.cell?_setCells_in g.B ys (g.off + o + j) w (fun q hq => by
                        have := hsp (j + q) (by omega); rwa [← Nat.add_assoc] at this)
                      refine fin _ (setCells_size _ _ _ _) (setCells_os _ _ _ _) (setCells_tape _ _ _ _) (setCells_output _ _ _ _) (fun B hB hne => setCells_other _ hne _ _ _) (fun q u hq => ?_) (fun x hx => World.isSome_setCells _ _ _ _ x hx) (fun x => World.frozen?_setCells _ _ _ _ _)
                      rw [hget] at hq
                      by_cases hq1 : q < j
                      · rw [if_pos hq1] at hq
                        rw [World.cell?_setCells_out _ _ _ _ _ (fun _ _ => by simp only []; omega)]
                        exact hzcells q u hq
                      · rw [if_neg hq1] at hq
                        by_cases hq2 : q < j + ys.length
                        · rw [if_pos hq2] at hq
                          have := hin2 (q - j) (by omega)
                          rw [show g.off + o + j + (q - j) = g.off + o + q by omega] at this
                          rw [this, ← hq, List.getElem?_eq_getElem]
                        · rw [if_neg hq2] at hq
                          have hlt := (List.getElem?_eq_some_iff.1 hq).1
                          omega
                  · obtain ⟨Rd, Sd⟩ := hs.rel.put (ro := ro) (o2 := .dead) (w' := w) hb hg k1 (by simp [wr, nbeq]) rfl rfl rfl rfl (fun _ _ _ => rfl) trivial
                    exact hgrow (s.heap.set b .dead) (by rw [get_fset]; exact Rd) (by rw [get_fset]; exact Sd) (by rw [Tr.get_set_ne _ _ hnb]; exact hnew) (by omega)
                · have : (decide (ro ≤ b) && decide (ez = 1) && decide (o + c = os.length) && !decide (vb = b)) = false := by
                    rw [Bool.eq_false_iff]; intro hh; simp only [Bool.and_eq_true, decide_eq_true_eq, Bool.not_eq_true', decide_eq_false_iff_not] at hh
                    exact hk ⟨hh.1.1.1, hh.1.1.2, hh.1.2, hh.2⟩
                  rw [this] at e; cases e
              · simp only [hmd, decide_false, cond_false] at e
                by_cases hroom : n + m ≤ c
                · simp [hroom] at e
                · simp only [hroom, decide_false, cond_false] at e
                  cases e
                  have hcap : cap' = c := by
                    rcases hc with hc | ⟨c1, _⟩
                    · exact hc
                    · obtain ⟨_, _, g3, _⟩ := hs.rel.obj b _ g hb hg
                      rw [g3, nbeq] at c1
                      simp only [decide_eq_true_eq] at c1
                      exact absurd c1 hmd
                  exact hgrow s.heap hs.rel (.refl _ _ _ _) hnew (by omega)
            · cases e
          · cases e
      · rw [decide_eq_false hk0] at e; cases e
    · cases e
  · cases e

end Go.Proofs.YtfoebhgjpgjjbaaD
