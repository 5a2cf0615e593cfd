/-
  slices.Insert at whole numbers: the kit's contracts beside the reference run.
-/
import Derived.Test.YtecidokjhplbgaaGreatDoorStA
import Derived.Shelf.Spec.SlicesInsert
import Derived.Shelf.Spec.SlicesInsertGrow
set_option linter.unusedVariables false
set_option linter.unusedSimpArgs false
namespace Go.Proofs.YtecidokjhplbgaaGreatDoorD
open Go Go.RowKit Go.Shelf

variable {P : Program} {N : Nat} {i : Inj} {h : HF} {w : World}

theorem Rel.fresh2 (R : Rel P N i h w) (ro : Nat) {id : Nat} (hid : h id = none) (hi : i.free id) (ob : CObj) {w' : World} (g : Img) (hsz : w'.heap.size = w.heap.size + 1) (h1 : w'.os = w.os) (h2 : w'.tape = w.tape) (h3 : w'.output = w.output)
    (hold : ∀ B, B < w.heap.size → w'.heap[B]? = w.heap[B]?) (hB : g.B = w.heap.size) (hO : ORel P N (upd i id g) w' g ob) :
    Rel P N (upd i id g) (fset h id ob) w' ∧ Step ro i h w (upd i id g) (fset h id ob) w' := by
  have hle := le_upd g hi.1
  have hget : ∀ b, b ≠ id → fset h id ob b = h b := fun b hb => fset_ne h ob hb
  refine ⟨⟨?_, ?_, ?_, ?_, ?_, ?_, ?_⟩, ⟨hle, ?_, by omega, h1, h2, h3, ?_, ?_, fun _ _ _ _ h => .inl h⟩⟩
  · intro b o gg hb hg
    by_cases e : b = id
    · subst e
      rw [fset_eq] at hb; cases hb
      rw [upd_same] at hg; cases hg
      exact hO
    · rw [hget b e] at hb; rw [upd_ne i g e] at hg
      exact (R.obj b o gg hb hg).mono hle (hold _ (R.bnd b gg hg))
  · intro b b' o o' g1 g2 hne hb hb' h1 h2 hw hl
    by_cases e : b = id
    · subst e
      have e' : b' ≠ b := fun e => hne e.symm
      rw [upd_same] at h1; cases h1
      rw [upd_ne i g e'] at h2
      have := R.bnd b' g2 h2; omega
    · rw [upd_ne i g e] at h1; rw [hget b e] at hb
      by_cases e' : b' = id
      · subst e'
        rw [upd_same] at h2; cases h2
        have := R.bnd b g1 h1; omega
      · rw [upd_ne i g e'] at h2; rw [hget b' e'] at hb'
        exact R.sep b b' o o' g1 g2 hne hb hb' h1 h2 hw hl
  · intro b gg hg
    rw [hsz]
    by_cases e : b = id
    · subst e; rw [upd_same] at hg; cases hg; omega
    · rw [upd_ne i g e] at hg; have := R.bnd b gg hg; omega
  · rw [hsz]; have := R.hN; omega
  · intro B k v hv
    obtain ⟨h1, h2, h3⟩ := R.imm B k v hv
    rw [World.cell?_of_block (w := w) (hold B h2), hsz]; exact ⟨h1, by omega, h3⟩
  · intro b o gg hb hg hw k
    by_cases e : b = id
    · subst e
      rw [upd_same] at hg; cases hg
      cases hx : (upd i b g).imm g.B k with
      | none => rfl
      | some v => have := (R.imm g.B k v hx).2.1; omega
    · rw [upd_ne i g e] at hg; rw [hget b e] at hb; exact R.ims b o gg hb hg hw k
  · intro b hb
    have hne : b ≠ id := fun e => by subst e; rw [upd_void, hi.2] at hb; cases hb
    rw [upd_ne i g hne, hget b hne]; exact R.void b hb
  · intro b o hb ho
    by_cases e : b = id
    · subst e; rw [hid] at ho; cases ho
    · rw [hget b e]; exact ho
  · intro B hB _; exact hold B hB
  · rintro B hlt ⟨b, o, gg, h1, h2, h3, h4, h5⟩
    by_cases e : b = id
    · subst e; rw [upd_same] at h4; cases h4; omega
    · rw [upd_ne i g e] at h4; rw [hget b e] at h2; exact ⟨b, o, gg, h1, h2, h3, h4, h5⟩

theorem all1_len (l : List Int) : (RC.ints.all l).length = l.length := by rw [RC.all_length]; exact Nat.mul_one _

theorem ins_new (R : Rel P N i h w) (ro : Nat) {id : Nat} (hid : h id = none) (hi : i.free id) {l : List Int} {ys : List Value} (hl : LRel i (RC.ints.all l) ys) {w' : World} {cap : Nat} (hcap : l.length ≤ cap) (hmax : cap ≤ 9223372036854775807)
    (hsz : w'.heap.size = w.heap.size + 1) (h1 : w'.os = w.os) (h2 : w'.tape = w.tape) (h3 : w'.output = w.output) (hold : ∀ B, B < w.heap.size → w'.heap[B]? = w.heap[B]?)
    (hcells : ∀ k v, ys[k]? = some v → w'.cell? ⟨w.heap.size, k, none⟩ = some v) (hsome : ∀ k, k < cap → (w'.cell? ⟨w.heap.size, k, none⟩).isSome = true) (hfz : ∀ k, w'.frozen? ⟨w.heap.size, k, none⟩ = false) :
    ∃ i', Rel P N i' (fset h id (.rows .ints l)) w' ∧ Step ro i h w i' (fset h id (.rows .ints l)) w' ∧ (∀ b, b ≠ id → i' b = i b ∧ i'.void b = i.void b) ∧
      VRel i' (.row id 1 l.length) (.slice (some ⟨w.heap.size, 0, none⟩) l.length cap) := by
  have hlen := all1_len l
  obtain ⟨R', S'⟩ := R.fresh2 ro hid hi (.rows .ints l) ⟨w.heap.size, 0, cap, true, (RC.ints.all l).length, 1⟩ hsz h1 h2 h3 hold rfl
    ⟨rfl, rfl, rfl, ⟨ys, hl.mono (le_upd _ hi.1), fun k v hv => by rw [Nat.zero_add]; exact hcells k v hv⟩, fun _ => ⟨R.hN, by show (RC.ints.all l).length ≤ cap; omega, fun k hk => by rw [Nat.zero_add]; exact hsome k hk, hfz⟩⟩
  refine ⟨_, R', S', fun b hb => ⟨upd_ne i _ hb, rfl⟩, .row (upd_same i id _) rfl (by show l.length * 1 = (RC.ints.all l).length; omega) (.inr ⟨rfl, by show 0 + l.length * 1 = (RC.ints.all l).length; omega, hcap, by show 0 + cap * 1 ≤ cap; omega, hmax⟩) (fun _ => rfl)⟩

theorem ins_place (R : Rel P N i h w) {ro b id : Nat} {os : List Int} {g : Img} (hb : h b = some (.rows .ints os)) (hg : i b = some g) (hro : ro ≤ b) (hid : h id = none) (hi : i.free id) {l : List Int} {ys : List Value} (hl : LRel i (RC.ints.all l) ys) {w' : World} {cap : Nat}
    (hcap : l.length ≤ cap) (hmax : cap ≤ 9223372036854775807) (htot : cap ≤ g.total)
    (hsz : w'.heap.size = w.heap.size) (h1 : w'.os = w.os) (h2 : w'.tape = w.tape) (h3 : w'.output = w.output) (hoth : ∀ B, B < w.heap.size → B ≠ g.B → w'.heap[B]? = w.heap[B]?)
    (hcells : ∀ k v, ys[k]? = some v → w'.cell? ⟨g.B, g.off + k, none⟩ = some v) (hsome : ∀ x, (w.cell? x).isSome = true → (w'.cell? x).isSome = true) (hfz : ∀ x, w'.frozen? x = w.frozen? x) :
    ∃ i', Rel P N i' (fset (fset h b .dead) id (.rows .ints l)) w' ∧ Step ro i h w i' (fset (fset h b .dead) id (.rows .ints l)) w' ∧ (∀ b, b ≠ id → i' b = i b ∧ i'.void b = i.void b) ∧
      VRel i' (.row id 1 l.length) (.slice (some ⟨g.B, g.off, none⟩) l.length cap) := by
  have hlen := all1_len l
  obtain ⟨g1, g2, g3, _, g6⟩ := R.obj b _ g hb hg
  obtain ⟨g7, g8, g9, g10⟩ := g6 (by decide)
  obtain ⟨R', S'⟩ := R.regrow (w' := w') (ro := ro) (b := b) (id := id) (g2 := ⟨g.B, g.off, g.total, true, (RC.ints.all l).length, 1⟩) hb hg hro rfl hid hi hsz h1 h2 h3 hoth rfl (ob := .rows .ints l)
    ⟨rfl, rfl, rfl, ⟨ys, hl.mono (le_upd _ hi.1), fun k v hv => hcells k v hv⟩, fun _ => ⟨g7, by show (RC.ints.all l).length ≤ g.total; omega, fun k hk => hsome _ (g9 k hk), fun k => by rw [hfz]; exact g10 k⟩⟩
  refine ⟨_, R', S', fun b hb => ⟨upd_ne i _ hb, rfl⟩, .row (upd_same i id _) rfl (by show l.length * 1 = (RC.ints.all l).length; omega) (.inr ⟨rfl, by show 0 + l.length * 1 = (RC.ints.all l).length; omega, hcap, by show 0 + cap * 1 ≤ g.total; omega, hmax⟩) (fun _ => rfl)⟩

theorem after_ins {ro : Nat} {s : CSt} {i' : Inj} {h' : Tr CObj} {w' : World} (hs : SRel P N i s w) (R : Rel P N i' h'.get w') (S : Step ro i s.heap.get w i' h'.get w') (hlow : ∀ b, b ≠ s.next → i' b = i b ∧ i'.void b = i.void b) :
    After P N ro i s w i' { heap := h', next := s.next + 1 } w' :=
  ⟨⟨R, fun b hb => by
    simp only [] at hb
    obtain ⟨h1, h2⟩ := hlow b (by omega)
    have h3 := hs.fresh b (by omega)
    exact ⟨h1.trans h3.1, h2.trans h3.2⟩⟩, S, fun b hb => hlow b (by omega), Nat.le_succ _⟩

theorem size_of_cell {x : Addr} (hx : (w.cell? x).isSome = true) (hs : x.spot = none) : ∃ t k, w.shape? x.block = some (t, k) ∧ k ≠ 0 := by
  obtain ⟨b, o, sp⟩ := x
  simp only [] at hs; subst hs
  unfold World.cell? at hx
  unfold World.shape?
  simp only [] at hx ⊢
  cases ho : w.heap[b]? with
  | none => rw [ho] at hx; simp at hx
  | some ob =>
    rw [ho] at hx
    cases ob with
    | cells c t fr =>
      refine ⟨t, c.size, rfl, fun hz => ?_⟩
      simp only [] at hx
      rw [Array.getElem?_eq_none (by omega)] at hx
      cases hx
    | _ => simp at hx

theorem cutAt_get {cs vs : List Value} {k : Nat} (hk : k ≤ cs.length) (j : Nat) :
    (cs.take k ++ vs ++ cs.drop k)[j]? = if j < k then cs[j]? else if j < k + vs.length then vs[j - k]? else cs[j - vs.length]? := by
  have hlen : (cs.take k).length = k := by simp; omega
  by_cases h1 : j < k
  · rw [if_pos h1, List.append_assoc, List.getElem?_append_left (by omega), List.getElem?_take, if_pos h1]
  · rw [if_neg h1]
    by_cases h2 : j < k + vs.length
    · rw [if_pos h2, List.append_assoc, List.getElem?_append_right (by omega), List.getElem?_append_left (by omega), hlen]
    · have h3 : (cs.take k ++ vs).length ≤ j := by rw [List.length_append, hlen]; omega
      rw [if_neg h2, List.getElem?_append_right h3, List.getElem?_drop]
      have e : k + (j - (cs.take k ++ vs).length) = j - vs.length := by
        rw [List.length_append, hlen]; omega
      rw [e]

theorem zsize (l : List Value) (n : Nat) : (l.toArray ++ Builtin.zeroCells (Value.int .i64 0).cells n).size = l.length + n := by
  have hz := zeroCells_size (Value.int .i64 0).cells n
  rw [Array.length_toList] at hz
  rw [Array.size_append, hz, List.size_toArray]
  show l.length + n * 1 = _
  rw [Nat.mul_one]

def insertX : ExtFn := fun ro args s => match args with
  | [.row b 1 n, .int .i64 k, .slice (some ⟨vb, 0, none⟩) 1 1] => match s.heap.get b, s.heap.get vb, s.heap.get s.next with
    | some (.rows .ints l), some (.cells [.int .i64 x] 1 0), none =>
      bif Nat.ble ro b && !(Nat.beq vb b) then T.when (decide (0 ≤ k) && decide (k ≤ (n : Int)) && Nat.ble (n + 1) 1000000000)
        (.ret (.row s.next 1 (n + 1), { heap := (s.heap.set b .dead).set s.next (.rows .ints (l.take k.toNat ++ [x] ++ l.drop k.toNat)), next := s.next + 1 })) else .fail
    | _, _, _ => .fail
  | _ => .fail

set_option maxHeartbeats 2000000 in
theorem insertX_ok {ρ : Ren} (L : Lays2.n21 P ρ) (hf : ∃ fn c, P.funcs[ρ.f 21]? = some fn ∧ fn.body = some c) : ExtOk1 P N (ρ.f 21) insertX := by
  refine ⟨hf, fun ro args s v s' e i w args' hs ha => ?_⟩
  unfold insertX at e
  split at e
  · rename_i b n k vb
    split at e
    · rename_i l x hb hvb hnew
      obtain ⟨hc1, e⟩ := ev_bif e
      obtain ⟨hc2, e⟩ := ev_when e
      cases ev_ret e
      simp only [Bool.and_eq_true, nble, nbeq, decide_eq_true_eq, Bool.not_eq_true', decide_eq_false_iff_not] at hc1 hc2
      obtain ⟨hro, hvne⟩ := hc1
      obtain ⟨⟨hk0, hkn⟩, hsm⟩ := hc2
      obtain ⟨j, rfl⟩ := Int.eq_ofNat_of_zero_le hk0
      simp only [Int.toNat_natCast]
      have hjn : j ≤ n := by omega
      obtain ⟨y1, r1, hr1, hy1, hr⟩ := ha.cons_inv
      obtain ⟨y2, r2, rfl, hy2, hr2⟩ := hr.cons_inv
      obtain ⟨y3, r3, rfl, hy3, hr3⟩ := hr2.cons_inv
      have := hr3.nil_inv; subst this
      have hargs : args' = #[y1, y2, y3] := Array.toList_inj.1 (by rw [hr1])
      subst hargs
      cases hy2
      obtain ⟨gv, av, vc', rfl, hgv, hcv, hav, hlv⟩ := hy3.slice_inv
      obtain ⟨v1, v2, v3, ⟨ys, hly, hycells⟩, hv6⟩ := hs.rel.obj vb _ gv hvb hgv
      obtain ⟨hv7, hv8, hv9, hv10⟩ := hv6 (by decide)
      have hylen : ys.length = 1 := hly.len.symm
      have hvc0 : vc' ≠ 0 := by rcases hcv with rfl | ⟨_, _, h3, _⟩ <;> omega
      have := hav hvc0; subst this
      have hok := hly.cellOk rfl
      obtain ⟨tA, kA, hsa, _⟩ := size_of_cell (hv9 0 (by simp at hv8; omega)) rfl
      have hid := hs.fresh s.next (Nat.le_refl _)
      have hnb : s.next ≠ b := fun hh => by rw [hh, hb] at hnew; cases hnew
      have hsetb : ∀ l2, ((s.heap.set b .dead).set s.next (.rows .ints l2)).get = fset (fset s.heap.get b .dead) s.next (.rows .ints l2) := fun l2 => by rw [get_fset, get_fset]
      have hset1 : (s.heap.set b .dead).get = fset s.heap.get b .dead := get_fset _ _ _
      have hnew' : fset s.heap.get b .dead s.next = none := by rw [fset_ne _ _ hnb]; exact hnew
      have hall : ∀ l2 : List Int, RC.ints.all (l2.take j ++ [x] ++ l2.drop j) = (RC.ints.all l2).take j ++ [.int .i64 x] ++ (RC.ints.all l2).drop j := fun l2 => by
        rw [RC.all_append, RC.all_append, ← RC.all_take, ← RC.all_drop]
        simp [RC.z, RC.all, RC.cells]
      rcases hy1.row_inv with ⟨g, a', cap', rfl, hg, hgz, hgs, hcap, ha'⟩ | ⟨rfl, hvd, a, rfl⟩
      · obtain ⟨g1, g2, g3, ⟨zs, hlz, hzcells⟩, g6⟩ := hs.rel.obj b _ g hb hg
        have hn : n = l.length := by rw [← all1_len l, ← g1]; omega
        obtain ⟨g7, g8, g9, g10⟩ := g6 (by decide)
        have hzlen : zs.length = n := by rw [← hlz.len, all1_len]; omega
        have hokc := hlz.cellOk (RC.ints.all_ok l)
        have hLR : LRel i (RC.ints.all (l.take j ++ [x] ++ l.drop j)) (zs.take j ++ ys ++ zs.drop j) := by
          rw [hall]; exact ((hlz.take j).append hly).append (hlz.drop j)
        have hxl : (l.take j ++ [x] ++ l.drop j).length = n + 1 := by simp; omega
        have hget := cutAt_get (cs := zs) (vs := ys) (k := j) (by omega)
        have hcc : n ≤ cap' := by rcases hcap with rfl | ⟨_, _, h3, _⟩ <;> omega
        by_cases hroom : n + 1 ≤ cap'
        · -- in its place
          have := ha' (by omega); subst this
          have hmax : cap' ≤ 9223372036854775807 := by rcases hcap with rfl | ⟨_, _, _, _, c5⟩ <;> omega
          have htot : cap' ≤ g.total := by
            rcases hcap with rfl | ⟨_, _, _, c4, _⟩
            · omega
            · rw [hgz, Nat.mul_one] at c4; omega
          have hsep : gv.B ≠ g.B := fun hh => hs.rel.sep b vb _ _ g gv (fun e => hvne e.symm) hb hvb hg hgv rfl rfl hh.symm
          have hsp : ∀ q, q < cap' → (w.cell? ⟨g.B, g.off + q, none⟩).isSome = true := fun q hq => g9 q (by omega)
          have fin : ∀ w' : World, w'.heap.size = w.heap.size → w'.os = w.os → w'.tape = w.tape → w'.output = w.output → (∀ B, B < w.heap.size → B ≠ g.B → w'.heap[B]? = w.heap[B]?) →
              (∀ q u, (zs.take j ++ ys ++ zs.drop j)[q]? = some u → w'.cell? ⟨g.B, g.off + q, none⟩ = some u) → (∀ x, (w.cell? x).isSome = true → (w'.cell? x).isSome = true) → (∀ x, w'.frozen? x = w.frozen? x) →
              ∃ i' v', Ending.returned (Value.slice (some ⟨g.B, g.off, none⟩) (n + 1) cap') = .returned v' ∧ VRel i' (.row s.next 1 (n + 1)) v' ∧
                After P N ro i s w i' { heap := (s.heap.set b .dead).set s.next (.rows .ints (l.take j ++ [x] ++ l.drop j)), next := s.next + 1 } w' := by
            intro w' z1 z2 z3 z4 z5 z6 z7 z8
            obtain ⟨i', R2, S2, hlow, hv⟩ := ins_place hs.rel hb hg hro hnew hid hLR (cap := cap') (by omega) hmax htot z1 z2 z3 z4 z5 z6 z7 z8
            rw [hxl] at hv
            exact ⟨i', _, rfl, hv, after_ins hs (by rw [hsetb]; exact R2) (by rw [hsetb]; exact S2) hlow⟩
          by_cases hjl : j < n
          · obtain ⟨tB, kB, hsb, hkB⟩ := size_of_cell (hsp 0 (by omega)) rfl
            refine (callsIn_wide (n := 0)).2 ((Any2.slices_Insert_int_shift L g.B g.off n cap' j gv.B (gv.off + 0) 1 vc' zs ys w hjl (by omega) hroom hmax hsep hzlen hylen hzcells (fun q hq => hsp q (by omega)) (fun q _ => g10 _) hycells hokc hok
              tA tB kA kB hsa hsb hkB (hv10 _) (hv10 _)).mono ?_)
            rintro ex w' ⟨rfl, rfl⟩
            have hdl : (zs.drop j).length = n - j := by rw [List.length_drop, hzlen]
            have hs2 : ∀ x, (w.cell? x).isSome = true → ((w.drew.setCells g.B (g.off + (j + 1)) (zs.drop j)).cell? x).isSome = true := fun x hx => World.isSome_setCells _ _ _ _ x hx
            have hin1 := World.cell?_setCells_in g.B (zs.drop j) (g.off + (j + 1)) w.drew (fun q hq => by
              have := hsp (j + 1 + q) (by omega); rw [← Nat.add_assoc] at this; exact this)
            have hin2 := World.cell?_setCells_in g.B ys (g.off + j) (w.drew.setCells g.B (g.off + (j + 1)) (zs.drop j)) (fun q hq => hs2 _ (by
              have := hsp (j + q) (by omega); rwa [← Nat.add_assoc] at this))
            refine fin _ ?_ ?_ ?_ ?_ ?_ ?_ ?_ ?_
            · rw [setCells_size, setCells_size]; rfl
            · rw [setCells_os, setCells_os]; rfl
            · rw [setCells_tape, setCells_tape]; rfl
            · rw [setCells_output, setCells_output]; rfl
            · intro B hB hne; rw [setCells_other _ hne, setCells_other _ hne]; rfl
            · intro q u hq
              rw [hget] at hq
              by_cases hq1 : q < j
              · rw [if_pos hq1] at hq
                rw [World.cell?_setCells_out _ _ _ _ _ (fun _ _ => by simp only []; omega), World.cell?_setCells_out _ _ _ _ _ (fun _ _ => by simp only []; omega)]
                exact hzcells q u hq
              · rw [if_neg hq1] at hq
                by_cases hq2 : q < j + ys.length
                · rw [if_pos hq2] at hq
                  have := hin2 (q - j) (by omega)
                  rw [show g.off + j + (q - j) = g.off + q by omega] at this
                  rw [this, ← hq, List.getElem?_eq_getElem]
                · rw [if_neg hq2] at hq
                  have hlt := (List.getElem?_eq_some_iff.1 hq).1
                  rw [World.cell?_setCells_out _ _ _ _ _ (fun _ _ => by simp only []; omega)]
                  have := hin1 (q - (j + 1)) (by omega)
                  rw [show g.off + (j + 1) + (q - (j + 1)) = g.off + q by omega] at this
                  rw [this, ← hq, ← List.getElem?_eq_getElem, List.getElem?_drop]
                  congr 1; omega
            · intro x hx; exact World.isSome_setCells _ _ _ _ x (hs2 x hx)
            · intro x; rw [World.frozen?_setCells, World.frozen?_setCells]; rfl
          · have hj : j = n := by omega
            rw [hj] at fin hget ⊢
            refine (callsIn_wide (n := 0)).2 ((Any2.slices_Insert_int_end_room L g.B g.off n cap' gv.B (gv.off + 0) 1 vc' ys w (by omega) hroom hmax hylen (fun q hq => by
              have := hsp (n + q) (by omega); rwa [← Nat.add_assoc] at this) (fun q _ => g10 _) hycells hok).mono ?_)
            rintro ex w' ⟨rfl, rfl⟩
            have hin2 := World.cell?_setCells_in g.B ys (g.off + n) w (fun q hq => by
              have := hsp (n + q) (by omega); rwa [← Nat.add_assoc] at this)
            refine fin _ (setCells_size _ _ _ _) (setCells_os _ _ _ _) (setCells_tape _ _ _ _) (setCells_output _ _ _ _) (fun B hB hne => setCells_other _ hne _ _ _) (fun q u hq => ?_) (fun x hx => World.isSome_setCells _ _ _ _ x hx) (fun x => World.frozen?_setCells _ _ _ _ _)
            rw [hget] at hq
            by_cases hq1 : q < n
            · rw [if_pos hq1] at hq
              rw [World.cell?_setCells_out _ _ _ _ _ (fun _ _ => by simp only []; omega)]
              exact hzcells q u hq
            · rw [if_neg hq1] at hq
              by_cases hq2 : q < n + ys.length
              · rw [if_pos hq2] at hq
                have := hin2 (q - n) (by omega)
                rw [show g.off + n + (q - n) = g.off + q by omega] at this
                rw [this, ← hq, List.getElem?_eq_getElem]
              · rw [if_neg hq2] at hq
                have hlt := (List.getElem?_eq_some_iff.1 hq).1
                omega
        · -- in a new array
          obtain ⟨Rd, Sd⟩ := hs.rel.put (ro := ro) (o2 := .dead) (w' := w) hb hg hro rfl rfl rfl rfl rfl (fun _ _ _ => rfl) trivial
          have hg1 := grownCap_ge w (n + 1) cap' (ρ.t 3)
          have hg2 := grownCap_le_maxLen w (n + 1) cap' (ρ.t 3) (by unfold maxLen; omega)
          unfold maxLen at hg2
          have fin : ∀ w' : World, w'.heap.size = w.heap.size + 1 → w'.os = w.os → w'.tape = w.tape → w'.output = w.output → (∀ B, B < w.heap.size → w'.heap[B]? = w.heap[B]?) →
              (∀ q u, (zs.take j ++ ys ++ zs.drop j)[q]? = some u → w'.cell? ⟨w.heap.size, q, none⟩ = some u) → (∀ q, q < grownCap w (n + 1) cap' (ρ.t 3) → (w'.cell? ⟨w.heap.size, q, none⟩).isSome = true) → (∀ q, w'.frozen? ⟨w.heap.size, q, none⟩ = false) →
              ∃ i' v', Ending.returned (Value.slice (some ⟨w.heap.size, 0, none⟩) (n + 1) (grownCap w (n + 1) cap' (ρ.t 3))) = .returned v' ∧ VRel i' (.row s.next 1 (n + 1)) v' ∧
                After P N ro i s w i' { heap := (s.heap.set b .dead).set s.next (.rows .ints (l.take j ++ [x] ++ l.drop j)), next := s.next + 1 } w' := by
            intro w' z1 z2 z3 z4 z5 z6 z7 z8
            obtain ⟨i', R2, S2, hlow, hv⟩ := ins_new Rd ro hnew' hid (hLR.mono (Inj.le_refl i)) (cap := grownCap w (n + 1) cap' (ρ.t 3)) (by omega) (by omega) z1 z2 z3 z4 z5 z6 z7 z8
            rw [hxl] at hv
            exact ⟨i', _, rfl, hv, after_ins hs (by rw [hsetb]; exact R2) (by rw [hsetb]; exact Sd.trans S2) hlow⟩
          by_cases hjl : j < n
          · have := ha' (by omega); subst this
            refine (callsIn_wide (n := 0)).2 ((Any2.slices_Insert_int_grow L g.B g.off n cap' j gv.B (gv.off + 0) 1 vc' zs ys w hjl (by omega) (by omega) (by omega) (by omega) hzlen hylen hzcells hycells hokc hok).mono ?_)
            rintro ex w' ⟨rfl, rfl⟩
            have hc1 := fun q => World.cell?_alloc_new (w := w) ((zs.take j).toArray ++ Builtin.zeroCells (Value.int .i64 0).cells (n + 1 - j) ++ Builtin.zeroCells (Value.int .i64 0).cells (grownCap w (n + 1) cap' (ρ.t 3) - (n + 1))) (ρ.t 3) q
            have hf1 := fun q => World.frozen?_alloc_new (w := w) ((zs.take j).toArray ++ Builtin.zeroCells (Value.int .i64 0).cells (n + 1 - j) ++ Builtin.zeroCells (Value.int .i64 0).cells (grownCap w (n + 1) cap' (ρ.t 3) - (n + 1))) (ρ.t 3) q
            have hsz : ((zs.take j).toArray ++ Builtin.zeroCells (Value.int .i64 0).cells (n + 1 - j) ++ Builtin.zeroCells (Value.int .i64 0).cells (grownCap w (n + 1) cap' (ρ.t 3) - (n + 1))).size = grownCap w (n + 1) cap' (ρ.t 3) := by
              rw [Array.size_append, zsize]
              have := zsize [] (grownCap w (n + 1) cap' (ρ.t 3) - (n + 1))
              simp only [Array.size_append, List.size_toArray, List.length_nil, Nat.zero_add] at this
              rw [this, List.length_take]; omega
            generalize harr : ((zs.take j).toArray ++ Builtin.zeroCells (Value.int .i64 0).cells (n + 1 - j) ++ Builtin.zeroCells (Value.int .i64 0).cells (grownCap w (n + 1) cap' (ρ.t 3) - (n + 1))) = arr at *
            have hs1 : ∀ q, q < grownCap w (n + 1) cap' (ρ.t 3) → ((w.alloc (.cells arr (ρ.t 3))).cell? ⟨w.heap.size, q, none⟩).isSome = true := fun q hq => by
              rw [hc1, Array.getElem?_eq_getElem (by rw [hsz]; exact hq)]; rfl
            have hin1 := World.cell?_setCells_in w.heap.size ys j (w.alloc (.cells arr (ρ.t 3))).drew (fun q hq => hs1 (j + q) (by omega))
            have hs2 : ∀ q, q < grownCap w (n + 1) cap' (ρ.t 3) → (((w.alloc (.cells arr (ρ.t 3))).drew.setCells w.heap.size j ys).drew.cell? ⟨w.heap.size, q, none⟩).isSome = true := fun q hq =>
              World.isSome_setCells w.heap.size ys j (w.alloc (.cells arr (ρ.t 3))).drew _ (hs1 q hq)
            have hdl : (zs.drop j).length = n - j := by rw [List.length_drop, hzlen]
            have hin2 := World.cell?_setCells_in w.heap.size (zs.drop j) (j + 1) ((w.alloc (.cells arr (ρ.t 3))).drew.setCells w.heap.size j ys).drew (fun q hq => hs2 (j + 1 + q) (by omega))
            refine fin _ ?_ ?_ ?_ ?_ ?_ ?_ ?_ ?_
            · rw [setCells_size]; show ((w.alloc (.cells arr (ρ.t 3))).drew.setCells w.heap.size j ys).heap.size = _; rw [setCells_size]; exact World.size_alloc _ _
            · rw [setCells_os]; show ((w.alloc (.cells arr (ρ.t 3))).drew.setCells w.heap.size j ys).os = _; rw [setCells_os]; rfl
            · rw [setCells_tape]; show ((w.alloc (.cells arr (ρ.t 3))).drew.setCells w.heap.size j ys).tape = _; rw [setCells_tape]; rfl
            · rw [setCells_output]; show ((w.alloc (.cells arr (ρ.t 3))).drew.setCells w.heap.size j ys).output = _; rw [setCells_output]; rfl
            · intro B hB
              rw [setCells_other _ (by omega)]; show ((w.alloc (.cells arr (ρ.t 3))).drew.setCells w.heap.size j ys).heap[B]? = _
              rw [setCells_other _ (by omega)]; exact Below.heap_alloc w _ B hB
            · intro q u hq
              rw [hget] at hq
              by_cases hq1 : q < j
              · rw [if_pos hq1] at hq
                rw [World.cell?_setCells_out _ _ _ _ _ (fun _ _ => by simp only []; omega)]
                show ((w.alloc (.cells arr (ρ.t 3))).drew.setCells w.heap.size j ys).cell? _ = _
                rw [World.cell?_setCells_out _ _ _ _ _ (fun _ _ => by simp only []; omega)]
                refine (hc1 q).trans ?_
                rw [← harr, Array.getElem?_append_left (by rw [zsize, List.length_take]; omega), Array.getElem?_append_left (by simp; omega)]
                simp only [List.getElem?_toArray]
                rw [List.getElem?_take, if_pos hq1]; exact hq
              · rw [if_neg hq1] at hq
                by_cases hq2 : q < j + ys.length
                · rw [if_pos hq2] at hq
                  rw [World.cell?_setCells_out _ _ _ _ _ (fun _ _ => by simp only []; omega)]
                  have := hin1 (q - j) (by omega)
                  rw [show j + (q - j) = q by omega] at this
                  refine Eq.trans this ?_
                  rw [← hq, List.getElem?_eq_getElem]
                · rw [if_neg hq2] at hq
                  have hlt := (List.getElem?_eq_some_iff.1 hq).1
                  have := hin2 (q - (j + 1)) (by omega)
                  rw [show j + 1 + (q - (j + 1)) = q by omega] at this
                  rw [this, ← hq, ← List.getElem?_eq_getElem, List.getElem?_drop]
                  congr 1; omega
            · intro q hq
              exact World.isSome_setCells w.heap.size (zs.drop j) (j + 1) _ _ (hs2 q hq)
            · intro q
              rw [World.frozen?_setCells]; show ((w.alloc (.cells arr (ρ.t 3))).drew.setCells w.heap.size j ys).frozen? _ = _
              rw [World.frozen?_setCells]; exact hf1 q
          · have hj : j = n := by omega
            rw [hj] at fin ⊢
            refine (callsIn_wide (n := 0)).2 ((Any2.slices_Insert_int_end_grow L (some a') n cap' gv.B (gv.off + 0) 1 vc' zs ys w (by omega) (by omega) (by omega) (by omega) hzlen hylen (fun hh => by cases hh) (fun a hh => by
              cases hh
              intro q u hq
              have hlt := (List.getElem?_eq_some_iff.1 hq).1
              have := ha' (by omega); subst this
              rw [Addr.add_mk]
              exact hzcells q u hq) hycells hok).mono ?_)
            rintro ex w' ⟨rfl, rfl⟩
            have hc1 := fun q => World.cell?_alloc_new (w := w.drew) ((zs ++ ys).toArray ++ Builtin.zeroCells (Value.int .i64 0).cells (grownCap w (n + 1) cap' (ρ.t 3) - (n + 1))) (ρ.t 3) q
            refine fin _ (World.size_alloc _ _) rfl rfl rfl (fun B hB => Below.heap_alloc w.drew _ B hB) (fun q u hq => ?_) (fun q hq => ?_) (fun q => World.frozen?_alloc_new (w := w.drew) _ _ q)
            · rw [List.take_of_length_le (by omega), List.drop_of_length_le (by omega), List.append_nil] at hq
              refine (hc1 q).trans ?_
              have hlt := (List.getElem?_eq_some_iff.1 hq).1
              rw [Array.getElem?_append_left (by simpa using hlt)]
              simpa using hq
            · refine (congrArg Option.isSome (hc1 q)).trans ?_
              rw [Array.getElem?_eq_getElem (by rw [zsize, List.length_append, hylen, hzlen]; omega)]; rfl
      · have hl0 : l = [] := (hs.rel.void b hvd).2 .ints l hb
        subst hl0
        have hj : j = 0 := by omega
        subst hj
        have F := dead_none (ro := ro) hs.rel hb (hs.rel.void b hvd).1 hro
        have hg1 := grownCap_ge w (0 + 1) 0 (ρ.t 3)
        have hg2 := grownCap_le_maxLen w (0 + 1) 0 (ρ.t 3) (by unfold maxLen; omega)
        unfold maxLen at hg2
        refine (callsIn_wide (n := 0)).2 ((Any2.slices_Insert_int_end_grow L a 0 0 gv.B (gv.off + 0) 1 vc' [] ys w (by omega) (Nat.le_refl _) (by omega) (by omega) rfl hylen (fun _ => rfl) (fun a hh q u hq => by simp at hq) hycells hok).mono ?_)
        rintro ex w' ⟨rfl, rfl⟩
        have hLR : LRel i (RC.ints.all (([] : List Int).take 0 ++ [x] ++ ([] : List Int).drop 0)) ys := hly
        obtain ⟨i', R', S', hlow, hv⟩ := ins_new (w' := w.drew.alloc (.cells (([] ++ ys).toArray ++ Builtin.zeroCells (Value.int .i64 0).cells (grownCap w (0 + 1) 0 (ρ.t 3) - (0 + 1))) (ρ.t 3))) F.rel ro hnew' hid hLR (cap := grownCap w (0 + 1) 0 (ρ.t 3)) (by simp; omega) (by omega) (World.size_alloc _ _) rfl rfl rfl
          (fun B hB => Below.heap_alloc w.drew _ B hB)
          (fun q u hq => by
            have hc := World.cell?_alloc_new (w := w.drew) (([] ++ ys).toArray ++ Builtin.zeroCells (Value.int .i64 0).cells (grownCap w (0 + 1) 0 (ρ.t 3) - (0 + 1))) (ρ.t 3) q
            have hlt : q < ys.length := (List.getElem?_eq_some_iff.1 hq).1
            refine hc.trans ?_
            rw [Array.getElem?_append_left (by simpa using hlt)]
            simpa using hq)
          (fun q hq => by
            have hc := World.cell?_alloc_new (w := w.drew) (([] ++ ys).toArray ++ Builtin.zeroCells (Value.int .i64 0).cells (grownCap w (0 + 1) 0 (ρ.t 3) - (0 + 1))) (ρ.t 3) q
            have hsz : (([] ++ ys).toArray ++ Builtin.zeroCells (Value.int .i64 0).cells (grownCap w (0 + 1) 0 (ρ.t 3) - (0 + 1))).size = grownCap w (0 + 1) 0 (ρ.t 3) := by
              rw [zsize, List.nil_append, hylen]; omega
            refine (congrArg Option.isSome hc).trans ?_
            rw [Array.getElem?_eq_getElem (by rw [hsz]; exact hq)]; rfl)
          (fun q => World.frozen?_alloc_new (w := w.drew) _ _ q)
        exact ⟨i', _, rfl, hv, after_ins hs (by rw [hsetb]; exact R') (by rw [hsetb]; exact F.step.trans S') hlow⟩
    · exact (ev_fail e).elim
  · exact (ev_fail e).elim

end Go.Proofs.YtecidokjhplbgaaGreatDoorD
