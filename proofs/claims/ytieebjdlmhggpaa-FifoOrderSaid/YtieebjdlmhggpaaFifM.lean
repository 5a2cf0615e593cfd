/-
  Chapter 09: FifoOrder's loop: what it comes to.
-/
import Derived.Test.YtieebjdlmhggpaaFifL
set_option linter.unusedVariables false
set_option linter.unusedSimpArgs false
namespace Go.Proofs.YtieebjdlmhggpaaD
open Go Go.RowKit

/-- The numbers from a place on, up to another one. -/
def sl (l : List Int) (v u : Nat) : List Int := (l.drop v).take (u - v)
theorem sl_length {l : List Int} {v u : Nat} (h1 : v ≤ u) (h2 : u ≤ l.length) : (sl l v u).length = u - v := by
  rw [sl, List.length_take, List.length_drop]; omega
theorem sl_snoc {l : List Int} {v u : Nat} (h1 : v ≤ u) (h2 : u < l.length) : sl l v u ++ [l.getD u 0] = sl l v (u + 1) := by
  have e : (l.drop v).getD (u - v) 0 = l.getD u 0 := by
    simp only [List.getD_eq_getElem?_getD, List.getElem?_drop, show v + (u - v) = u by omega]
  rw [sl, sl, show u + 1 - v = (u - v) + 1 by omega, ← e]
  rw [List.take_add_one, List.getD_eq_getElem?_getD]
  have : u - v < (l.drop v).length := by rw [List.length_drop]; omega
  rw [List.getElem?_eq_getElem this]
  rfl
theorem sl_cons {l : List Int} {v u : Nat} (h1 : v < u) (h2 : u ≤ l.length) : sl l v u = l.getD v 0 :: sl l (v + 1) u := by
  rw [sl, sl, getD_cons (l := l) (i := v) (by omega) 0, show u - v = (u - (v + 1)) + 1 by omega, List.take_succ_cons]
theorem sl_nil {l : List Int} {v : Nat} : sl l v v = [] := by simp [sl]

/-- How many are put in, how many are taken off. -/
def foF (n : Nat) : List Int → Nat × Nat → Nat × Nat
  | [], p => p
  | c :: cs, (u, v) => if (c.tmod 2 != 0) = true then (if u = n then foF n cs (u, v) else foF n cs (u + 1, v)) else (if v < u then foF n cs (u, v + 1) else foF n cs (u, v))
theorem foF_le (n : Nat) : ∀ (cs : List Int) (u v : Nat), v ≤ u → u ≤ n → (foF n cs (u, v)).2 ≤ (foF n cs (u, v)).1 ∧ (foF n cs (u, v)).1 ≤ n
  | [], u, v, h1, h2 => ⟨h1, h2⟩
  | c :: cs, u, v, h1, h2 => by
    simp only [foF]
    split
    · split
      · exact foF_le n cs u v h1 h2
      · exact foF_le n cs (u + 1) v (by omega) (by omega)
    · split
      · exact foF_le n cs u (v + 1) (by omega) h2
      · exact foF_le n cs u v h1 h2

theorem fifo_enq (q : List Int) (x : Int) : fifoA 4 0 q 10 x 0 = ⟨⟨4, 0, q ++ [x]⟩, ⟨0, 0⟩, 0⟩ := by
  unfold fifoA; simp [checkN]
theorem fifo_len (q : List Int) : fifoA 4 0 q 12 0 0 = ⟨⟨4, 0, q⟩, ⟨2, q.length⟩, 0⟩ := by
  unfold fifoA; simp [checkN]
theorem fifo_deq0 : fifoA 4 0 [] 11 0 0 = ⟨⟨4, 0, []⟩, ⟨1, 0⟩, 0⟩ := by
  unfold fifoA; simp [checkN]
theorem fifo_deq (x : Int) (q : List Int) : fifoA 4 0 (x :: q) 11 0 0 = ⟨⟨4, 0, q⟩, ⟨2, x⟩, 0⟩ := by
  unfold fifoA; simp [checkN]

theorem fo_rounds (l c : List Int) (hl : l.length ≤ 1000000) (hc : c.length ≤ 1000000) (b ok : Bool) (t2 n2 : Int) (q2 : List Int) (r : CEx × NSt) : ∀ (d i u v : Nat), i + d = c.length → v ≤ u → u ≤ l.length →
    (outAt (.exit 0) foOut0 [.l .ints l, .b b, .b ok, .i (foF l.length (c.drop i) (u, v)).1, .i (foF l.length (c.drop i) (u, v)).2, .i 4, .i 0, .l .ints (sl l (foF l.length (c.drop i) (u, v)).2 (foF l.length (c.drop i) (u, v)).1), .i t2, .i n2, .l .ints q2]).ev = some r →
    ∃ k, (rounds Try.prog lawE [] 30 foId 21 none foSk k [.l .ints l, .l .ints c, .b b, .b ok, .i u, .i v, .i i, .i 4, .i 0, .l .ints (sl l v u), .i t2, .i n2, .l .ints q2]).ev = some r
  | 0, i, u, v, h, h1, h2, hr => by
    refine ⟨1, cut_ev _ _ ((fo_round 0 l c b ok u v i 4 0 (sl l v u) t2 n2 q2).trans ?_)⟩
    rw [List.drop_eq_nil_of_le (by omega)] at hr
    rw [T.ev_ite, show decide ((i : Int) < ↑c.length) = false by simp; omega]
    exact hr
  | d + 1, i, u, v, h, h1, h2, hr => by
    rw [getD_cons (l := c) (i := i) (by omega) 0] at hr
    have hi : decide ((i : Int) < ↑c.length) = true := by rw [decide_eq_true_eq]; omega
    have hin : inRange (i : Int) c.length = true := by rw [inRange_iff]; omega
    have wi : IntKind.i64.wrap ((i : Int) + 1) = ((i + 1 : Nat) : Int) := by rw [wrap64 (by omega) (by omega)]; omega
    have wu : IntKind.i64.wrap ((u : Int) + 1) = ((u + 1 : Nat) : Int) := by rw [wrap64 (by omega) (by omega)]; omega
    have wv : IntKind.i64.wrap ((v : Int) + 1) = ((v + 1 : Nat) : Int) := by rw [wrap64 (by omega) (by omega)]; omega
    have ls := sl_length h1 h2
    have s0 : small (sl l v u).length = true := by rw [small_iff]; omega
    have s1 : small ((sl l v u).length + 1) = true := by rw [small_iff]; omega
    have z0 : ((0 : Int) != 0) = false := by decide
    have z2 : ((2 : Int) == 1) = false := by decide
    have z1 : ((1 : Int) == 2) = false := by decide
    by_cases hodd : (c.getD i 0).tmod 2 != 0
    · have hodd' : ((c.getD i RC.ints.zero).tmod 2 != 0) = true := hodd
      by_cases hu : u = l.length
      · simp only [foF, hodd, hu, if_true] at hr
        obtain ⟨k, ih⟩ := fo_rounds l c hl hc b ok t2 n2 q2 r d (i + 1) u v (by omega) h1 h2 (by rw [hu]; exact hr)
        refine ⟨k + 1, cut_ev _ _ ((fo_round k l c b ok u v i 4 0 (sl l v u) t2 n2 q2).trans ?_)⟩
        have hu' : ((u : Int) == (l.length : Int)) = true := by rw [beq_iff_eq]; omega
        simp only [T.ev_ite, hi, hin, Int.toNat_natCast, hodd', hu', if_true, wi]
        exact ih
      · simp only [foF, hodd, hu, if_true, if_false] at hr
        obtain ⟨k, ih⟩ := fo_rounds l c hl hc b ok t2 n2 q2 r d (i + 1) (u + 1) v (by omega) (by omega) (by omega) hr
        refine ⟨k + 1, cut_ev _ _ ((fo_round k l c b ok u v i 4 0 (sl l v u) t2 n2 q2).trans ?_)⟩
        have hu' : ((u : Int) == (l.length : Int)) = false := by rw [beq_eq_false_iff_ne]; omega
        have hur : inRange (u : Int) l.length = true := by rw [inRange_iff]; omega
        have e1 : fifoA 4 0 (sl l v u) 10 (l.getD u RC.ints.zero) 0 = ⟨⟨4, 0, sl l v (u + 1)⟩, ⟨0, 0⟩, 0⟩ := by
          rw [fifo_enq, show l.getD u RC.ints.zero = l.getD u 0 from rfl, sl_snoc h1 (by omega)]
        have ls2 := sl_length (l := l) (v := v) (u := u + 1) (by omega) (by omega)
        have s2 : small (sl l v (u + 1)).length = true := by rw [small_iff]; omega
        have s3 : small ((sl l v (u + 1)).length + 1) = true := by rw [small_iff]; omega
        have e2 : ((((sl l v (u + 1)).length : Nat) : Int) == IntKind.i64.wrap (((u + 1 : Nat) : Int) - v)) = true := by
          rw [beq_iff_eq, wrap64 (by omega) (by omega), ls2]; omega
        simp only [T.ev_ite, hi, hin, Int.toNat_natCast, hodd', hu', hur, s0, s1, s2, s3, e1, fifo_len, wu, wi, e2, z0, beq_self_eq_true, decide_true, Bool.and_self, Bool.not_true, Bool.false_eq_true, if_true, if_false]
        exact ih
    · have hodd' : ((c.getD i RC.ints.zero).tmod 2 != 0) = false := by
        have : ((c.getD i 0).tmod 2 != 0) = false := by simpa using hodd
        exact this
      by_cases hv : v < u
      · simp only [foF, hodd, hv, if_true, if_false] at hr
        obtain ⟨k, ih⟩ := fo_rounds l c hl hc b ok t2 n2 q2 r d (i + 1) u (v + 1) (by omega) (by omega) h2 hr
        refine ⟨k + 1, cut_ev _ _ ((fo_round k l c b ok u v i 4 0 (sl l v u) t2 n2 q2).trans ?_)⟩
        have hvu : decide ((v : Int) < (u : Int)) = true := by rw [decide_eq_true_eq]; omega
        have hve : ((v : Int) == (u : Int)) = false := by rw [beq_eq_false_iff_ne]; omega
        have hvr : inRange (v : Int) l.length = true := by rw [inRange_iff]; omega
        have e1 : fifoA 4 0 (sl l v u) 11 0 0 = ⟨⟨4, 0, sl l (v + 1) u⟩, ⟨2, l.getD v RC.ints.zero⟩, 0⟩ := by
          rw [sl_cons hv h2, fifo_deq]; rfl
        have ls2 := sl_length (l := l) (v := v + 1) (u := u) (by omega) (by omega)
        have s2 : small (sl l (v + 1) u).length = true := by rw [small_iff]; omega
        have s3 : small ((sl l (v + 1) u).length + 1) = true := by rw [small_iff]; omega
        have e2 : ((((sl l (v + 1) u).length : Nat) : Int) == IntKind.i64.wrap ((u : Int) - ((v + 1 : Nat) : Int))) = true := by
          rw [beq_iff_eq, wrap64 (by omega) (by omega), ls2]; omega
        have e3 : (l.getD v RC.ints.zero != l.getD v RC.ints.zero) = false := by simp
        simp only [T.ev_ite, hi, hin, Int.toNat_natCast, hodd', hvu, hve, hvr, s0, s1, s2, s3, e1, fifo_len, wv, wi, e2, e3, z0, beq_self_eq_true, decide_true, Bool.and_self, Bool.not_true, Bool.not_false, Bool.false_eq_true, if_true, if_false]
        exact ih
      · have hvu0 : v = u := by omega
        subst hvu0
        simp only [foF, hodd, hv, if_false] at hr
        obtain ⟨k, ih⟩ := fo_rounds l c hl hc b ok t2 n2 q2 r d (i + 1) v v (by omega) h1 h2 hr
        refine ⟨k + 1, cut_ev _ _ ((fo_round k l c b ok v v i 4 0 (sl l v v) t2 n2 q2).trans ?_)⟩
        have hvu : decide ((v : Int) < (v : Int)) = false := by rw [decide_eq_false_iff_not]; omega
        rw [sl_nil] at ih ⊢
        have e2 : (((([] : List Int).length : Nat) : Int) == IntKind.i64.wrap ((v : Int) - (v : Int))) = true := by
          rw [beq_iff_eq, wrap64 (by omega) (by omega)]; simp
        have s2 : small ([] : List Int).length = true := rfl
        have s3 : small (([] : List Int).length + 1) = true := rfl
        simp only [T.ev_ite, hi, hin, Int.toNat_natCast, hodd', hvu, s2, s3, fifo_deq0, fifo_len, wi, e2, z0, z1, beq_self_eq_true, decide_true, Bool.and_self, Bool.not_true, Bool.not_false, Bool.false_eq_true, if_true, if_false]
        exact ih

def foG : List Leaf → T (CEx × NSt)
  | [.l .ints l, .l .ints c, .b b, .b ok, .i u, .i v, .i i, .i t, .i n, .l .ints [], .i t2, .i n2, .l .ints q2] =>
    T.when (u == 0 && v == 0 && i == 0 && t == 4 && n == 0 && Nat.ble l.length 1000000 && Nat.ble c.length 1000000)
      (outAt (.exit 0) foOut0 [.l .ints l, .b b, .b ok, .i (foF l.length c (0, 0)).1, .i (foF l.length c (0, 0)).2, .i 4, .i 0, .l .ints (sl l (foF l.length c (0, 0)).2 (foF l.length c (0, 0)).1), .i t2, .i n2, .l .ints q2])
  | _ => .fail
theorem fo_shape : ShapeOk Try.prog lawE [] foId ⟨21, none, foSk, foG⟩ := by
  refine shapeOk_mk fun ls r h => ?_
  unfold foG at h
  split at h
  · rename_i l c b ok u v i t n t2 n2 q2
    obtain ⟨hc, h1⟩ := ev_when h
    simp only [Bool.and_eq_true, beq_iff_eq, Nat.ble_eq] at hc
    obtain ⟨⟨⟨⟨⟨⟨rfl, rfl⟩, rfl⟩, rfl⟩, rfl⟩, hl⟩, hcl⟩ := hc
    obtain ⟨k, hk⟩ := fo_rounds l c hl hcl b ok t2 n2 q2 r c.length 0 0 0 (by omega) (by omega) (by omega) h1
    exact ⟨30, k, hk⟩
  · exact (ev_fail h).elim
def foL : List (Nat × List Nat × LoopFn) := [(6, [0, 1, 0, 1, 1, 1, 1], loopExt foId [⟨21, none, foSk, foG⟩])]
theorem foL_ok (N : Nat) : LoopsOk Try.prog N foL :=
  loopsOk_cons (loopExt_ok plainN mixedN lawE_ok (fun _ => loopsOk_nil) (all1 fo_shape all0) N) loopsOk_nil

end Go.Proofs.YtieebjdlmhggpaaD
