/-
  Chapter 07: sets in plain words; what the loops come to.
-/
import Derived.Test.YtdefopkieleojaaSetB
set_option linter.unusedVariables false
set_option linter.unusedSimpArgs false
namespace Go.Proofs.YtdefopkieleojaaD
open Go Go.RowKit

/-- How many are less, whether one is there. -/
def cntN : List Int → Int → Nat
  | [], _ => 0
  | y :: r, x => (if y < x then 1 else 0) + cntN r x
def hasN : List Int → Int → Bool
  | [], _ => false
  | y :: r, x => (y == x) || hasN r x
/-- What a number is laid into. -/
def withR : Bool → List Int → Int → Bool × List Int
  | put, [], _ => (put, [])
  | put, y :: r, x => if put = false ∧ x ≤ y then ((withR true r x).1, x :: (if y = x then [] else [y]) ++ (withR true r x).2) else ((withR put r x).1, (if y = x then [] else [y]) ++ (withR put r x).2)
def withN (l : List Int) (x : Int) : List Int := if (withR false l x).1 then (withR false l x).2 else (withR false l x).2 ++ [x]
def lessN : List Int → Int → List Int
  | [], _ => []
  | y :: r, x => (if y = x then [] else [y]) ++ lessN r x
def riseB : List Int → Bool
  | x :: y :: r => decide (x < y) && riseB (y :: r)
  | _ => true

theorem cntN_le : ∀ (l : List Int) (x : Int), cntN l x ≤ l.length
  | [], x => Nat.le_refl _
  | y :: r, x => by have := cntN_le r x; simp only [cntN, List.length_cons]; split <;> omega
theorem riseB_tail {y : Int} {r : List Int} (h : riseB (y :: r) = true) : riseB r = true := by
  cases r with
  | nil => rfl
  | cons z r => simp only [riseB, Bool.and_eq_true] at h; exact h.2
theorem riseB_low : ∀ {y : Int} {r : List Int}, riseB (y :: r) = true → ∀ z ∈ r, y < z
  | y, [], _, z, hz => by cases hz
  | y, w :: r, h, z, hz => by
    simp only [riseB, Bool.and_eq_true, decide_eq_true_eq] at h
    rcases List.mem_cons.1 hz with rfl | hz
    · exact h.1
    · exact Int.lt_trans h.1 (riseB_low h.2 z hz)
theorem cntN_low : ∀ {l : List Int} {x : Int}, (∀ z ∈ l, x ≤ z) → cntN l x = 0
  | [], x, _ => rfl
  | y :: r, x, h => by
    have h1 := h y (by simp)
    have h2 := cntN_low (l := r) (x := x) fun z hz => h z (List.mem_cons_of_mem _ hz)
    simp only [cntN, show ¬ y < x by omega, if_false, h2]
theorem cnt_get : ∀ {l : List Int} {x : Int}, riseB l = true → ∀ (i : Nat), i < l.length → (l.getD i 0 < x ↔ i < cntN l x)
  | [], x, _, i, hi => by simp at hi
  | y :: r, x, h, 0, hi => by
    simp only [List.getD_cons_zero, cntN]
    by_cases hy : y < x
    · simp [hy]; omega
    · simp only [hy, if_false, false_iff]
      rw [cntN_low (fun z hz => by have := riseB_low h z hz; omega)]; omega
  | y :: r, x, h, i + 1, hi => by
    have ih := cnt_get (riseB_tail h) (x := x) i (by simpa using hi)
    simp only [List.getD_cons_succ, cntN]
    rw [ih]
    by_cases hy : y < x
    · simp only [hy, if_true]; omega
    · simp only [hy, if_false]
      rw [cntN_low (fun z hz => by have := riseB_low h z hz; omega)]; omega

theorem rf_rounds (l : List Int) (hs : l.length ≤ 1000000000) (x u : Int) (v : Bool) (q : CEx × NSt) : ∀ (d i n : Nat) (is : Bool), i + d = l.length → n ≤ i →
    (outAt (.exit 0) rfOut0 [.i u, .b v, .i ((n + cntN (l.drop i) x : Nat) : Int), .b (is || hasN (l.drop i) x)]).ev = some q →
    ∃ k, (rounds Try.prog [] [] 30 rfId 5 none rfSk k [.l .ints l, .i x, .i u, .b v, .i n, .b is, .i i]).ev = some q
  | 0, i, n, is, h, hn, hq => by
    refine ⟨1, cut_ev _ _ ((rf_round 0 l x u v n is i).trans ?_)⟩
    rw [List.drop_eq_nil_of_le (by omega)] at hq
    simp only [cntN, hasN, Nat.add_zero, Bool.or_false] at hq
    rw [T.ev_ite, show decide ((i : Int) < ↑l.length) = false by simp; omega]
    exact hq
  | d + 1, i, n, is, h, hn, hq => by
    rw [getD_cons (l := l) (by omega) 0] at hq
    have h1 : decide ((i : Int) < ↑l.length) = true := by rw [decide_eq_true_eq]; omega
    have h2 : inRange (i : Int) l.length = true := by rw [inRange_iff]; omega
    have wi : IntKind.i64.wrap ((i : Int) + 1) = ((i + 1 : Nat) : Int) := by rw [wrap64 (by omega) (by omega)]; omega
    have wn : IntKind.i64.wrap ((n : Int) + 1) = ((n + 1 : Nat) : Int) := by rw [wrap64 (by omega) (by omega)]; omega
    have hz : l.getD i RC.ints.zero = l.getD i 0 := rfl
    by_cases hy : l.getD i 0 < x
    · simp only [cntN, hasN, hy, if_true] at hq
      have e1 : decide (l.getD i RC.ints.zero < x) = true := by rw [decide_eq_true_eq]; exact hy
      obtain ⟨k, ih⟩ := rf_rounds l hs x u v q d (i + 1) (n + 1) (is || (l.getD i 0 == x)) (by omega) (by omega) (by
        rw [Bool.or_assoc, show n + 1 + cntN (l.drop (i + 1)) x = n + (1 + cntN (l.drop (i + 1)) x) by omega]; exact hq)
      refine ⟨k + 1, cut_ev _ _ ((rf_round k l x u v n is i).trans ?_)⟩
      cases is with
      | true => simp only [T.ev_ite, h1, h2, e1, Int.toNat_natCast, if_true, wi, wn]; exact ih
      | false => simp only [T.ev_ite, h1, h2, e1, Int.toNat_natCast, if_true, Bool.false_eq_true, if_false, wi, wn]; exact ih
    · simp only [cntN, hasN, hy, if_false, Nat.zero_add] at hq
      have e1 : decide (l.getD i RC.ints.zero < x) = false := by rw [decide_eq_false_iff_not]; exact hy
      obtain ⟨k, ih⟩ := rf_rounds l hs x u v q d (i + 1) n (is || (l.getD i 0 == x)) (by omega) (by omega) (by rw [Bool.or_assoc]; exact hq)
      refine ⟨k + 1, cut_ev _ _ ((rf_round k l x u v n is i).trans ?_)⟩
      cases is with
      | true => simp only [T.ev_ite, h1, h2, e1, Int.toNat_natCast, if_true, Bool.false_eq_true, if_false, wi]; exact ih
      | false => simp only [T.ev_ite, h1, h2, e1, Int.toNat_natCast, if_true, Bool.false_eq_true, if_false, wi]; exact ih

theorem rm_rounds (l : List Int) (hs : l.length ≤ 1000000000) (x : Int) (q : CEx × NSt) : ∀ (d i : Nat) (out : List Int), i + d = l.length → out.length ≤ i →
    (outAt (.exit 0) rmOut0 [.l .ints (out ++ lessN (l.drop i) x)]).ev = some q →
    ∃ k, (rounds Try.prog [] [] 30 rmId 3 none rmSk k [.l .ints l, .i x, .i i, .l .ints out]).ev = some q
  | 0, i, out, h, ho, hq => by
    refine ⟨1, cut_ev _ _ ((rm_round 0 l x i out).trans ?_)⟩
    rw [List.drop_eq_nil_of_le (by omega)] at hq
    simp only [lessN, List.append_nil] at hq
    rw [T.ev_ite, show decide ((i : Int) < ↑l.length) = false by simp; omega]
    exact hq
  | d + 1, i, out, h, ho, hq => by
    rw [getD_cons (l := l) (by omega) 0] at hq
    have h1 : decide ((i : Int) < ↑l.length) = true := by rw [decide_eq_true_eq]; omega
    have h2 : inRange (i : Int) l.length = true := by rw [inRange_iff]; omega
    have wi : IntKind.i64.wrap ((i : Int) + 1) = ((i + 1 : Nat) : Int) := by rw [wrap64 (by omega) (by omega)]; omega
    by_cases hy : l.getD i 0 = x
    · simp only [lessN, hy, if_true, List.nil_append] at hq
      obtain ⟨k, ih⟩ := rm_rounds l hs x q d (i + 1) out (by omega) (by omega) hq
      refine ⟨k + 1, cut_ev _ _ ((rm_round k l x i out).trans ?_)⟩
      have e : (l.getD i RC.ints.zero != x) = false := by rw [bne_eq_false_iff_eq]; exact hy
      simp only [T.ev_ite, h1, h2, e, Int.toNat_natCast, if_true, Bool.false_eq_true, if_false, wi]
      exact ih
    · simp only [lessN, hy, if_false] at hq
      obtain ⟨k, ih⟩ := rm_rounds l hs x q d (i + 1) (out ++ [l.getD i 0]) (by omega) (by simp; omega) (by rw [List.append_assoc]; exact hq)
      refine ⟨k + 1, cut_ev _ _ ((rm_round k l x i out).trans ?_)⟩
      have e : (l.getD i RC.ints.zero != x) = true := by rw [bne_iff_ne]; exact hy
      have hb : ∀ a : Int, roomB (out.length + [a].length) 8 = true := fun a => roomB_small (by rw [small_iff]; simp; omega) (by decide)
      simp only [T.ev_ite, h1, h2, e, hb, Int.toNat_natCast, if_true, wi]
      exact ih

theorem rw_rounds (l : List Int) (hs : l.length ≤ 400000000) (x : Int) (q : CEx × NSt) : ∀ (d i : Nat) (put : Bool) (out : List Int), i + d = l.length → out.length ≤ 2 * i →
    (outAt (.exit 0) rwOut0 [.i x, .b (withR put (l.drop i) x).1, .l .ints (out ++ (withR put (l.drop i) x).2)]).ev = some q →
    ∃ k, (rounds Try.prog [] [] 30 rwId 4 none rwSk k [.l .ints l, .i x, .b put, .i i, .l .ints out]).ev = some q
  | 0, i, put, out, h, ho, hq => by
    refine ⟨1, cut_ev _ _ ((rw_round 0 l x put i out).trans ?_)⟩
    rw [List.drop_eq_nil_of_le (by omega)] at hq
    simp only [withR, List.append_nil] at hq
    rw [T.ev_ite, show decide ((i : Int) < ↑l.length) = false by simp; omega]
    exact hq
  | d + 1, i, put, out, h, ho, hq => by
    rw [getD_cons (l := l) (by omega) 0] at hq
    have h1 : decide ((i : Int) < ↑l.length) = true := by rw [decide_eq_true_eq]; omega
    have h2 : inRange (i : Int) l.length = true := by rw [inRange_iff]; omega
    have wi : IntKind.i64.wrap ((i : Int) + 1) = ((i + 1 : Nat) : Int) := by rw [wrap64 (by omega) (by omega)]; omega
    have hb : ∀ a : Int, roomB (out.length + [a].length) 8 = true := fun a => roomB_small (by rw [small_iff]; simp; omega) (by decide)
    have hb2 : ∀ a b : Int, roomB (out.length + [a].length + [b].length) 8 = true := fun a b => roomB_small (by rw [small_iff]; simp; omega) (by decide)
    by_cases hp : put = false ∧ x ≤ l.getD i 0
    · obtain ⟨rfl, hx⟩ := hp
      simp only [withR, hx, and_self, if_true] at hq
      have e0 : decide (l.getD i RC.ints.zero ≥ x) = true := by rw [decide_eq_true_eq]; exact hx
      by_cases hy : l.getD i 0 = x
      · rw [if_pos hy] at hq
        obtain ⟨k, ih⟩ := rw_rounds l hs x q d (i + 1) true (out ++ [x]) (by omega) (by simp; omega) (by rw [List.append_assoc]; simpa using hq)
        refine ⟨k + 1, cut_ev _ _ ((rw_round k l x false i out).trans ?_)⟩
        have e : (l.getD i RC.ints.zero != x) = false := by rw [bne_eq_false_iff_eq]; exact hy
        simp only [T.ev_ite, h1, h2, e0, e, hb, Int.toNat_natCast, Bool.not_false, if_true, Bool.false_eq_true, if_false, wi]
        exact ih
      · rw [if_neg hy] at hq
        obtain ⟨k, ih⟩ := rw_rounds l hs x q d (i + 1) true (out ++ [x] ++ [l.getD i 0]) (by omega) (by simp; omega) (by rw [List.append_assoc, List.append_assoc]; simpa using hq)
        refine ⟨k + 1, cut_ev _ _ ((rw_round k l x false i out).trans ?_)⟩
        have e : (l.getD i RC.ints.zero != x) = true := by rw [bne_iff_ne]; exact hy
        simp only [T.ev_ite, h1, h2, e0, e, hb, hb2, Int.toNat_natCast, Bool.not_false, if_true, wi]
        exact ih
    · simp only [withR, hp, if_false] at hq
      by_cases hy : l.getD i 0 = x
      · rw [if_pos hy] at hq
        have hput : put = true := by
          cases put with
          | true => rfl
          | false => exact absurd ⟨rfl, by omega⟩ hp
        subst hput
        obtain ⟨k, ih⟩ := rw_rounds l hs x q d (i + 1) true out (by omega) (by omega) (by simpa using hq)
        refine ⟨k + 1, cut_ev _ _ ((rw_round k l x true i out).trans ?_)⟩
        have e : (l.getD i RC.ints.zero != x) = false := by rw [bne_eq_false_iff_eq]; exact hy
        simp only [T.ev_ite, h1, h2, e, Int.toNat_natCast, Bool.not_true, if_true, Bool.false_eq_true, if_false, wi]
        exact ih
      · rw [if_neg hy] at hq
        obtain ⟨k, ih⟩ := rw_rounds l hs x q d (i + 1) put (out ++ [l.getD i 0]) (by omega) (by simp; omega) (by rw [List.append_assoc]; exact hq)
        refine ⟨k + 1, cut_ev _ _ ((rw_round k l x put i out).trans ?_)⟩
        have e : (l.getD i RC.ints.zero != x) = true := by rw [bne_iff_ne]; exact hy
        cases put with
        | true =>
          simp only [T.ev_ite, h1, h2, e, hb, Int.toNat_natCast, Bool.not_true, if_true, Bool.false_eq_true, if_false, wi]
          exact ih
        | false =>
          have e0 : decide (l.getD i RC.ints.zero ≥ x) = false := by rw [decide_eq_false_iff_not]; intro hh; exact hp ⟨rfl, hh⟩
          simp only [T.ev_ite, h1, h2, e, e0, hb, Int.toNat_natCast, Bool.not_false, if_true, Bool.false_eq_true, if_false, wi]
          exact ih

theorem sf_rounds (l : List Int) (hs : l.length ≤ 1000000000) (hr : riseB l = true) (x m : Int) (q : CEx × NSt) : ∀ (d a b : Nat), b ≤ a + d → a ≤ cntN l x → cntN l x ≤ b → b ≤ l.length →
    (outAt (.exit 0) sfOut0 [.l .ints l, .i x, .i (cntN l x), .i m]).ev = some q →
    ∃ k, (rounds Try.prog [] [] 30 sfId 20 none sfSk k [.i a, .i b, .l .ints l, .i x, .i a, .i m]).ev = some q
  | 0, a, b, hd, ha, hb, hl, hq => by
    refine ⟨1, cut_ev _ _ ((sf_round 0 a b l x a m).trans ?_)⟩
    rw [T.ev_ite, show decide ((a : Int) < (b : Int)) = false by rw [decide_eq_false_iff_not]; omega, show (a : Int) = (cntN l x : Int) by omega]
    exact hq
  | d + 1, a, b, hd, ha, hb, hl, hq => by
    by_cases hab : a < b
    · have h0 : decide ((a : Int) < (b : Int)) = true := by rw [decide_eq_true_eq]; omega
      have w0 : IntKind.i64.wrap ((a : Int) + b) = ((a + b : Nat) : Int) := by rw [wrap64 (by omega) (by omega)]; omega
      have w1 : ((a + b : Nat) : Int).tdiv 2 = (((a + b) / 2 : Nat) : Int) := by
        rw [Int.tdiv_eq_ediv_of_nonneg (by omega)]; omega
      have w2 : IntKind.i64.wrap ((((a + b) / 2 : Nat) : Int)) = (((a + b) / 2 : Nat) : Int) := by rw [wrap64 (by omega) (by omega)]
      have w3 : IntKind.i64.wrap ((((a + b) / 2 : Nat) : Int) + 1) = (((a + b) / 2 + 1 : Nat) : Int) := by rw [wrap64 (by omega) (by omega)]; omega
      have hin : inRange (((a + b) / 2 : Nat) : Int) l.length = true := by rw [inRange_iff]; omega
      have hcg := cnt_get hr (x := x) ((a + b) / 2) (by omega)
      by_cases hx : l.getD ((a + b) / 2) 0 < x
      · obtain ⟨k, ih⟩ := sf_rounds l hs hr x m q d ((a + b) / 2 + 1) b (by omega) (by have := hcg.1 hx; omega) hb hl hq
        refine ⟨k + 1, cut_ev _ _ ((sf_round k a b l x a m).trans ?_)⟩
        have e : decide (l.getD ((a + b) / 2) RC.ints.zero < x) = true := by rw [decide_eq_true_eq]; exact hx
        simp only [w0, w1, w2, w3, T.ev_ite, h0, hin, e, Int.toNat_natCast, if_true]
        exact ih
      · obtain ⟨k, ih⟩ := sf_rounds l hs hr x m q d a ((a + b) / 2) (by omega) ha (by have := mt hcg.2 hx; omega) (by omega) hq
        refine ⟨k + 1, cut_ev _ _ ((sf_round k a b l x a m).trans ?_)⟩
        have e : decide (l.getD ((a + b) / 2) RC.ints.zero < x) = false := by rw [decide_eq_false_iff_not]; exact hx
        simp only [w0, w1, w2, T.ev_ite, h0, hin, e, Int.toNat_natCast, if_true, Bool.false_eq_true, if_false]
        exact ih
    · refine ⟨1, cut_ev _ _ ((sf_round 0 a b l x a m).trans ?_)⟩
      rw [T.ev_ite, show decide ((a : Int) < (b : Int)) = false by rw [decide_eq_false_iff_not]; omega, show (a : Int) = (cntN l x : Int) by omega]
      exact hq

end Go.Proofs.YtdefopkieleojaaD
