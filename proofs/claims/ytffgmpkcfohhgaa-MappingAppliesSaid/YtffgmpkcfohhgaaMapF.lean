/-
  Chapter 08: setting: what the loops come to.
-/
import Derived.Test.YtffgmpkcfohhgaaMapE
set_option linter.unusedVariables false
set_option linter.unusedSimpArgs false
namespace Go.Proofs.YtffgmpkcfohhgaaD
open Go Go.RowKit

def evenP : List Int → List Int
  | k :: v :: r => k :: v :: evenP r
  | _ => []
/-- Whether a key is laid ahead of another one, and the list then. -/
def seP : List Int → Int → Int → Bool × List Int
  | k :: v :: r, x, y => if x ≤ k then (true, x :: y :: k :: v :: evenP r) else ((seP r x y).1, k :: v :: (seP r x y).2)
  | _, _, _ => (false, [])
def setP (l : List Int) (x y : Int) : List Int := if (seP l x y).1 then (seP l x y).2 else (seP l x y).2 ++ [x, y]
/-- How many cells have keys that are less. -/
def rsP : List Int → Int → Nat
  | k :: v :: r, x => if k < x then rsP r x + 2 else 0
  | _, _ => 0
theorem len_gt1' (l : List Int) : (∃ k v r, l = k :: v :: r) ∨ (¬ ((l.length : Int) > 1) ∧ evenP l = [] ∧ (∀ x y, seP l x y = (false, [])) ∧ (∀ x, rsP l x = 0) ∧ tailP l = l) := by
  match l with
  | [] => exact .inr ⟨by simp, rfl, fun _ _ => rfl, fun _ => rfl, rfl⟩
  | [a] => exact .inr ⟨by simp, rfl, fun _ _ => rfl, fun _ => rfl, rfl⟩
  | k :: v :: r => exact .inl ⟨k, v, r, rfl⟩

theorem se_rounds (x y : Int) (q : CEx × NSt) : ∀ (m : Nat) (laid : Bool) (l out : List Int), l.length ≤ m → out.length + m + (if laid then 0 else 2) ≤ 1000000000 →
    (outAt (.exit 0) seOut0 [.i x, .i y, .b (laid || (seP l x y).1), .l .ints (tailP l), .l .ints (out ++ (if laid then evenP l else (seP l x y).2))]).ev = some q →
    ∃ k, (rounds Try.prog drpE [] 30 seId 15 none seSk k [.i x, .i y, .b laid, .l .ints l, .l .ints out]).ev = some q
  | m, laid, l, out, hm, hs, hq => by
    rcases len_gt1' l with ⟨k, v, r, rfl⟩ | ⟨h1, h2, h3, _, h4⟩
    · match m, hm with
      | 0, hm => simp at hm
      | 1, hm => simp at hm
      | m + 2, hm =>
        have hb : ∀ (o : List Int) (a b : Int), o.length + 2 ≤ 1000000000 → roomB (o.length + [a, b].length) 8 = true := fun o a b h => roomB_small (by rw [small_iff]; simp; omega) (by decide)
        cases laid with
        | true =>
          simp only [tailP, evenP, if_true, Bool.true_or] at hq
          obtain ⟨n, ih⟩ := se_rounds x y q m true r (out ++ [k, v]) (by simp at hm; omega) (by simp; simp at hs; omega) (by rw [List.append_assoc]; simpa using hq)
          refine ⟨n + 1, cut_ev _ _ ((se_round n x y true (k :: v :: r) out).trans ?_)⟩
          simp only [T.ev_ite, two_gt, two_in0, two_in1, two_le, hb out _ _ (by simp at hs; omega), if_true, Bool.not_true, Bool.false_eq_true, if_false]
          exact ih
        | false =>
          simp only [Bool.false_eq_true, if_false] at hs
          by_cases hk : x ≤ k
          · simp only [tailP, seP, hk, if_true, Bool.false_or, Bool.false_eq_true, if_false] at hq
            obtain ⟨n, ih⟩ := se_rounds x y q m true r (out ++ [x, y] ++ [k, v]) (by simp at hm; omega) (by simp; omega) (by rw [List.append_assoc, List.append_assoc]; simpa using hq)
            refine ⟨n + 1, cut_ev _ _ ((se_round n x y false (k :: v :: r) out).trans ?_)⟩
            have e : decide ((k :: v :: r).getD (Int.toNat 0) RC.ints.zero ≥ x) = true := by rw [decide_eq_true_eq]; exact hk
            have e2 : ∀ a b c d : Int, roomB (out.length + [a, b].length + [c, d].length) 8 = true := fun a b c d => roomB_small (by rw [small_iff]; simp; omega) (by decide)
            simp only [T.ev_ite, two_gt, two_in0, two_in1, two_le, hb out _ _ (by omega), e, e2, if_true, Bool.not_false]
            exact ih
          · simp only [tailP, seP, hk, if_false, Bool.false_or, Bool.false_eq_true] at hq
            obtain ⟨n, ih⟩ := se_rounds x y q m false r (out ++ [k, v]) (by simp at hm; omega) (by simp; omega) (by rw [List.append_assoc]; simpa using hq)
            refine ⟨n + 1, cut_ev _ _ ((se_round n x y false (k :: v :: r) out).trans ?_)⟩
            have e : decide ((k :: v :: r).getD (Int.toNat 0) RC.ints.zero ≥ x) = false := by rw [decide_eq_false_iff_not]; exact hk
            simp only [T.ev_ite, two_gt, two_in0, two_in1, two_le, hb out _ _ (by omega), e, if_true, Bool.not_false, Bool.false_eq_true, if_false]
            exact ih
    · rw [h2, h3, h4] at hq
      refine ⟨1, cut_ev _ _ ((se_round 0 x y laid l out).trans ?_)⟩
      rw [T.ev_ite, show decide ((l.length : Int) > 1) = false from decide_eq_false h1]
      have e : (if laid = true then ([] : List Int) else []) = [] := by split <;> rfl
      simp only [e, List.append_nil, Bool.or_false] at hq
      exact hq

theorem drop_one' {l : List Int} {i : Nat} (h : ¬ i + 1 < l.length) : ∀ x, rsP (l.drop i) x = 0 := by
  rcases len_gt1' (l.drop i) with ⟨k, v, r, e⟩ | ⟨h1, h2, h3, h4, h5⟩
  · have := congrArg List.length e; simp at this; omega
  · exact h4

theorem rs_rounds (l : List Int) (hs : l.length ≤ 1000000000) (x y : Int) (q : CEx × NSt) : ∀ (d i : Nat) (out : List Int), l.length ≤ i + d → out.length ≤ i →
    (outAt (.exit 0) rsSk [.i x, .i y, .l .ints l, .i ((i + rsP (l.drop i) x : Nat) : Int), .l .ints (out ++ (l.drop i).take (rsP (l.drop i) x))]).ev = some q → i ≤ 1000000002 →
    ∃ k, (rounds Try.prog drpE [] 30 rsId 7 none rsSk k [.i x, .i y, .l .ints l, .i i, .l .ints out]).ev = some q
  | d, i, out, hd, ho, hq, hi => by
    have w1 : IntKind.i64.wrap ((i : Int) + 1) = ((i + 1 : Nat) : Int) := by rw [wrap64 (by omega) (by omega)]; omega
    by_cases h : i + 1 < l.length
    · rw [drop_two h] at hq
      have h0 : decide (((i + 1 : Nat) : Int) < (l.length : Int)) = true := by rw [decide_eq_true_eq]; omega
      have h1 : inRange (i : Int) l.length = true := by rw [inRange_iff]; omega
      have h2 : inRange ((i + 1 : Nat) : Int) l.length = true := by rw [inRange_iff]; omega
      have w2 : IntKind.i64.wrap ((i : Int) + 2) = ((i + 2 : Nat) : Int) := by rw [wrap64 (by omega) (by omega)]; omega
      have hb : ∀ a b : Int, roomB (out.length + [a, b].length) 8 = true := fun a b => roomB_small (by rw [small_iff]; simp; omega) (by decide)
      match d, hd with
      | 0, hd => omega
      | 1, hd => omega
      | d + 2, hd =>
        by_cases hk : l.getD i 0 < x
        · simp only [rsP, hk, if_true] at hq
          obtain ⟨n, ih⟩ := rs_rounds l hs x y q d (i + 2) (out ++ [l.getD i 0, l.getD (i + 1) 0]) (by omega) (by simp; omega) (by
            rw [List.append_assoc, show i + 2 + rsP (l.drop (i + 2)) x = i + (rsP (l.drop (i + 2)) x + 2) by omega]; exact hq) (by omega)
          refine ⟨n + 1, cut_ev _ _ ((rs_round n x y l i out).trans ?_)⟩
          rw [w1, w2]
          have e : decide (l.getD i RC.ints.zero < x) = true := by rw [decide_eq_true_eq]; exact hk
          simp only [T.ev_ite, h0, h1, h2, e, hb, Int.toNat_natCast, if_true]
          exact ih
        · simp only [rsP, hk, if_false, List.take_zero, List.append_nil, Nat.add_zero] at hq
          refine ⟨1, cut_ev _ _ ((rs_round 0 x y l i out).trans ?_)⟩
          rw [w1]
          have e : decide (l.getD i RC.ints.zero < x) = false := by rw [decide_eq_false_iff_not]; exact hk
          simp only [T.ev_ite, h0, h1, e, Int.toNat_natCast, if_true, Bool.false_eq_true, if_false]
          exact hq
    · rw [drop_one' h, List.take_zero, List.append_nil, Nat.add_zero] at hq
      refine ⟨1, cut_ev _ _ ((rs_round 0 x y l i out).trans ?_)⟩
      rw [w1, T.ev_ite, show decide (((i + 1 : Nat) : Int) < (l.length : Int)) = false by rw [decide_eq_false_iff_not]; omega]
      exact hq

def seG : List Leaf → T (CEx × NSt)
  | [.i x, .i y, .b false, .l .ints l, .l .ints []] => T.when (small (l.length + 2)) (outAt (.exit 0) seOut0 [.i x, .i y, .b (seP l x y).1, .l .ints (tailP l), .l .ints (seP l x y).2])
  | _ => .fail
def rsG : List Leaf → T (CEx × NSt)
  | [.i x, .i y, .l .ints l, .i i, .l .ints []] => T.when (i == 0 && small l.length) (outAt (.exit 0) rsSk [.i x, .i y, .l .ints l, .i (rsP l x), .l .ints (l.take (rsP l x))])
  | _ => .fail
theorem se_shape : ShapeOk Try.prog drpE [] seId ⟨15, none, seSk, seG⟩ := by
  refine shapeOk_mk fun ls r h => ?_
  unfold seG at h
  split at h
  · rename_i x y l
    obtain ⟨hc, h1⟩ := ev_when h
    rw [small_iff] at hc
    obtain ⟨k, hk⟩ := se_rounds x y r l.length false l [] (Nat.le_refl _) (by simp; omega) h1
    exact ⟨30, k, hk⟩
  · exact (ev_fail h).elim
theorem rs_shape : ShapeOk Try.prog drpE [] rsId ⟨7, none, rsSk, rsG⟩ := by
  refine shapeOk_mk fun ls r h => ?_
  unfold rsG at h
  split at h
  · rename_i x y l i
    obtain ⟨hc, h1⟩ := ev_when h
    simp only [Bool.and_eq_true, beq_iff_eq, small_iff] at hc
    obtain ⟨rfl, hs⟩ := hc
    obtain ⟨k, hk⟩ := rs_rounds l hs x y r l.length 0 [] (by omega) (by simp) (by simpa using h1) (by omega)
    exact ⟨30, k, hk⟩
  · exact (ev_fail h).elim
def setL : List (Nat × List Nat × LoopFn) := [(37, [0], loopExt seId [⟨15, none, seSk, seG⟩]), (27, [0, 0, 1, 1, 1, 1], loopExt rsId [⟨7, none, rsSk, rsG⟩])]
theorem setL_ok (N : Nat) : LoopsOk Try.prog N setL :=
  loopsOk_cons (loopExt_ok plainN mixedN drpE_ok (fun _ => loopsOk_nil) (all1 se_shape all0) N)
    (loopsOk_cons (loopExt_ok plainN mixedN drpE_ok (fun _ => loopsOk_nil) (all1 rs_shape all0) N) loopsOk_nil)

theorem evenP_even : ∀ (m : Nat) (l : List Int), l.length = 2 * m → evenP l = l
  | 0, [], _ => rfl
  | m + 1, k :: v :: r, h => by rw [evenP, evenP_even m r (by simp at h; omega)]
  | 0, _ :: _, h => by simp at h
  | m + 1, [], h => by simp at h
  | m + 1, [_], h => by simp at h; omega
theorem setP_same (x y : Int) : ∀ (m : Nat) (l : List Int), l.length = 2 * m → setP l x y = l.take (rsP l x) ++ [x, y] ++ l.drop (rsP l x)
  | 0, [], _ => rfl
  | m + 1, k :: v :: r, h => by
    have he : evenP r = r := evenP_even m r (by simp at h; omega)
    have ih := setP_same x y m r (by simp at h; omega)
    by_cases hk : x ≤ k
    · simp [setP, seP, rsP, hk, he, show ¬ k < x by omega]
    · simp only [setP] at ih
      simp only [setP, seP, rsP, hk, show k < x by omega, if_true, if_false]
      simp only [List.take_succ_cons, List.drop_succ_cons, List.cons_append, ← ih]
      split <;> simp
  | 0, _ :: _, h => by simp at h
  | m + 1, [], h => by simp at h
  | m + 1, [_], h => by simp at h; omega
theorem dropP_even (x : Int) : ∀ (l : List Int), ∃ m, (dropP l x).length = 2 * m
  | [] => ⟨0, rfl⟩
  | [_] => ⟨0, rfl⟩
  | k :: v :: r => by
    obtain ⟨m, hm⟩ := dropP_even x r
    simp only [dropP]
    split
    · exact ⟨m, hm⟩
    · exact ⟨m + 1, by simp; omega⟩
theorem rsP_le (x : Int) : ∀ (l : List Int), rsP l x ≤ l.length
  | [] => by simp [rsP]
  | [_] => by simp [rsP]
  | k :: v :: r => by
    have := rsP_le x r
    simp only [rsP]; split <;> simp <;> omega
theorem seP_length (x y : Int) : ∀ (l : List Int), (seP l x y).2.length ≤ l.length + 2 ∧ (evenP l).length ≤ l.length
  | [] => by simp [seP, evenP]
  | [_] => by simp [seP, evenP]
  | k :: v :: r => by
    have := seP_length x y r
    simp only [seP, evenP]; split <;> simp <;> omega

end Go.Proofs.YtffgmpkcfohhgaaD
