/-
  Chapter 08: lists of keys and values: what the loops come to.
-/
import Derived.Test.YtffgmpkcfohhgaaMapA1
set_option linter.unusedVariables false
set_option linter.unusedSimpArgs false
namespace Go.Proofs.YtffgmpkcfohhgaaD
open Go Go.RowKit

/-- A key's value, whether it is there, and what is left of the list then. -/
def findP : List Int → Int → Int × Bool × List Int
  | k :: v :: r, x => if k = x then (v, true, k :: v :: r) else findP r x
  | l, _ => (0, false, l)
def dropP : List Int → Int → List Int
  | k :: v :: r, x => if k = x then dropP r x else k :: v :: dropP r x
  | _, _ => []
def tailP : List Int → List Int
  | _ :: _ :: r => tailP r
  | l => l
theorem dropP_length : ∀ (l : List Int) (x : Int), (dropP l x).length ≤ l.length
  | [], x => by simp [dropP]
  | [_], x => by simp [dropP]
  | k :: v :: r, x => by
    have := dropP_length r x
    simp only [dropP]; split <;> simp <;> omega
theorem len_gt1 (l : List Int) : (∃ k v r, l = k :: v :: r) ∨ (¬ ((l.length : Int) > 1) ∧ (∀ x, findP l x = (0, false, l)) ∧ (∀ x, dropP l x = []) ∧ tailP l = l) := by
  match l with
  | [] => exact .inr ⟨by simp, fun _ => rfl, fun _ => rfl, rfl⟩
  | [a] => exact .inr ⟨by simp, fun _ => rfl, fun _ => rfl, rfl⟩
  | k :: v :: r => exact .inl ⟨k, v, r, rfl⟩
theorem two_gt {k v : Int} {r : List Int} : decide ((((k :: v :: r).length : Nat) : Int) > 1) = true := by rw [decide_eq_true_eq]; simp; omega
theorem two_in0 {k v : Int} {r : List Int} : inRange 0 (k :: v :: r).length = true := by rw [inRange_iff]; simp; omega
theorem two_in1 {k v : Int} {r : List Int} : inRange 1 (k :: v :: r).length = true := by rw [inRange_iff]; simp; omega
theorem two_le {k v : Int} {r : List Int} : (decide ((0 : Int) ≤ 2) && decide ((2 : Int) ≤ ((hi0 (k :: v :: r).length none : Nat) : Int))) = true := by
  rw [Bool.and_eq_true]; exact ⟨by decide, by rw [decide_eq_true_eq]; show (2 : Int) ≤ ((r.length + 1 + 1 : Nat) : Int); omega⟩

theorem fi_rounds (x : Int) (q : CEx × NSt) : ∀ (m : Nat) (l : List Int), l.length ≤ m →
    (T.ite (findP l x).2.1 (outAt .ret fiOut0 [.i x, .i (findP l x).1, .b true, .l .ints (findP l x).2.2]) (outAt (.exit 0) fiOut1 [.i x, .i 0, .b false, .l .ints (findP l x).2.2])).ev = some q →
    ∃ k, (rounds Try.prog [] [] 30 paId 11 none fiSk k [.i x, .i 0, .b false, .l .ints l]).ev = some q
  | m, l, hm, hq => by
    rcases len_gt1 l with ⟨k, v, r, rfl⟩ | ⟨h1, h2, _, _⟩
    · by_cases hk : k = x
      · simp only [findP, hk, if_true] at hq
        refine ⟨1, cut_ev _ _ ((fi_round 0 x 0 false (k :: v :: r)).trans ?_)⟩
        have e : ((k :: v :: r).getD (Int.toNat 0) RC.ints.zero == x) = true := by rw [beq_iff_eq]; exact hk
        simp only [T.ev_ite, two_gt, two_in0, two_in1, e, if_true]
        subst hk
        exact hq
      · simp only [findP, hk, if_false] at hq
        match m, hm with
        | m + 2, hm =>
          obtain ⟨n, ih⟩ := fi_rounds x q m r (by simp at hm; omega) hq
          refine ⟨n + 1, cut_ev _ _ ((fi_round n x 0 false (k :: v :: r)).trans ?_)⟩
          have e : ((k :: v :: r).getD (Int.toNat 0) RC.ints.zero == x) = false := by rw [beq_eq_false_iff_ne]; exact hk
          simp only [T.ev_ite, two_gt, two_in0, two_in1, two_le, e, if_true, Bool.false_eq_true, if_false]
          exact ih
        | 0, hm => simp at hm
        | 1, hm => simp at hm
    · rw [h2] at hq
      refine ⟨1, cut_ev _ _ ((fi_round 0 x 0 false l).trans ?_)⟩
      rw [T.ev_ite, show decide ((l.length : Int) > 1) = false from decide_eq_false h1]
      exact hq

theorem dr_rounds (x : Int) (q : CEx × NSt) : ∀ (m : Nat) (l out : List Int), l.length ≤ m → out.length + m ≤ 1000000000 →
    (outAt (.exit 0) drOut0 [.i x, .l .ints (tailP l), .l .ints (out ++ dropP l x)]).ev = some q →
    ∃ k, (rounds Try.prog [] [] 30 pdId 10 none drSk k [.i x, .l .ints l, .l .ints out]).ev = some q
  | m, l, out, hm, hs, hq => by
    rcases len_gt1 l with ⟨k, v, r, rfl⟩ | ⟨h1, _, h2, h3⟩
    · match m, hm with
      | 0, hm => simp at hm
      | 1, hm => simp at hm
      | m + 2, hm =>
        by_cases hk : k = x
        · simp only [tailP, dropP, hk, if_true] at hq
          obtain ⟨n, ih⟩ := dr_rounds x q m r out (by simp at hm; omega) (by omega) hq
          refine ⟨n + 1, cut_ev _ _ ((dr_round n x (k :: v :: r) out).trans ?_)⟩
          have e : ((k :: v :: r).getD (Int.toNat 0) RC.ints.zero != x) = false := by rw [bne_eq_false_iff_eq]; exact hk
          simp only [T.ev_ite, two_gt, two_in0, two_in1, two_le, e, if_true, Bool.false_eq_true, if_false]
          exact ih
        · simp only [tailP, dropP, hk, if_false] at hq
          obtain ⟨n, ih⟩ := dr_rounds x q m r (out ++ [k, v]) (by simp at hm; omega) (by simp; omega) (by rw [List.append_assoc]; exact hq)
          refine ⟨n + 1, cut_ev _ _ ((dr_round n x (k :: v :: r) out).trans ?_)⟩
          have e : ((k :: v :: r).getD (Int.toNat 0) RC.ints.zero != x) = true := by rw [bne_iff_ne]; exact hk
          have hb : ∀ a b : Int, roomB (out.length + [a, b].length) 8 = true := fun a b => roomB_small (by rw [small_iff]; simp; omega) (by decide)
          simp only [T.ev_ite, two_gt, two_in0, two_in1, two_le, e, hb, if_true]
          exact ih
    · rw [h2, h3, List.append_nil] at hq
      refine ⟨1, cut_ev _ _ ((dr_round 0 x l out).trans ?_)⟩
      rw [T.ev_ite, show decide ((l.length : Int) > 1) = false from decide_eq_false h1]
      exact hq

theorem drop_two {l : List Int} {i : Nat} (h : i + 1 < l.length) : l.drop i = l.getD i 0 :: l.getD (i + 1) 0 :: l.drop (i + 2) := by
  rw [getD_cons (l := l) (i := i) (by omega) 0, getD_cons (l := l) (i := i + 1) h 0]
theorem drop_one {l : List Int} {i : Nat} (h : ¬ i + 1 < l.length) : (∀ x, findP (l.drop i) x = (0, false, l.drop i)) ∧ (∀ x, dropP (l.drop i) x = []) := by
  rcases len_gt1 (l.drop i) with ⟨k, v, r, e⟩ | ⟨h1, h2, h3, h4⟩
  · have := congrArg List.length e; simp at this; omega
  · exact ⟨h2, h3⟩

theorem rf_rounds (l : List Int) (hs : l.length ≤ 1000000000) (x r : Int) (is : Bool) (q : CEx × NSt) : ∀ (d i : Nat), l.length ≤ i + d →
    (T.ite (findP (l.drop i) x).2.1 (outAt .ret rfOut0 [.i (findP (l.drop i) x).1, .b true]) (outAt (.exit 0) rfOut0 [.i r, .b is])).ev = some q → i ≤ 1000000002 →
    ∃ k, (rounds Try.prog [] [] 30 rfId 3 none rfSk k [.l .ints l, .i x, .i r, .b is, .i i]).ev = some q
  | d, i, hd, hq, hi => by
    have w1 : IntKind.i64.wrap ((i : Int) + 1) = ((i + 1 : Nat) : Int) := by rw [wrap64 (by omega) (by omega)]; omega
    by_cases h : i + 1 < l.length
    · rw [drop_two h] at hq
      have h0 : decide (((i + 1 : Nat) : Int) < (l.length : Int)) = true := by rw [decide_eq_true_eq]; omega
      have h1 : inRange (i : Int) l.length = true := by rw [inRange_iff]; omega
      have h2 : inRange ((i + 1 : Nat) : Int) l.length = true := by rw [inRange_iff]; omega
      by_cases hk : l.getD i 0 = x
      · simp only [findP, hk, if_true] at hq
        refine ⟨1, (rf_round 0 l x r is i).trans ?_⟩
        rw [w1]
        have e : (l.getD i RC.ints.zero == x) = true := by rw [beq_iff_eq]; exact hk
        simp only [T.ev_ite, h0, h1, h2, e, Int.toNat_natCast, if_true]
        exact hq
      · simp only [findP, hk, if_false] at hq
        match d, hd with
        | 0, hd => omega
        | 1, hd => omega
        | d + 2, hd =>
          obtain ⟨n, ih⟩ := rf_rounds l hs x r is q d (i + 2) (by omega) hq (by omega)
          refine ⟨n + 1, (rf_round n l x r is i).trans ?_⟩
          rw [w1]
          have e : (l.getD i RC.ints.zero == x) = false := by rw [beq_eq_false_iff_ne]; exact hk
          simp only [T.ev_ite, h0, h1, e, Int.toNat_natCast, if_true, Bool.false_eq_true, if_false]
          rw [wrap64 (by omega) (by omega), show ((i : Int) + 2) = ((i + 2 : Nat) : Int) by omega]
          exact ih
    · rw [(drop_one h).1] at hq
      refine ⟨1, (rf_round 0 l x r is i).trans ?_⟩
      rw [w1, T.ev_ite, show decide (((i + 1 : Nat) : Int) < (l.length : Int)) = false by rw [decide_eq_false_iff_not]; omega]
      exact hq

theorem rd_rounds (l : List Int) (hs : l.length ≤ 1000000000) (x : Int) (q : CEx × NSt) : ∀ (d i : Nat) (out : List Int), l.length ≤ i + d → out.length ≤ i →
    (outAt (.exit 0) rdOut0 [.l .ints (out ++ dropP (l.drop i) x)]).ev = some q → i ≤ 1000000002 →
    ∃ k, (rounds Try.prog [] [] 30 rdId 3 none rdSk k [.l .ints l, .i x, .i i, .l .ints out]).ev = some q
  | d, i, out, hd, ho, hq, hi => by
    have w1 : IntKind.i64.wrap ((i : Int) + 1) = ((i + 1 : Nat) : Int) := by rw [wrap64 (by omega) (by omega)]; omega
    by_cases h : i + 1 < l.length
    · rw [drop_two h] at hq
      have h0 : decide (((i + 1 : Nat) : Int) < (l.length : Int)) = true := by rw [decide_eq_true_eq]; omega
      have h1 : inRange (i : Int) l.length = true := by rw [inRange_iff]; omega
      have h2 : inRange ((i + 1 : Nat) : Int) l.length = true := by rw [inRange_iff]; omega
      have w2 : IntKind.i64.wrap ((i : Int) + 2) = ((i + 2 : Nat) : Int) := by rw [wrap64 (by omega) (by omega)]; omega
      have hb : ∀ a b : Int, roomB (out.length + [a, b].length) 8 = true := fun a b => roomB_small (by rw [small_iff]; simp; omega) (by decide)
      match d, hd with
      | 0, hd => omega
      | 1, hd => omega
      | d + 2, hd =>
        by_cases hk : l.getD i 0 = x
        · simp only [dropP, hk, if_true] at hq
          obtain ⟨n, ih⟩ := rd_rounds l hs x q d (i + 2) out (by omega) (by omega) hq (by omega)
          refine ⟨n + 1, cut_ev _ _ ((rd_round n l x i out).trans ?_)⟩
          rw [w1, w2]
          have e : (l.getD i RC.ints.zero != x) = false := by rw [bne_eq_false_iff_eq]; exact hk
          simp only [T.ev_ite, h0, h1, e, Int.toNat_natCast, if_true, Bool.false_eq_true, if_false]
          exact ih
        · simp only [dropP, hk, if_false] at hq
          obtain ⟨n, ih⟩ := rd_rounds l hs x q d (i + 2) (out ++ [l.getD i 0, l.getD (i + 1) 0]) (by omega) (by simp; omega) (by rw [List.append_assoc]; exact hq) (by omega)
          refine ⟨n + 1, cut_ev _ _ ((rd_round n l x i out).trans ?_)⟩
          rw [w1, w2]
          have e : (l.getD i RC.ints.zero != x) = true := by rw [bne_iff_ne]; exact hk
          simp only [T.ev_ite, h0, h1, h2, e, hb, Int.toNat_natCast, if_true]
          exact ih
    · rw [(drop_one h).2, List.append_nil] at hq
      refine ⟨1, cut_ev _ _ ((rd_round 0 l x i out).trans ?_)⟩
      rw [w1, T.ev_ite, show decide (((i + 1 : Nat) : Int) < (l.length : Int)) = false by rw [decide_eq_false_iff_not]; omega]
      exact hq

def fiG : List Leaf → T (CEx × NSt)
  | [.i x, .i v, .b false, .l .ints l] => T.when (v == 0 && small l.length) (.ite (findP l x).2.1 (outAt .ret fiOut0 [.i x, .i (findP l x).1, .b true, .l .ints (findP l x).2.2]) (outAt (.exit 0) fiOut1 [.i x, .i 0, .b false, .l .ints (findP l x).2.2]))
  | _ => .fail
def drG : List Leaf → T (CEx × NSt)
  | [.i x, .l .ints l, .l .ints []] => T.when (small l.length) (outAt (.exit 0) drOut0 [.i x, .l .ints (tailP l), .l .ints (dropP l x)])
  | _ => .fail
def rfG : List Leaf → T (CEx × NSt)
  | [.l .ints l, .i x, .i r, .b is, .i i] => T.when (i == 0 && small l.length) (.ite (findP l x).2.1 (outAt .ret rfOut0 [.i (findP l x).1, .b true]) (outAt (.exit 0) rfOut0 [.i r, .b is]))
  | _ => .fail
def rdG : List Leaf → T (CEx × NSt)
  | [.l .ints l, .i x, .i i, .l .ints []] => T.when (i == 0 && small l.length) (outAt (.exit 0) rdOut0 [.l .ints (dropP l x)])
  | _ => .fail
theorem fi_shape : ShapeOk Try.prog [] [] paId ⟨11, none, fiSk, fiG⟩ := by
  refine shapeOk_mk fun ls r h => ?_
  unfold fiG at h
  split at h
  · rename_i x v l
    obtain ⟨hc, h1⟩ := ev_when h
    simp only [Bool.and_eq_true, beq_iff_eq, small_iff] at hc
    obtain ⟨rfl, hs⟩ := hc
    obtain ⟨k, hk⟩ := fi_rounds x r l.length l (Nat.le_refl _) h1
    exact ⟨30, k, hk⟩
  · exact (ev_fail h).elim
theorem dr_shape : ShapeOk Try.prog [] [] pdId ⟨10, none, drSk, drG⟩ := by
  refine shapeOk_mk fun ls r h => ?_
  unfold drG at h
  split at h
  · rename_i x l
    obtain ⟨hc, h1⟩ := ev_when h
    rw [small_iff] at hc
    obtain ⟨k, hk⟩ := dr_rounds x r l.length l [] (Nat.le_refl _) (by simp; omega) h1
    exact ⟨30, k, hk⟩
  · exact (ev_fail h).elim
theorem rf_shape : ShapeOk Try.prog [] [] rfId ⟨3, none, rfSk, rfG⟩ := by
  refine shapeOk_mk fun ls r h => ?_
  unfold rfG at h
  split at h
  · rename_i l x v is i
    obtain ⟨hc, h1⟩ := ev_when h
    simp only [Bool.and_eq_true, beq_iff_eq, small_iff] at hc
    obtain ⟨rfl, hs⟩ := hc
    obtain ⟨k, hk⟩ := rf_rounds l hs x v is r l.length 0 (by omega) h1 (by omega)
    exact ⟨30, k, hk⟩
  · exact (ev_fail h).elim
theorem rd_shape : ShapeOk Try.prog [] [] rdId ⟨3, none, rdSk, rdG⟩ := by
  refine shapeOk_mk fun ls r h => ?_
  unfold rdG at h
  split at h
  · rename_i l x i
    obtain ⟨hc, h1⟩ := ev_when h
    simp only [Bool.and_eq_true, beq_iff_eq, small_iff] at hc
    obtain ⟨rfl, hs⟩ := hc
    obtain ⟨k, hk⟩ := rd_rounds l hs x r l.length 0 [] (by omega) (by simp) h1 (by omega)
    exact ⟨30, k, hk⟩
  · exact (ev_fail h).elim
def refL : List (Nat × List Nat × LoopFn) := [(36, [0, 1, 0, 1], loopExt rfId [⟨3, none, rfSk, rfG⟩]), (28, [0, 1, 0, 1, 1], loopExt rdId [⟨3, none, rdSk, rdG⟩])]
theorem refL_ok (N : Nat) : LoopsOk Try.prog N refL :=
  loopsOk_cons (loopExt_ok plainN mixedN (fun _ => extsOk_nil) (fun _ => loopsOk_nil) (all1 rf_shape all0) N)
    (loopsOk_cons (loopExt_ok plainN mixedN (fun _ => extsOk_nil) (fun _ => loopsOk_nil) (all1 rd_shape all0) N) loopsOk_nil)
def fiL : List (Nat × List Nat × LoopFn) := [(37, [0], loopExt paId [⟨11, none, fiSk, fiG⟩])]
theorem fiL_ok (N : Nat) : LoopsOk Try.prog N fiL :=
  loopsOk_cons (loopExt_ok plainN mixedN (fun _ => extsOk_nil) (fun _ => loopsOk_nil) (all1 fi_shape all0) N) loopsOk_nil
def drL : List (Nat × List Nat × LoopFn) := [(37, [0], loopExt pdId [⟨10, none, drSk, drG⟩])]
theorem drL_ok (N : Nat) : LoopsOk Try.prog N drL :=
  loopsOk_cons (loopExt_ok plainN mixedN (fun _ => extsOk_nil) (fun _ => loopsOk_nil) (all1 dr_shape all0) N) loopsOk_nil

end Go.Proofs.YtffgmpkcfohhgaaD
