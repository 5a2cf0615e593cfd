/-
  Chapter 09: what the loops come to.
-/
import Derived.Test.YtieebjdlmhggpaaFifD
set_option linter.unusedVariables false
set_option linter.unusedSimpArgs false
namespace Go.Proofs.YtieebjdlmhggpaaD
open Go Go.RowKit

theorem eq_rounds (l m : List Int) (b : Bool) (hm : l.length = m.length) (hs : l.length ≤ 1000000000) (r : CEx × NSt) : ∀ (d i : Nat), i + d = l.length →
    (if l.drop i = m.drop i then outAt (.exit 0) eqOut0 [.b b] else outAt .ret eqOut0 [.b false]).ev = some r →
    ∃ k, (rounds Try.prog [] [] 30 eqId 9 none eqSk k [.l .ints l, .l .ints m, .b b, .i l.length, .i i]).ev = some r
  | 0, i, h, hr => ⟨1, by
    rw [eq_round, T.ev_ite, show decide ((i : Int) < ↑l.length) = false by simp; omega]
    rw [List.drop_eq_nil_of_le (by omega), List.drop_eq_nil_of_le (by omega), if_pos rfl] at hr
    exact hr⟩
  | d + 1, i, h, hr => by
    have h1 : (i : Int) < ↑l.length := by omega
    have h2 : inRange (i : Int) l.length = true := by rw [inRange_iff]; omega
    have h3 : inRange (i : Int) m.length = true := by rw [inRange_iff]; omega
    rw [getD_cons (l := l) (by omega) 0, getD_cons (l := m) (by omega) 0] at hr
    by_cases he : l.getD i 0 = m.getD i 0
    · obtain ⟨k, ih⟩ := eq_rounds l m b hm hs r d (i + 1) (by omega) (by rw [he] at hr; simpa only [List.cons.injEq, true_and] using hr)
      refine ⟨k + 1, ?_⟩
      rw [eq_round]
      have hq : (l.getD i RC.ints.zero != m.getD i RC.ints.zero) = false := by simpa [RC.zero] using he
      simp only [T.ev_ite, h1, h2, h3, hq, decide_true, if_true, Int.toNat_natCast, Bool.false_eq_true, if_false]
      rw [wrap64 (by omega) (by omega), show ((i : Int) + 1) = ((i + 1 : Nat) : Int) by omega]
      exact ih
    · refine ⟨1, ?_⟩
      rw [eq_round]
      have hq : (l.getD i RC.ints.zero != m.getD i RC.ints.zero) = true := by simpa [RC.zero] using he
      simp only [T.ev_ite, h1, h2, h3, hq, decide_true, if_true, Int.toNat_natCast]
      rw [if_neg (by intro hh; exact he (List.cons.inj hh).1)] at hr
      exact hr

theorem rs_rounds (l m : List Int) (b : Bool) (hm : m.length ≤ l.length) (hs : l.length ≤ 1000000000) (r : CEx × NSt) : ∀ (d i : Nat), i + d = m.length →
    (if (l.drop i).take d = m.drop i then outAt (.exit 0) rsOut0 [.b b] else outAt .ret rsOut0 [.b false]).ev = some r →
    ∃ k, (rounds Try.prog [] [] 30 rsId 7 none rsSk k [.l .ints l, .l .ints m, .b b, .i i]).ev = some r
  | 0, i, h, hr => ⟨1, by
    rw [rs_round, T.ev_ite, show decide ((i : Int) < ↑m.length) = false by simp; omega]
    rw [List.take_zero, List.drop_eq_nil_of_le (by omega), if_pos rfl] at hr
    exact hr⟩
  | d + 1, i, h, hr => by
    have h1 : (i : Int) < ↑m.length := by omega
    have h2 : inRange (i : Int) l.length = true := by rw [inRange_iff]; omega
    have h3 : inRange (i : Int) m.length = true := by rw [inRange_iff]; omega
    rw [getD_cons (l := l) (by omega) 0, getD_cons (l := m) (by omega) 0, List.take_succ_cons] at hr
    by_cases he : l.getD i 0 = m.getD i 0
    · obtain ⟨k, ih⟩ := rs_rounds l m b hm hs r d (i + 1) (by omega) (by rw [he] at hr; simpa only [List.cons.injEq, true_and] using hr)
      refine ⟨k + 1, ?_⟩
      rw [rs_round]
      have hq : (l.getD i RC.ints.zero != m.getD i RC.ints.zero) = false := by simpa [RC.zero] using he
      simp only [T.ev_ite, h1, h2, h3, hq, decide_true, if_true, Int.toNat_natCast, Bool.false_eq_true, if_false]
      rw [wrap64 (by omega) (by omega), show ((i : Int) + 1) = ((i + 1 : Nat) : Int) by omega]
      exact ih
    · refine ⟨1, ?_⟩
      rw [rs_round]
      have hq : (l.getD i RC.ints.zero != m.getD i RC.ints.zero) = true := by simpa [RC.zero] using he
      simp only [T.ev_ite, h1, h2, h3, hq, decide_true, if_true, Int.toNat_natCast]
      rw [if_neg (by intro hh; exact he (List.cons.inj hh).1)] at hr
      exact hr

theorem odv_rounds (t1 n1 : Int) (l1 : List Int) (t2 n2 : Int) (l2 : List Int) (t3 n3 : Int) (l3 l : List Int) (hs : l.length ≤ 1000000000) (r : CEx × NSt) : ∀ (d s : Nat) (x : Int) (out : List Int), s + d = l.length → out.length + 1 = s →
    (outAt (.exit 0) odV1 [.i t1, .i n1, .l .ints l1, .i t2, .i n2, .l .ints l2, .i t3, .i n3, .l .ints l3, .n (s + d), .n 0, .n 0, .l .ints l, .l .ints (out ++ x :: l.drop s)]).ev = some r →
    ∃ k, (rounds Try.prog cloneE [] 30 odId 73 none odV0 k [.i x, .b true, .i t1, .i n1, .l .ints l1, .i t2, .i n2, .l .ints l2, .i t3, .i n3, .l .ints l3, .n s, .n d, .n d, .l .ints l, .l .ints out]).ev = some r
  | 0, s, x, out, h, ho, hr => by
    refine ⟨2, cut_ev _ _ ((odv_round1 1 x true t1 n1 l1 t2 n2 l2 t3 n3 l3 s 0 0 l out).trans ?_)⟩
    have hb : roomB (out.length + [x].length) 8 = true := roomB_small (by rw [small_iff]; simp; omega) (by decide)
    simp only [T.ev_ite, hb, if_true]
    refine cut_ev _ _ ((odv_round1 0 0 false t1 n1 l1 t2 n2 l2 t3 n3 l3 s 0 0 l (out ++ [x])).trans ?_)
    rw [List.drop_eq_nil_of_le (by omega)] at hr
    exact hr
  | d + 1, s, x, out, h, ho, hr => by
    rw [getD_cons (l := l) (by omega) 0] at hr
    obtain ⟨k, ih⟩ := odv_rounds t1 n1 l1 t2 n2 l2 t3 n3 l3 l hs r d (s + 1) (l.getD s 0) (out ++ [x]) (by omega) (by simp; omega) (by rw [List.append_assoc, show s + 1 + d = s + (d + 1) by omega]; exact hr)
    refine ⟨k + 1, cut_ev _ _ ((odv_round1 k x true t1 n1 l1 t2 n2 l2 t3 n3 l3 s (d + 1) (d + 1) l out).trans ?_)⟩
    have hb : roomB (out.length + [x].length) 8 = true := roomB_small (by rw [small_iff]; simp; omega) (by decide)
    have h1 : (((d + 1 : Nat) : Int) == 0) = false := by rw [beq_eq_false_iff_ne]; omega
    have h2 : inRange (0 : Int) (d + 1) = true := by rw [inRange_iff]; omega
    have h3 : (s + Int.toNat 0).blt l.length = true := by rw [Nat.blt_eq]; simp; omega
    have h4 : (decide ((0 : Int) ≤ 1) && decide ((1 : Int) ≤ ((hi0 (d + 1) none : Nat) : Int))) = true := by rw [Bool.and_eq_true]; exact ⟨by decide, by rw [decide_eq_true_eq]; show (1 : Int) ≤ ((d + 1 : Nat) : Int); omega⟩
    simp only [T.ev_ite, hb, h1, h2, h3, h4, if_true, Bool.false_eq_true, if_false]
    exact ih

def eqG : List Leaf → T (CEx × NSt)
  | [.l .ints l, .l .ints m, .b b, .i n, .i i] => T.when (i == 0 && n == l.length && l.length == m.length && small l.length) (.ite (decide (l = m)) (outAt (.exit 0) eqOut0 [.b b]) (outAt .ret eqOut0 [.b false]))
  | _ => .fail
def rsG : List Leaf → T (CEx × NSt)
  | [.l .ints l, .l .ints m, .b b, .i i] => T.when (i == 0 && Nat.ble m.length l.length && small l.length) (.ite (decide (l.take m.length = m)) (outAt (.exit 0) rsOut0 [.b b]) (outAt .ret rsOut0 [.b false]))
  | _ => .fail
def odG : List Leaf → T (CEx × NSt)
  | [.i x, .b false, .i t1, .i n1, .l .ints l1, .i t2, .i n2, .l .ints l2, .i t3, .i n3, .l .ints l3, .l .ints l] => outAt (.exit 0) odOut0 [.i t1, .i n1, .l .ints l1, .i t2, .i n2, .l .ints l2, .i t3, .i n3, .l .ints l3, .l .ints l]
  | _ => .fail
def odwG : List Leaf → T (CEx × NSt)
  | [.i x, .b true, .i t1, .i n1, .l .ints l1, .i t2, .i n2, .l .ints l2, .i t3, .i n3, .l .ints l3, .n s, .n n, .n c, .l .ints l] =>
    T.when (Nat.beq s 1 && Nat.beq n c && Nat.beq (n + 1) l.length && small l.length && decide (x = l.getD 0 0)) (outAt (.exit 0) odV1 [.i t1, .i n1, .l .ints l1, .i t2, .i n2, .l .ints l2, .i t3, .i n3, .l .ints l3, .n (1 + n), .n 0, .n 0, .l .ints l, .l .ints l])
  | _ => .fail

theorem eq_shape : ShapeOk Try.prog [] [] eqId ⟨9, none, eqSk, eqG⟩ := by
  refine shapeOk_mk fun ls r h => ?_
  unfold eqG at h
  split at h
  · rename_i l m b n i
    obtain ⟨hc, h1⟩ := ev_when h
    simp only [Bool.and_eq_true, beq_iff_eq, small_iff] at hc
    obtain ⟨⟨⟨rfl, rfl⟩, hm⟩, hs⟩ := hc
    obtain ⟨k, hk⟩ := eq_rounds l m b hm hs r l.length 0 (by omega) (by
      rw [T.ev_ite] at h1; simp only [List.drop_zero]; by_cases e : l = m <;> simpa [e] using h1)
    exact ⟨30, k, hk⟩
  · exact (ev_fail h).elim
theorem rs_shape : ShapeOk Try.prog [] [] rsId ⟨7, none, rsSk, rsG⟩ := by
  refine shapeOk_mk fun ls r h => ?_
  unfold rsG at h
  split at h
  · rename_i l m b i
    obtain ⟨hc, h1⟩ := ev_when h
    simp only [Bool.and_eq_true, beq_iff_eq, small_iff, Nat.ble_eq] at hc
    obtain ⟨⟨rfl, hm⟩, hs⟩ := hc
    obtain ⟨k, hk⟩ := rs_rounds l m b hm hs r m.length 0 (by omega) (by
      rw [T.ev_ite] at h1; simp only [List.drop_zero]; by_cases e : l.take m.length = m <;> simpa [e] using h1)
    exact ⟨30, k, hk⟩
  · exact (ev_fail h).elim
theorem od_shape : ShapeOk Try.prog cloneE [] odId ⟨57, none, odSk, odG⟩ := by
  refine shapeOk_mk fun ls r h => ?_
  unfold odG at h
  split at h
  · exact ⟨30, 1, cut_ev _ _ ((od_round 0 _ _ _ _ _ _ _ _ _ _ _).trans h)⟩
  · exact (ev_fail h).elim
theorem odw_shape : ShapeOk Try.prog cloneE [] odId ⟨73, none, odW, odwG⟩ := by
  refine shapeOk_mk fun ls r h => ?_
  unfold odwG at h
  split at h
  · rename_i x t1 n1 l1 t2 n2 l2 t3 n3 l3 s n c l
    obtain ⟨hc, h1⟩ := ev_when h
    simp only [Bool.and_eq_true, nbeq, decide_eq_true_eq, small_iff] at hc
    obtain ⟨⟨⟨⟨rfl, rfl⟩, hn⟩, hs⟩, rfl⟩ := hc
    cases n with
    | zero =>
      refine ⟨30, 2, cut_ev _ _ ((odv_round0 1 _ t1 n1 l1 t2 n2 l2 t3 n3 l3 1 0 0 l).trans ?_)⟩
      simp only [T.ev_ite]
      refine cut_ev _ _ ((odv_round1 0 0 false t1 n1 l1 t2 n2 l2 t3 n3 l3 1 0 0 l [l.getD 0 0]).trans ?_)
      have e : [l.getD 0 0] = l := by
        match l, hn with
        | [x], _ => rfl
      rw [e]; exact h1
    | succ d =>
      obtain ⟨k, hk⟩ := odv_rounds t1 n1 l1 t2 n2 l2 t3 n3 l3 l hs r d 2 (l.getD 1 0) [l.getD 0 0] (by omega) rfl (by
        have e : [l.getD 0 0] ++ l.getD 1 0 :: l.drop 2 = l := by
          match l, hn with
          | x :: y :: q, _ => rfl
        rw [e, show 2 + d = 1 + (d + 1) by omega]; exact h1)
      refine ⟨30, k + 1, cut_ev _ _ ((odv_round0 k _ t1 n1 l1 t2 n2 l2 t3 n3 l3 1 (d + 1) (d + 1) l).trans ?_)⟩
      have h1 : (((d + 1 : Nat) : Int) == 0) = false := by rw [beq_eq_false_iff_ne]; omega
      have h2 : inRange (0 : Int) (d + 1) = true := by rw [inRange_iff]; omega
      have h3 : (1 + Int.toNat 0).blt l.length = true := by rw [Nat.blt_eq]; simp; omega
      have h4 : (decide ((0 : Int) ≤ 1) && decide ((1 : Int) ≤ ((hi0 (d + 1) none : Nat) : Int))) = true := by rw [Bool.and_eq_true]; exact ⟨by decide, by rw [decide_eq_true_eq]; show (1 : Int) ≤ ((d + 1 : Nat) : Int); omega⟩
      simp only [T.ev_ite, h1, h2, h3, h4, if_true, Bool.false_eq_true, if_false]
      exact hk
  · exact (ev_fail h).elim
def fifL1 : List (Nat × List Nat × LoopFn) := [(32, [0, 1, 0, 1, 1], loopExt eqId [⟨9, none, eqSk, eqG⟩]), (18, [0, 1, 0, 1, 1], loopExt rsId [⟨7, none, rsSk, rsG⟩])]
def fifL2 : List (Nat × List Nat × LoopFn) := [(36, [0, 1], loopExt odId [⟨57, none, odSk, odG⟩, ⟨73, none, odW, odwG⟩])]
theorem fifL1_ok (N : Nat) : LoopsOk Try.prog N fifL1 :=
  loopsOk_cons (loopExt_ok plainN mixedN (fun _ => extsOk_nil) (fun _ => loopsOk_nil) (all1 eq_shape all0) N)
    (loopsOk_cons (loopExt_ok plainN mixedN (fun _ => extsOk_nil) (fun _ => loopsOk_nil) (all1 rs_shape all0) N) loopsOk_nil)
theorem fifL2_ok (N : Nat) : LoopsOk Try.prog N fifL2 :=
  loopsOk_cons (loopExt_ok plainN mixedN cloneE_ok (fun _ => loopsOk_nil) (all1 od_shape (all1 odw_shape all0)) N) loopsOk_nil

end Go.Proofs.YtieebjdlmhggpaaD
