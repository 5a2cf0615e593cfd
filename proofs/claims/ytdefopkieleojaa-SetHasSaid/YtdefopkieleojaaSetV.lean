/-
  Chapter 07: SetGrows' first loop.
-/
import Derived.Test.YtdefopkieleojaaSetU
set_option linter.unusedVariables false
set_option linter.unusedSimpArgs false
namespace Go.Proofs.YtdefopkieleojaaD
open Go Go.RowKit

theorem set_ins {s : List Int} (x : Int) (h : riseB s = true) : setA 2 0 s 3 x 0 = ⟨⟨2, 0, withN s x⟩, ⟨2, if hasN s x then 0 else 1⟩, 0⟩ := by
  have hc : checkN 2 0 s = 0 := check2.2 ⟨rfl, h⟩
  unfold setA; simp [hc]
theorem rev_getD (l : List Int) (i : Nat) (h : i < l.length) : l.reverse.getD i 0 = l.getD (l.length - 1 - i) 0 := by
  rw [List.getD_eq_getElem?_getD, List.getD_eq_getElem?_getD, List.getElem?_reverse h]

theorem ga_rounds (l : List Int) (hl : l.length ≤ 1000000) (b ok : Bool) (t3 n3 t4 n4 : Int) (r : CEx × NSt) : ∀ (d i : Nat) (s s2 : List Int), i + d = l.length → riseB s = true → riseB s2 = true → s.length ≤ i → s2.length ≤ i →
    (outAt (.exit 0) gaOut0 [.l .ints l, .b b, .b ok, .i (grow s (l.drop i)).length, .i 2, .i 0, .l .ints (grow s (l.drop i)), .i 2, .i 0, .l .ints (grow s2 (l.reverse.drop i)), .i t3, .i n3, .i t4, .i n4]).ev = some r →
    ∃ k, (rounds Try.prog lawE [] 30 gaId 22 none gaSk k [.l .ints l, .b b, .b ok, .i s.length, .i i, .i 2, .i 0, .l .ints s, .i 2, .i 0, .l .ints s2, .i t3, .i n3, .i t4, .i n4]).ev = some r
  | 0, i, s, s2, h, h1, h2, h3, h4, hr => by
    refine ⟨1, cut_ev _ _ ((ga_round 0 l b ok s.length i 2 0 s 2 0 s2 t3 n3 t4 n4).trans ?_)⟩
    rw [List.drop_eq_nil_of_le (by omega), List.drop_eq_nil_of_le (by rw [List.length_reverse]; omega)] at hr
    rw [T.ev_ite, show decide ((i : Int) < ↑l.length) = false by simp; omega]
    exact hr
  | d + 1, i, s, s2, h, h1, h2, h3, h4, hr => by
    rw [getD_cons (l := l) (i := i) (by omega) 0, getD_cons (l := l.reverse) (i := i) (by rw [List.length_reverse]; omega) 0, rev_getD l i (by omega)] at hr
    have hi : decide ((i : Int) < ↑l.length) = true := by rw [decide_eq_true_eq]; omega
    have hin : inRange (i : Int) l.length = true := by rw [inRange_iff]; omega
    have wi : IntKind.i64.wrap ((i : Int) + 1) = ((i + 1 : Nat) : Int) := by rw [wrap64 (by omega) (by omega)]; omega
    have wj : IntKind.i64.wrap (IntKind.i64.wrap ((l.length : Int) - 1) - i) = ((l.length - 1 - i : Nat) : Int) := by rw [wrap64 (n := (l.length : Int) - 1) (by omega) (by omega), wrap64 (by omega) (by omega)]; omega
    have hjn : inRange ((l.length - 1 - i : Nat) : Int) l.length = true := by rw [inRange_iff]; omega
    have hm1 : midB s = true := by rw [midB, Nat.ble_eq]; omega
    have hm2 : midB s2 = true := by rw [midB, Nat.ble_eq]; omega
    have e1 := set_ins (l.getD i RC.ints.zero) h1
    have e2 := set_ins (l.getD (l.length - 1 - i) RC.ints.zero) h2
    have w1 := with_length (l.getD i 0) h1
    have w2 := with_length (l.getD (l.length - 1 - i) 0) h2
    obtain ⟨k, ih⟩ := ga_rounds l hl b ok t3 n3 t4 n4 r d (i + 1) (withN s (l.getD i 0)) (withN s2 (l.getD (l.length - 1 - i) 0)) (by omega) (rise_with _ h1) (rise_with _ h2) (by split at w1 <;> omega) (by split at w2 <;> omega) hr
    refine ⟨k + 1, cut_ev _ _ ((ga_round k l b ok s.length i 2 0 s 2 0 s2 t3 n3 t4 n4).trans ?_)⟩
    have z0 : ((0 : Int) != 0) = false := by decide
    have wf : IntKind.i64.wrap ((s.length : Int) + (if hasN s (l.getD i RC.ints.zero) then 0 else 1)) = (((withN s (l.getD i 0)).length : Nat) : Int) := by
      have w3 : (withN s (l.getD i 0)).length = if hasN s (l.getD i RC.ints.zero) then s.length else s.length + 1 := w1
      rw [w3]
      split
      · rw [wrap64 (by omega) (by omega)]; omega
      · rw [wrap64 (by omega) (by omega)]; omega
    have r1 : decide ((if hasN s (l.getD i RC.ints.zero) = true then (0 : Int) else 1) < 0) = false := by rw [decide_eq_false_iff_not]; split <;> omega
    have r2 : decide ((if hasN s (l.getD i RC.ints.zero) = true then (0 : Int) else 1) > 1) = false := by rw [decide_eq_false_iff_not]; split <;> omega
    simp only [T.ev_ite, hi, hin, wj, hjn, hm1, hm2, Int.toNat_natCast, e1, e2, z0, r1, r2, wf, wi, if_true, Bool.false_eq_true, if_false]
    exact ih
def gaG : List Leaf → T (CEx × NSt)
  | [.l .ints l, .b b, .b ok, .i f, .i i, .i t, .i n, .l .ints [], .i t2, .i n2, .l .ints [], .i t3, .i n3, .i t4, .i n4] =>
    T.when (f == 0 && i == 0 && t == 2 && n == 0 && t2 == 2 && n2 == 0 && Nat.ble l.length 1000000)
      (outAt (.exit 0) gaOut0 [.l .ints l, .b b, .b ok, .i (grow [] l).length, .i 2, .i 0, .l .ints (grow [] l), .i 2, .i 0, .l .ints (grow [] l), .i t3, .i n3, .i t4, .i n4])
  | _ => .fail
theorem hasN_rev (l : List Int) (y : Int) : hasN l.reverse y = hasN l y := by rw [Bool.eq_iff_iff, hasN_mem, hasN_mem, List.mem_reverse]
theorem grow_rev (l : List Int) : grow [] l.reverse = grow [] l :=
  rise_ext (grow_rise _ rfl) (grow_rise _ rfl) fun y => by rw [grow_has _ y rfl, grow_has _ y rfl, hasN_rev]
theorem ga_shape : ShapeOk Try.prog lawE [] gaId ⟨22, none, gaSk, gaG⟩ := by
  refine shapeOk_mk fun ls r h => ?_
  unfold gaG at h
  split at h
  · rename_i l b ok f i t n t2 n2 t3 n3 t4 n4
    obtain ⟨hc, h1⟩ := ev_when h
    simp only [Bool.and_eq_true, beq_iff_eq, Nat.ble_eq] at hc
    obtain ⟨⟨⟨⟨⟨⟨rfl, rfl⟩, rfl⟩, rfl⟩, rfl⟩, rfl⟩, hs⟩ := hc
    obtain ⟨k, hk⟩ := ga_rounds l hs b ok t3 n3 t4 n4 r l.length 0 [] [] (by omega) rfl rfl (by simp) (by simp) (by simp only [List.drop_zero, grow_rev]; exact h1)
    exact ⟨30, k, hk⟩
  · exact (ev_fail h).elim
def gaL : List (Nat × List Nat × LoopFn) := [(7, [0, 1, 0, 1, 1, 1, 1], loopExt gaId [⟨22, none, gaSk, gaG⟩])]
theorem gaL_ok (N : Nat) : LoopsOk Try.prog N gaL :=
  loopsOk_cons (loopExt_ok plainN mixedN lawE_ok (fun _ => loopsOk_nil) (all1 ga_shape all0) N) loopsOk_nil

end Go.Proofs.YtdefopkieleojaaD
