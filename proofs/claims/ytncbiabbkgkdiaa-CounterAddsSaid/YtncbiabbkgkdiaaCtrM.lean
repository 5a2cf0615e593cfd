/-
  Chapter 06: the laws CounterTotals, CounterAdds and CounterSums, to all data.
-/
import Derived.Test.YtncbiabbkgkdiaaCtrI
import Derived.Test.YtncbiabbkgkdiaaCtrL
set_option linter.unusedVariables false
set_option linter.unusedSimpArgs false
namespace Go.Proofs.YtncbiabbkgkdiaaD
open Go Go.RowKit

theorem Lf.int64' {x : CV} (h : (Ar.one i6).is x) : ∃ n, x = .int .i64 n ∧ w64 n := by
  obtain ⟨n, rfl, h1, h2⟩ := h
  exact ⟨n, rfl, h1, h2⟩
theorem Lf.ints' {x : CV} (h : (Ar.one (.row .ints)).is x) : ∃ l : List Int, x = .pl .ints l ∧ wfInts l := by
  obtain ⟨l, rfl, h1⟩ := h
  exact ⟨l, rfl, h1⟩

theorem totals_all (xs : List CV) (h : ArsAll [.one i6, .one (.row .ints)] xs) : PureAt Try.prog 4 xs (.bool true) := by
  obtain ⟨_, _, rfl, h1, h2⟩ := h.cons_inv; obtain ⟨n, rfl, wn⟩ := Lf.int64' h1
  obtain ⟨_, _, rfl, h3, h4⟩ := h2.cons_inv; obtain ⟨l, rfl, wl⟩ := Lf.ints' h3
  cases h4.nil_inv
  refine pureAt0 plainN mixedN numE_ok noL (k := 30) ((totals_tree n l).trans ?_) rfl
  simp only [T.ev_ite, T.ev_ret, T.ev_fail, backs_rbacks l wn]
  by_cases hl : l.length ≤ 100
  · have h1 : small l.length = true := by rw [small_iff]; omega
    simp [h1, show ¬ (100 : Int) < l.length by omega]
  · simp [show (100 : Int) < l.length by omega]

theorem add64_comm2 (n a b : Int) : add64 (add64 n a) b = add64 (add64 n b) a := by
  simp only [add64_bmod]
  apply bmod_eq_of
  have h1 := bmod_mod (n + a)
  have h2 := bmod_mod (n + b)
  omega
theorem add64_assoc' (n a b : Int) : add64 (add64 n a) b = add64 n (add64 a b) := by
  simp only [add64_bmod]
  apply bmod_eq_of
  have h1 := bmod_mod (n + a)
  have h2 := bmod_mod (a + b)
  omega
theorem add64_back {n : Int} (hn : w64 n) (a : Int) : add64 (add64 n a) (backs 0 [a]) = n := by
  have e : backs 0 [a] = Int.bmod (0 - [a].sum) 18446744073709551616 := backs_eq [a] 0 ⟨by omega, by omega⟩
  rw [e]
  simp only [add64_bmod]
  have h1 := bmod_mod (n + a)
  have h2 := bmod_mod (0 - [a].sum)
  have h3 : [a].sum = a := by simp
  rw [h3] at h2 ⊢
  rw [bmod_eq_of (b := n) (by omega), bmod_w64 hn]

theorem adds_all (xs : List CV) (h : ArsAll [.one i6, .one i6, .one i6] xs) : PureAt Try.prog 6 xs (.bool true) := by
  obtain ⟨_, _, rfl, h1, h2⟩ := h.cons_inv; obtain ⟨n, rfl, wn⟩ := Lf.int64' h1
  obtain ⟨_, _, rfl, h3, h4⟩ := h2.cons_inv; obtain ⟨a, rfl, wa⟩ := Lf.int64' h3
  obtain ⟨_, _, rfl, h5, h6⟩ := h4.cons_inv; obtain ⟨b, rfl, wb⟩ := Lf.int64' h5
  cases h6.nil_inv
  refine pureAt0 plainN mixedN numE_ok noL (k := 30) ((adds_tree n a b).trans ?_) rfl
  have h7 : inI64 (backs 0 [a]) = true := inI64_iff.2 (by rw [backs_eq [a] 0 ⟨by omega, by omega⟩]; exact w64_bmod _)
  simp only [T.ev_ite, T.ev_ret, T.ev_fail, inI64_iff.2 wa, inI64_iff.2 wb, inI64_iff.2 (w64_add a b), h7, add64_back wn, ← add64_assoc', ← add64_comm2 n a b, beq_self_eq_true, if_true, Bool.and_self]

theorem sums_all (xs : List CV) (h : ArsAll [.one i6, .one (.row .ints), .one i6] xs) : PureAt Try.prog 7 xs (.bool true) := by
  obtain ⟨_, _, rfl, h1, h2⟩ := h.cons_inv; obtain ⟨n, rfl, wn⟩ := Lf.int64' h1
  obtain ⟨_, _, rfl, h3, h4⟩ := h2.cons_inv; obtain ⟨l, rfl, wl⟩ := Lf.ints' h3
  obtain ⟨_, _, rfl, h5, h6⟩ := h4.cons_inv; obtain ⟨c, rfl, wc⟩ := Lf.int64' h5
  cases h6.nil_inv
  refine pureAt0 plainN mixedN sumE_ok csL_ok (k := 30) ((sums_tree n l c).trans ?_) rfl
  by_cases hl : l.length ≤ 60
  · have h1 : small l.length = true := by rw [small_iff]; omega
    have hw : IntKind.i64.wrap ((l.length : Int) + 1) = ((l.length + 1 : Nat) : Int) := by rw [wrap64 (by omega) (by omega)]; omega
    have hp := pick_range c (n := ((l.length + 1 : Nat) : Int)) (by omega)
    obtain ⟨p, hp2⟩ : ∃ p : Nat, pick c ((l.length + 1 : Nat) : Int) = p := ⟨(pick c ((l.length + 1 : Nat) : Int)).toNat, by omega⟩
    rw [hw, hp2]
    rw [hp2] at hp
    have s1 : small (List.take p l).length = true := by rw [small_iff, List.length_take]; omega
    have s2 : small (List.drop p l).length = true := by rw [small_iff, List.length_drop]; omega
    have e1 : total (total n (l.take p)) (l.drop p) = total n l := by rw [← total_append, List.take_append_drop]
    simp only [T.ev_ite, T.ev_ret, T.ev_fail, lpart, hi0, Int.toNat_natCast, h1, s1, s2, e1, wfB_of wl, backs_total l wn]
    simp [show ¬ (60 : Int) < l.length by omega, wc.1, wc.2, show ((p : Int) ≤ l.length) by omega, show ((l.length : Int) + 1 ≤ 9223372036854775807) by omega, show p ≤ l.length by omega]
  · simp [T.ev_ite, T.ev_ret, show (60 : Int) < l.length by omega]

end Go.Proofs.YtncbiabbkgkdiaaD
