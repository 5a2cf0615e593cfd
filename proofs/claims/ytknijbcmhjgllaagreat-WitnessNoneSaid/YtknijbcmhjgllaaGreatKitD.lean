/-
  Shared small functions: contracts.
-/
import Derived.Test.YtknijbcmhjgllaaGreatKitC
set_option linter.unusedVariables false
set_option linter.unusedSimpArgs false
namespace Go.Proofs.YtknijbcmhjgllaaGreatD
open Go Go.RowKit

theorem noE : ∀ N, ExtsOk Tryz.prog N [] := fun _ => extsOk_nil
theorem noL : ∀ N, LoopsOk Tryz.prog N [] := fun _ => loopsOk_nil

theorem sameInts_fn : PureFn Tryz.prog 39 (sigExt [.l .ints, .l .ints] sameIntsG) :=
  pureFn_mk (bodied_ex (by kernel_rfl)) fun args d h => by
    unfold sameIntsG at h
    split at h
    · rename_i l m
      obtain ⟨hc, h1⟩ := ev_when h
      cases ev_ret h1
      refine pureAt0 plainN mixedN noE kitL_ok (k := 30) ((sameInts_tree l m).trans ?_) rfl
      simp only [T.ev_ite, T.ev_ret, T.ev_fail, hc]
      by_cases e : l = m
      · subst e; simp
      · by_cases e2 : l.length = m.length
        · simp [e, e2]
        · have : ¬ ((l.length : Int) = m.length) := by omega
          simp [e, this]
    · exact (ev_fail h).elim
theorem rrises_fn : PureFn Tryz.prog 219 (sigExt [.l .ints] rrisesG) :=
  pureFn_mk (bodied_ex (by kernel_rfl)) fun args d h => by
    unfold rrisesG at h
    split at h
    · rename_i l st
      obtain ⟨hc, h1⟩ := ev_when h
      cases ev_ret h1
      refine pureAt0 plainN mixedN noE kitL_ok (k := 30) ((rrises_tree l st).trans ?_) rfl
      have : (stepOk st st && small l.length) = true := by simpa [stepOk] using hc
      simp only [T.ev_ite, T.ev_ret, T.ev_fail, this, if_true]
      cases rises l st.toNat <;> rfl
    · exact (ev_fail h).elim
theorem frises_fn : PureFn Tryz.prog 124 (sigExt [sgS] frisesG) :=
  pureFn_mk (bodied_ex (by kernel_rfl)) fun args d h => by
    unfold frisesG at h
    split at h
    · rename_i t n l st
      obtain ⟨hc, h1⟩ := ev_when h
      cases ev_ret h1
      refine pureAt0 plainN mixedN noE kitL_ok (k := 30) ((frises_tree t n l st).trans ?_) rfl
      have : (stepOk st st && small l.length) = true := by simpa [stepOk] using hc
      simp only [T.ev_ite, T.ev_ret, T.ev_fail, this, if_true]
      cases rises l st.toNat <;> rfl
    · exact (ev_fail h).elim
theorem copyInts_fn : PureFn Tryz.prog 43 (sigExt [.l .ints] copyIntsG) :=
  pureFn_mk (bodied_ex (by kernel_rfl)) fun args d h => by
    unfold copyIntsG at h
    split at h
    · rename_i l
      obtain ⟨hc, h1⟩ := ev_when h
      cases ev_ret h1
      refine pureAt0 plainN mixedN noE noL (k := 30) ((copyInts_tree l).trans ?_) rfl
      simp [T.ev_ite, T.ev_ret, T.ev_fail, roomB_small hc (b := 8) (by decide)]
    · exact (ev_fail h).elim
theorem kitE1_ok (N : Nat) : ExtsOk Tryz.prog N kitE1 :=
  extsOk_cons (extOk_pure sameInts_fn) (extsOk_cons (extOk_pure copyInts_fn) (extsOk_cons (extOk_pure rrises_fn) (extsOk_cons (extOk_pure frises_fn) extsOk_nil)))

theorem sameState_fn : PureFn Tryz.prog 18 (sigExt [sgS, sgS] sameStateG) :=
  pureFn_mk (bodied_ex (by kernel_rfl)) fun args d h => by
    unfold sameStateG at h
    split at h
    · rename_i t n l t2 n2 l2
      obtain ⟨hc, h1⟩ := ev_when h
      cases ev_ret h1
      refine pureAt0 plainN mixedN kitE1_ok noL (k := 30) ((sameState_tree t n l t2 n2 l2).trans ?_) rfl
      simp only [T.ev_ite, T.ev_ret, T.ev_fail, hc, if_true]
      by_cases e : t = t2 <;> by_cases e2 : n = n2 <;> simp [e, e2]
    · exact (ev_fail h).elim
theorem copyState_fn : PureFn Tryz.prog 21 (sigExt [sgS] copyStateG) :=
  pureFn_mk (bodied_ex (by kernel_rfl)) fun args d h => by
    unfold copyStateG at h
    split at h
    · rename_i t n l
      obtain ⟨hc, h1⟩ := ev_when h
      cases ev_ret h1
      refine pureAt0 plainN mixedN kitE1_ok noL (k := 30) ((copyState_tree t n l).trans ?_) rfl
      simp [T.ev_ite, T.ev_ret, T.ev_fail, hc]
    · exact (ev_fail h).elim

theorem ret_ite {α : Type} (c : Prop) [Decidable c] (x y : α) : (if c then some x else some y) = some (if c then x else y) := by split <;> rfl
theorem len0 {α : Type} (l : List α) : ((l.length : Int) = 0) ↔ l = [] := by cases l <;> simp; omega

theorem tmod2 (n : Nat) : ((n : Int).tmod 2 = 0) ↔ n % 2 = 0 := by rw [Int.tmod_eq_emod_of_nonneg (by omega)]; omega

theorem rcheck_fn : PureFn Tryz.prog 178 (sigExt [sgS] checkG) :=
  pureFn_mk (bodied_ex (by kernel_rfl)) fun args d h => by
    unfold checkG at h
    split at h
    · rename_i t n l
      obtain ⟨hc, h1⟩ := ev_when h
      cases ev_ret h1
      refine pureAt0 plainN mixedN kitE1_ok noL (k := 30) ((rcheck_tree t n l).trans ?_) rfl
      simp only [T.ev_ite, T.ev_ret, T.ev_fail, hc, Bool.and_true, checkN, cap62]
      by_cases h0 : t < 1 ∨ 5 < t
      · rcases h0 with h0 | h0
        · simp [h0]
        · simp [h0]
      · rw [if_neg h0]
        obtain rfl | rfl | rfl | rfl | rfl : t = 1 ∨ t = 2 ∨ t = 3 ∨ t = 4 ∨ t = 5 := by omega
        · by_cases e : l = [] <;> simp [len0, e]
        · by_cases e : n = 0 <;> by_cases e3 : rises l 1 = true <;> simp [e, e3]
        · by_cases e : n = 0 <;> by_cases e2 : l.length % 2 = 0 <;> by_cases e3 : rises l 2 = true <;> simp [e, tmod2, e2, e3]
        · by_cases e : n = 0 <;> simp [e]
        · by_cases e : l = [] <;> by_cases e1 : 0 ≤ n <;> by_cases e2 : n ≤ 4611686018427387904 <;> simp [len0, e, e1, e2]
    · exact (ev_fail h).elim
theorem check_fn : PureFn Tryz.prog 17 (sigExt [sgS] checkG) :=
  pureFn_mk (bodied_ex (by kernel_rfl)) fun args d h => by
    unfold checkG at h
    split at h
    · rename_i t n l
      obtain ⟨hc, h1⟩ := ev_when h
      cases ev_ret h1
      refine pureAt0 plainN mixedN kitE1_ok noL (k := 30) ((check_tree t n l).trans ?_) rfl
      simp only [T.ev_ite, T.ev_ret, T.ev_fail, hc, Bool.and_true, checkN, cap62]
      by_cases h0 : t < 1 ∨ 5 < t
      · rcases h0 with h0 | h0
        · simp [h0, show ¬ 1 ≤ t by omega]
        · simp [h0, show 1 ≤ t by omega, show ¬ t ≤ 5 by omega]
      · rw [if_neg h0]
        have w : ∀ k : Int, k ∈ [0, 1, 2, 3, 4] → IntKind.i64.wrap k = k := by decide
        obtain rfl | rfl | rfl | rfl | rfl : t = 1 ∨ t = 2 ∨ t = 3 ∨ t = 4 ∨ t = 5 := by omega
        · by_cases e : l = [] <;> simp [len0, e, w]
        · by_cases e : n = 0 <;> by_cases e3 : rises l 1 = true <;> simp [e, e3, w]
        · by_cases e : n = 0 <;> by_cases e2 : l.length % 2 = 0 <;> by_cases e3 : rises l 2 = true <;> simp [e, tmod2, e2, e3, w]
        · by_cases e : n = 0 <;> simp [e, w]
        · by_cases e : l = [] <;> by_cases e1 : 0 ≤ n <;> by_cases e2 : n ≤ 4611686018427387904 <;> simp [len0, e, e1, e2, w]
    · exact (ev_fail h).elim

theorem kitE_ok (N : Nat) : ExtsOk Tryz.prog N kitE :=
  extsOk_cons (extOk_pure sameState_fn) (extsOk_cons (extOk_pure copyState_fn) (extsOk_cons (extOk_pure rcheck_fn) (extsOk_cons (extOk_pure check_fn) (kitE1_ok N))))

end Go.Proofs.YtknijbcmhjgllaaGreatD
