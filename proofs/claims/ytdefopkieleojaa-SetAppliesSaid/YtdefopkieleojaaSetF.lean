/-
  Chapter 07: contracts of finding, of the document's lists; sets in plain words.
-/
import Derived.Test.YtdefopkieleojaaSetE
set_option linter.unusedVariables false
set_option linter.unusedSimpArgs false
namespace Go.Proofs.YtdefopkieleojaaD
open Go Go.RowKit

theorem hasN_mem : ∀ (l : List Int) (x : Int), hasN l x = true ↔ x ∈ l
  | [], x => by simp [hasN]
  | y :: r, x => by
    simp only [hasN, Bool.or_eq_true, beq_iff_eq, hasN_mem r x, List.mem_cons]
    constructor <;> (rintro (h | h) <;> simp [h])
theorem hasN_low {l : List Int} {x : Int} (h : ∀ z ∈ l, x < z) : hasN l x = false := by
  cases hh : hasN l x with
  | false => rfl
  | true => have := h x ((hasN_mem l x).1 hh); omega
theorem has_get : ∀ {l : List Int} {x : Int}, riseB l = true → hasN l x = if cntN l x < l.length then l.getD (cntN l x) 0 == x else false
  | [], x, _ => rfl
  | y :: r, x, h => by
    have ih := has_get (x := x) (riseB_tail h)
    by_cases hy : y < x
    · simp only [hasN, cntN, hy, if_true, show (y == x) = false by (rw [beq_eq_false_iff_ne]; omega), Bool.false_or, ih, List.length_cons, show 1 + cntN r x = cntN r x + 1 by omega, List.getD_cons_succ, Nat.add_lt_add_iff_right]
    · have h0 : cntN r x = 0 := cntN_low fun z hz => by have := riseB_low h z hz; omega
      simp only [hasN, cntN, hy, if_false, h0, Nat.add_zero, List.length_cons, Nat.zero_lt_succ, if_true, List.getD_cons_zero]
      by_cases he : y = x
      · simp [he]
      · rw [hasN_low fun z hz => by have := riseB_low h z hz; omega]; simp

def midB (l : List Int) : Bool := Nat.ble l.length 400000000
theorem mid_small {l : List Int} (h : midB l = true) : small l.length = true := by rw [midB, Nat.ble_eq] at h; rw [small_iff]; omega
def rfindG : List CV → T CV
  | [.pl .ints l, .int .i64 x] => T.when (midB l) (.ret (.tuple #[.int .i64 (cntN l x), .bool (hasN l x)]))
  | _ => .fail
def findG : List CV → T CV
  | [.pl .ints l, .int .i64 x] => T.when (midB l && riseB l) (.ret (.tuple #[.int .i64 (cntN l x), .bool (hasN l x)]))
  | _ => .fail
def rwithG : List CV → T CV
  | [.pl .ints l, .int .i64 x] => T.when (midB l) (.ret (.pl .ints (withN l x)))
  | _ => .fail
def rlessG : List CV → T CV
  | [.pl .ints l, .int .i64 x] => T.when (midB l) (.ret (.pl .ints (lessN l x)))
  | _ => .fail
theorem withR_length : ∀ (l : List Int) (x : Int) (put : Bool), (withR put l x).2.length ≤ 2 * l.length
  | [], x, put => by simp [withR]
  | y :: r, x, put => by
    have h1 := withR_length r x true
    have h2 := withR_length r x put
    simp only [withR]
    split
    · simp only [List.length_cons, List.length_append]; split <;> simp <;> omega
    · simp only [List.length_append]; split <;> simp <;> omega
theorem rfind_fn : PureFn Try.prog 17 (sigExt [.l .ints] rfindG) :=
  pureFn_mk (bodied_ex (by kernel_rfl)) fun args d h => by
    unfold rfindG at h
    split at h
    · rename_i l x
      obtain ⟨hc, h1⟩ := ev_when h
      cases ev_ret h1
      refine pureAt0 plainN mixedN noE setL_ok (k := 30) ((rfind_tree l x).trans ?_) rfl
      simp [T.ev_ite, T.ev_ret, mid_small hc]
    · exact (ev_fail h).elim
theorem find_fn : PureFn Try.prog 16 (sigExt [.l .ints] findG) :=
  pureFn_mk (bodied_ex (by kernel_rfl)) fun args d h => by
    unfold findG at h
    split at h
    · rename_i l x
      obtain ⟨hc, h1⟩ := ev_when h
      cases ev_ret h1
      simp only [Bool.and_eq_true] at hc
      refine pureAt0 plainN mixedN noE setL_ok (k := 30) ((find_tree l x).trans ?_) rfl
      rw [has_get hc.2]
      by_cases hlt : cntN l x < l.length
      · have h2 : inRange (cntN l x : Int) l.length = true := by rw [inRange_iff]; omega
        have h3 : decide ((cntN l x : Int) < (l.length : Int)) = true := by rw [decide_eq_true_eq]; omega
        simp only [T.ev_ite, T.ev_ret, mid_small hc.1, hc.2, h2, h3, hlt, Int.toNat_natCast, beq_self_eq_true, Bool.and_self, if_true]
        rfl
      · have h3 : decide ((cntN l x : Int) < (l.length : Int)) = false := by rw [decide_eq_false_iff_not]; omega
        simp only [T.ev_ite, T.ev_ret, mid_small hc.1, hc.2, h3, hlt, beq_self_eq_true, Bool.and_self, if_true, Bool.false_eq_true, if_false]
    · exact (ev_fail h).elim
theorem rwith_fn : PureFn Try.prog 21 (sigExt [.l .ints] rwithG) :=
  pureFn_mk (bodied_ex (by kernel_rfl)) fun args d h => by
    unfold rwithG at h
    split at h
    · rename_i l x
      obtain ⟨hc, h1⟩ := ev_when h
      cases ev_ret h1
      refine pureAt0 plainN mixedN noE setL_ok (k := 30) ((rwith_tree l x).trans ?_) rfl
      have hw := withR_length l x false
      have hb : roomB ((withR false l x).2.length + [x].length) 8 = true := roomB_small (by rw [midB, Nat.ble_eq] at hc; rw [small_iff]; simp; omega) (by decide)
      have hc' : l.length.ble 400000000 = true := hc
      cases hp : (withR false l x).1 <;> simp only [T.ev_ite, T.ev_ret, hc', hb, hp, withN, beq_self_eq_true, Bool.and_self, Bool.not_true, Bool.not_false, if_true, Bool.false_eq_true, if_false]
    · exact (ev_fail h).elim
theorem rless_fn : PureFn Try.prog 22 (sigExt [.l .ints] rlessG) :=
  pureFn_mk (bodied_ex (by kernel_rfl)) fun args d h => by
    unfold rlessG at h
    split at h
    · rename_i l x
      obtain ⟨hc, h1⟩ := ev_when h
      cases ev_ret h1
      refine pureAt0 plainN mixedN noE setL_ok (k := 30) ((rless_tree l x).trans ?_) rfl
      simp [T.ev_ite, T.ev_ret, mid_small hc]
    · exact (ev_fail h).elim
def fdE : List (Nat × ExtFn) := [(16, pureExt (sigExt [.l .ints] findG)), (38, stExt cloneG), (39, insertX)]
theorem fdE_ok (N : Nat) : ExtsOk Try.prog N fdE := extsOk_cons (extOk_pure find_fn) (extsOk_cons (extOk_st clone_fn) (extsOk_cons (insert_ok N) extsOk_nil))

end Go.Proofs.YtdefopkieleojaaD
