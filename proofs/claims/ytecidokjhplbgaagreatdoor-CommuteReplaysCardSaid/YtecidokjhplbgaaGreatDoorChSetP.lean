/-
  Chapter 07: sets in plain words.
-/
import Derived.Test.YtecidokjhplbgaaGreatDoorChSet
set_option linter.unusedVariables false
set_option linter.unusedSimpArgs false
namespace Go.Proofs.YtecidokjhplbgaaGreatDoorD.Set
open Go Go.RowKit

theorem rise_pw : ∀ (l : List Int), riseB l = true ↔ l.Pairwise (· < ·)
  | [] => by simp [riseB]
  | [x] => by simp [riseB]
  | x :: y :: r => by
    have ih := rise_pw (y :: r)
    constructor
    · intro h
      exact List.pairwise_cons.2 ⟨riseB_low h, ih.1 (riseB_tail h)⟩
    · intro h
      obtain ⟨h1, h2⟩ := List.pairwise_cons.1 h
      simp only [riseB, Bool.and_eq_true, decide_eq_true_eq]
      exact ⟨h1 y (by simp), ih.2 h2⟩
theorem withR_tt : ∀ (l : List Int) (x : Int), withR true l x = (true, lessN l x)
  | [], x => rfl
  | y :: r, x => by simp [withR, lessN, withR_tt r x]
theorem withN_lt {y x : Int} {r : List Int} (h : y < x) : withN (y :: r) x = y :: withN r x := by
  have h1 : ¬ x ≤ y := by omega
  have h2 : ¬ y = x := by omega
  simp only [withN, withR, h1, h2, and_false, if_false]
  split <;> simp
theorem withN_ge {y x : Int} {r : List Int} (h : x ≤ y) : withN (y :: r) x = x :: (if y = x then [] else [y]) ++ lessN r x := by
  simp only [withN, withR, h, and_true, if_true, withR_tt]
theorem with_form : ∀ {l : List Int} (x : Int), riseB l = true → withN l x = l.filter (fun y => decide (y < x)) ++ x :: l.filter (fun y => decide (x < y))
  | [], x, _ => by simp [withN, withR]
  | y :: r, x, h => by
    have hlo := riseB_low h
    by_cases hy : y < x
    · rw [withN_lt hy, with_form x (riseB_tail h)]
      simp [hy, show ¬ x < y by omega]
    · have e1 : (y :: r).filter (fun y => decide (y < x)) = [] := by
        rw [List.filter_eq_nil_iff]
        intro z hz
        rcases List.mem_cons.1 hz with rfl | hz
        · simpa using hy
        · have := hlo z hz; simp; omega
      have e2 : r.filter (fun y => decide (x < y)) = r := by
        rw [List.filter_eq_self]
        intro z hz
        have := hlo z hz; simp; omega
      have e3 : lessN r x = r := lessN_low fun z hz => by have := hlo z hz; omega
      rw [withN_ge (by omega), e1, e3]
      by_cases he : y = x
      · subst he; simp [e2]
      · simp [he, e2, show x < y by omega]
theorem less_form : ∀ (l : List Int) (x : Int), lessN l x = l.filter (fun y => y != x)
  | [], x => rfl
  | y :: r, x => by
    rw [lessN, less_form r x]
    by_cases h : y = x <;> simp [h]
theorem rise_with {l : List Int} (x : Int) (h : riseB l = true) : riseB (withN l x) = true := by
  have hp := (rise_pw l).1 h
  rw [rise_pw, with_form x h, List.pairwise_append]
  refine ⟨hp.filter _, List.pairwise_cons.2 ⟨fun z hz => ?_, hp.filter _⟩, fun a ha b hb => ?_⟩
  · simpa using (List.mem_filter.1 hz).2
  · have h1 : a < x := by simpa using (List.mem_filter.1 ha).2
    rcases List.mem_cons.1 hb with rfl | hb
    · exact h1
    · have h2 : x < b := by simpa using (List.mem_filter.1 hb).2
      omega
theorem rise_less {l : List Int} (x : Int) (h : riseB l = true) : riseB (lessN l x) = true := by
  rw [rise_pw, less_form]
  exact ((rise_pw l).1 h).filter _
theorem has_with {l : List Int} (x y : Int) (h : riseB l = true) : hasN (withN l x) y = (y == x || hasN l y) := by
  rw [Bool.eq_iff_iff, hasN_mem, with_form x h, Bool.or_eq_true, hasN_mem, beq_iff_eq]
  simp only [List.mem_append, List.mem_cons, List.mem_filter, decide_eq_true_eq]
  constructor
  · rintro (⟨h1, _⟩ | h1 | ⟨h1, _⟩)
    · exact .inr h1
    · exact .inl h1
    · exact .inr h1
  · rintro (h1 | h1)
    · exact .inr (.inl h1)
    · rcases Int.lt_trichotomy y x with h2 | h2 | h2
      · exact .inl ⟨h1, h2⟩
      · exact .inr (.inl h2)
      · exact .inr (.inr ⟨h1, h2⟩)
theorem has_less (l : List Int) (x y : Int) : hasN (lessN l x) y = (y != x && hasN l y) := by
  rw [Bool.eq_iff_iff, hasN_mem, less_form, Bool.and_eq_true, hasN_mem, List.mem_filter]
  exact ⟨fun h => ⟨h.2, h.1⟩, fun h => ⟨h.2, h.1⟩⟩
theorem less_length (l : List Int) (x : Int) : (lessN l x).length ≤ l.length := by rw [less_form]; exact List.length_filter_le _ _
theorem with_length {l : List Int} (x : Int) (h : riseB l = true) : (withN l x).length = if hasN l x then l.length else l.length + 1 := by
  rw [with_rise h]
  have := cntN_le l x
  split
  · rfl
  · simp; omega
theorem with_has {l : List Int} {x : Int} (h : riseB l = true) (hh : hasN l x = true) : withN l x = l := by rw [with_rise h, if_pos hh]
theorem less_has {l : List Int} {x : Int} (hh : hasN l x = false) : lessN l x = l := by
  rw [less_form, List.filter_eq_self]
  intro z hz
  rw [bne_iff_ne]
  rintro rfl
  rw [(hasN_mem l z).2 hz] at hh; cases hh
theorem rise_ext : ∀ {a b : List Int}, riseB a = true → riseB b = true → (∀ y, hasN a y = hasN b y) → a = b
  | [], [], _, _, _ => rfl
  | [], y :: r, _, _, h => by have := h y; simp [hasN] at this
  | y :: r, [], _, _, h => by have := h y; simp [hasN] at this
  | x :: r, y :: q, ha, hb, h => by
    have la := riseB_low ha
    have lb := riseB_low hb
    have e : x = y := by
      have h1 : x ∈ y :: q := by rw [← hasN_mem, ← h]; simp [hasN]
      have h2 : y ∈ x :: r := by rw [← hasN_mem, h]; simp [hasN]
      rcases List.mem_cons.1 h1 with e | h1
      · exact e
      · rcases List.mem_cons.1 h2 with e | h2
        · exact e.symm
        · have := la _ h2; have := lb _ h1; omega
    subst e
    rw [rise_ext (riseB_tail ha) (riseB_tail hb) fun z => ?_]
    have hz := h z
    simp only [hasN] at hz
    by_cases he : x = z
    · subst he
      rw [hasN_low la, hasN_low lb]
    · rw [show (x == z) = false by rw [beq_eq_false_iff_ne]; exact he] at hz; exact hz

end Go.Proofs.YtecidokjhplbgaaGreatDoorD.Set
