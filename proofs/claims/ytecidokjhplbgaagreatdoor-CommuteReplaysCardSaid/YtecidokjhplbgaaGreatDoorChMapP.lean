/-
  Chapter 08: maps in plain words.
-/
import Derived.Test.YtecidokjhplbgaaGreatDoorChMap
set_option linter.unusedVariables false
set_option linter.unusedSimpArgs false
namespace Go.Proofs.YtecidokjhplbgaaGreatDoorD.Map
open Go Go.RowKit

def sb : Int → List Int → Prop
  | b, k :: v :: r => b < k ∧ sb k r
  | _, [] => True
  | _, _ => False
def look : List Int → Int → Option Int
  | k :: v :: r, x => if k = x then some v else look r x
  | _, _ => none
theorem look_find : ∀ (l : List Int) (x : Int), hadP l x = match look l x with | some v => ⟨2, v⟩ | none => ⟨1, 0⟩
  | [], x => rfl
  | [_], x => rfl
  | k :: v :: r, x => by
    have ih := look_find r x
    simp only [hadP, findP, look] at ih ⊢
    by_cases hk : k = x
    · simp [hk]
    · simp only [hk, if_false]; exact ih
theorem sb_even : ∀ {b : Int} {l : List Int}, sb b l → ∃ m, l.length = 2 * m
  | b, [], _ => ⟨0, rfl⟩
  | b, [_], h => h.elim
  | b, k :: v :: r, h => by obtain ⟨m, hm⟩ := sb_even h.2; exact ⟨m + 1, by simp; omega⟩
theorem sb_mono : ∀ {b b' : Int} {l : List Int}, b' ≤ b → sb b l → sb b' l
  | b, b', [], _, _ => trivial
  | b, b', [_], _, h => h.elim
  | b, b', k :: v :: r, hb, h => ⟨by have := h.1; omega, h.2⟩
theorem sb_drop : ∀ {b : Int} {l : List Int} (x : Int), sb b l → sb b (dropP l x)
  | b, [], x, _ => trivial
  | b, [_], x, h => h.elim
  | b, k :: v :: r, x, h => by
    simp only [dropP]
    split
    · exact sb_mono (by have := h.1; omega) (sb_drop x h.2)
    · exact ⟨h.1, sb_drop x h.2⟩
theorem setP_cons {k v : Int} {r : List Int} {x y : Int} {m : Nat} (hm : r.length = 2 * m) : setP (k :: v :: r) x y = if x ≤ k then x :: y :: k :: v :: r else k :: v :: setP r x y := by
  simp only [setP, seP, evenP_even m r hm]
  by_cases hk : x ≤ k
  · simp [hk]
  · simp only [hk, if_false]
    split <;> simp
theorem sb_set : ∀ {b : Int} {l : List Int} {x : Int} (y : Int), sb b l → b < x → look l x = none → sb b (setP l x y)
  | b, [], x, y, _, hb, _ => ⟨hb, trivial⟩
  | b, [_], x, y, h, _, _ => h.elim
  | b, k :: v :: r, x, y, h, hb, hn => by
    obtain ⟨m, hm⟩ := sb_even h.2
    rw [setP_cons hm]
    simp only [look] at hn
    have hk : k ≠ x := fun e => by simp [e] at hn
    simp only [hk, if_false] at hn
    split
    · rename_i hx; exact ⟨hb, by omega, h.2⟩
    · exact ⟨h.1, sb_set y h.2 (by omega) hn⟩
theorem look_drop : ∀ (l : List Int) (x k : Int), look (dropP l x) k = if k = x then none else look l k
  | [], x, k => by simp [dropP, look]
  | [_], x, k => by simp [dropP, look]
  | a :: v :: r, x, k => by
    have ih := look_drop r x k
    simp only [dropP, look]
    by_cases ha : a = x
    · simp only [ha, if_true, ih]
      by_cases hk : k = x
      · simp [hk]
      · simp [hk, show ¬ x = k from fun e => hk e.symm]
    · simp only [ha, if_false, look, ih]
      by_cases hk : a = k
      · simp [hk, show ¬ k = x from fun e => ha (hk.trans e)]
      · simp [hk]
theorem look_set (x y k : Int) : ∀ (m : Nat) (l : List Int), l.length = 2 * m → look (setP l x y) k = if k = x then some y else look l k
  | 0, [], _ => by
    show look [x, y] k = _
    by_cases hk : k = x
    · simp [look, hk]
    · simp [look, hk, show ¬ x = k from fun e => hk e.symm]
  | m + 1, a :: v :: r, h => by
    have hm : r.length = 2 * m := by simp at h; omega
    have ih := look_set x y k m r hm
    rw [setP_cons hm]
    split
    · by_cases hk : k = x
      · simp [look, hk]
      · simp [look, hk, show ¬ x = k from fun e => hk e.symm]
    · rename_i hx
      simp only [look, ih]
      by_cases ha : a = k
      · simp [ha, show ¬ k = x by omega]
      · simp [ha]
  | 0, _ :: _, h => by simp at h
  | m + 1, [], h => by simp at h
  | m + 1, [_], h => by simp at h; omega
theorem look_low : ∀ {b : Int} {l : List Int} {q : Int}, sb b l → q ≤ b → look l q = none
  | b, [], q, _, _ => rfl
  | b, [_], q, _, _ => rfl
  | b, k :: v :: r, q, h, hq => by
    have := h.1
    simp only [look, show ¬ k = q by omega, if_false]
    exact look_low h.2 (by omega)
theorem look_ext : ∀ {b b' : Int} {l l' : List Int}, sb b l → sb b' l' → (∀ k, look l k = look l' k) → l = l'
  | b, b', [], [], _, _, _ => rfl
  | b, b', [_], _, h, _, _ => h.elim
  | b, b', _, [_], _, h, _ => by cases h
  | b, b', [], k :: v :: r, _, _, hl => by have := hl k; simp [look] at this
  | b, b', k :: v :: r, [], _, _, hl => by have := hl k; simp [look] at this
  | b, b', k :: v :: r, k' :: v' :: r', h, h', hl => by
    have e : k = k' := by
      rcases Int.lt_trichotomy k k' with hlt | he | hgt
      · have h1 := hl k
        simp only [look, if_true, show ¬ k' = k by omega, if_false, look_low h'.2 (show k ≤ k' by omega)] at h1
        cases h1
      · exact he
      · have h1 := hl k'
        simp only [look, if_true, show ¬ k = k' by omega, if_false, look_low h.2 (show k' ≤ k by omega)] at h1
        cases h1
    subst e
    have h1 := hl k
    simp only [look, if_true, Option.some.injEq] at h1
    subst h1
    rw [look_ext h.2 h'.2 fun q => by
      have h2 := hl q
      simp only [look] at h2
      by_cases hq : k = q
      · subst hq; rw [look_low h.2 (Int.le_refl _), look_low h'.2 (Int.le_refl _)]
      · simpa only [hq, if_false] using h2]

theorem rises_sb (l : List Int) (m : Nat) (hm : l.length = 2 * m) : ∀ (d j : Nat), 2 * m < 2 * j + 2 + d → (risesAt l 2 d (2 * j + 2) = true ↔ ∃ b, sb b (l.drop (2 * j)))
  | 0, j, h => by
    rw [List.drop_eq_nil_of_le (by omega)]
    exact ⟨fun _ => ⟨0, trivial⟩, fun _ => rfl⟩
  | d + 1, j, h => by
    by_cases hj : 2 * j + 2 < l.length
    · have ih := rises_sb l m hm d (j + 1) (by omega)
      have e1 : l.drop (2 * j) = l.getD (2 * j) 0 :: l.getD (2 * j + 1) 0 :: l.drop (2 * j + 2) := drop_two (by omega)
      have e2 : l.drop (2 * j + 2) = l.getD (2 * j + 2) 0 :: l.getD (2 * j + 3) 0 :: l.drop (2 * j + 4) := drop_two (by omega)
      rw [show 2 * (j + 1) + 2 = 2 * j + 2 + 2 by omega, show 2 * (j + 1) = 2 * j + 2 by omega] at ih
      simp only [risesAt, hj, if_true, show 2 * j + 2 - 2 = 2 * j by omega]
      rw [e1]
      by_cases hle : l.getD (2 * j + 2) 0 ≤ l.getD (2 * j) 0
      · simp only [hle, if_true]
        refine ⟨fun h => by simp at h, fun ⟨b, hb⟩ => ?_⟩
        rw [e2] at hb
        have := hb.2.1; omega
      · simp only [hle, if_false]
        rw [ih]
        constructor
        · rintro ⟨b, hb⟩
          rw [e2] at hb
          exact ⟨l.getD (2 * j) 0 - 1, by omega, by rw [e2]; exact ⟨by omega, hb.2⟩⟩
        · rintro ⟨b, hb⟩
          exact ⟨_, hb.2⟩
    · simp only [risesAt, hj, if_false]
      refine ⟨fun _ => ?_, fun _ => trivial⟩
      by_cases hj2 : 2 * j + 1 < l.length
      · rw [drop_two hj2, List.drop_eq_nil_of_le (by omega)]
        exact ⟨l.getD (2 * j) 0 - 1, by omega, trivial⟩
      · rw [List.drop_eq_nil_of_le (by omega)]; exact ⟨0, trivial⟩
theorem check3 (l : List Int) : checkN 3 0 l = 0 ↔ ∃ b, sb b l := by
  by_cases h2 : l.length % 2 = 0
  · have hm : l.length = 2 * (l.length / 2) := by omega
    have := rises_sb l _ hm (l.length + 1) 0 (by omega)
    simp only [Nat.mul_zero, Nat.zero_add, List.drop_zero] at this
    rw [← this, checkN]
    have hr : rises l 2 = risesAt l 2 (l.length + 1) 2 := rfl
    rw [← hr]
    cases rises l 2 <;> simp [h2]
  · constructor
    · intro h; simp [checkN, h2] at h
    · rintro ⟨b, hb⟩; obtain ⟨m, hm⟩ := sb_even hb; omega

theorem sb_put {b : Int} {l : List Int} (x y : Int) (h : sb b l) : ∃ b', sb b' (setP (dropP l x) x y) := by
  refine ⟨min b (x - 1), sb_set y (sb_mono (by omega) (sb_drop x h)) (by omega) ?_⟩
  rw [look_drop]; simp
theorem look_put {b : Int} {l : List Int} (x y k : Int) (h : sb b l) : look (setP (dropP l x) x y) k = if k = x then some y else look l k := by
  obtain ⟨m, hm⟩ := dropP_even x l
  rw [look_set x y k m _ hm, look_drop]
  by_cases hk : k = x <;> simp [hk]
end Go.Proofs.YtecidokjhplbgaaGreatDoorD.Map
