/-
  Chapter 11: operations that may be, in plain words.
-/
import Derived.Test.YtcomfanipljolaaMchAF
import Derived.Test.YtcomfanipljolaaChMapP
import Derived.Test.YtcomfanipljolaaChSetP
set_option linter.unusedVariables false
set_option linter.unusedSimpArgs false
namespace Go.Proofs.YtcomfanipljolaaD
open Go Go.RowKit

def mopOk (t k x y : Int) : Prop :=
  (t = 1 ∧ y = 0 ∧ (k = 1 ∨ (k = 2 ∧ x = 0))) ∨ (t = 2 ∧ y = 0 ∧ (k = 3 ∨ k = 4 ∨ k = 5 ∨ (k = 6 ∧ x = 0))) ∨ (t = 3 ∧ (k = 7 ∨ (k = 8 ∧ y = 0) ∨ (k = 9 ∧ y = 0))) ∨
  (t = 4 ∧ y = 0 ∧ (k = 10 ∨ (k = 11 ∧ x = 0) ∨ (k = 12 ∧ x = 0))) ∨ (t = 5 ∧ y = 0 ∧ ((k = 13 ∧ 0 ≤ x ∧ x ≤ 4611686018427387904) ∨ (k = 14 ∧ 0 ≤ x ∧ x ≤ 4611686018427387904) ∨ (k = 15 ∧ x = 0)))
theorem may_ok (t w a b : Int) (ht : 1 ≤ t ∧ t ≤ 5) : mopOk t (mayK t w) (mayX t w a b) (mayY t w b) := by
  have p4 := pick_range w (n := 4) (by omega)
  have p3 := pick_range w (n := 3) (by omega)
  have p2 := pick_range w (n := 2) (by omega)
  have pc := pick_range a (n := 4611686018427387904) (by omega)
  have hb := lowBit_range b
  obtain rfl | rfl | rfl | rfl | rfl : t = 1 ∨ t = 2 ∨ t = 3 ∨ t = 4 ∨ t = 5 := by omega
  · obtain hp | hp : pick w 2 = 0 ∨ pick w 2 = 1 := by omega
    all_goals simp [mopOk, mayX, mayY, mayK, firstA, hp]
  · obtain hp | hp | hp | hp : pick w 4 = 0 ∨ pick w 4 = 1 ∨ pick w 4 = 2 ∨ pick w 4 = 3 := by omega
    all_goals simp [mopOk, mayX, mayY, mayK, firstA, hp]
  · obtain hp | hp | hp : pick w 3 = 0 ∨ pick w 3 = 1 ∨ pick w 3 = 2 := by omega
    all_goals simp [mopOk, mayX, mayY, mayK, firstA, hp]
  · obtain hp | hp | hp : pick w 3 = 0 ∨ pick w 3 = 1 ∨ pick w 3 = 2 := by omega
    all_goals simp [mopOk, mayX, mayY, mayK, firstA, hp]
  · obtain hp | hp | hp : pick w 3 = 0 ∨ pick w 3 = 1 ∨ pick w 3 = 2 := by omega
    all_goals simp [mopOk, mayX, mayY, mayK, firstA, hp]
    all_goals omega
theorem may_type (t w : Int) (ht : 1 ≤ t ∧ t ≤ 5) : typeA (mayK t w) = (t, 0) := by
  have p4 := pick_range w (n := 4) (by omega)
  have p3 := pick_range w (n := 3) (by omega)
  have p2 := pick_range w (n := 2) (by omega)
  obtain rfl | rfl | rfl | rfl | rfl : t = 1 ∨ t = 2 ∨ t = 3 ∨ t = 4 ∨ t = 5 := by omega
  · obtain hp | hp : pick w 2 = 0 ∨ pick w 2 = 1 := by omega
    all_goals simp [typeA, mayK, firstA, hp]
  · obtain hp | hp | hp | hp : pick w 4 = 0 ∨ pick w 4 = 1 ∨ pick w 4 = 2 ∨ pick w 4 = 3 := by omega
    all_goals simp [typeA, mayK, firstA, hp]
  · obtain hp | hp | hp : pick w 3 = 0 ∨ pick w 3 = 1 ∨ pick w 3 = 2 := by omega
    all_goals simp [typeA, mayK, firstA, hp]
  · obtain hp | hp | hp : pick w 3 = 0 ∨ pick w 3 = 1 ∨ pick w 3 = 2 := by omega
    all_goals simp [typeA, mayK, firstA, hp]
  · obtain hp | hp | hp : pick w 3 = 0 ∨ pick w 3 = 1 ∨ pick w 3 = 2 := by omega
    all_goals simp [typeA, mayK, firstA, hp]
theorem check_type {t n : Int} {l : List Int} (h : checkN t n l = 0) : 1 ≤ t ∧ t ≤ 5 := by
  unfold checkN at h
  split at h
  · omega
  · omega

/-- What may be, can be done; and leaves a state of the type, in its form. -/
theorem mach_total {t n : Int} {l : List Int} {k x y : Int} (hc : checkN t n l = 0) (ho : mopOk t k x y) :
    (machA t n l k x y).e = 0 ∧ (machA t n l k x y).s.type = t ∧ checkN t (machA t n l k x y).s.n (machA t n l k x y).s.l = 0 ∧ (machA t n l k x y).s.l.length ≤ l.length + 2 := by
  rcases ho with ⟨rfl, rfl, ho⟩ | ⟨rfl, rfl, ho⟩ | ⟨rfl, ho⟩ | ⟨rfl, rfl, ho⟩ | ⟨rfl, rfl, ho⟩
  · have h1 : ∀ m : Int, checkN 1 m [] = 0 := fun m => by simp [checkN]
    rcases ho with rfl | ⟨rfl, rfl⟩ <;> simp [machA, Ctr.ctrA, hc, h1]
  · obtain ⟨rfl, hr⟩ := Set.check2.1 hc
    have hw := Set.with_length x hr
    have hl := Set.less_length l x
    have c1 : checkN 2 0 (Set.withN l x) = 0 := Set.check2.2 ⟨rfl, Set.rise_with x hr⟩
    have c2 : checkN 2 0 (Set.lessN l x) = 0 := Set.check2.2 ⟨rfl, Set.rise_less x hr⟩
    rcases ho with rfl | rfl | rfl | ⟨rfl, rfl⟩ <;> simp [machA, Set.setA, hc, c1, c2]
    · split at hw <;> omega
    · omega
  · have hn : n = 0 := by
      simp [checkN] at hc; exact hc.1
    subst hn
    obtain ⟨b, hb⟩ := (Map.check3 l).1 hc
    have c1 : checkN 3 0 (Map.setP (Map.dropP l x) x y) = 0 := (Map.check3 _).2 (Map.sb_put x y hb)
    have c2 : checkN 3 0 (Map.dropP l x) = 0 := (Map.check3 _).2 ⟨_, Map.sb_drop x hb⟩
    have l1 : (Map.setP (Map.dropP l x) x y).length ≤ l.length + 2 := by
      obtain ⟨m, hm⟩ := Map.dropP_even x l
      rw [Map.setP_same x y m _ hm]
      have h1 := Map.dropP_length l x
      have h2 := Map.rsP_le x (Map.dropP l x)
      simp only [List.length_append, List.length_take, List.length_drop, List.length_cons, List.length_nil]; omega
    have l2 := Map.dropP_length l x
    rcases ho with rfl | ⟨rfl, rfl⟩ | ⟨rfl, rfl⟩ <;> simp [machA, Map.mapA, hc, c1, c2, l1]
    omega
  · have hn : n = 0 := by simp [checkN] at hc; exact hc
    subst hn
    have c1 : ∀ q : List Int, checkN 4 0 q = 0 := fun q => by simp [checkN]
    rcases ho with rfl | ⟨rfl, rfl⟩ | ⟨rfl, rfl⟩
    · simp [machA, Fif.fifoA, c1]
    · cases l with
      | nil => simp [machA, Fif.fifoA, c1]
      | cons z q => simp [machA, Fif.fifoA, c1]; omega
    · simp [machA, Fif.fifoA, c1]
  · obtain ⟨rfl, h1, h2⟩ := Esc.check5.1 hc
    have c1 : ∀ m : Int, 0 ≤ m → m ≤ 4611686018427387904 → checkN 5 m [] = 0 := fun m q1 q2 => Esc.check5.2 ⟨rfl, q1, q2⟩
    have h62 : cap62 = 4611686018427387904 := rfl
    rcases ho with ⟨rfl, h3, h4⟩ | ⟨rfl, h3, h4⟩ | ⟨rfl, rfl⟩
    · by_cases h5 : x ≤ 4611686018427387904 - n
      · have := c1 (n + x) (by omega) (by omega)
        simp [machA, Esc.escA, hc, h62, h5, this, show ¬ x < 0 by omega, show ¬ 4611686018427387904 < x by omega]
      · simp [machA, Esc.escA, hc, h62, h5, show ¬ x < 0 by omega, show ¬ 4611686018427387904 < x by omega]
    · by_cases h5 : x ≤ n
      · have := c1 (n - x) (by omega) (by omega)
        simp [machA, Esc.escA, hc, h62, h5, this, show ¬ x < 0 by omega, show ¬ 4611686018427387904 < x by omega]
      · simp [machA, Esc.escA, hc, h62, h5, show ¬ x < 0 by omega, show ¬ 4611686018427387904 < x by omega]
    · simp [machA, Esc.escA, hc]

end Go.Proofs.YtcomfanipljolaaD
