/-
  Chapter 11: how far operations are legal: Run, the document's too.
-/
import Derived.Test.YtecidokjhplbgaaGreatDoorChMch
import Derived.Test.YtecidokjhplbgaaGreatDoorKitQ
import Derived.Test.YtecidokjhplbgaaGreatDoorChSetP
import Derived.Test.YtecidokjhplbgaaGreatDoorChMapP
set_option linter.unusedVariables false
set_option linter.unusedSimpArgs false
namespace Go.Proofs.YtecidokjhplbgaaGreatDoorD
open Go Go.RowKit

theorem mach_len (t n : Int) (l : List Int) (k a b : Int) : (machA t n l k a b).s.l.length ≤ l.length + 2 := by
  unfold machA
  split
  · unfold Ctr.ctrA; repeat' split
    all_goals simp [bad]
  · split
    · unfold Set.setA
      split
      · simp [bad]
      · rename_i h
        have hc : checkN 2 n l = 0 := by
          rename_i h2; subst h2; simpa using h
        have hr := (Set.check2.1 hc).2
        have hw := Set.with_length a hr
        have hl := Set.less_length l a
        repeat' split
        all_goals first
          | (simp [bad]; done)
          | (simp only []; split at hw <;> omega)
          | (simp only []; omega)
    · split
      · unfold Map.mapA
        have l1 : (Map.setP (Map.dropP l a) a b).length ≤ l.length + 2 := by
          obtain ⟨m, hm⟩ := Map.dropP_even a l
          rw [Map.setP_same a b m _ hm]
          have h1 := Map.dropP_length l a
          have h2 := Map.rsP_le a (Map.dropP l a)
          simp only [List.length_append, List.length_take, List.length_drop, List.length_cons, List.length_nil]; omega
        have l2 := Map.dropP_length l a
        repeat' split
        all_goals first
          | (simp [bad]; done)
          | (simp only []; omega)
      · split
        · unfold Fif.fifoA
          have h1 : ∀ (c : Prop) [Decidable c] (x y : Ans), x.s.l.length ≤ l.length + 2 → y.s.l.length ≤ l.length + 2 → (if c then x else y).s.l.length ≤ l.length + 2 := fun c _ x y h1 h2 => by split <;> assumption
          refine h1 _ _ _ (by simp [bad]) (h1 _ _ _ (by simp [bad]) (h1 _ _ _ (by simp [bad]) (h1 _ _ _ (by simp) (h1 _ _ _ (by simp) ?_))))
          cases l
          · simp
          · simp; omega
        · split
          · unfold Esc.escA; repeat' split
            all_goals simp [bad]
          · simp [bad]

structure Ran where
  s : DState
  n : Int
  e : Int
def opB (o : DOp) : Bool := Ctr.inI64 o.a && Ctr.inI64 o.b
theorem machB_of {l : List Int} {o : DOp} (h1 : l.length ≤ 1000000) (h2 : opB o = true) : machB l o.a o.b = true := by
  rw [machB, Set.midB, Bool.and_eq_true, Nat.ble_eq]; exact ⟨by omega, h2⟩
theorem ret_beq (x : DRet) (k n : Int) : (x.kind == k && (x.n == n && true)) = decide (x = ⟨k, n⟩) := by
  cases x; rw [Bool.eq_iff_iff]; simp

theorem legB_dec (x : Ans) (o : DRet) (h : x.e = 0) : legB x o.kind o.n = decide (x.r = o) := by
  have := ret_beq x.r o.kind o.n
  simp only [Bool.and_true] at this
  rw [legB, h, this]; rfl

def Ran.cv (r : Ran) : CV := .tuple #[.agg #[.int .i64 r.s.type, .int .i64 r.s.n, .pl .ints r.s.l], .int .i64 r.n, .int .i64 r.e]
end Go.Proofs.YtecidokjhplbgaaGreatDoorD

