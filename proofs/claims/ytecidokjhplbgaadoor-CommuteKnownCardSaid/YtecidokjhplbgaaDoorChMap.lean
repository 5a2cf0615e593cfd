/-
  Chapter 08: what maps answer.
-/
import Derived.Test.YtecidokjhplbgaaDoorKitO5
import Derived.Test.YtecidokjhplbgaaDoorClose
import Derived.Test.YtecidokjhplbgaaDoorAns
set_option linter.unusedVariables false
set_option linter.unusedSimpArgs false
namespace Go.Proofs.YtecidokjhplbgaaDoorD.Map
open Go Go.RowKit

/- MapA0 -/
/- base 3 round none: List (RC.den .ints), Int, Int, Bool, Int: [.l .ints (l), .i (x), .i (nat_lit 0), .b false, .i (nat_lit 0)] -/
def rfSk : NSt := ⟨[.pl .ints [], .int .i64 (0), .junk, .junk, .int .i64 (0), .bool false, .int .i64 (0), .junk, .junk, .junk, .junk, .junk, .junk, .junk, .junk, .junk, .junk, .junk, .junk, .junk, .junk, .junk, .junk, .junk, .junk], [], [], 3⟩
/- base 3 round none: List (RC.den .ints), Int, Int, List (RC.den .ints): [.l .ints (l), .i (x), .i (nat_lit 0), .l .ints ([])] -/
def rdSk : NSt := ⟨[.pl .ints [], .int .i64 (0), .junk, .junk, .slice none (0) (0), .row 3 1 (0), .int .i64 (0), .junk, .junk, .junk, .junk, .junk, .junk, .junk, .junk, .junk, .junk, .junk, .junk, .junk, .junk, .junk, .junk, .junk, .junk, .junk, .junk, .junk, .junk, .junk, .junk, .junk, .junk], [], [(3, .rows .ints [])], 4⟩
/- MapA1 -/
/- Int, Bool -/
def rfOut0 : NSt := ⟨[.junk, .junk, .junk, .junk, .int .i64 (0), .bool false, .junk, .junk, .junk, .junk, .junk, .junk, .junk, .junk, .junk, .junk, .junk, .junk, .junk, .junk, .junk, .junk, .junk, .junk, .junk], [], [], 3⟩
/- List (RC.den .ints) -/
def rdOut0 : NSt := ⟨[.junk, .junk, .junk, .junk, .slice none (0) (0), .row 3 1 (0), .junk, .junk, .junk, .junk, .junk, .junk, .junk, .junk, .junk, .junk, .junk, .junk, .junk, .junk, .junk, .junk, .junk, .junk, .junk, .junk, .junk, .junk, .junk, .junk, .junk, .junk, .junk], [], [(3, .rows .ints [])], 4⟩
/- MapB -/
/-- A key's value, whether it is there, and what is left of the list then. -/
def findP : List Int → Int → Int × Bool × List Int
  | k :: v :: r, x => if k = x then (v, true, k :: v :: r) else findP r x
  | l, _ => (0, false, l)
def dropP : List Int → Int → List Int
  | k :: v :: r, x => if k = x then dropP r x else k :: v :: dropP r x
  | _, _ => []
def tailP : List Int → List Int
  | _ :: _ :: r => tailP r
  | l => l
theorem dropP_length : ∀ (l : List Int) (x : Int), (dropP l x).length ≤ l.length
  | [], x => by simp [dropP]
  | [_], x => by simp [dropP]
  | k :: v :: r, x => by
    have := dropP_length r x
    simp only [dropP]; split <;> simp <;> omega
theorem len_gt1 (l : List Int) : (∃ k v r, l = k :: v :: r) ∨ (¬ ((l.length : Int) > 1) ∧ (∀ x, findP l x = (0, false, l)) ∧ (∀ x, dropP l x = []) ∧ tailP l = l) := by
  match l with
  | [] => exact .inr ⟨by simp, fun _ => rfl, fun _ => rfl, rfl⟩
  | [a] => exact .inr ⟨by simp, fun _ => rfl, fun _ => rfl, rfl⟩
  | k :: v :: r => exact .inl ⟨k, v, r, rfl⟩
theorem two_gt {k v : Int} {r : List Int} : decide ((((k :: v :: r).length : Nat) : Int) > 1) = true := by rw [decide_eq_true_eq]; simp; omega
theorem two_in0 {k v : Int} {r : List Int} : inRange 0 (k :: v :: r).length = true := by rw [inRange_iff]; simp; omega
theorem two_in1 {k v : Int} {r : List Int} : inRange 1 (k :: v :: r).length = true := by rw [inRange_iff]; simp; omega
theorem two_le {k v : Int} {r : List Int} : (decide ((0 : Int) ≤ 2) && decide ((2 : Int) ≤ ((hi0 (k :: v :: r).length none : Nat) : Int))) = true := by
  rw [Bool.and_eq_true]; exact ⟨by decide, by rw [decide_eq_true_eq]; show (2 : Int) ≤ ((r.length + 1 + 1 : Nat) : Int); omega⟩

theorem drop_two {l : List Int} {i : Nat} (h : i + 1 < l.length) : l.drop i = l.getD i 0 :: l.getD (i + 1) 0 :: l.drop (i + 2) := by
  rw [getD_cons (l := l) (i := i) (by omega) 0, getD_cons (l := l) (i := i + 1) h 0]
theorem drop_one {l : List Int} {i : Nat} (h : ¬ i + 1 < l.length) : (∀ x, findP (l.drop i) x = (0, false, l.drop i)) ∧ (∀ x, dropP (l.drop i) x = []) := by
  rcases len_gt1 (l.drop i) with ⟨k, v, r, e⟩ | ⟨h1, h2, h3, h4⟩
  · have := congrArg List.length e; simp at this; omega
  · exact ⟨h2, h3⟩

def rfG : List Leaf → T (CEx × NSt)
  | [.l .ints l, .i x, .i r, .b is, .i i] => T.when (i == 0 && small l.length) (.ite (findP l x).2.1 (outAt .ret rfOut0 [.i (findP l x).1, .b true]) (outAt (.exit 0) rfOut0 [.i r, .b is]))
  | _ => .fail
def rdG : List Leaf → T (CEx × NSt)
  | [.l .ints l, .i x, .i i, .l .ints []] => T.when (i == 0 && small l.length) (outAt (.exit 0) rdOut0 [.l .ints (dropP l x)])
  | _ => .fail
def refL : List (Nat × List Nat × LoopFn) := []
theorem refL_ok (N : Nat) : LoopsOk Tryd.prog N refL :=
  loopsOk_nil
def fiL : List (Nat × List Nat × LoopFn) := []
theorem fiL_ok (N : Nat) : LoopsOk Tryd.prog N fiL :=
  loopsOk_nil
def drL : List (Nat × List Nat × LoopFn) := []
theorem drL_ok (N : Nat) : LoopsOk Tryd.prog N drL :=
  loopsOk_nil

/- List (RC.den .ints) -/
def dropEnd0 : NSt := ⟨[.row 0 1 (0)], [], [(0, .rows .ints [])], 1⟩
def findG : List CV → T CV
  | [.pl .ints l, .int .i64 x] => T.when (small l.length) (.ret (.tuple #[.int .i64 (findP l x).1, .bool (findP l x).2.1]))
  | _ => .fail
def dropG : List CV → T CV
  | [.pl .ints l, .int .i64 x] => T.when (small l.length) (.ret (.pl .ints (dropP l x)))
  | _ => .fail
def dropSG : NSt → T NSt
  | ⟨[.pl .ints l, .int .i64 x], [], [], 0⟩ => T.when (small l.length) (.ret ⟨[.row 0 1 0], [], [(0, .rows .ints (dropP l x))], 1⟩)
  | _ => .fail
theorem findP_no {l : List Int} {x : Int} : (findP l x).2.1 = false → (findP l x).1 = 0 := by
  intro h
  have : ∀ (m : Nat) (l : List Int), l.length ≤ m → (findP l x).2.1 = false → (findP l x).1 = 0 := by
    intro m
    induction m using Nat.strongRecOn with
    | ind m ih =>
      intro l hl hf
      rcases len_gt1 l with ⟨k, v, r, rfl⟩ | ⟨_, h2, _⟩
      · by_cases hk : k = x
        · simp [findP, hk] at hf
        · simp only [findP, hk, if_false] at hf ⊢
          exact ih r.length (by simp at hl; omega) r (Nat.le_refl _) hf
      · rw [h2]
  exact this l.length l (Nat.le_refl _) h
def drpE : List (Nat × ExtFn) := []
theorem drpE_ok (N : Nat) : ExtsOk Tryd.prog N drpE := extsOk_nil

/- base 7 round none: Int, Int, List (RC.den .ints), Int, List (RC.den .ints): [.i (x), .i (y), .l .ints (dropP l x), .i (nat_lit 0), .l .ints ([])] -/
def rsSk : NSt := ⟨[.junk, .int .i64 (0), .int .i64 (0), .junk, .junk, .junk, .slice none (0) (0), .pl .ints [], .row 7 1 (0), .int .i64 (0), .junk, .junk, .junk, .junk, .junk, .junk, .junk, .junk, .junk, .junk, .junk, .junk, .junk, .junk, .junk, .junk, .junk, .junk, .junk, .junk, .junk, .junk, .junk, .junk, .junk, .junk, .junk, .junk, .junk, .junk, .junk, .junk, .junk, .junk, .junk, .junk, .junk, .junk, .junk], [], [(7, .rows .ints [])], 8⟩
/- MapF -/
def evenP : List Int → List Int
  | k :: v :: r => k :: v :: evenP r
  | _ => []
/-- Whether a key is laid ahead of another one, and the list then. -/
def seP : List Int → Int → Int → Bool × List Int
  | k :: v :: r, x, y => if x ≤ k then (true, x :: y :: k :: v :: evenP r) else ((seP r x y).1, k :: v :: (seP r x y).2)
  | _, _, _ => (false, [])
def setP (l : List Int) (x y : Int) : List Int := if (seP l x y).1 then (seP l x y).2 else (seP l x y).2 ++ [x, y]
/-- How many cells have keys that are less. -/
def rsP : List Int → Int → Nat
  | k :: v :: r, x => if k < x then rsP r x + 2 else 0
  | _, _ => 0
theorem len_gt1' (l : List Int) : (∃ k v r, l = k :: v :: r) ∨ (¬ ((l.length : Int) > 1) ∧ evenP l = [] ∧ (∀ x y, seP l x y = (false, [])) ∧ (∀ x, rsP l x = 0) ∧ tailP l = l) := by
  match l with
  | [] => exact .inr ⟨by simp, rfl, fun _ _ => rfl, fun _ => rfl, rfl⟩
  | [a] => exact .inr ⟨by simp, rfl, fun _ _ => rfl, fun _ => rfl, rfl⟩
  | k :: v :: r => exact .inl ⟨k, v, r, rfl⟩

theorem drop_one' {l : List Int} {i : Nat} (h : ¬ i + 1 < l.length) : ∀ x, rsP (l.drop i) x = 0 := by
  rcases len_gt1' (l.drop i) with ⟨k, v, r, e⟩ | ⟨h1, h2, h3, h4, h5⟩
  · have := congrArg List.length e; simp at this; omega
  · exact h4

def rsG : List Leaf → T (CEx × NSt)
  | [.i x, .i y, .l .ints l, .i i, .l .ints []] => T.when (i == 0 && small l.length) (outAt (.exit 0) rsSk [.i x, .i y, .l .ints l, .i (rsP l x), .l .ints (l.take (rsP l x))])
  | _ => .fail
def setL : List (Nat × List Nat × LoopFn) := []
theorem setL_ok (N : Nat) : LoopsOk Tryd.prog N setL :=
  loopsOk_nil

theorem evenP_even : ∀ (m : Nat) (l : List Int), l.length = 2 * m → evenP l = l
  | 0, [], _ => rfl
  | m + 1, k :: v :: r, h => by rw [evenP, evenP_even m r (by simp at h; omega)]
  | 0, _ :: _, h => by simp at h
  | m + 1, [], h => by simp at h
  | m + 1, [_], h => by simp at h; omega
theorem setP_same (x y : Int) : ∀ (m : Nat) (l : List Int), l.length = 2 * m → setP l x y = l.take (rsP l x) ++ [x, y] ++ l.drop (rsP l x)
  | 0, [], _ => rfl
  | m + 1, k :: v :: r, h => by
    have he : evenP r = r := evenP_even m r (by simp at h; omega)
    have ih := setP_same x y m r (by simp at h; omega)
    by_cases hk : x ≤ k
    · simp [setP, seP, rsP, hk, he, show ¬ k < x by omega]
    · simp only [setP] at ih
      simp only [setP, seP, rsP, hk, show k < x by omega, if_true, if_false]
      simp only [List.take_succ_cons, List.drop_succ_cons, List.cons_append, ← ih]
      split <;> simp
  | 0, _ :: _, h => by simp at h
  | m + 1, [], h => by simp at h
  | m + 1, [_], h => by simp at h; omega
theorem dropP_even (x : Int) : ∀ (l : List Int), ∃ m, (dropP l x).length = 2 * m
  | [] => ⟨0, rfl⟩
  | [_] => ⟨0, rfl⟩
  | k :: v :: r => by
    obtain ⟨m, hm⟩ := dropP_even x r
    simp only [dropP]
    split
    · exact ⟨m, hm⟩
    · exact ⟨m + 1, by simp; omega⟩
theorem rsP_le (x : Int) : ∀ (l : List Int), rsP l x ≤ l.length
  | [] => by simp [rsP]
  | [_] => by simp [rsP]
  | k :: v :: r => by
    have := rsP_le x r
    simp only [rsP]; split <;> simp <;> omega
theorem seP_length (x y : Int) : ∀ (l : List Int), (seP l x y).2.length ≤ l.length + 2 ∧ (evenP l).length ≤ l.length
  | [] => by simp [seP, evenP]
  | [_] => by simp [seP, evenP]
  | k :: v :: r => by
    have := seP_length x y r
    simp only [seP, evenP]; split <;> simp <;> omega

/- MapG -/
/- List (RC.den .ints) -/
def setEnd0 : NSt := ⟨[.row 0 1 (0)], [], [(0, .rows .ints [])], 1⟩
/- MapH -/
def setG : List CV → T CV
  | [.pl .ints l, .int .i64 x, .int .i64 y] => T.when (small (l.length + 4)) (.ret (.pl .ints (setP (dropP l x) x y)))
  | _ => .fail
def setSG : NSt → T NSt
  | ⟨[.pl .ints l, .int .i64 x, .int .i64 y], [], [], 0⟩ => T.when (small (l.length + 4)) (.ret ⟨[.row 0 1 0], [], [(0, .rows .ints (setP (dropP l x) x y))], 1⟩)
  | _ => .fail
theorem small_le {a b : Nat} (h : small b = true) (hab : a ≤ b) : small a = true := by rw [small_iff] at h ⊢; omega
def hadP (l : List Int) (x : Int) : DRet := if (findP l x).2.1 then ⟨2, (findP l x).1⟩ else ⟨1, 0⟩
def mapA (t n : Int) (l : List Int) (k a b : Int) : Ans :=
  if t ≠ 3 ∨ checkN t n l ≠ 0 then bad 12
  else if k < 7 ∨ 9 < k then bad 6
  else if k ≠ 7 ∧ b ≠ 0 then bad 2
  else ⟨⟨3, 0, if k = 7 then setP (dropP l a) a b else if k = 8 then l else dropP l a⟩, hadP l a, 0⟩
def mapG : List CV → T CV
  | [.agg ⟨[.int .i64 t, .int .i64 n, .pl .ints l]⟩, .int .i64 k, .int .i64 a, .int .i64 b] => T.when (small (l.length + 4)) (.ret (mapA t n l k a b).cv)
  | _ => .fail
def mpE : List (Nat × ExtFn) := [] ++ kitE
theorem mpE_ok (N : Nat) : ExtsOk Tryd.prog N mpE :=
  kitE_ok N

/- MapJ -/
theorem wr7 : IntKind.i64.wrap (7 - 7) = 0 := by decide
theorem wr8 : IntKind.i64.wrap (8 - 7) = 1 := by decide
theorem wr9 : IntKind.i64.wrap (9 - 7) = 2 := by decide

end Go.Proofs.YtecidokjhplbgaaDoorD.Map

