/-
  Chapter 07: what sets answer.
-/
import Derived.Test.YtecidokjhplbgaaDoorKitI
import Derived.Test.YtecidokjhplbgaaDoorKitO5
import Derived.Test.YtecidokjhplbgaaDoorKitQ
import Derived.Test.YtecidokjhplbgaaDoorClose
import Derived.Test.YtecidokjhplbgaaDoorAns
set_option linter.unusedVariables false
set_option linter.unusedSimpArgs false
namespace Go.Proofs.YtecidokjhplbgaaDoorD.Set
open Go Go.RowKit

/- SetA -/
/- base 5 round none: List (RC.den .ints), Int, Int, Bool, Int, Bool, Int: [.l .ints (l), .i (x), .i (nat_lit 0), .b false, .i (nat_lit 0), .b false, .i (nat_lit 0)] -/
def rfSk : NSt := ⟨[.pl .ints [], .int .i64 (0), .junk, .junk, .int .i64 (0), .bool false, .int .i64 (0), .bool false, .int .i64 (0), .junk, .junk, .junk, .junk, .junk, .junk, .junk, .junk, .junk, .junk, .junk, .junk, .junk, .junk, .junk, .junk, .junk, .junk, .junk, .junk, .junk, .junk, .junk, .junk, .junk], [], [], 5⟩
/- base 4 round none: List (RC.den .ints), Int, Bool, Int, List (RC.den .ints): [.l .ints (l), .i (x), .b false, .i (nat_lit 0), .l .ints ([])] -/
def rwSk : NSt := ⟨[.pl .ints [], .int .i64 (0), .junk, .junk, .slice none (0) (0), .row 4 1 (0), .bool false, .int .i64 (0), .junk, .junk, .junk, .junk, .junk, .junk, .junk, .junk, .junk, .junk, .junk, .junk, .junk, .junk, .junk, .junk, .junk, .junk, .junk, .junk, .junk, .junk, .junk, .junk, .junk, .junk, .junk, .junk, .junk, .junk, .junk, .junk, .junk, .junk, .junk, .junk, .junk, .junk, .junk, .junk], [], [(4, .rows .ints [])], 5⟩
/- base 3 round none: List (RC.den .ints), Int, Int, List (RC.den .ints): [.l .ints (l), .i (x), .i (nat_lit 0), .l .ints ([])] -/
def rmSk : NSt := ⟨[.pl .ints [], .int .i64 (0), .junk, .junk, .slice none (0) (0), .row 3 1 (0), .int .i64 (0), .junk, .junk, .junk, .junk, .junk, .junk, .junk, .junk, .junk, .junk, .junk, .junk, .junk, .junk, .junk, .junk, .junk, .junk, .junk, .junk], [], [(3, .rows .ints [])], 4⟩
/- SetB -/
/- Int, Bool, Int, Bool -/
def rfOut0 : NSt := ⟨[.junk, .junk, .junk, .junk, .int .i64 (0), .bool false, .int .i64 (0), .bool false, .junk, .junk, .junk, .junk, .junk, .junk, .junk, .junk, .junk, .junk, .junk, .junk, .junk, .junk, .junk, .junk, .junk, .junk, .junk, .junk, .junk, .junk, .junk, .junk, .junk, .junk], [], [], 5⟩
/- Int, Bool, List (RC.den .ints) -/
def rwOut0 : NSt := ⟨[.junk, .int .i64 (0), .junk, .junk, .slice none (0) (0), .row 4 1 (0), .bool false, .junk, .junk, .junk, .junk, .junk, .junk, .junk, .junk, .junk, .junk, .junk, .junk, .junk, .junk, .junk, .junk, .junk, .junk, .junk, .junk, .junk, .junk, .junk, .junk, .junk, .junk, .junk, .junk, .junk, .junk, .junk, .junk, .junk, .junk, .junk, .junk, .junk, .junk, .junk, .junk, .junk], [], [(4, .rows .ints [])], 5⟩
/- List (RC.den .ints) -/
def rmOut0 : NSt := ⟨[.junk, .junk, .junk, .junk, .slice none (0) (0), .row 3 1 (0), .junk, .junk, .junk, .junk, .junk, .junk, .junk, .junk, .junk, .junk, .junk, .junk, .junk, .junk, .junk, .junk, .junk, .junk, .junk, .junk, .junk], [], [(3, .rows .ints [])], 4⟩
/- SetC -/
/-- How many are less, whether one is there. -/
def cntN : List Int → Int → Nat
  | [], _ => 0
  | y :: r, x => (if y < x then 1 else 0) + cntN r x
def hasN : List Int → Int → Bool
  | [], _ => false
  | y :: r, x => (y == x) || hasN r x
/-- What a number is laid into. -/
def withR : Bool → List Int → Int → Bool × List Int
  | put, [], _ => (put, [])
  | put, y :: r, x => if put = false ∧ x ≤ y then ((withR true r x).1, x :: (if y = x then [] else [y]) ++ (withR true r x).2) else ((withR put r x).1, (if y = x then [] else [y]) ++ (withR put r x).2)
def withN (l : List Int) (x : Int) : List Int := if (withR false l x).1 then (withR false l x).2 else (withR false l x).2 ++ [x]
def lessN : List Int → Int → List Int
  | [], _ => []
  | y :: r, x => (if y = x then [] else [y]) ++ lessN r x
def riseB : List Int → Bool
  | x :: y :: r => decide (x < y) && riseB (y :: r)
  | _ => true

theorem cntN_le : ∀ (l : List Int) (x : Int), cntN l x ≤ l.length
  | [], x => Nat.le_refl _
  | y :: r, x => by have := cntN_le r x; simp only [cntN, List.length_cons]; split <;> omega
theorem riseB_tail {y : Int} {r : List Int} (h : riseB (y :: r) = true) : riseB r = true := by
  cases r with
  | nil => rfl
  | cons z r => simp only [riseB, Bool.and_eq_true] at h; exact h.2
theorem riseB_low : ∀ {y : Int} {r : List Int}, riseB (y :: r) = true → ∀ z ∈ r, y < z
  | y, [], _, z, hz => by cases hz
  | y, w :: r, h, z, hz => by
    simp only [riseB, Bool.and_eq_true, decide_eq_true_eq] at h
    rcases List.mem_cons.1 hz with rfl | hz
    · exact h.1
    · exact Int.lt_trans h.1 (riseB_low h.2 z hz)
theorem cntN_low : ∀ {l : List Int} {x : Int}, (∀ z ∈ l, x ≤ z) → cntN l x = 0
  | [], x, _ => rfl
  | y :: r, x, h => by
    have h1 := h y (by simp)
    have h2 := cntN_low (l := r) (x := x) fun z hz => h z (List.mem_cons_of_mem _ hz)
    simp only [cntN, show ¬ y < x by omega, if_false, h2]
theorem cnt_get : ∀ {l : List Int} {x : Int}, riseB l = true → ∀ (i : Nat), i < l.length → (l.getD i 0 < x ↔ i < cntN l x)
  | [], x, _, i, hi => by simp at hi
  | y :: r, x, h, 0, hi => by
    simp only [List.getD_cons_zero, cntN]
    by_cases hy : y < x
    · simp [hy]; omega
    · simp only [hy, if_false, false_iff]
      rw [cntN_low (fun z hz => by have := riseB_low h z hz; omega)]; omega
  | y :: r, x, h, i + 1, hi => by
    have ih := cnt_get (riseB_tail h) (x := x) i (by simpa using hi)
    simp only [List.getD_cons_succ, cntN]
    rw [ih]
    by_cases hy : y < x
    · simp only [hy, if_true]; omega
    · simp only [hy, if_false]
      rw [cntN_low (fun z hz => by have := riseB_low h z hz; omega)]; omega

/- SetD -/
def rfG : List Leaf → T (CEx × NSt)
  | [.l .ints l, .i x, .i u, .b v, .i n, .b is, .i i] => T.when (i == 0 && n == 0 && small l.length) (outAt (.exit 0) rfOut0 [.i u, .b v, .i (cntN l x), .b (is || hasN l x)])
  | _ => .fail
def rmG : List Leaf → T (CEx × NSt)
  | [.l .ints l, .i x, .i i, .l .ints []] => T.when (i == 0 && small l.length) (outAt (.exit 0) rmOut0 [.l .ints (lessN l x)])
  | _ => .fail
def rwG : List Leaf → T (CEx × NSt)
  | [.l .ints l, .i x, .b put, .i i, .l .ints []] => T.when (i == 0 && Nat.ble l.length 400000000) (outAt (.exit 0) rwOut0 [.i x, .b (withR put l x).1, .l .ints (withR put l x).2])
  | _ => .fail
def setL : List (Nat × List Nat × LoopFn) := []
theorem setL_ok (N : Nat) : LoopsOk Tryd.prog N setL :=
  loopsOk_nil

/- SetF -/
theorem hasN_mem : ∀ (l : List Int) (x : Int), hasN l x = true ↔ x ∈ l
  | [], x => by simp [hasN]
  | y :: r, x => by
    simp only [hasN, Bool.or_eq_true, beq_iff_eq, hasN_mem r x, List.mem_cons]
    constructor <;> (rintro (h | h) <;> simp [h])
theorem hasN_low {l : List Int} {x : Int} (h : ∀ z ∈ l, x < z) : hasN l x = false := by
  cases hh : hasN l x with
  | false => rfl
  | true => have := h x ((hasN_mem l x).1 hh); omega
theorem has_get : ∀ {l : List Int} {x : Int}, riseB l = true → hasN l x = if cntN l x < l.length then l.getD (cntN l x) 0 == x else false
  | [], x, _ => rfl
  | y :: r, x, h => by
    have ih := has_get (x := x) (riseB_tail h)
    by_cases hy : y < x
    · simp only [hasN, cntN, hy, if_true, show (y == x) = false by (rw [beq_eq_false_iff_ne]; omega), Bool.false_or, ih, List.length_cons, show 1 + cntN r x = cntN r x + 1 by omega, List.getD_cons_succ, Nat.add_lt_add_iff_right]
    · have h0 : cntN r x = 0 := cntN_low fun z hz => by have := riseB_low h z hz; omega
      simp only [hasN, cntN, hy, if_false, h0, Nat.add_zero, List.length_cons, Nat.zero_lt_succ, if_true, List.getD_cons_zero]
      by_cases he : y = x
      · simp [he]
      · rw [hasN_low fun z hz => by have := riseB_low h z hz; omega]; simp

def midB (l : List Int) : Bool := Nat.ble l.length 400000000
theorem mid_small {l : List Int} (h : midB l = true) : small l.length = true := by rw [midB, Nat.ble_eq] at h; rw [small_iff]; omega
def rfindG : List CV → T CV
  | [.pl .ints l, .int .i64 x] => T.when (midB l) (.ret (.tuple #[.int .i64 (cntN l x), .bool (hasN l x)]))
  | _ => .fail
def findG : List CV → T CV
  | [.pl .ints l, .int .i64 x] => T.when (midB l && riseB l) (.ret (.tuple #[.int .i64 (cntN l x), .bool (hasN l x)]))
  | _ => .fail
def rwithG : List CV → T CV
  | [.pl .ints l, .int .i64 x] => T.when (midB l) (.ret (.pl .ints (withN l x)))
  | _ => .fail
def rlessG : List CV → T CV
  | [.pl .ints l, .int .i64 x] => T.when (midB l) (.ret (.pl .ints (lessN l x)))
  | _ => .fail
theorem withR_length : ∀ (l : List Int) (x : Int) (put : Bool), (withR put l x).2.length ≤ 2 * l.length
  | [], x, put => by simp [withR]
  | y :: r, x, put => by
    have h1 := withR_length r x true
    have h2 := withR_length r x put
    simp only [withR]
    split
    · simp only [List.length_cons, List.length_append]; split <;> simp <;> omega
    · simp only [List.length_append]; split <;> simp <;> omega
def fdE : List (Nat × ExtFn) := []
theorem fdE_ok (N : Nat) : ExtsOk Tryd.prog N fdE := extsOk_nil

/- SetG -/
/- List (RC.den .ints) -/
def wtEnd0 : NSt := ⟨[.row 0 1 (0)], [], [(0, .rows .ints [])], 1⟩
/- List (RC.den .ints) -/
def lsEnd0 : NSt := ⟨[.row 0 1 (0)], [], [(0, .rows .ints [])], 1⟩
/- Nat, Nat, Nat, List (RC.den .ints) -/
def lsEnd1 : NSt := ⟨[.win 0 1 (0) (0) (0)], [], [(0, .rows .ints [])], 1⟩
/- SetH -/
theorem withR_true {l : List Int} {x : Int} : ∀ (h : ∀ z ∈ l, x < z), withR true l x = (true, l) := by
  induction l with
  | nil => intro _; rfl
  | cons y r ih =>
    intro h
    have h1 := h y (by simp)
    simp only [withR, Bool.true_eq_false, false_and, if_false, ih (fun z hz => h z (List.mem_cons_of_mem _ hz)), show ¬ y = x by omega]
    rfl
theorem with_rise : ∀ {l : List Int} {x : Int}, riseB l = true → withN l x = if hasN l x then l else l.take (cntN l x) ++ [x] ++ l.drop (cntN l x)
  | [], x, _ => rfl
  | y :: r, x, h => by
    have ih := with_rise (x := x) (riseB_tail h)
    have hlow := riseB_low h
    by_cases hy : y < x
    · have e1 : (y == x) = false := by rw [beq_eq_false_iff_ne]; omega
      have e2 : withN (y :: r) x = y :: withN r x := by
        simp only [withN, withR, show ¬ x ≤ y by omega, and_false, if_false, show ¬ y = x by omega]
        split <;> rfl
      rw [e2, ih]
      simp only [hasN, cntN, e1, Bool.false_or, hy, if_true, show 1 + cntN r x = cntN r x + 1 by omega, List.take_succ_cons, List.drop_succ_cons]
      split <;> simp
    · by_cases he : y = x
      · subst he
        simp only [withN, withR, Int.le_refl, and_self, if_true, withR_true hlow, hasN, beq_self_eq_true, Bool.true_or]
        rfl
      · have e1 : (y == x) = false := by rw [beq_eq_false_iff_ne]; omega
        have hl : ∀ z ∈ r, x < z := fun z hz => by have := hlow z hz; omega
        have h0 : cntN r x = 0 := cntN_low fun z hz => by have := hl z hz; omega
        simp only [withN, withR, show x ≤ y by omega, and_self, if_true, he, if_false, withR_true hl, hasN, e1, Bool.false_or, hasN_low hl, cntN, hy, h0]
        rfl
theorem lessN_low {l : List Int} {x : Int} : ∀ (h : ∀ z ∈ l, x < z), lessN l x = l := by
  induction l with
  | nil => intro _; rfl
  | cons y r ih =>
    intro h
    have h1 := h y (by simp)
    simp only [lessN, ih (fun z hz => h z (List.mem_cons_of_mem _ hz)), show ¬ y = x by omega, if_false]
    rfl
theorem less_rise : ∀ {l : List Int} {x : Int}, riseB l = true → lessN l x = if hasN l x then l.take (cntN l x) ++ l.drop (cntN l x + 1) else l
  | [], x, _ => rfl
  | y :: r, x, h => by
    have ih := less_rise (x := x) (riseB_tail h)
    have hlow := riseB_low h
    by_cases hy : y < x
    · have e1 : (y == x) = false := by rw [beq_eq_false_iff_ne]; omega
      simp only [lessN, show ¬ y = x by omega, if_false, ih, hasN, cntN, e1, Bool.false_or, hy, if_true, show 1 + cntN r x = cntN r x + 1 by omega, List.take_succ_cons, List.drop_succ_cons]
      split <;> simp
    · by_cases he : y = x
      · subst he
        have h0 : cntN r y = 0 := cntN_low fun z hz => by have := hlow z hz; omega
        simp only [lessN, if_true, List.nil_append, lessN_low hlow, hasN, beq_self_eq_true, Bool.true_or, cntN, show ¬ y < y by omega, if_false, h0]
        rfl
      · have e1 : (y == x) = false := by rw [beq_eq_false_iff_ne]; omega
        have hl : ∀ z ∈ r, x < z := fun z hz => by have := hlow z hz; omega
        simp only [lessN, he, if_false, lessN_low hl, hasN, e1, Bool.false_or, hasN_low hl]
        rfl
theorem has_lt {l : List Int} {x : Int} (h : riseB l = true) (hh : hasN l x = true) : cntN l x < l.length := by
  rw [has_get h] at hh
  split at hh
  · assumption
  · cases hh

def withSG : NSt → T NSt
  | ⟨[.pl .ints l, .int .i64 x], [], [], 0⟩ => T.when (midB l && riseB l) (.ret ⟨[.row 0 1 0], [], [(0, .rows .ints (withN l x))], 1⟩)
  | _ => .fail
def withG : List CV → T CV
  | [.pl .ints l, .int .i64 x] => T.when (midB l && riseB l) (.ret (.pl .ints (withN l x)))
  | _ => .fail
def lessRow (l : List Int) (c : Nat) : List Int := l.take c ++ l.drop (c + 1) ++ [0]
def lessSG : NSt → T NSt
  | ⟨[.pl .ints l, .int .i64 x], [], [], 0⟩ => T.when (midB l && riseB l) (.ite (hasN l x) (.ret ⟨[.win 0 1 0 (l.length - 1) l.length], [], [(0, .rows .ints (lessRow l (cntN l x)))], 1⟩) (.ret ⟨[.row 0 1 0], [], [(0, .rows .ints l)], 1⟩))
  | _ => .fail
def lessG : List CV → T CV
  | [.pl .ints l, .int .i64 x] => T.when (midB l && riseB l) (.ret (.pl .ints (lessN l x)))
  | _ => .fail
/- SetI -/
/- List (RC.den .ints) -/
def clone2A0 : NSt := ⟨[.row 0 1 (0)], [], [(0, .rows .ints [])], 1⟩
/- List (RC.den .ints) -/
def clone2B0 : NSt := ⟨[.row 0 1 (0)], [], [(0, .rows .ints [])], 1⟩
/- List (RC.den .ints) -/
def clone2C0 : NSt := ⟨[.row 0 1 (0)], [], [(0, .rows .ints [])], 1⟩
def setA (t n : Int) (l : List Int) (k a b : Int) : Ans :=
  if t ≠ 2 ∨ checkN t n l ≠ 0 then bad 12
  else if k < 3 ∨ 6 < k then bad 6
  else if b ≠ 0 ∨ (k = 6 ∧ a ≠ 0) then bad 2
  else if k = 3 then ⟨⟨2, 0, withN l a⟩, ⟨2, if hasN l a then 0 else 1⟩, 0⟩
  else if k = 4 then ⟨⟨2, 0, lessN l a⟩, ⟨2, if hasN l a then 1 else 0⟩, 0⟩
  else if k = 5 then ⟨⟨2, 0, l⟩, ⟨2, if hasN l a then 1 else 0⟩, 0⟩
  else ⟨⟨2, 0, l⟩, ⟨2, l.length⟩, 0⟩
def setG : List CV → T CV
  | [.agg ⟨[.int .i64 t, .int .i64 n, .pl .ints l]⟩, .int .i64 k, .int .i64 a, .int .i64 b] => T.when (midB l) (.ret (setA t n l k a b).cv)
  | _ => .fail
def stE : List (Nat × ExtFn) := [] ++ kitE
theorem stE_ok (N : Nat) : ExtsOk Tryd.prog N stE :=
  kitE_ok N

/- SetK -/
theorem rises_at (l : List Int) : ∀ (d i : Nat), l.length < i + 1 + d → risesAt l 1 d (i + 1) = riseB (l.drop i)
  | 0, i, h => by rw [List.drop_eq_nil_of_le (by omega)]; rfl
  | d + 1, i, h => by
    have ih := rises_at l d (i + 1) (by omega)
    by_cases hi : i + 1 < l.length
    · rw [getD_cons (l := l) (i := i) (by omega) 0]
      rw [getD_cons (l := l) (i := i + 1) hi 0] at ih ⊢
      simp only [risesAt, hi, if_true, show i + 1 - 1 = i by omega, riseB]
      by_cases hle : l.getD (i + 1) 0 ≤ l.getD i 0
      · rw [if_pos hle, show decide (l.getD i 0 < l.getD (i + 1) 0) = false by rw [decide_eq_false_iff_not]; omega]; rfl
      · simp only [hle, if_false, ih, show l.getD i 0 < l.getD (i + 1) 0 by omega, decide_true, Bool.true_and]
    · simp only [risesAt, hi, if_false]
      by_cases hi2 : i < l.length
      · rw [getD_cons (l := l) (i := i) hi2 0, List.drop_eq_nil_of_le (by omega)]; rfl
      · rw [List.drop_eq_nil_of_le (by omega)]; rfl
theorem rises_rise (l : List Int) : rises l 1 = riseB l := rises_at l (l.length + 1) 0 (by omega)
theorem check2 {n : Int} {l : List Int} : checkN 2 n l = 0 ↔ n = 0 ∧ riseB l = true := by
  rw [checkN, rises_rise]
  by_cases h : n = 0 ∧ riseB l = true
  · simp [h]
  · simp [h]
theorem less_row {l : List Int} {x : Int} (hr : riseB l = true) (hh : hasN l x = true) : List.take (l.length - 1) (List.drop 0 (lessRow l (cntN l x))) = lessN l x := by
  have hlt := has_lt hr hh
  have hL : (List.take (cntN l x) l ++ List.drop (cntN l x + 1) l).length = l.length - 1 := by rw [List.length_append, List.length_take, List.length_drop]; omega
  rw [List.drop_zero, lessRow, List.take_left' hL, less_rise hr, hh]; rfl
theorem ws3 : IntKind.i64.wrap (3 - 3) = 0 := by decide
theorem ws4 : IntKind.i64.wrap (4 - 3) = 1 := by decide
theorem ws5 : IntKind.i64.wrap (5 - 3) = 2 := by decide
theorem ws6 : IntKind.i64.wrap (6 - 3) = 3 := by decide

end Go.Proofs.YtecidokjhplbgaaDoorD.Set

