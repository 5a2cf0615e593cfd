/-
  Chapter 07: what sets answer.
-/
import Derived.Test.YtecidokjhplbgaaGreatDoorKitI
import Derived.Test.YtecidokjhplbgaaGreatDoorKitO5
import Derived.Test.YtecidokjhplbgaaGreatDoorKitQ
import Derived.Test.YtecidokjhplbgaaGreatDoorClose
import Derived.Test.YtecidokjhplbgaaGreatDoorAns
set_option linter.unusedVariables false
set_option linter.unusedSimpArgs false
namespace Go.Proofs.YtecidokjhplbgaaGreatDoorD.Set
open Go Go.RowKit

/- SetA -/
/- base 5 round none: List (RC.den .ints), Int, Int, Bool, Int, Bool, Int: [.l .ints (l), .i (x), .i (nat_lit 0), .b false, .i (nat_lit 0), .b false, .i (nat_lit 0)] -/
def rfSk : NSt := ⟨[.pl .ints [], .int .i64 (0), .junk, .junk, .int .i64 (0), .bool false, .int .i64 (0), .bool false, .int .i64 (0), .junk, .junk, .junk, .junk, .junk, .junk, .junk, .junk, .junk, .junk, .junk, .junk, .junk, .junk, .junk, .junk, .junk, .junk, .junk, .junk, .junk, .junk, .junk, .junk, .junk], [], [], 5⟩
/- base 4 round none: List (RC.den .ints), Int, Bool, Int, List (RC.den .ints): [.l .ints (l), .i (x), .b false, .i (nat_lit 0), .l .ints ([])] -/
def rwSk : NSt := ⟨[.pl .ints [], .int .i64 (0), .junk, .junk, .slice none (0) (0), .row 4 1 (0), .bool false, .int .i64 (0), .junk, .junk, .junk, .junk, .junk, .junk, .junk, .junk, .junk, .junk, .junk, .junk, .junk, .junk, .junk, .junk, .junk, .junk, .junk, .junk, .junk, .junk, .junk, .junk, .junk, .junk, .junk, .junk, .junk, .junk, .junk, .junk, .junk, .junk, .junk, .junk, .junk, .junk, .junk, .junk], [], [(4, .rows .ints [])], 5⟩
/- base 3 round none: List (RC.den .ints), Int, Int, List (RC.den .ints): [.l .ints (l), .i (x), .i (nat_lit 0), .l .ints ([])] -/
def rmSk : NSt := ⟨[.pl .ints [], .int .i64 (0), .junk, .junk, .slice none (0) (0), .row 3 1 (0), .int .i64 (0), .junk, .junk, .junk, .junk, .junk, .junk, .junk, .junk, .junk, .junk, .junk, .junk, .junk, .junk, .junk, .junk, .junk, .junk, .junk, .junk], [], [(3, .rows .ints [])], 4⟩
/- base 20 round none: Int, Int, List (RC.den .ints), Int, Int, Int: [.i (nat_lit 0), .i ((↑l.length : Int)), .l .ints (l), .i (x), .i (nat_lit 0), .i ((↑l.length : Int))] -/
def sfSk : NSt := ⟨[.func (.yield 16) #[] #[], .junk, .pointer (some ⟨11, 0, none⟩), .junk, .int .i64 (0), .int .i64 (0), .junk, .junk, .junk, .junk, .junk, .junk, .junk, .junk, .junk, .junk, .junk, .junk, .junk, .junk, .junk, .junk, .junk, .junk, .junk, .junk], [], [(0, .cells [.pl .ints []] 1 0), (1, .cells [.int .i64 (0)] 1 0), (4, .cells [.int .i64 (0)] 1 0), (10, .cells [.int .i64 (0)] 1 0), (11, .cells [.func (.func 157) #[] #[.pointer (some ⟨0, 0, none⟩), .pointer (some ⟨1, 0, none⟩)]] 1 0), (15, .defs), (16, .loop .ready none 137 [.junk, .junk, .junk, .junk, .junk, .junk, .pointer (some ⟨4, 0, none⟩), .junk, .junk, .junk, .junk, .junk, .tuple #[], .tuple #[], .junk, .junk, .junk, .junk, .junk, .junk, .junk, .junk, .junk, .junk, .junk, .junk, .junk, .junk] [0, 1, 0, 1, 1] 15)], 20⟩
def sfId : LoopId := ⟨168, [0, 1], []⟩

/- SetB -/
/- Int, Bool, Int, Bool -/
def rfOut0 : NSt := ⟨[.junk, .junk, .junk, .junk, .int .i64 (0), .bool false, .int .i64 (0), .bool false, .junk, .junk, .junk, .junk, .junk, .junk, .junk, .junk, .junk, .junk, .junk, .junk, .junk, .junk, .junk, .junk, .junk, .junk, .junk, .junk, .junk, .junk, .junk, .junk, .junk, .junk], [], [], 5⟩
/- Int, Bool, List (RC.den .ints) -/
def rwOut0 : NSt := ⟨[.junk, .int .i64 (0), .junk, .junk, .slice none (0) (0), .row 4 1 (0), .bool false, .junk, .junk, .junk, .junk, .junk, .junk, .junk, .junk, .junk, .junk, .junk, .junk, .junk, .junk, .junk, .junk, .junk, .junk, .junk, .junk, .junk, .junk, .junk, .junk, .junk, .junk, .junk, .junk, .junk, .junk, .junk, .junk, .junk, .junk, .junk, .junk, .junk, .junk, .junk, .junk, .junk], [], [(4, .rows .ints [])], 5⟩
/- List (RC.den .ints) -/
def rmOut0 : NSt := ⟨[.junk, .junk, .junk, .junk, .slice none (0) (0), .row 3 1 (0), .junk, .junk, .junk, .junk, .junk, .junk, .junk, .junk, .junk, .junk, .junk, .junk, .junk, .junk, .junk, .junk, .junk, .junk, .junk, .junk, .junk], [], [(3, .rows .ints [])], 4⟩
/- List (RC.den .ints), Int, Int, Int -/
def sfOut0 : NSt := ⟨[.junk, .junk, .junk, .junk, .junk, .junk, .junk, .junk, .junk, .junk, .junk, .junk, .junk, .junk, .junk, .junk, .junk, .junk, .junk, .junk, .junk, .junk, .junk, .junk, .junk, .junk], [], [(0, .cells [.pl .ints []] 1 0), (1, .cells [.int .i64 (0)] 1 0), (4, .cells [.int .i64 (0)] 1 0), (10, .cells [.int .i64 (0)] 1 0), (11, .cells [.func (.func 157) #[] #[.pointer (some ⟨0, 0, none⟩), .pointer (some ⟨1, 0, none⟩)]] 1 0), (15, .defs), (16, .loop .ready none 137 [.junk, .junk, .junk, .junk, .junk, .junk, .pointer (some ⟨4, 0, none⟩), .junk, .junk, .junk, .junk, .junk, .tuple #[], .tuple #[], .junk, .junk, .junk, .junk, .junk, .junk, .junk, .junk, .junk, .junk, .junk, .junk, .junk, .junk] [0, 1, 0, 1, 1] 15)], 20⟩
set_option maxRecDepth 100000 in
theorem sf_round (k : Nat) (a b : Int) (l : List Int) (x at_ m : Int) : ((rounds Tryz.prog [] [] 30 sfId 20 none sfSk (k + 1) [.i a, .i b, .l .ints l, .i x, .i at_, .i m]).cut
    (.ite (.yes (.ite (.ite (.yes (.no (.all))) (.yes (.no (.all)))) (.all))) (.all))).ev = T.ev (
     .ite (decide (a < b))
      (.ite (inRange (IntKind.i64.wrap ((IntKind.i64.wrap (a + b)).tdiv (2 : Int))) l.length)
       (.ite (decide (l.getD (IntKind.i64.wrap ((IntKind.i64.wrap (a + b)).tdiv (2 : Int))).toNat RC.ints.zero < x))
        (rounds Tryz.prog [] [] 30 sfId 20 none sfSk k [.i (IntKind.i64.wrap (IntKind.i64.wrap ((IntKind.i64.wrap (a + b)).tdiv (2 : Int)) + (1 : Int))), .i (b), .l .ints (l), .i (x), .i (IntKind.i64.wrap (IntKind.i64.wrap ((IntKind.i64.wrap (a + b)).tdiv (2 : Int)) + (1 : Int))), .i (m)])
        (rounds Tryz.prog [] [] 30 sfId 20 none sfSk k [.i (a), .i (IntKind.i64.wrap ((IntKind.i64.wrap (a + b)).tdiv (2 : Int))), .l .ints (l), .i (x), .i (a), .i (m)]))
       (.fail))
      (outAt (.exit 0) sfOut0 [.l .ints (l), .i (x), .i (at_), .i (m)])) := by kernel_rfl

/- SetC -/
/-- How many are less, whether one is there. -/
def cntN : List Int → Int → Nat
  | [], _ => 0
  | y :: r, x => (if y < x then 1 else 0) + cntN r x
def hasN : List Int → Int → Bool
  | [], _ => false
  | y :: r, x => (y == x) || hasN r x
/-- What a number is laid into. -/
def withR : Bool → List Int → Int → Bool × List Int
  | put, [], _ => (put, [])
  | put, y :: r, x => if put = false ∧ x ≤ y then ((withR true r x).1, x :: (if y = x then [] else [y]) ++ (withR true r x).2) else ((withR put r x).1, (if y = x then [] else [y]) ++ (withR put r x).2)
def withN (l : List Int) (x : Int) : List Int := if (withR false l x).1 then (withR false l x).2 else (withR false l x).2 ++ [x]
def lessN : List Int → Int → List Int
  | [], _ => []
  | y :: r, x => (if y = x then [] else [y]) ++ lessN r x
def riseB : List Int → Bool
  | x :: y :: r => decide (x < y) && riseB (y :: r)
  | _ => true

theorem cntN_le : ∀ (l : List Int) (x : Int), cntN l x ≤ l.length
  | [], x => Nat.le_refl _
  | y :: r, x => by have := cntN_le r x; simp only [cntN, List.length_cons]; split <;> omega
theorem riseB_tail {y : Int} {r : List Int} (h : riseB (y :: r) = true) : riseB r = true := by
  cases r with
  | nil => rfl
  | cons z r => simp only [riseB, Bool.and_eq_true] at h; exact h.2
theorem riseB_low : ∀ {y : Int} {r : List Int}, riseB (y :: r) = true → ∀ z ∈ r, y < z
  | y, [], _, z, hz => by cases hz
  | y, w :: r, h, z, hz => by
    simp only [riseB, Bool.and_eq_true, decide_eq_true_eq] at h
    rcases List.mem_cons.1 hz with rfl | hz
    · exact h.1
    · exact Int.lt_trans h.1 (riseB_low h.2 z hz)
theorem cntN_low : ∀ {l : List Int} {x : Int}, (∀ z ∈ l, x ≤ z) → cntN l x = 0
  | [], x, _ => rfl
  | y :: r, x, h => by
    have h1 := h y (by simp)
    have h2 := cntN_low (l := r) (x := x) fun z hz => h z (List.mem_cons_of_mem _ hz)
    simp only [cntN, show ¬ y < x by omega, if_false, h2]
theorem cnt_get : ∀ {l : List Int} {x : Int}, riseB l = true → ∀ (i : Nat), i < l.length → (l.getD i 0 < x ↔ i < cntN l x)
  | [], x, _, i, hi => by simp at hi
  | y :: r, x, h, 0, hi => by
    simp only [List.getD_cons_zero, cntN]
    by_cases hy : y < x
    · simp [hy]; omega
    · simp only [hy, if_false, false_iff]
      rw [cntN_low (fun z hz => by have := riseB_low h z hz; omega)]; omega
  | y :: r, x, h, i + 1, hi => by
    have ih := cnt_get (riseB_tail h) (x := x) i (by simpa using hi)
    simp only [List.getD_cons_succ, cntN]
    rw [ih]
    by_cases hy : y < x
    · simp only [hy, if_true]; omega
    · simp only [hy, if_false]
      rw [cntN_low (fun z hz => by have := riseB_low h z hz; omega)]; omega

theorem sf_rounds (l : List Int) (hs : l.length ≤ 1000000000) (hr : riseB l = true) (x m : Int) (q : CEx × NSt) : ∀ (d a b : Nat), b ≤ a + d → a ≤ cntN l x → cntN l x ≤ b → b ≤ l.length →
    (outAt (.exit 0) sfOut0 [.l .ints l, .i x, .i (cntN l x), .i m]).ev = some q →
    ∃ k, (rounds Tryz.prog [] [] 30 sfId 20 none sfSk k [.i a, .i b, .l .ints l, .i x, .i a, .i m]).ev = some q
  | 0, a, b, hd, ha, hb, hl, hq => by
    refine ⟨1, cut_ev _ _ ((sf_round 0 a b l x a m).trans ?_)⟩
    rw [T.ev_ite, show decide ((a : Int) < (b : Int)) = false by rw [decide_eq_false_iff_not]; omega, show (a : Int) = (cntN l x : Int) by omega]
    exact hq
  | d + 1, a, b, hd, ha, hb, hl, hq => by
    by_cases hab : a < b
    · have h0 : decide ((a : Int) < (b : Int)) = true := by rw [decide_eq_true_eq]; omega
      have w0 : IntKind.i64.wrap ((a : Int) + b) = ((a + b : Nat) : Int) := by rw [wrap64 (by omega) (by omega)]; omega
      have w1 : ((a + b : Nat) : Int).tdiv 2 = (((a + b) / 2 : Nat) : Int) := by
        rw [Int.tdiv_eq_ediv_of_nonneg (by omega)]; omega
      have w2 : IntKind.i64.wrap ((((a + b) / 2 : Nat) : Int)) = (((a + b) / 2 : Nat) : Int) := by rw [wrap64 (by omega) (by omega)]
      have w3 : IntKind.i64.wrap ((((a + b) / 2 : Nat) : Int) + 1) = (((a + b) / 2 + 1 : Nat) : Int) := by rw [wrap64 (by omega) (by omega)]; omega
      have hin : inRange (((a + b) / 2 : Nat) : Int) l.length = true := by rw [inRange_iff]; omega
      have hcg := cnt_get hr (x := x) ((a + b) / 2) (by omega)
      by_cases hx : l.getD ((a + b) / 2) 0 < x
      · obtain ⟨k, ih⟩ := sf_rounds l hs hr x m q d ((a + b) / 2 + 1) b (by omega) (by have := hcg.1 hx; omega) hb hl hq
        refine ⟨k + 1, cut_ev _ _ ((sf_round k a b l x a m).trans ?_)⟩
        have e : decide (l.getD ((a + b) / 2) RC.ints.zero < x) = true := by rw [decide_eq_true_eq]; exact hx
        simp only [w0, w1, w2, w3, T.ev_ite, h0, hin, e, Int.toNat_natCast, if_true]
        exact ih
      · obtain ⟨k, ih⟩ := sf_rounds l hs hr x m q d a ((a + b) / 2) (by omega) ha (by have := mt hcg.2 hx; omega) (by omega) hq
        refine ⟨k + 1, cut_ev _ _ ((sf_round k a b l x a m).trans ?_)⟩
        have e : decide (l.getD ((a + b) / 2) RC.ints.zero < x) = false := by rw [decide_eq_false_iff_not]; exact hx
        simp only [w0, w1, w2, T.ev_ite, h0, hin, e, Int.toNat_natCast, if_true, Bool.false_eq_true, if_false]
        exact ih
    · refine ⟨1, cut_ev _ _ ((sf_round 0 a b l x a m).trans ?_)⟩
      rw [T.ev_ite, show decide ((a : Int) < (b : Int)) = false by rw [decide_eq_false_iff_not]; omega, show (a : Int) = (cntN l x : Int) by omega]
      exact hq

/- SetD -/
def rfG : List Leaf → T (CEx × NSt)
  | [.l .ints l, .i x, .i u, .b v, .i n, .b is, .i i] => T.when (i == 0 && n == 0 && small l.length) (outAt (.exit 0) rfOut0 [.i u, .b v, .i (cntN l x), .b (is || hasN l x)])
  | _ => .fail
def rmG : List Leaf → T (CEx × NSt)
  | [.l .ints l, .i x, .i i, .l .ints []] => T.when (i == 0 && small l.length) (outAt (.exit 0) rmOut0 [.l .ints (lessN l x)])
  | _ => .fail
def rwG : List Leaf → T (CEx × NSt)
  | [.l .ints l, .i x, .b put, .i i, .l .ints []] => T.when (i == 0 && Nat.ble l.length 400000000) (outAt (.exit 0) rwOut0 [.i x, .b (withR put l x).1, .l .ints (withR put l x).2])
  | _ => .fail
def sfG : List Leaf → T (CEx × NSt)
  | [.i a, .i b, .l .ints l, .i x, .i c, .i m] => T.when (a == 0 && b == l.length && c == 0 && small l.length && riseB l) (outAt (.exit 0) sfOut0 [.l .ints l, .i x, .i (cntN l x), .i m])
  | _ => .fail
theorem sf_shape : ShapeOk Tryz.prog [] [] sfId ⟨20, none, sfSk, sfG⟩ := by
  refine shapeOk_mk fun ls r h => ?_
  unfold sfG at h
  split at h
  · rename_i a b l x c m
    obtain ⟨hc, h1⟩ := ev_when h
    simp only [Bool.and_eq_true, beq_iff_eq, small_iff] at hc
    obtain ⟨⟨⟨⟨rfl, rfl⟩, rfl⟩, hs⟩, hr⟩ := hc
    obtain ⟨k, hk⟩ := sf_rounds l hs hr x m r l.length 0 l.length (by omega) (by omega) (cntN_le l x) (Nat.le_refl _) h1
    exact ⟨30, k, hk⟩
  · exact (ev_fail h).elim
def setL : List (Nat × List Nat × LoopFn) := [(168, [0, 1], loopExt sfId [⟨20, none, sfSk, sfG⟩])]
theorem setL_ok (N : Nat) : LoopsOk Tryz.prog N setL :=
  loopsOk_cons (loopExt_ok plainN mixedN (fun _ => extsOk_nil) (fun _ => loopsOk_nil) (all1 sf_shape all0) N) loopsOk_nil

set_option maxRecDepth 100000 in
theorem find_tree (l : List Int) (x : Int) : (((tden Tryz.prog [] setL 30).call 0 137 [.pl .ints l, .int .i64 x] ⟨.nil, 0⟩).pure.cut
    (.ite (.yes (.ite (.yes (.yes (.ite (.yes (.yes (.yes (.all)))) (.all)))) (.no (.no (.no (.no (.no (.no (.all))))))))) (.all))).ev = T.ev (α := CV) (
     .ite ((0 : Int) == (0 : Int) && (↑l.length : Int) == (↑l.length : Int) && (0 : Int) == (0 : Int) && small l.length && riseB l)
      (.ite (decide ((↑(cntN l x) : Int) < (↑l.length : Int)))
       (.ite (inRange (↑(cntN l x) : Int) l.length)
        (.ret (.tuple #[.int .i64 ((↑(cntN l x) : Int)), .bool (l.getD (↑(cntN l x) : Int).toNat RC.ints.zero == x)]))
        (.fail))
       (.ret (.tuple #[.int .i64 ((↑(cntN l x) : Int)), .bool false])))
      (.fail)) := by kernel_rfl

/- SetF -/
theorem hasN_mem : ∀ (l : List Int) (x : Int), hasN l x = true ↔ x ∈ l
  | [], x => by simp [hasN]
  | y :: r, x => by
    simp only [hasN, Bool.or_eq_true, beq_iff_eq, hasN_mem r x, List.mem_cons]
    constructor <;> (rintro (h | h) <;> simp [h])
theorem hasN_low {l : List Int} {x : Int} (h : ∀ z ∈ l, x < z) : hasN l x = false := by
  cases hh : hasN l x with
  | false => rfl
  | true => have := h x ((hasN_mem l x).1 hh); omega
theorem has_get : ∀ {l : List Int} {x : Int}, riseB l = true → hasN l x = if cntN l x < l.length then l.getD (cntN l x) 0 == x else false
  | [], x, _ => rfl
  | y :: r, x, h => by
    have ih := has_get (x := x) (riseB_tail h)
    by_cases hy : y < x
    · simp only [hasN, cntN, hy, if_true, show (y == x) = false by (rw [beq_eq_false_iff_ne]; omega), Bool.false_or, ih, List.length_cons, show 1 + cntN r x = cntN r x + 1 by omega, List.getD_cons_succ, Nat.add_lt_add_iff_right]
    · have h0 : cntN r x = 0 := cntN_low fun z hz => by have := riseB_low h z hz; omega
      simp only [hasN, cntN, hy, if_false, h0, Nat.add_zero, List.length_cons, Nat.zero_lt_succ, if_true, List.getD_cons_zero]
      by_cases he : y = x
      · simp [he]
      · rw [hasN_low fun z hz => by have := riseB_low h z hz; omega]; simp

def midB (l : List Int) : Bool := Nat.ble l.length 400000000
theorem mid_small {l : List Int} (h : midB l = true) : small l.length = true := by rw [midB, Nat.ble_eq] at h; rw [small_iff]; omega
def rfindG : List CV → T CV
  | [.pl .ints l, .int .i64 x] => T.when (midB l) (.ret (.tuple #[.int .i64 (cntN l x), .bool (hasN l x)]))
  | _ => .fail
def findG : List CV → T CV
  | [.pl .ints l, .int .i64 x] => T.when (midB l && riseB l) (.ret (.tuple #[.int .i64 (cntN l x), .bool (hasN l x)]))
  | _ => .fail
def rwithG : List CV → T CV
  | [.pl .ints l, .int .i64 x] => T.when (midB l) (.ret (.pl .ints (withN l x)))
  | _ => .fail
def rlessG : List CV → T CV
  | [.pl .ints l, .int .i64 x] => T.when (midB l) (.ret (.pl .ints (lessN l x)))
  | _ => .fail
theorem withR_length : ∀ (l : List Int) (x : Int) (put : Bool), (withR put l x).2.length ≤ 2 * l.length
  | [], x, put => by simp [withR]
  | y :: r, x, put => by
    have h1 := withR_length r x true
    have h2 := withR_length r x put
    simp only [withR]
    split
    · simp only [List.length_cons, List.length_append]; split <;> simp <;> omega
    · simp only [List.length_append]; split <;> simp <;> omega
theorem find_fn : PureFn Tryz.prog 137 (sigExt [.l .ints] findG) :=
  pureFn_mk (bodied_ex (by kernel_rfl)) fun args d h => by
    unfold findG at h
    split at h
    · rename_i l x
      obtain ⟨hc, h1⟩ := ev_when h
      cases ev_ret h1
      simp only [Bool.and_eq_true] at hc
      refine pureAt0 plainN mixedN noE setL_ok (k := 30) ((find_tree l x).trans ?_) rfl
      rw [has_get hc.2]
      by_cases hlt : cntN l x < l.length
      · have h2 : inRange (cntN l x : Int) l.length = true := by rw [inRange_iff]; omega
        have h3 : decide ((cntN l x : Int) < (l.length : Int)) = true := by rw [decide_eq_true_eq]; omega
        simp only [T.ev_ite, T.ev_ret, mid_small hc.1, hc.2, h2, h3, hlt, Int.toNat_natCast, beq_self_eq_true, Bool.and_self, if_true]
        rfl
      · have h3 : decide ((cntN l x : Int) < (l.length : Int)) = false := by rw [decide_eq_false_iff_not]; omega
        simp only [T.ev_ite, T.ev_ret, mid_small hc.1, hc.2, h3, hlt, beq_self_eq_true, Bool.and_self, if_true, Bool.false_eq_true, if_false]
    · exact (ev_fail h).elim
def fdE : List (Nat × ExtFn) := [(137, pureExt (sigExt [.l .ints] findG)), (69, stExt cloneG), (158, insertX)]
theorem fdE_ok (N : Nat) : ExtsOk Tryz.prog N fdE := extsOk_cons (extOk_pure find_fn) (extsOk_cons (extOk_st clone_fn) (extsOk_cons (insert_ok N) extsOk_nil))

/- SetG -/
/- List (RC.den .ints) -/
def wtEnd0 : NSt := ⟨[.row 0 1 (0)], [], [(0, .rows .ints [])], 1⟩
set_option maxRecDepth 100000 in
theorem with_tree (l : List Int) (x : Int) : ((stRunV Tryz.prog fdE [] [] 30 138 ⟨[.pl .ints l, .int .i64 x], [], [], 0⟩).cut
    (.ite (.ite (.ite (.all) (.all)) (.ite (.ite (.all) (.all)) (.all))) (.all))).ev = T.ev (α := NSt) (
     .ite (midB l && riseB l)
      (.ite (hasN l x)
       (.ite (small l.length)
        (stAt wtEnd0 [.l .ints (l)])
        (.fail))
       (.ite (small l.length)
        (.ite (decide ((0 : Int) ≤ (↑(cntN l x) : Int)) && decide ((↑(cntN l x) : Int) ≤ (↑l.length : Int)) && (l.length + (1 : Nat)).ble (1000000000 : Nat))
         (stAt wtEnd0 [.l .ints (List.take (↑(cntN l x) : Int).toNat l ++ [x] ++ List.drop (↑(cntN l x) : Int).toNat l)])
         (.fail))
        (.fail)))
      (.fail)) := by kernel_rfl
/- List (RC.den .ints) -/
def lsEnd0 : NSt := ⟨[.row 0 1 (0)], [], [(0, .rows .ints [])], 1⟩
/- Nat, Nat, Nat, List (RC.den .ints) -/
def lsEnd1 : NSt := ⟨[.win 0 1 (0) (0) (0)], [], [(0, .rows .ints [])], 1⟩
set_option maxRecDepth 100000 in
theorem less_tree (l : List Int) (x : Int) : ((stRunV Tryz.prog fdE [] [] 30 140 ⟨[.pl .ints l, .int .i64 x], [], [], 0⟩).cut
    (.ite (.ite (.ite (.all) (.all)) (.ite (.ite (.ite (.ite (.ite (.all) (.ite (.ite (.ite (.ite (.ite (.ite (.ite (.all) (.all)) (.all)) (.all)) (.ite (.ite (.ite (.all) (.all)) (.all)) (.all))) (.all)) (.all)) (.all))) (.all)) (.all)) (.all)) (.all))) (.all))).ev = T.ev (α := NSt) (
     .ite (midB l && riseB l)
      (.ite (!hasN l x)
       (.ite (small l.length)
        (stAt lsEnd0 [.l .ints (l)])
        (.fail))
       (.ite (small l.length)
        (.ite (decide ((0 : Int) ≤ (↑l.length : Int)) && decide ((↑l.length : Int) ≤ (↑l.length : Int)))
         (.ite (decide ((0 : Int) ≤ IntKind.i64.wrap ((↑(cntN l x) : Int) + (1 : Int))) && decide (IntKind.i64.wrap ((↑(cntN l x) : Int) + (1 : Int)) ≤ (↑(lo0 (some (↑l.length : Int).toNat)) : Int)))
          (.ite (decide ((0 : Int) ≤ (↑(cntN l x) : Int)) && decide ((↑(cntN l x) : Int) ≤ (↑(lo0 (some (IntKind.i64.wrap ((↑(cntN l x) : Int) + (1 : Int))).toNat)) : Int)))
           (.ite ((↑(cntN l x) : Int) == IntKind.i64.wrap ((↑(cntN l x) : Int) + (1 : Int)))
            (stAt lsEnd0 [.l .ints (l)])
            (.ite (decide ((0 : Int) ≤ (↑(cntN l x) : Int)) && decide ((↑(cntN l x) : Int) ≤ (↑l.length : Int)))
             (.ite (decide ((0 : Int) ≤ IntKind.i64.wrap ((↑(cntN l x) : Int) + (1 : Int))) && decide (IntKind.i64.wrap ((↑(cntN l x) : Int) + (1 : Int)) ≤ (↑(hi0 l.length none) : Int)))
              (.ite ((lo0 (some (IntKind.i64.wrap ((↑(cntN l x) : Int) + (1 : Int))).toNat) + (hi0 l.length none - lo0 (some (IntKind.i64.wrap ((↑(cntN l x) : Int) + (1 : Int))).toNat))).ble l.length)
               (.ite ((hi0 l.length (some (↑(cntN l x) : Int).toNat) - lo0 none + (List.take (hi0 l.length none - lo0 (some (IntKind.i64.wrap ((↑(cntN l x) : Int) + (1 : Int))).toNat)) (List.drop (lo0 (some (IntKind.i64.wrap ((↑(cntN l x) : Int) + (1 : Int))).toNat)) l)).length).ble (l.length - lo0 none))
                (.ite ((lo0 none + (l.length - lo0 none)).ble l.length)
                 (.ite (decide ((0 : Int) ≤ (↑l.length : Int)) && decide ((↑l.length : Int) ≤ (↑(l.length - lo0 none) : Int)))
                  (.ite (decide ((0 : Int) ≤ (↑(hi0 l.length (some (↑(cntN l x) : Int).toNat) - lo0 none + (List.take (hi0 l.length none - lo0 (some (IntKind.i64.wrap ((↑(cntN l x) : Int) + (1 : Int))).toNat)) (List.drop (lo0 (some (IntKind.i64.wrap ((↑(cntN l x) : Int) + (1 : Int))).toNat)) l)).length) : Int)) && decide ((↑(hi0 l.length (some (↑(cntN l x) : Int).toNat) - lo0 none + (List.take (hi0 l.length none - lo0 (some (IntKind.i64.wrap ((↑(cntN l x) : Int) + (1 : Int))).toNat)) (List.drop (lo0 (some (IntKind.i64.wrap ((↑(cntN l x) : Int) + (1 : Int))).toNat)) l)).length) : Int) ≤ (↑(hi0 (hi0 l.length (some (↑(cntN l x) : Int).toNat) - lo0 none + (List.take (hi0 l.length none - lo0 (some (IntKind.i64.wrap ((↑(cntN l x) : Int) + (1 : Int))).toNat)) (List.drop (lo0 (some (IntKind.i64.wrap ((↑(cntN l x) : Int) + (1 : Int))).toNat)) l)).length) (some (↑l.length : Int).toNat)) : Int)))
                   (stAt lsEnd1 [.n (0), .n (hi0 l.length (some (↑(cntN l x) : Int).toNat) - lo0 none + (List.take (hi0 l.length none - lo0 (some (IntKind.i64.wrap ((↑(cntN l x) : Int) + (1 : Int))).toNat)) (List.drop (lo0 (some (IntKind.i64.wrap ((↑(cntN l x) : Int) + (1 : Int))).toNat)) l)).length), .n (l.length - lo0 none), .l .ints (List.take (lo0 none + lo0 (some (↑(hi0 l.length (some (↑(cntN l x) : Int).toNat) - lo0 none + (List.take (hi0 l.length none - lo0 (some (IntKind.i64.wrap ((↑(cntN l x) : Int) + (1 : Int))).toNat)) (List.drop (lo0 (some (IntKind.i64.wrap ((↑(cntN l x) : Int) + (1 : Int))).toNat)) l)).length) : Int).toNat)) (List.take (lo0 none + (hi0 l.length (some (↑(cntN l x) : Int).toNat) - lo0 none)) l ++ List.take (hi0 l.length none - lo0 (some (IntKind.i64.wrap ((↑(cntN l x) : Int) + (1 : Int))).toNat)) (List.drop (lo0 (some (IntKind.i64.wrap ((↑(cntN l x) : Int) + (1 : Int))).toNat)) l) ++ List.drop (lo0 none + (hi0 l.length (some (↑(cntN l x) : Int).toNat) - lo0 none) + (List.take (hi0 l.length none - lo0 (some (IntKind.i64.wrap ((↑(cntN l x) : Int) + (1 : Int))).toNat)) (List.drop (lo0 (some (IntKind.i64.wrap ((↑(cntN l x) : Int) + (1 : Int))).toNat)) l)).length) l) ++ List.replicate (hi0 (hi0 l.length (some (↑(cntN l x) : Int).toNat) - lo0 none + (List.take (hi0 l.length none - lo0 (some (IntKind.i64.wrap ((↑(cntN l x) : Int) + (1 : Int))).toNat)) (List.drop (lo0 (some (IntKind.i64.wrap ((↑(cntN l x) : Int) + (1 : Int))).toNat)) l)).length) (some (↑l.length : Int).toNat) - lo0 (some (↑(hi0 l.length (some (↑(cntN l x) : Int).toNat) - lo0 none + (List.take (hi0 l.length none - lo0 (some (IntKind.i64.wrap ((↑(cntN l x) : Int) + (1 : Int))).toNat)) (List.drop (lo0 (some (IntKind.i64.wrap ((↑(cntN l x) : Int) + (1 : Int))).toNat)) l)).length) : Int).toNat)) (0 : RC.ints.den) ++ List.drop (lo0 none + lo0 (some (↑(hi0 l.length (some (↑(cntN l x) : Int).toNat) - lo0 none + (List.take (hi0 l.length none - lo0 (some (IntKind.i64.wrap ((↑(cntN l x) : Int) + (1 : Int))).toNat)) (List.drop (lo0 (some (IntKind.i64.wrap ((↑(cntN l x) : Int) + (1 : Int))).toNat)) l)).length) : Int).toNat) + (hi0 (hi0 l.length (some (↑(cntN l x) : Int).toNat) - lo0 none + (List.take (hi0 l.length none - lo0 (some (IntKind.i64.wrap ((↑(cntN l x) : Int) + (1 : Int))).toNat)) (List.drop (lo0 (some (IntKind.i64.wrap ((↑(cntN l x) : Int) + (1 : Int))).toNat)) l)).length) (some (↑l.length : Int).toNat) - lo0 (some (↑(hi0 l.length (some (↑(cntN l x) : Int).toNat) - lo0 none + (List.take (hi0 l.length none - lo0 (some (IntKind.i64.wrap ((↑(cntN l x) : Int) + (1 : Int))).toNat)) (List.drop (lo0 (some (IntKind.i64.wrap ((↑(cntN l x) : Int) + (1 : Int))).toNat)) l)).length) : Int).toNat))) (List.take (lo0 none + (hi0 l.length (some (↑(cntN l x) : Int).toNat) - lo0 none)) l ++ List.take (hi0 l.length none - lo0 (some (IntKind.i64.wrap ((↑(cntN l x) : Int) + (1 : Int))).toNat)) (List.drop (lo0 (some (IntKind.i64.wrap ((↑(cntN l x) : Int) + (1 : Int))).toNat)) l) ++ List.drop (lo0 none + (hi0 l.length (some (↑(cntN l x) : Int).toNat) - lo0 none) + (List.take (hi0 l.length none - lo0 (some (IntKind.i64.wrap ((↑(cntN l x) : Int) + (1 : Int))).toNat)) (List.drop (lo0 (some (IntKind.i64.wrap ((↑(cntN l x) : Int) + (1 : Int))).toNat)) l)).length) l))])
                   (.fail))
                  (.fail))
                 (.fail))
                (.ite (roomB (hi0 l.length (some (↑(cntN l x) : Int).toNat) - lo0 none + (List.take (hi0 l.length none - lo0 (some (IntKind.i64.wrap ((↑(cntN l x) : Int) + (1 : Int))).toNat)) (List.drop (lo0 (some (IntKind.i64.wrap ((↑(cntN l x) : Int) + (1 : Int))).toNat)) l)).length) (8 : Nat) && (lo0 none + (l.length - lo0 none)).beq l.length)
                 (.ite (decide ((0 : Int) ≤ (↑l.length : Int)) && decide ((↑l.length : Int) ≤ (↑(hi0 l.length (some (↑(cntN l x) : Int).toNat) - lo0 none + (List.take (hi0 l.length none - lo0 (some (IntKind.i64.wrap ((↑(cntN l x) : Int) + (1 : Int))).toNat)) (List.drop (lo0 (some (IntKind.i64.wrap ((↑(cntN l x) : Int) + (1 : Int))).toNat)) l)).length) : Int)))
                  (.ite (decide ((0 : Int) ≤ (↑(hi0 l.length (some (↑(cntN l x) : Int).toNat) - lo0 none + (List.take (hi0 l.length none - lo0 (some (IntKind.i64.wrap ((↑(cntN l x) : Int) + (1 : Int))).toNat)) (List.drop (lo0 (some (IntKind.i64.wrap ((↑(cntN l x) : Int) + (1 : Int))).toNat)) l)).length) : Int)) && decide ((↑(hi0 l.length (some (↑(cntN l x) : Int).toNat) - lo0 none + (List.take (hi0 l.length none - lo0 (some (IntKind.i64.wrap ((↑(cntN l x) : Int) + (1 : Int))).toNat)) (List.drop (lo0 (some (IntKind.i64.wrap ((↑(cntN l x) : Int) + (1 : Int))).toNat)) l)).length) : Int) ≤ (↑(hi0 (hi0 l.length (some (↑(cntN l x) : Int).toNat) - lo0 none + (List.take (hi0 l.length none - lo0 (some (IntKind.i64.wrap ((↑(cntN l x) : Int) + (1 : Int))).toNat)) (List.drop (lo0 (some (IntKind.i64.wrap ((↑(cntN l x) : Int) + (1 : Int))).toNat)) l)).length) (some (↑l.length : Int).toNat)) : Int)))
                   (stAt lsEnd0 [.l .ints (List.take (lo0 (some (↑(hi0 l.length (some (↑(cntN l x) : Int).toNat) - lo0 none + (List.take (hi0 l.length none - lo0 (some (IntKind.i64.wrap ((↑(cntN l x) : Int) + (1 : Int))).toNat)) (List.drop (lo0 (some (IntKind.i64.wrap ((↑(cntN l x) : Int) + (1 : Int))).toNat)) l)).length) : Int).toNat)) (List.take (hi0 l.length (some (↑(cntN l x) : Int).toNat) - lo0 none) (List.drop (lo0 none) l) ++ List.take (hi0 l.length none - lo0 (some (IntKind.i64.wrap ((↑(cntN l x) : Int) + (1 : Int))).toNat)) (List.drop (lo0 (some (IntKind.i64.wrap ((↑(cntN l x) : Int) + (1 : Int))).toNat)) l)) ++ List.replicate (hi0 (hi0 l.length (some (↑(cntN l x) : Int).toNat) - lo0 none + (List.take (hi0 l.length none - lo0 (some (IntKind.i64.wrap ((↑(cntN l x) : Int) + (1 : Int))).toNat)) (List.drop (lo0 (some (IntKind.i64.wrap ((↑(cntN l x) : Int) + (1 : Int))).toNat)) l)).length) (some (↑l.length : Int).toNat) - lo0 (some (↑(hi0 l.length (some (↑(cntN l x) : Int).toNat) - lo0 none + (List.take (hi0 l.length none - lo0 (some (IntKind.i64.wrap ((↑(cntN l x) : Int) + (1 : Int))).toNat)) (List.drop (lo0 (some (IntKind.i64.wrap ((↑(cntN l x) : Int) + (1 : Int))).toNat)) l)).length) : Int).toNat)) (0 : RC.ints.den) ++ List.drop (lo0 (some (↑(hi0 l.length (some (↑(cntN l x) : Int).toNat) - lo0 none + (List.take (hi0 l.length none - lo0 (some (IntKind.i64.wrap ((↑(cntN l x) : Int) + (1 : Int))).toNat)) (List.drop (lo0 (some (IntKind.i64.wrap ((↑(cntN l x) : Int) + (1 : Int))).toNat)) l)).length) : Int).toNat) + (hi0 (hi0 l.length (some (↑(cntN l x) : Int).toNat) - lo0 none + (List.take (hi0 l.length none - lo0 (some (IntKind.i64.wrap ((↑(cntN l x) : Int) + (1 : Int))).toNat)) (List.drop (lo0 (some (IntKind.i64.wrap ((↑(cntN l x) : Int) + (1 : Int))).toNat)) l)).length) (some (↑l.length : Int).toNat) - lo0 (some (↑(hi0 l.length (some (↑(cntN l x) : Int).toNat) - lo0 none + (List.take (hi0 l.length none - lo0 (some (IntKind.i64.wrap ((↑(cntN l x) : Int) + (1 : Int))).toNat)) (List.drop (lo0 (some (IntKind.i64.wrap ((↑(cntN l x) : Int) + (1 : Int))).toNat)) l)).length) : Int).toNat))) (List.take (hi0 l.length (some (↑(cntN l x) : Int).toNat) - lo0 none) (List.drop (lo0 none) l) ++ List.take (hi0 l.length none - lo0 (some (IntKind.i64.wrap ((↑(cntN l x) : Int) + (1 : Int))).toNat)) (List.drop (lo0 (some (IntKind.i64.wrap ((↑(cntN l x) : Int) + (1 : Int))).toNat)) l)))])
                   (.fail))
                  (.fail))
                 (.fail)))
               (.fail))
              (.fail))
             (.fail)))
           (.fail))
          (.fail))
         (.fail))
        (.fail)))
      (.fail)) := by kernel_rfl

/- SetH -/
theorem withR_true {l : List Int} {x : Int} : ∀ (h : ∀ z ∈ l, x < z), withR true l x = (true, l) := by
  induction l with
  | nil => intro _; rfl
  | cons y r ih =>
    intro h
    have h1 := h y (by simp)
    simp only [withR, Bool.true_eq_false, false_and, if_false, ih (fun z hz => h z (List.mem_cons_of_mem _ hz)), show ¬ y = x by omega]
    rfl
theorem with_rise : ∀ {l : List Int} {x : Int}, riseB l = true → withN l x = if hasN l x then l else l.take (cntN l x) ++ [x] ++ l.drop (cntN l x)
  | [], x, _ => rfl
  | y :: r, x, h => by
    have ih := with_rise (x := x) (riseB_tail h)
    have hlow := riseB_low h
    by_cases hy : y < x
    · have e1 : (y == x) = false := by rw [beq_eq_false_iff_ne]; omega
      have e2 : withN (y :: r) x = y :: withN r x := by
        simp only [withN, withR, show ¬ x ≤ y by omega, and_false, if_false, show ¬ y = x by omega]
        split <;> rfl
      rw [e2, ih]
      simp only [hasN, cntN, e1, Bool.false_or, hy, if_true, show 1 + cntN r x = cntN r x + 1 by omega, List.take_succ_cons, List.drop_succ_cons]
      split <;> simp
    · by_cases he : y = x
      · subst he
        simp only [withN, withR, Int.le_refl, and_self, if_true, withR_true hlow, hasN, beq_self_eq_true, Bool.true_or]
        rfl
      · have e1 : (y == x) = false := by rw [beq_eq_false_iff_ne]; omega
        have hl : ∀ z ∈ r, x < z := fun z hz => by have := hlow z hz; omega
        have h0 : cntN r x = 0 := cntN_low fun z hz => by have := hl z hz; omega
        simp only [withN, withR, show x ≤ y by omega, and_self, if_true, he, if_false, withR_true hl, hasN, e1, Bool.false_or, hasN_low hl, cntN, hy, h0]
        rfl
theorem lessN_low {l : List Int} {x : Int} : ∀ (h : ∀ z ∈ l, x < z), lessN l x = l := by
  induction l with
  | nil => intro _; rfl
  | cons y r ih =>
    intro h
    have h1 := h y (by simp)
    simp only [lessN, ih (fun z hz => h z (List.mem_cons_of_mem _ hz)), show ¬ y = x by omega, if_false]
    rfl
theorem less_rise : ∀ {l : List Int} {x : Int}, riseB l = true → lessN l x = if hasN l x then l.take (cntN l x) ++ l.drop (cntN l x + 1) else l
  | [], x, _ => rfl
  | y :: r, x, h => by
    have ih := less_rise (x := x) (riseB_tail h)
    have hlow := riseB_low h
    by_cases hy : y < x
    · have e1 : (y == x) = false := by rw [beq_eq_false_iff_ne]; omega
      simp only [lessN, show ¬ y = x by omega, if_false, ih, hasN, cntN, e1, Bool.false_or, hy, if_true, show 1 + cntN r x = cntN r x + 1 by omega, List.take_succ_cons, List.drop_succ_cons]
      split <;> simp
    · by_cases he : y = x
      · subst he
        have h0 : cntN r y = 0 := cntN_low fun z hz => by have := hlow z hz; omega
        simp only [lessN, if_true, List.nil_append, lessN_low hlow, hasN, beq_self_eq_true, Bool.true_or, cntN, show ¬ y < y by omega, if_false, h0]
        rfl
      · have e1 : (y == x) = false := by rw [beq_eq_false_iff_ne]; omega
        have hl : ∀ z ∈ r, x < z := fun z hz => by have := hlow z hz; omega
        simp only [lessN, he, if_false, lessN_low hl, hasN, e1, Bool.false_or, hasN_low hl]
        rfl
theorem has_lt {l : List Int} {x : Int} (h : riseB l = true) (hh : hasN l x = true) : cntN l x < l.length := by
  rw [has_get h] at hh
  split at hh
  · assumption
  · cases hh

def withSG : NSt → T NSt
  | ⟨[.pl .ints l, .int .i64 x], [], [], 0⟩ => T.when (midB l && riseB l) (.ret ⟨[.row 0 1 0], [], [(0, .rows .ints (withN l x))], 1⟩)
  | _ => .fail
theorem withS_fn : StFn Tryz.prog 138 withSG :=
  ⟨bodied_ex (by kernel_rfl), fun n0 n h => by
    unfold withSG at h
    split at h
    · rename_i l x
      obtain ⟨hc, h1⟩ := ev_when h
      refine st_cut plainN mixedN fdE_ok noL ((with_tree l x).trans ?_)
      rw [← h1]
      have hc2 := hc
      simp only [Bool.and_eq_true] at hc
      have hm := hc.1
      rw [midB, Nat.ble_eq] at hm
      have hle := cntN_le l x
      rw [with_rise hc.2]
      have e1 : (decide ((0 : Int) ≤ (cntN l x : Int)) && decide ((cntN l x : Int) ≤ (l.length : Int)) && (l.length + 1).ble 1000000000) = true := by
        simp only [Bool.and_eq_true, decide_eq_true_eq, Nat.ble_eq]; omega
      simp only [T.ev_ite, hc2, mid_small hc.1, e1, if_true, Int.toNat_natCast]
      cases hasN l x <;> rfl
    · exact (ev_fail h).elim⟩
def withG : List CV → T CV
  | [.pl .ints l, .int .i64 x] => T.when (midB l && riseB l) (.ret (.pl .ints (withN l x)))
  | _ => .fail
theorem with_fn : PureFn Tryz.prog 138 (sigExt [.l .ints] withG) :=
  pureFn_mk (bodied_ex (by kernel_rfl)) fun args d h => by
    refine (pure_of_st withS_fn).2 args d ?_
    unfold withG at h
    split at h
    · rename_i l x
      obtain ⟨hc, h1⟩ := ev_when h
      cases ev_ret h1
      simp only [pureOfSt, withSG, T.when, hc]
      rfl
    · exact (ev_fail h).elim

def lessRow (l : List Int) (c : Nat) : List Int := l.take c ++ l.drop (c + 1) ++ [0]
def lessSG : NSt → T NSt
  | ⟨[.pl .ints l, .int .i64 x], [], [], 0⟩ => T.when (midB l && riseB l) (.ite (hasN l x) (.ret ⟨[.win 0 1 0 (l.length - 1) l.length], [], [(0, .rows .ints (lessRow l (cntN l x)))], 1⟩) (.ret ⟨[.row 0 1 0], [], [(0, .rows .ints l)], 1⟩))
  | _ => .fail
theorem lessS_fn : StFn Tryz.prog 140 lessSG :=
  ⟨bodied_ex (by kernel_rfl), fun n0 n h => by
    unfold lessSG at h
    split at h
    · rename_i l x
      obtain ⟨hc, h1⟩ := ev_when h
      refine st_cut plainN mixedN fdE_ok noL ((less_tree l x).trans ?_)
      rw [← h1]
      have hc2 := hc
      simp only [Bool.and_eq_true] at hc
      have hm := hc.1
      rw [midB, Nat.ble_eq] at hm
      cases hh : hasN l x with
      | false => simp only [T.ev_ite, hc2, mid_small hc.1, hh, if_true, Bool.not_false, Bool.false_eq_true, if_false]; rfl
      | true =>
        have hlt := has_lt hc.2 hh
        generalize cntN l x = c at *
        have hw : IntKind.i64.wrap ((c : Int) + 1) = ((c + 1 : Nat) : Int) := by rw [wrap64 (by omega) (by omega)]; omega
        have hys : List.take (l.length - (c + 1)) (List.drop (c + 1) l) = List.drop (c + 1) l := List.take_of_length_le (by rw [List.length_drop]; omega)
        have hn : c + (l.length - (c + 1)) = l.length - 1 := by omega
        have q0 : decide ((0 : Int) ≤ (l.length : Int)) = true := by rw [decide_eq_true_eq]; omega
        have q1 : decide ((l.length : Int) ≤ (l.length : Int)) = true := by rw [decide_eq_true_eq]; omega
        have q2 : decide ((0 : Int) ≤ ((c + 1 : Nat) : Int)) = true := by rw [decide_eq_true_eq]; omega
        have q3 : decide (((c + 1 : Nat) : Int) ≤ (l.length : Int)) = true := by rw [decide_eq_true_eq]; omega
        have q4 : decide ((0 : Int) ≤ (c : Int)) = true := by rw [decide_eq_true_eq]; omega
        have q5 : decide ((c : Int) ≤ ((c + 1 : Nat) : Int)) = true := by rw [decide_eq_true_eq]; omega
        have q6 : ((c : Int) == ((c + 1 : Nat) : Int)) = false := by rw [beq_eq_false_iff_ne]; omega
        have q7 : decide ((c : Int) ≤ (l.length : Int)) = true := by rw [decide_eq_true_eq]; omega
        have q8 : (c + 1 + (l.length - (c + 1))).ble l.length = true := by rw [Nat.ble_eq]; omega
        have q9 : (l.length - 1).ble l.length = true := by rw [Nat.ble_eq]; omega
        have q10 : l.length.ble l.length = true := by rw [Nat.ble_eq]; omega
        have q11 : decide ((0 : Int) ≤ ((l.length - 1 : Nat) : Int)) = true := by rw [decide_eq_true_eq]; omega
        have q12 : decide (((l.length - 1 : Nat) : Int) ≤ (l.length : Int)) = true := by rw [decide_eq_true_eq]; omega
        have hL : (List.take c l ++ List.drop (c + 1) l).length = l.length - 1 := by rw [List.length_append, List.length_take, List.length_drop]; omega
        have e1 : List.take (l.length - 1) (List.take c l ++ List.drop (c + 1) l ++ List.drop (l.length - 1) l) = List.take c l ++ List.drop (c + 1) l := List.take_left' hL
        have e2 : List.drop (l.length - 1 + (l.length - (l.length - 1))) (List.take c l ++ List.drop (c + 1) l ++ List.drop (l.length - 1) l) = [] := by
          apply List.drop_eq_nil_of_le
          rw [List.length_append, hL, List.length_drop]; omega
        have e3 : l.length - (l.length - 1) = 1 := by omega
        simp only [T.ev_ite, hc2, mid_small hc.1, hh, hw, hi0, lo0, Int.toNat_natCast, Nat.zero_add, Nat.sub_zero, hys, List.length_drop, hn, q0, q1, q2, q3, q4, q5, q6, q7, q8, q9, q10, q11, q12, Bool.and_self, Bool.not_true, Bool.false_eq_true, if_false, if_true, e1, e2]
        rw [e3, List.append_nil, if_pos (by simp)]
        rfl
    · exact (ev_fail h).elim⟩
def lessG : List CV → T CV
  | [.pl .ints l, .int .i64 x] => T.when (midB l && riseB l) (.ret (.pl .ints (lessN l x)))
  | _ => .fail
theorem less_fn : PureFn Tryz.prog 140 (sigExt [.l .ints] lessG) :=
  pureFn_mk (bodied_ex (by kernel_rfl)) fun args d h => by
    refine (pure_of_st lessS_fn).2 args d ?_
    unfold lessG at h
    split at h
    · rename_i l x
      obtain ⟨hc, h1⟩ := ev_when h
      cases ev_ret h1
      have hr := hc
      simp only [Bool.and_eq_true] at hr
      rw [less_rise hr.2]
      simp only [pureOfSt, lessSG, T.when, hc]
      cases hh : hasN l x with
      | false => rfl
      | true =>
        have hlt := has_lt hr.2 hh
        show (T.ret (CV.pl .ints (List.take (l.length - 1) (List.drop 0 (lessRow l (cntN l x)))))).ev = _
        have hL : (List.take (cntN l x) l ++ List.drop (cntN l x + 1) l).length = l.length - 1 := by rw [List.length_append, List.length_take, List.length_drop]; omega
        rw [List.drop_zero, lessRow, List.take_left' hL]
        rfl
    · exact (ev_fail h).elim

/- SetI -/
/- List (RC.den .ints) -/
def clone2A0 : NSt := ⟨[.row 0 1 (0)], [], [(0, .rows .ints [])], 1⟩
set_option maxRecDepth 100000 in
theorem clone2_nil : ((stRunV Tryz.prog [] [] [(0, .ints)] 30 141 ⟨[.slice none 0 0], [], [], 0⟩).cut
    (.yes (.all))).ev = T.ev (α := NSt) (
     stAt clone2A0 [.l .ints ([])]) := by kernel_rfl
/- List (RC.den .ints) -/
def clone2B0 : NSt := ⟨[.row 0 1 (0)], [], [(0, .rows .ints [])], 1⟩
set_option maxRecDepth 100000 in
theorem clone2_nn : ((stRunV Tryz.prog [] [] [] 30 141 ⟨[.nnil], [], [], 0⟩).cut
    (.no (.yes (.all)))).ev = T.ev (α := NSt) (
     stAt clone2B0 [.l .ints ([])]) := by kernel_rfl
/- List (RC.den .ints) -/
def clone2C0 : NSt := ⟨[.row 0 1 (0)], [], [(0, .rows .ints [])], 1⟩
set_option maxRecDepth 100000 in
theorem clone2_pl (l : List Int) : ((stRunV Tryz.prog [] [] [] 30 141 ⟨[.pl .ints l], [], [], 0⟩).cut
    (.ite (.no (.ite (.all) (.all))) (.all))).ev = T.ev (α := NSt) (
     .ite (!l.isEmpty)
      (.ite (roomB l.length (8 : Nat))
       (stAt clone2C0 [.l .ints (l)])
       (.fail))
      (.fail)) := by kernel_rfl

theorem clone2_fn : StFn Tryz.prog 141 cloneG :=
  ⟨bodied_ex (by kernel_rfl), fun n0 n h => by
    unfold cloneG at h
    split at h
    · rename_i l
      obtain ⟨hc, h1⟩ := ev_when h
      cases ev_ret h1
      refine ⟨Nat.zero_le _, ?_⟩
      cases l with
      | nil => exact .nil2 (st_cut plainN mixedN noE noL (clone2_nil.trans rfl)).2 (st_cut plainN mixedN noE noL (clone2_nn.trans rfl)).2
      | cons x l =>
        refine (st_cut plainN mixedN noE noL ((clone2_pl (x :: l)).trans ?_)).2
        have hr := roomB_small hc (b := 8) (by decide)
        rw [T.ev_ite, T.ev_ite, hr]; rfl
    · exact (ev_fail h).elim⟩

def setA (t n : Int) (l : List Int) (k a b : Int) : Ans :=
  if t ≠ 2 ∨ checkN t n l ≠ 0 then bad 12
  else if k < 3 ∨ 6 < k then bad 6
  else if b ≠ 0 ∨ (k = 6 ∧ a ≠ 0) then bad 2
  else if k = 3 then ⟨⟨2, 0, withN l a⟩, ⟨2, if hasN l a then 0 else 1⟩, 0⟩
  else if k = 4 then ⟨⟨2, 0, lessN l a⟩, ⟨2, if hasN l a then 1 else 0⟩, 0⟩
  else if k = 5 then ⟨⟨2, 0, l⟩, ⟨2, if hasN l a then 1 else 0⟩, 0⟩
  else ⟨⟨2, 0, l⟩, ⟨2, l.length⟩, 0⟩
def setG : List CV → T CV
  | [.agg ⟨[.int .i64 t, .int .i64 n, .pl .ints l]⟩, .int .i64 k, .int .i64 a, .int .i64 b] => T.when (midB l) (.ret (setA t n l k a b).cv)
  | _ => .fail
def stE : List (Nat × ExtFn) := [(137, pureExt (sigExt [.l .ints] findG)), (138, stExt withSG), (140, stExt lessSG), (141, stExt cloneG)] ++ kitE
theorem stE_ok (N : Nat) : ExtsOk Tryz.prog N stE :=
  extsOk_cons (extOk_pure find_fn) (extsOk_cons (extOk_st withS_fn) (extsOk_cons (extOk_st lessS_fn) (extsOk_cons (extOk_st clone2_fn) (kitE_ok N))))

/- SetJ -/
set_option maxRecDepth 100000 in
theorem setApply_tree (t n : Int) (l : List Int) (k a b : Int) : (((tden Tryz.prog stE [] 30).call 0 86 [.agg #[.int .i64 t, .int .i64 n, .pl .ints l], .int .i64 k, .int .i64 a, .int .i64 b] ⟨.nil, 0⟩).pure.cut
    (.ite (.yes (.yes (.yes (.yes (.all))))) (.no (.ite (.no (.ite (.all) (.ite (.yes (.yes (.yes (.all)))) (.no (.ite (.all) (.ite (.yes (.yes (.yes (.yes (.yes (.all)))))) (.no (.no (.ite (.yes (.no (.ite (.all) (.ite (.yes (.all)) (.ite (.ite (.yes (.ite (.all) (.all))) (.all)) (.ite (.ite (.yes (.ite (.yes (.all)) (.no (.all)))) (.all)) (.ite (.ite (.yes (.ite (.all) (.all))) (.all)) (.all)))))))) (.no (.no (.no (.no (.ite (.yes (.all)) (.ite (.ite (.yes (.ite (.all) (.all))) (.all)) (.ite (.ite (.yes (.ite (.yes (.all)) (.no (.all)))) (.all)) (.ite (.ite (.yes (.ite (.all) (.all))) (.all)) (.all)))))))))))))))))) (.all))))).ev = T.ev (α := CV) (
     .ite (t != (2 : Int))
      (.ret (.tuple #[.agg #[.int .i64 (0), .int .i64 (0), .slice none (0) (0)], .agg #[.int .i64 (0), .int .i64 (0)], .int .i64 (12)]))
      (.ite (small l.length)
       (.ite (checkN t n l != (0 : Int))
        (.ret (.tuple #[.agg #[.int .i64 (0), .int .i64 (0), .slice none (0) (0)], .agg #[.int .i64 (0), .int .i64 (0)], .int .i64 (12)]))
        (.ite (decide (k < (3 : Int)))
         (.ret (.tuple #[.agg #[.int .i64 (0), .int .i64 (0), .slice none (0) (0)], .agg #[.int .i64 (0), .int .i64 (0)], .int .i64 (6)]))
         (.ite (decide (k > (6 : Int)))
          (.ret (.tuple #[.agg #[.int .i64 (0), .int .i64 (0), .slice none (0) (0)], .agg #[.int .i64 (0), .int .i64 (0)], .int .i64 (6)]))
          (.ite (b != (0 : Int))
           (.ret (.tuple #[.agg #[.int .i64 (0), .int .i64 (0), .slice none (0) (0)], .agg #[.int .i64 (0), .int .i64 (0)], .int .i64 (2)]))
           (.ite (k == (6 : Int))
            (.ite (a != (0 : Int))
             (.ret (.tuple #[.agg #[.int .i64 (0), .int .i64 (0), .slice none (0) (0)], .agg #[.int .i64 (0), .int .i64 (0)], .int .i64 (2)]))
             (.ite (decide (IntKind.i64.wrap (k - (3 : Int)) = (3 : Int)))
              (.ite (small l.length)
               (.ret (.tuple #[.agg #[.int .i64 (2), .int .i64 (0), .pl .ints (l)], .agg #[.int .i64 (2), .int .i64 ((↑l.length : Int))], .int .i64 (0)]))
               .fail)
              (.ite (decide (IntKind.i64.wrap (k - (3 : Int)) = (2 : Int)))
               (.ite (midB l && riseB l)
                (.ite (small l.length)
                 (.ite (hasN l a)
                  (.ret (.tuple #[.agg #[.int .i64 (2), .int .i64 (0), .pl .ints (l)], .agg #[.int .i64 (2), .int .i64 (1)], .int .i64 (0)]))
                  (.ret (.tuple #[.agg #[.int .i64 (2), .int .i64 (0), .pl .ints (l)], .agg #[.int .i64 (2), .int .i64 (0)], .int .i64 (0)])))
                 .fail)
                (.fail))
               (.ite (decide (IntKind.i64.wrap (k - (3 : Int)) = (1 : Int)))
                (.ite (midB l && riseB l)
                 (.ite (midB l && riseB l)
                  (.ite (hasN l a)
                   (.ite (hasN l a)
                    (.ret (.tuple #[.agg #[.int .i64 (2), .int .i64 (0), .pl .ints (List.take (l.length - (1 : Nat)) (List.drop (0 : Nat) (lessRow l (cntN l a))))], .agg #[.int .i64 (2), .int .i64 (1)], .int .i64 (0)]))
                    .fail)
                   (.ite (hasN l a) .fail
                    (.ret (.tuple #[.agg #[.int .i64 (2), .int .i64 (0), .pl .ints (l)], .agg #[.int .i64 (2), .int .i64 (0)], .int .i64 (0)]))))
                  .fail)
                 (.fail))
                (.ite (decide (IntKind.i64.wrap (k - (3 : Int)) = (0 : Int)))
                 (.ite (midB l && riseB l)
                  (.ite (midB l && riseB l)
                   (.ite (!hasN l a)
                    (.ret (.tuple #[.agg #[.int .i64 (2), .int .i64 (0), .pl .ints (withN l a)], .agg #[.int .i64 (2), .int .i64 (1)], .int .i64 (0)]))
                    (.ret (.tuple #[.agg #[.int .i64 (2), .int .i64 (0), .pl .ints (withN l a)], .agg #[.int .i64 (2), .int .i64 (0)], .int .i64 (0)])))
                   .fail)
                  (.fail))
                 (.fail))))))
            (.ite (decide (IntKind.i64.wrap (k - (3 : Int)) = (3 : Int)))
             (.ite (small l.length)
              (.ret (.tuple #[.agg #[.int .i64 (2), .int .i64 (0), .pl .ints (l)], .agg #[.int .i64 (2), .int .i64 ((↑l.length : Int))], .int .i64 (0)]))
              .fail)
             (.ite (decide (IntKind.i64.wrap (k - (3 : Int)) = (2 : Int)))
              (.ite (midB l && riseB l)
               (.ite (small l.length)
                (.ite (hasN l a)
                 (.ret (.tuple #[.agg #[.int .i64 (2), .int .i64 (0), .pl .ints (l)], .agg #[.int .i64 (2), .int .i64 (1)], .int .i64 (0)]))
                 (.ret (.tuple #[.agg #[.int .i64 (2), .int .i64 (0), .pl .ints (l)], .agg #[.int .i64 (2), .int .i64 (0)], .int .i64 (0)])))
                .fail)
               (.fail))
              (.ite (decide (IntKind.i64.wrap (k - (3 : Int)) = (1 : Int)))
               (.ite (midB l && riseB l)
                (.ite (midB l && riseB l)
                 (.ite (hasN l a)
                  (.ite (hasN l a)
                   (.ret (.tuple #[.agg #[.int .i64 (2), .int .i64 (0), .pl .ints (List.take (l.length - (1 : Nat)) (List.drop (0 : Nat) (lessRow l (cntN l a))))], .agg #[.int .i64 (2), .int .i64 (1)], .int .i64 (0)]))
                   .fail)
                  (.ite (hasN l a) .fail
                   (.ret (.tuple #[.agg #[.int .i64 (2), .int .i64 (0), .pl .ints (l)], .agg #[.int .i64 (2), .int .i64 (0)], .int .i64 (0)]))))
                 .fail)
                (.fail))
               (.ite (decide (IntKind.i64.wrap (k - (3 : Int)) = (0 : Int)))
                (.ite (midB l && riseB l)
                 (.ite (midB l && riseB l)
                  (.ite (!hasN l a)
                   (.ret (.tuple #[.agg #[.int .i64 (2), .int .i64 (0), .pl .ints (withN l a)], .agg #[.int .i64 (2), .int .i64 (1)], .int .i64 (0)]))
                   (.ret (.tuple #[.agg #[.int .i64 (2), .int .i64 (0), .pl .ints (withN l a)], .agg #[.int .i64 (2), .int .i64 (0)], .int .i64 (0)])))
                  .fail)
                 (.fail))
                (.fail))))))))))
       (.fail))) := by kernel_rfl
/- SetK -/
theorem rises_at (l : List Int) : ∀ (d i : Nat), l.length < i + 1 + d → risesAt l 1 d (i + 1) = riseB (l.drop i)
  | 0, i, h => by rw [List.drop_eq_nil_of_le (by omega)]; rfl
  | d + 1, i, h => by
    have ih := rises_at l d (i + 1) (by omega)
    by_cases hi : i + 1 < l.length
    · rw [getD_cons (l := l) (i := i) (by omega) 0]
      rw [getD_cons (l := l) (i := i + 1) hi 0] at ih ⊢
      simp only [risesAt, hi, if_true, show i + 1 - 1 = i by omega, riseB]
      by_cases hle : l.getD (i + 1) 0 ≤ l.getD i 0
      · rw [if_pos hle, show decide (l.getD i 0 < l.getD (i + 1) 0) = false by rw [decide_eq_false_iff_not]; omega]; rfl
      · simp only [hle, if_false, ih, show l.getD i 0 < l.getD (i + 1) 0 by omega, decide_true, Bool.true_and]
    · simp only [risesAt, hi, if_false]
      by_cases hi2 : i < l.length
      · rw [getD_cons (l := l) (i := i) hi2 0, List.drop_eq_nil_of_le (by omega)]; rfl
      · rw [List.drop_eq_nil_of_le (by omega)]; rfl
theorem rises_rise (l : List Int) : rises l 1 = riseB l := rises_at l (l.length + 1) 0 (by omega)
theorem check2 {n : Int} {l : List Int} : checkN 2 n l = 0 ↔ n = 0 ∧ riseB l = true := by
  rw [checkN, rises_rise]
  by_cases h : n = 0 ∧ riseB l = true
  · simp [h]
  · simp [h]
theorem less_row {l : List Int} {x : Int} (hr : riseB l = true) (hh : hasN l x = true) : List.take (l.length - 1) (List.drop 0 (lessRow l (cntN l x))) = lessN l x := by
  have hlt := has_lt hr hh
  have hL : (List.take (cntN l x) l ++ List.drop (cntN l x + 1) l).length = l.length - 1 := by rw [List.length_append, List.length_take, List.length_drop]; omega
  rw [List.drop_zero, lessRow, List.take_left' hL, less_rise hr, hh]; rfl
theorem ws3 : IntKind.i64.wrap (3 - 3) = 0 := by decide
theorem ws4 : IntKind.i64.wrap (4 - 3) = 1 := by decide
theorem ws5 : IntKind.i64.wrap (5 - 3) = 2 := by decide
theorem ws6 : IntKind.i64.wrap (6 - 3) = 3 := by decide

set_option maxHeartbeats 8000000 in
theorem set_at (t n : Int) (l : List Int) (k a b : Int) (hm : midB l = true) :
    PureAt Tryz.prog 86 [.agg #[.int .i64 t, .int .i64 n, .pl .ints l], .int .i64 k, .int .i64 a, .int .i64 b] (setA t n l k a b).cv := by
  refine pureAtS plainN mixedN stE_ok noL (k := 30) sgA (setApply_tree t n l k a b) ?_
  have hs : small l.length = true := mid_small hm
  by_cases hc : t = 2 ∧ checkN t n l = 0
  · obtain ⟨rfl, hc⟩ := hc
    have hr := (check2.1 hc).2
    have hle : hasN l a = false → lessN l a = l := fun hh => by rw [less_rise hr, hh]; rfl
    have hlt : hasN l a = true → List.take (l.length - 1) (List.drop 0 (lessRow l (cntN l a))) = lessN l a := fun hh => less_row hr hh
    simp only [setA, hc]
    by_cases hk : 3 ≤ k ∧ k ≤ 6
    · obtain rfl | rfl | rfl | rfl : k = 3 ∨ k = 4 ∨ k = 5 ∨ k = 6 := by omega
      all_goals
        cases hh : hasN l a with
        | true =>
          simp only [sat_ite, sat_ret, sat_fail, hs, hm, hr, hh, hlt hh, ws3, ws4, ws5, ws6, Bool.and_self, decide_eq_true_eq, decide_eq_false_iff_not, beq_iff_eq, bne_iff_ne, ne_eq, beq_eq_false_iff_ne, bne_eq_false_iff_eq, Bool.not_eq_true', Bool.not_eq_false', true_implies, Bool.true_eq_false, Bool.false_eq_true, false_implies, and_true, true_and, implies_true, reduceCtorEq, eq_self, not_true_eq_false]
          repeat' (first | apply And.intro | intro _)
          all_goals first
            | omega
            | ((repeat' split) <;> first | exact ⟨rfl, rfl⟩ | omega | (simp_all; done) | (simp_all; omega))
        | false =>
          simp only [sat_ite, sat_ret, sat_fail, hs, hm, hr, hh, hle hh, ws3, ws4, ws5, ws6, Bool.and_self, decide_eq_true_eq, decide_eq_false_iff_not, beq_iff_eq, bne_iff_ne, ne_eq, beq_eq_false_iff_ne, bne_eq_false_iff_eq, Bool.not_eq_true', Bool.not_eq_false', true_implies, Bool.true_eq_false, Bool.false_eq_true, false_implies, and_true, true_and, implies_true, reduceCtorEq, eq_self, not_true_eq_false]
          repeat' (first | apply And.intro | intro _)
          all_goals first
            | omega
            | ((repeat' split) <;> first | exact ⟨rfl, rfl⟩ | omega | (simp_all; done) | (simp_all; omega))
    · simp only [sat_ite, sat_ret, sat_fail, hs, hm, hr, Bool.and_self, decide_eq_true_eq, decide_eq_false_iff_not, beq_iff_eq, bne_iff_ne, ne_eq, beq_eq_false_iff_ne, bne_eq_false_iff_eq, Bool.not_eq_true', Bool.not_eq_false', true_implies, Bool.true_eq_false, Bool.false_eq_true, false_implies, and_true, true_and, implies_true, reduceCtorEq, eq_self, not_true_eq_false]
      repeat' (first | apply And.intro | intro _)
      all_goals first
        | omega
        | ((repeat' split) <;> first | exact ⟨rfl, rfl⟩ | omega | (simp_all; done) | (simp_all; omega))
  · have hc2 : t ≠ 2 ∨ checkN t n l ≠ 0 := by
      by_cases h2 : t = 2
      · exact .inr fun h => hc ⟨h2, h⟩
      · exact .inl h2
    simp only [setA, hc2, if_true]
    generalize checkN t n l = c at *
    simp only [sat_ite, sat_ret, sat_fail, hs, decide_eq_true_eq, decide_eq_false_iff_not, beq_iff_eq, bne_iff_ne, ne_eq, beq_eq_false_iff_ne, bne_eq_false_iff_eq, Bool.not_eq_true', Bool.not_eq_false', true_implies, Bool.true_eq_false, Bool.false_eq_true, false_implies, and_true, true_and, implies_true, reduceCtorEq, eq_self, not_true_eq_false]
    repeat' (first | apply And.intro | intro _)
    all_goals first
      | omega
      | exact ⟨rfl, rfl⟩
      | (exfalso; omega)

theorem set_fn : PureFn Tryz.prog 86 (sigExt [sgS] setG) :=
  pureFn_mk (bodied_ex (by kernel_rfl)) fun args d h => by
    unfold setG at h
    split at h
    · obtain ⟨hc, h1⟩ := ev_when h
      cases ev_ret h1
      exact set_at _ _ _ _ _ _ hc
    · exact (ev_fail h).elim
end Go.Proofs.YtecidokjhplbgaaGreatDoorD.Set

