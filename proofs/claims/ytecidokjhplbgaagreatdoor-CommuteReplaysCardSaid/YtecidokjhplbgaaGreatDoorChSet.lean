/-
  Chapter 07: what sets answer.
-/
import Derived.Test.YtecidokjhplbgaaGreatDoorKitI
import Derived.Test.YtecidokjhplbgaaGreatDoorKitO5
import Derived.Test.YtecidokjhplbgaaGreatDoorKitQ
import Derived.Test.YtecidokjhplbgaaGreatDoorClose
import Derived.Test.YtecidokjhplbgaaGreatDoorAns
set_option linter.unusedVariables false
set_option linter.unusedSimpArgs false
namespace Go.Proofs.YtecidokjhplbgaaGreatDoorD.Set
open Go Go.RowKit

def sfSk : NSt := ⟨[.func (.yield 16) #[] #[], .junk, .pointer (some ⟨11, 0, none⟩), .junk, .int .i64 (0), .int .i64 (0), .junk, .junk, .junk, .junk, .junk, .junk, .junk, .junk, .junk, .junk, .junk, .junk, .junk, .junk, .junk, .junk, .junk, .junk, .junk, .junk], [], [(0, .cells [.pl .ints []] 1 0), (1, .cells [.int .i64 (0)] 1 0), (4, .cells [.int .i64 (0)] 1 0), (10, .cells [.int .i64 (0)] 1 0), (11, .cells [.func (.func 157) #[] #[.pointer (some ⟨0, 0, none⟩), .pointer (some ⟨1, 0, none⟩)]] 1 0), (15, .defs), (16, .loop .ready none 137 [.junk, .junk, .junk, .junk, .junk, .junk, .pointer (some ⟨4, 0, none⟩), .junk, .junk, .junk, .junk, .junk, .tuple #[], .tuple #[], .junk, .junk, .junk, .junk, .junk, .junk, .junk, .junk, .junk, .junk, .junk, .junk, .junk, .junk] [0, 1, 0, 1, 1] 15)], 20⟩
def sfId : LoopId := ⟨168, [0, 1], []⟩

def sfOut0 : NSt := ⟨[.junk, .junk, .junk, .junk, .junk, .junk, .junk, .junk, .junk, .junk, .junk, .junk, .junk, .junk, .junk, .junk, .junk, .junk, .junk, .junk, .junk, .junk, .junk, .junk, .junk, .junk], [], [(0, .cells [.pl .ints []] 1 0), (1, .cells [.int .i64 (0)] 1 0), (4, .cells [.int .i64 (0)] 1 0), (10, .cells [.int .i64 (0)] 1 0), (11, .cells [.func (.func 157) #[] #[.pointer (some ⟨0, 0, none⟩), .pointer (some ⟨1, 0, none⟩)]] 1 0), (15, .defs), (16, .loop .ready none 137 [.junk, .junk, .junk, .junk, .junk, .junk, .pointer (some ⟨4, 0, none⟩), .junk, .junk, .junk, .junk, .junk, .tuple #[], .tuple #[], .junk, .junk, .junk, .junk, .junk, .junk, .junk, .junk, .junk, .junk, .junk, .junk, .junk, .junk] [0, 1, 0, 1, 1] 15)], 20⟩
set_option maxRecDepth 100000 in
theorem sf_round (k : Nat) (a b : Int) (l : List Int) (x at_ m : Int) : ((rounds Tryz.prog [] [] 30 sfId 20 none sfSk (k + 1) [.i a, .i b, .l .ints l, .i x, .i at_, .i m]).cut
    (.ite (.yes (.ite (.ite (.yes (.no (.all))) (.yes (.no (.all)))) (.all))) (.all))).ev = T.ev (
     .ite (decide (a < b))
      (.ite (inRange (IntKind.i64.wrap ((IntKind.i64.wrap (a + b)).tdiv (2 : Int))) l.length)
       (.ite (decide (l.getD (IntKind.i64.wrap ((IntKind.i64.wrap (a + b)).tdiv (2 : Int))).toNat RC.ints.zero < x))
        (rounds Tryz.prog [] [] 30 sfId 20 none sfSk k [.i (IntKind.i64.wrap (IntKind.i64.wrap ((IntKind.i64.wrap (a + b)).tdiv (2 : Int)) + (1 : Int))), .i (b), .l .ints (l), .i (x), .i (IntKind.i64.wrap (IntKind.i64.wrap ((IntKind.i64.wrap (a + b)).tdiv (2 : Int)) + (1 : Int))), .i (m)])
        (rounds Tryz.prog [] [] 30 sfId 20 none sfSk k [.i (a), .i (IntKind.i64.wrap ((IntKind.i64.wrap (a + b)).tdiv (2 : Int))), .l .ints (l), .i (x), .i (a), .i (m)]))
       (.fail))
      (outAt (.exit 0) sfOut0 [.l .ints (l), .i (x), .i (at_), .i (m)])) := by kernel_rfl

def cntN : List Int → Int → Nat
  | [], _ => 0
  | y :: r, x => (if y < x then 1 else 0) + cntN r x
def hasN : List Int → Int → Bool
  | [], _ => false
  | y :: r, x => (y == x) || hasN r x
def withR : Bool → List Int → Int → Bool × List Int
  | put, [], _ => (put, [])
  | put, y :: r, x => if put = false ∧ x ≤ y then ((withR true r x).1, x :: (if y = x then [] else [y]) ++ (withR true r x).2) else ((withR put r x).1, (if y = x then [] else [y]) ++ (withR put r x).2)
def withN (l : List Int) (x : Int) : List Int := if (withR false l x).1 then (withR false l x).2 else (withR false l x).2 ++ [x]
def lessN : List Int → Int → List Int
  | [], _ => []
  | y :: r, x => (if y = x then [] else [y]) ++ lessN r x
def riseB : List Int → Bool
  | x :: y :: r => decide (x < y) && riseB (y :: r)
  | _ => true

theorem cntN_le : ∀ (l : List Int) (x : Int), cntN l x ≤ l.length
  | [], x => Nat.le_refl _
  | y :: r, x => by have := cntN_le r x; simp only [cntN, List.length_cons]; split <;> omega
theorem riseB_tail {y : Int} {r : List Int} (h : riseB (y :: r) = true) : riseB r = true := by
  cases r with
  | nil => rfl
  | cons z r => simp only [riseB, Bool.and_eq_true] at h; exact h.2
theorem riseB_low : ∀ {y : Int} {r : List Int}, riseB (y :: r) = true → ∀ z ∈ r, y < z
  | y, [], _, z, hz => by cases hz
  | y, w :: r, h, z, hz => by
    simp only [riseB, Bool.and_eq_true, decide_eq_true_eq] at h
    rcases List.mem_cons.1 hz with rfl | hz
    · exact h.1
    · exact Int.lt_trans h.1 (riseB_low h.2 z hz)
theorem cntN_low : ∀ {l : List Int} {x : Int}, (∀ z ∈ l, x ≤ z) → cntN l x = 0
  | [], x, _ => rfl
  | y :: r, x, h => by
    have h1 := h y (by simp)
    have h2 := cntN_low (l := r) (x := x) fun z hz => h z (List.mem_cons_of_mem _ hz)
    simp only [cntN, show ¬ y < x by omega, if_false, h2]
theorem cnt_get : ∀ {l : List Int} {x : Int}, riseB l = true → ∀ (i : Nat), i < l.length → (l.getD i 0 < x ↔ i < cntN l x)
  | [], x, _, i, hi => by simp at hi
  | y :: r, x, h, 0, hi => by
    simp only [List.getD_cons_zero, cntN]
    by_cases hy : y < x
    · simp [hy]; omega
    · simp only [hy, if_false, false_iff]
      rw [cntN_low (fun z hz => by have := riseB_low h z hz; omega)]; omega
  | y :: r, x, h, i + 1, hi => by
    have ih := cnt_get (riseB_tail h) (x := x) i (by simpa using hi)
    simp only [List.getD_cons_succ, cntN]
    rw [ih]
    by_cases hy : y < x
    · simp only [hy, if_true]; omega
    · simp only [hy, if_false]
      rw [cntN_low (fun z hz => by have := riseB_low h z hz; omega)]; omega

theorem sf_rounds (l : List Int) (hs : l.length ≤ 1000000000) (hr : riseB l = true) (x m : Int) (q : CEx × NSt) : ∀ (d a b : Nat), b ≤ a + d → a ≤ cntN l x → cntN l x ≤ b → b ≤ l.length →
    (outAt (.exit 0) sfOut0 [.l .ints l, .i x, .i (cntN l x), .i m]).ev = some q →
    ∃ k, (rounds Tryz.prog [] [] 30 sfId 20 none sfSk k [.i a, .i b, .l .ints l, .i x, .i a, .i m]).ev = some q
  | 0, a, b, hd, ha, hb, hl, hq => by
    refine ⟨1, cut_ev _ _ ((sf_round 0 a b l x a m).trans ?_)⟩
    rw [T.ev_ite, show decide ((a : Int) < (b : Int)) = false by rw [decide_eq_false_iff_not]; omega, show (a : Int) = (cntN l x : Int) by omega]
    exact hq
  | d + 1, a, b, hd, ha, hb, hl, hq => by
    by_cases hab : a < b
    · have h0 : decide ((a : Int) < (b : Int)) = true := by rw [decide_eq_true_eq]; omega
      have w0 : IntKind.i64.wrap ((a : Int) + b) = ((a + b : Nat) : Int) := by rw [wrap64 (by omega) (by omega)]; omega
      have w1 : ((a + b : Nat) : Int).tdiv 2 = (((a + b) / 2 : Nat) : Int) := by
        rw [Int.tdiv_eq_ediv_of_nonneg (by omega)]; omega
      have w2 : IntKind.i64.wrap ((((a + b) / 2 : Nat) : Int)) = (((a + b) / 2 : Nat) : Int) := by rw [wrap64 (by omega) (by omega)]
      have w3 : IntKind.i64.wrap ((((a + b) / 2 : Nat) : Int) + 1) = (((a + b) / 2 + 1 : Nat) : Int) := by rw [wrap64 (by omega) (by omega)]; omega
      have hin : inRange (((a + b) / 2 : Nat) : Int) l.length = true := by rw [inRange_iff]; omega
      have hcg := cnt_get hr (x := x) ((a + b) / 2) (by omega)
      by_cases hx : l.getD ((a + b) / 2) 0 < x
      · obtain ⟨k, ih⟩ := sf_rounds l hs hr x m q d ((a + b) / 2 + 1) b (by omega) (by have := hcg.1 hx; omega) hb hl hq
        refine ⟨k + 1, cut_ev _ _ ((sf_round k a b l x a m).trans ?_)⟩
        have e : decide (l.getD ((a + b) / 2) RC.ints.zero < x) = true := by rw [decide_eq_true_eq]; exact hx
        simp only [w0, w1, w2, w3, T.ev_ite, h0, hin, e, Int.toNat_natCast, if_true]
        exact ih
      · obtain ⟨k, ih⟩ := sf_rounds l hs hr x m q d a ((a + b) / 2) (by omega) ha (by have := mt hcg.2 hx; omega) (by omega) hq
        refine ⟨k + 1, cut_ev _ _ ((sf_round k a b l x a m).trans ?_)⟩
        have e : decide (l.getD ((a + b) / 2) RC.ints.zero < x) = false := by rw [decide_eq_false_iff_not]; exact hx
        simp only [w0, w1, w2, T.ev_ite, h0, hin, e, Int.toNat_natCast, if_true, Bool.false_eq_true, if_false]
        exact ih
    · refine ⟨1, cut_ev _ _ ((sf_round 0 a b l x a m).trans ?_)⟩
      rw [T.ev_ite, show decide ((a : Int) < (b : Int)) = false by rw [decide_eq_false_iff_not]; omega, show (a : Int) = (cntN l x : Int) by omega]
      exact hq

def sfG : List Leaf → T (CEx × NSt)
  | [.i a, .i b, .l .ints l, .i x, .i c, .i m] => T.when (a == 0 && b == l.length && c == 0 && small l.length && riseB l) (outAt (.exit 0) sfOut0 [.l .ints l, .i x, .i (cntN l x), .i m])
  | _ => .fail
theorem sf_shape : ShapeOk Tryz.prog [] [] sfId ⟨20, none, sfSk, sfG⟩ := by
  refine shapeOk_mk fun ls r h => ?_
  unfold sfG at h
  split at h
  · rename_i a b l x c m
    obtain ⟨hc, h1⟩ := ev_when h
    simp only [Bool.and_eq_true, beq_iff_eq, small_iff] at hc
    obtain ⟨⟨⟨⟨rfl, rfl⟩, rfl⟩, hs⟩, hr⟩ := hc
    obtain ⟨k, hk⟩ := sf_rounds l hs hr x m r l.length 0 l.length (by omega) (by omega) (cntN_le l x) (Nat.le_refl _) h1
    exact ⟨30, k, hk⟩
  · exact (ev_fail h).elim
def setL : List (Nat × List Nat × LoopFn) := [(168, [0, 1], loopExt sfId [⟨20, none, sfSk, sfG⟩])]
theorem setL_ok (N : Nat) : LoopsOk Tryz.prog N setL :=
  loopsOk_cons (loopExt_ok plainN mixedN (fun _ => extsOk_nil) (fun _ => loopsOk_nil) (all1 sf_shape all0) N) loopsOk_nil

set_option maxRecDepth 100000 in
theorem find_tree (l : List Int) (x : Int) : (((tden Tryz.prog [] setL 30).call 0 137 [.pl .ints l, .int .i64 x] ⟨.nil, 0⟩).pure.cut
    (.ite (.yes (.ite (.yes (.yes (.ite (.yes (.yes (.yes (.all)))) (.all)))) (.no (.no (.no (.no (.no (.no (.all))))))))) (.all))).ev = T.ev (α := CV) (
     .ite ((0 : Int) == (0 : Int) && (↑l.length : Int) == (↑l.length : Int) && (0 : Int) == (0 : Int) && small l.length && riseB l)
      (.ite (decide ((↑(cntN l x) : Int) < (↑l.length : Int)))
       (.ite (inRange (↑(cntN l x) : Int) l.length)
        (.ret (.tuple #[.int .i64 ((↑(cntN l x) : Int)), .bool (l.getD (↑(cntN l x) : Int).toNat RC.ints.zero == x)]))
        (.fail))
       (.ret (.tuple #[.int .i64 ((↑(cntN l x) : Int)), .bool false])))
      (.fail)) := by kernel_rfl

theorem hasN_mem : ∀ (l : List Int) (x : Int), hasN l x = true ↔ x ∈ l
  | [], x => by simp [hasN]
  | y :: r, x => by
    simp only [hasN, Bool.or_eq_true, beq_iff_eq, hasN_mem r x, List.mem_cons]
    constructor <;> (rintro (h | h) <;> simp [h])
theorem hasN_low {l : List Int} {x : Int} (h : ∀ z ∈ l, x < z) : hasN l x = false := by
  cases hh : hasN l x with
  | false => rfl
  | true => have := h x ((hasN_mem l x).1 hh); omega
theorem has_get : ∀ {l : List Int} {x : Int}, riseB l = true → hasN l x = if cntN l x < l.length then l.getD (cntN l x) 0 == x else false
  | [], x, _ => rfl
  | y :: r, x, h => by
    have ih := has_get (x := x) (riseB_tail h)
    by_cases hy : y < x
    · simp only [hasN, cntN, hy, if_true, show (y == x) = false by (rw [beq_eq_false_iff_ne]; omega), Bool.false_or, ih, List.length_cons, show 1 + cntN r x = cntN r x + 1 by omega, List.getD_cons_succ, Nat.add_lt_add_iff_right]
    · have h0 : cntN r x = 0 := cntN_low fun z hz => by have := riseB_low h z hz; omega
      simp only [hasN, cntN, hy, if_false, h0, Nat.add_zero, List.length_cons, Nat.zero_lt_succ, if_true, List.getD_cons_zero]
      by_cases he : y = x
      · simp [he]
      · rw [hasN_low fun z hz => by have := riseB_low h z hz; omega]; simp

def midB (l : List Int) : Bool := Nat.ble l.length 400000000
theorem mid_small {l : List Int} (h : midB l = true) : small l.length = true := by rw [midB, Nat.ble_eq] at h; rw [small_iff]; omega
def findG : List CV → T CV
  | [.pl .ints l, .int .i64 x] => T.when (midB l && riseB l) (.ret (.tuple #[.int .i64 (cntN l x), .bool (hasN l x)]))
  | _ => .fail
theorem find_fn : PureFn Tryz.prog 137 (sigExt [.l .ints] findG) :=
  pureFn_mk (bodied_ex (by kernel_rfl)) fun args d h => by
    unfold findG at h
    split at h
    · rename_i l x
      obtain ⟨hc, h1⟩ := ev_when h
      cases ev_ret h1
      simp only [Bool.and_eq_true] at hc
      refine pureAt0 plainN mixedN noE setL_ok (k := 30) ((find_tree l x).trans ?_) rfl
      rw [has_get hc.2]
      by_cases hlt : cntN l x < l.length
      · have h2 : inRange (cntN l x : Int) l.length = true := by rw [inRange_iff]; omega
        have h3 : decide ((cntN l x : Int) < (l.length : Int)) = true := by rw [decide_eq_true_eq]; omega
        simp only [T.ev_ite, T.ev_ret, mid_small hc.1, hc.2, h2, h3, hlt, Int.toNat_natCast, beq_self_eq_true, Bool.and_self, if_true]
        rfl
      · have h3 : decide ((cntN l x : Int) < (l.length : Int)) = false := by rw [decide_eq_false_iff_not]; omega
        simp only [T.ev_ite, T.ev_ret, mid_small hc.1, hc.2, h3, hlt, beq_self_eq_true, Bool.and_self, if_true, Bool.false_eq_true, if_false]
    · exact (ev_fail h).elim
def fdE : List (Nat × ExtFn) := [(137, pureExt (sigExt [.l .ints] findG)), (69, stExt cloneG), (158, insertX)]
theorem fdE_ok (N : Nat) : ExtsOk Tryz.prog N fdE := extsOk_cons (extOk_pure find_fn) (extsOk_cons (extOk_st clone_fn) (extsOk_cons (insert_ok N) extsOk_nil))

def wtEnd0 : NSt := ⟨[.row 0 1 (0)], [], [(0, .rows .ints [])], 1⟩
set_option maxRecDepth 100000 in
theorem with_tree (l : List Int) (x : Int) : ((stRunV Tryz.prog fdE [] [] 30 138 ⟨[.pl .ints l, .int .i64 x], [], [], 0⟩).cut
    (.ite (.ite (.ite (.all) (.all)) (.ite (.ite (.all) (.all)) (.all))) (.all))).ev = T.ev (α := NSt) (
     .ite (midB l && riseB l)
      (.ite (hasN l x)
       (.ite (small l.length)
        (stAt wtEnd0 [.l .ints (l)])
        (.fail))
       (.ite (small l.length)
        (.ite (decide ((0 : Int) ≤ (↑(cntN l x) : Int)) && decide ((↑(cntN l x) : Int) ≤ (↑l.length : Int)) && (l.length + (1 : Nat)).ble (1000000000 : Nat))
         (stAt wtEnd0 [.l .ints (List.take (↑(cntN l x) : Int).toNat l ++ [x] ++ List.drop (↑(cntN l x) : Int).toNat l)])
         (.fail))
        (.fail)))
      (.fail)) := by kernel_rfl
def lsEnd0 : NSt := ⟨[.row 0 1 (0)], [], [(0, .rows .ints [])], 1⟩
def lsEnd1 : NSt := ⟨[.win 0 1 (0) (0) (0)], [], [(0, .rows .ints [])], 1⟩
set_option maxRecDepth 100000 in
theorem less_tree (l : List Int) (x : Int) : ((stRunV Tryz.prog fdE [] [] 30 140 ⟨[.pl .ints l, .int .i64 x], [], [], 0⟩).cut
    (.ite (.ite (.ite (.all) (.all)) (.ite (.ite (.ite (.ite (.ite (.all) (.ite (.ite (.ite (.ite (.ite (.ite (.ite (.all) (.all)) (.all)) (.all)) (.ite (.ite (.ite (.all) (.all)) (.all)) (.all))) (.all)) (.all)) (.all))) (.all)) (.all)) (.all)) (.all))) (.all))).ev = T.ev (α := NSt) (
     .ite (midB l && riseB l)
      (.ite (!hasN l x)
       (.ite (small l.length)
        (stAt lsEnd0 [.l .ints (l)])
        (.fail))
       (.ite (small l.length)
        (.ite (decide ((0 : Int) ≤ (↑l.length : Int)) && decide ((↑l.length : Int) ≤ (↑l.length : Int)))
         (.ite (decide ((0 : Int) ≤ IntKind.i64.wrap ((↑(cntN l x) : Int) + (1 : Int))) && decide (IntKind.i64.wrap ((↑(cntN l x) : Int) + (1 : Int)) ≤ (↑(lo0 (some (↑l.length : Int).toNat)) : Int)))
          (.ite (decide ((0 : Int) ≤ (↑(cntN l x) : Int)) && decide ((↑(cntN l x) : Int) ≤ (↑(lo0 (some (IntKind.i64.wrap ((↑(cntN l x) : Int) + (1 : Int))).toNat)) : Int)))
           (.ite ((↑(cntN l x) : Int) == IntKind.i64.wrap ((↑(cntN l x) : Int) + (1 : Int)))
            (stAt lsEnd0 [.l .ints (l)])
            (.ite (decide ((0 : Int) ≤ (↑(cntN l x) : Int)) && decide ((↑(cntN l x) : Int) ≤ (↑l.length : Int)))
             (.ite (decide ((0 : Int) ≤ IntKind.i64.wrap ((↑(cntN l x) : Int) + (1 : Int))) && decide (IntKind.i64.wrap ((↑(cntN l x) : Int) + (1 : Int)) ≤ (↑(hi0 l.length none) : Int)))
              (.ite ((lo0 (some (IntKind.i64.wrap ((↑(cntN l x) : Int) + (1 : Int))).toNat) + (hi0 l.length none - lo0 (some (IntKind.i64.wrap ((↑(cntN l x) : Int) + (1 : Int))).toNat))).ble l.length)
               (.ite ((hi0 l.length (some (↑(cntN l x) : Int).toNat) - lo0 none + (List.take (hi0 l.length none - lo0 (some (IntKind.i64.wrap ((↑(cntN l x) : Int) + (1 : Int))).toNat)) (List.drop (lo0 (some (IntKind.i64.wrap ((↑(cntN l x) : Int) + (1 : Int))).toNat)) l)).length).ble (l.length - lo0 none))
                (.ite ((lo0 none + (l.length - lo0 none)).ble l.length)
                 (.ite (decide ((0 : Int) ≤ (↑l.length : Int)) && decide ((↑l.length : Int) ≤ (↑(l.length - lo0 none) : Int)))
                  (.ite (decide ((0 : Int) ≤ (↑(hi0 l.length (some (↑(cntN l x) : Int).toNat) - lo0 none + (List.take (hi0 l.length none - lo0 (some (IntKind.i64.wrap ((↑(cntN l x) : Int) + (1 : Int))).toNat)) (List.drop (lo0 (some (IntKind.i64.wrap ((↑(cntN l x) : Int) + (1 : Int))).toNat)) l)).length) : Int)) && decide ((↑(hi0 l.length (some (↑(cntN l x) : Int).toNat) - lo0 none + (List.take (hi0 l.length none - lo0 (some (IntKind.i64.wrap ((↑(cntN l x) : Int) + (1 : Int))).toNat)) (List.drop (lo0 (some (IntKind.i64.wrap ((↑(cntN l x) : Int) + (1 : Int))).toNat)) l)).length) : Int) ≤ (↑(hi0 (hi0 l.length (some (↑(cntN l x) : Int).toNat) - lo0 none + (List.take (hi0 l.length none - lo0 (some (IntKind.i64.wrap ((↑(cntN l x) : Int) + (1 : Int))).toNat)) (List.drop (lo0 (some (IntKind.i64.wrap ((↑(cntN l x) : Int) + (1 : Int))).toNat)) l)).length) (some (↑l.length : Int).toNat)) : Int)))
                   (stAt lsEnd1 [.n (0), .n (hi0 l.length (some (↑(cntN l x) : Int).toNat) - lo0 none + (List.take (hi0 l.length none - lo0 (some (IntKind.i64.wrap ((↑(cntN l x) : Int) + (1 : Int))).toNat)) (List.drop (lo0 (some (IntKind.i64.wrap ((↑(cntN l x) : Int) + (1 : Int))).toNat)) l)).length), .n (l.length - lo0 none), .l .ints (List.take (lo0 none + lo0 (some (↑(hi0 l.length (some (↑(cntN l x) : Int).toNat) - lo0 none + (List.take (hi0 l.length none - lo0 (some (IntKind.i64.wrap ((↑(cntN l x) : Int) + (1 : Int))).toNat)) (List.drop (lo0 (some (IntKind.i64.wrap ((↑(cntN l x) : Int) + (1 : Int))).toNat)) l)).length) : Int).toNat)) (List.take (lo0 none + (hi0 l.length (some (↑(cntN l x) : Int).toNat) - lo0 none)) l ++ List.take (hi0 l.length none - lo0 (some (IntKind.i64.wrap ((↑(cntN l x) : Int) + (1 : Int))).toNat)) (List.drop (lo0 (some (IntKind.i64.wrap ((↑(cntN l x) : Int) + (1 : Int))).toNat)) l) ++ List.drop (lo0 none + (hi0 l.length (some (↑(cntN l x) : Int).toNat) - lo0 none) + (List.take (hi0 l.length none - lo0 (some (IntKind.i64.wrap ((↑(cntN l x) : Int) + (1 : Int))).toNat)) (List.drop (lo0 (some (IntKind.i64.wrap ((↑(cntN l x) : Int) + (1 : Int))).toNat)) l)).length) l) ++ List.replicate (hi0 (hi0 l.length (some (↑(cntN l x) : Int).toNat) - lo0 none + (List.take (hi0 l.length none - lo0 (some (IntKind.i64.wrap ((↑(cntN l x) : Int) + (1 : Int))).toNat)) (List.drop (lo0 (some (IntKind.i64.wrap ((↑(cntN l x) : Int) + (1 : Int))).toNat)) l)).length) (some (↑l.length : Int).toNat) - lo0 (some (↑(hi0 l.length (some (↑(cntN l x) : Int).toNat) - lo0 none + (List.take (hi0 l.length none - lo0 (some (IntKind.i64.wrap ((↑(cntN l x) : Int) + (1 : Int))).toNat)) (List.drop (lo0 (some (IntKind.i64.wrap ((↑(cntN l x) : Int) + (1 : Int))).toNat)) l)).length) : Int).toNat)) (0 : RC.ints.den) ++ List.drop (lo0 none + lo0 (some (↑(hi0 l.length (some (↑(cntN l x) : Int).toNat) - lo0 none + (List.take (hi0 l.length none - lo0 (some (IntKind.i64.wrap ((↑(cntN l x) : Int) + (1 : Int))).toNat)) (List.drop (lo0 (some (IntKind.i64.wrap ((↑(cntN l x) : Int) + (1 : Int))).toNat)) l)).length) : Int).toNat) + (hi0 (hi0 l.length (some (↑(cntN l x) : Int).toNat) - lo0 none + (List.take (hi0 l.length none - lo0 (some (IntKind.i64.wrap ((↑(cntN l x) : Int) + (1 : Int))).toNat)) (List.drop (lo0 (some (IntKind.i64.wrap ((↑(cntN l x) : Int) + (1 : Int))).toNat)) l)).length) (some (↑l.length : Int).toNat) - lo0 (some (↑(hi0 l.length (some (↑(cntN l x) : Int).toNat) - lo0 none + (List.take (hi0 l.length none - lo0 (some (IntKind.i64.wrap ((↑(cntN l x) : Int) + (1 : Int))).toNat)) (List.drop (lo0 (some (IntKind.i64.wrap ((↑(cntN l x) : Int) + (1 : Int))).toNat)) l)).length) : Int).toNat))) (List.take (lo0 none + (hi0 l.length (some (↑(cntN l x) : Int).toNat) - lo0 none)) l ++ List.take (hi0 l.length none - lo0 (some (IntKind.i64.wrap ((↑(cntN l x) : Int) + (1 : Int))).toNat)) (List.drop (lo0 (some (IntKind.i64.wrap ((↑(cntN l x) : Int) + (1 : Int))).toNat)) l) ++ List.drop (lo0 none + (hi0 l.length (some (↑(cntN l x) : Int).toNat) - lo0 none) + (List.take (hi0 l.length none - lo0 (some (IntKind.i64.wrap ((↑(cntN l x) : Int) + (1 : Int))).toNat)) (List.drop (lo0 (some (IntKind.i64.wrap ((↑(cntN l x) : Int) + (1 : Int))).toNat)) l)).length) l))])
                   (.fail))
                  (.fail))
                 (.fail))
                (.ite (roomB (hi0 l.length (some (↑(cntN l x) : Int).toNat) - lo0 none + (List.take (hi0 l.length none - lo0 (some (IntKind.i64.wrap ((↑(cntN l x) : Int) + (1 : Int))).toNat)) (List.drop (lo0 (some (IntKind.i64.wrap ((↑(cntN l x) : Int) + (1 : Int))).toNat)) l)).length) (8 : Nat) && (lo0 none + (l.length - lo0 none)).beq l.length)
                 (.ite (decide ((0 : Int) ≤ (↑l.length : Int)) && decide ((↑l.length : Int) ≤ (↑(hi0 l.length (some (↑(cntN l x) : Int).toNat) - lo0 none + (List.take (hi0 l.length none - lo0 (some (IntKind.i64.wrap ((↑(cntN l x) : Int) + (1 : Int))).toNat)) (List.drop (lo0 (some (IntKind.i64.wrap ((↑(cntN l x) : Int) + (1 : Int))).toNat)) l)).length) : Int)))
                  (.ite (decide ((0 : Int) ≤ (↑(hi0 l.length (some (↑(cntN l x) : Int).toNat) - lo0 none + (List.take (hi0 l.length none - lo0 (some (IntKind.i64.wrap ((↑(cntN l x) : Int) + (1 : Int))).toNat)) (List.drop (lo0 (some (IntKind.i64.wrap ((↑(cntN l x) : Int) + (1 : Int))).toNat)) l)).length) : Int)) && decide ((↑(hi0 l.length (some (↑(cntN l x) : Int).toNat) - lo0 none + (List.take (hi0 l.length none - lo0 (some (IntKind.i64.wrap ((↑(cntN l x) : Int) + (1 : Int))).toNat)) (List.drop (lo0 (some (IntKind.i64.wrap ((↑(cntN l x) : Int) + (1 : Int))).toNat)) l)).length) : Int) ≤ (↑(hi0 (hi0 l.length (some (↑(cntN l x) : Int).toNat) - lo0 none + (List.take (hi0 l.length none - lo0 (some (IntKind.i64.wrap ((↑(cntN l x) : Int) + (1 : Int))).toNat)) (List.drop (lo0 (some (IntKind.i64.wrap ((↑(cntN l x) : Int) + (1 : Int))).toNat)) l)).length) (some (↑l.length : Int).toNat)) : Int)))
                   (stAt lsEnd0 [.l .ints (List.take (lo0 (some (↑(hi0 l.length (some (↑(cntN l x) : Int).toNat) - lo0 none + (List.take (hi0 l.length none - lo0 (some (IntKind.i64.wrap ((↑(cntN l x) : Int) + (1 : Int))).toNat)) (List.drop (lo0 (some (IntKind.i64.wrap ((↑(cntN l x) : Int) + (1 : Int))).toNat)) l)).length) : Int).toNat)) (List.take (hi0 l.length (some (↑(cntN l x) : Int).toNat) - lo0 none) (List.drop (lo0 none) l) ++ List.take (hi0 l.length none - lo0 (some (IntKind.i64.wrap ((↑(cntN l x) : Int) + (1 : Int))).toNat)) (List.drop (lo0 (some (IntKind.i64.wrap ((↑(cntN l x) : Int) + (1 : Int))).toNat)) l)) ++ List.replicate (hi0 (hi0 l.length (some (↑(cntN l x) : Int).toNat) - lo0 none + (List.take (hi0 l.length none - lo0 (some (IntKind.i64.wrap ((↑(cntN l x) : Int) + (1 : Int))).toNat)) (List.drop (lo0 (some (IntKind.i64.wrap ((↑(cntN l x) : Int) + (1 : Int))).toNat)) l)).length) (some (↑l.length : Int).toNat) - lo0 (some (↑(hi0 l.length (some (↑(cntN l x) : Int).toNat) - lo0 none + (List.take (hi0 l.length none - lo0 (some (IntKind.i64.wrap ((↑(cntN l x) : Int) + (1 : Int))).toNat)) (List.drop (lo0 (some (IntKind.i64.wrap ((↑(cntN l x) : Int) + (1 : Int))).toNat)) l)).length) : Int).toNat)) (0 : RC.ints.den) ++ List.drop (lo0 (some (↑(hi0 l.length (some (↑(cntN l x) : Int).toNat) - lo0 none + (List.take (hi0 l.length none - lo0 (some (IntKind.i64.wrap ((↑(cntN l x) : Int) + (1 : Int))).toNat)) (List.drop (lo0 (some (IntKind.i64.wrap ((↑(cntN l x) : Int) + (1 : Int))).toNat)) l)).length) : Int).toNat) + (hi0 (hi0 l.length (some (↑(cntN l x) : Int).toNat) - lo0 none + (List.take (hi0 l.length none - lo0 (some (IntKind.i64.wrap ((↑(cntN l x) : Int) + (1 : Int))).toNat)) (List.drop (lo0 (some (IntKind.i64.wrap ((↑(cntN l x) : Int) + (1 : Int))).toNat)) l)).length) (some (↑l.length : Int).toNat) - lo0 (some (↑(hi0 l.length (some (↑(cntN l x) : Int).toNat) - lo0 none + (List.take (hi0 l.length none - lo0 (some (IntKind.i64.wrap ((↑(cntN l x) : Int) + (1 : Int))).toNat)) (List.drop (lo0 (some (IntKind.i64.wrap ((↑(cntN l x) : Int) + (1 : Int))).toNat)) l)).length) : Int).toNat))) (List.take (hi0 l.length (some (↑(cntN l x) : Int).toNat) - lo0 none) (List.drop (lo0 none) l) ++ List.take (hi0 l.length none - lo0 (some (IntKind.i64.wrap ((↑(cntN l x) : Int) + (1 : Int))).toNat)) (List.drop (lo0 (some (IntKind.i64.wrap ((↑(cntN l x) : Int) + (1 : Int))).toNat)) l)))])
                   (.fail))
                  (.fail))
                 (.fail)))
               (.fail))
              (.fail))
             (.fail)))
           (.fail))
          (.fail))
         (.fail))
        (.fail)))
      (.fail)) := by kernel_rfl

theorem withR_true {l : List Int} {x : Int} : ∀ (h : ∀ z ∈ l, x < z), withR true l x = (true, l) := by
  induction l with
  | nil => intro _; rfl
  | cons y r ih =>
    intro h
    have h1 := h y (by simp)
    simp only [withR, Bool.true_eq_false, false_and, if_false, ih (fun z hz => h z (List.mem_cons_of_mem _ hz)), show ¬ y = x by omega]
    rfl
theorem with_rise : ∀ {l : List Int} {x : Int}, riseB l = true → withN l x = if hasN l x then l else l.take (cntN l x) ++ [x] ++ l.drop (cntN l x)
  | [], x, _ => rfl
  | y :: r, x, h => by
    have ih := with_rise (x := x) (riseB_tail h)
    have hlow := riseB_low h
    by_cases hy : y < x
    · have e1 : (y == x) = false := by rw [beq_eq_false_iff_ne]; omega
      have e2 : withN (y :: r) x = y :: withN r x := by
        simp only [withN, withR, show ¬ x ≤ y by omega, and_false, if_false, show ¬ y = x by omega]
        split <;> rfl
      rw [e2, ih]
      simp only [hasN, cntN, e1, Bool.false_or, hy, if_true, show 1 + cntN r x = cntN r x + 1 by omega, List.take_succ_cons, List.drop_succ_cons]
      split <;> simp
    · by_cases he : y = x
      · subst he
        simp only [withN, withR, Int.le_refl, and_self, if_true, withR_true hlow, hasN, beq_self_eq_true, Bool.true_or]
        rfl
      · have e1 : (y == x) = false := by rw [beq_eq_false_iff_ne]; omega
        have hl : ∀ z ∈ r, x < z := fun z hz => by have := hlow z hz; omega
        have h0 : cntN r x = 0 := cntN_low fun z hz => by have := hl z hz; omega
        simp only [withN, withR, show x ≤ y by omega, and_self, if_true, he, if_false, withR_true hl, hasN, e1, Bool.false_or, hasN_low hl, cntN, hy, h0]
        rfl
theorem lessN_low {l : List Int} {x : Int} : ∀ (h : ∀ z ∈ l, x < z), lessN l x = l := by
  induction l with
  | nil => intro _; rfl
  | cons y r ih =>
    intro h
    have h1 := h y (by simp)
    simp only [lessN, ih (fun z hz => h z (List.mem_cons_of_mem _ hz)), show ¬ y = x by omega, if_false]
    rfl
theorem less_rise : ∀ {l : List Int} {x : Int}, riseB l = true → lessN l x = if hasN l x then l.take (cntN l x) ++ l.drop (cntN l x + 1) else l
  | [], x, _ => rfl
  | y :: r, x, h => by
    have ih := less_rise (x := x) (riseB_tail h)
    have hlow := riseB_low h
    by_cases hy : y < x
    · have e1 : (y == x) = false := by rw [beq_eq_false_iff_ne]; omega
      simp only [lessN, show ¬ y = x by omega, if_false, ih, hasN, cntN, e1, Bool.false_or, hy, if_true, show 1 + cntN r x = cntN r x + 1 by omega, List.take_succ_cons, List.drop_succ_cons]
      split <;> simp
    · by_cases he : y = x
      · subst he
        have h0 : cntN r y = 0 := cntN_low fun z hz => by have := hlow z hz; omega
        simp only [lessN, if_true, List.nil_append, lessN_low hlow, hasN, beq_self_eq_true, Bool.true_or, cntN, show ¬ y < y by omega, if_false, h0]
        rfl
      · have e1 : (y == x) = false := by rw [beq_eq_false_iff_ne]; omega
        have hl : ∀ z ∈ r, x < z := fun z hz => by have := hlow z hz; omega
        simp only [lessN, he, if_false, lessN_low hl, hasN, e1, Bool.false_or, hasN_low hl]
        rfl
theorem has_lt {l : List Int} {x : Int} (h : riseB l = true) (hh : hasN l x = true) : cntN l x < l.length := by
  rw [has_get h] at hh
  split at hh
  · assumption
  · cases hh

def withSG : NSt → T NSt
  | ⟨[.pl .ints l, .int .i64 x], [], [], 0⟩ => T.when (midB l && riseB l) (.ret ⟨[.row 0 1 0], [], [(0, .rows .ints (withN l x))], 1⟩)
  | _ => .fail
theorem withS_fn : StFn Tryz.prog 138 withSG :=
  ⟨bodied_ex (by kernel_rfl), fun n0 n h => by
    unfold withSG at h
    split at h
    · rename_i l x
      obtain ⟨hc, h1⟩ := ev_when h
      refine st_cut plainN mixedN fdE_ok noL ((with_tree l x).trans ?_)
      rw [← h1]
      have hc2 := hc
      simp only [Bool.and_eq_true] at hc
      have hm := hc.1
      rw [midB, Nat.ble_eq] at hm
      have hle := cntN_le l x
      rw [with_rise hc.2]
      have e1 : (decide ((0 : Int) ≤ (cntN l x : Int)) && decide ((cntN l x : Int) ≤ (l.length : Int)) && (l.length + 1).ble 1000000000) = true := by
        simp only [Bool.and_eq_true, decide_eq_true_eq, Nat.ble_eq]; omega
      simp only [T.ev_ite, hc2, mid_small hc.1, e1, if_true, Int.toNat_natCast]
      cases hasN l x <;> rfl
    · exact (ev_fail h).elim⟩
def lessRow (l : List Int) (c : Nat) : List Int := l.take c ++ l.drop (c + 1) ++ [0]
def lessSG : NSt → T NSt
  | ⟨[.pl .ints l, .int .i64 x], [], [], 0⟩ => T.when (midB l && riseB l) (.ite (hasN l x) (.ret ⟨[.win 0 1 0 (l.length - 1) l.length], [], [(0, .rows .ints (lessRow l (cntN l x)))], 1⟩) (.ret ⟨[.row 0 1 0], [], [(0, .rows .ints l)], 1⟩))
  | _ => .fail
theorem lessS_fn : StFn Tryz.prog 140 lessSG :=
  ⟨bodied_ex (by kernel_rfl), fun n0 n h => by
    unfold lessSG at h
    split at h
    · rename_i l x
      obtain ⟨hc, h1⟩ := ev_when h
      refine st_cut plainN mixedN fdE_ok noL ((less_tree l x).trans ?_)
      rw [← h1]
      have hc2 := hc
      simp only [Bool.and_eq_true] at hc
      have hm := hc.1
      rw [midB, Nat.ble_eq] at hm
      cases hh : hasN l x with
      | false => simp only [T.ev_ite, hc2, mid_small hc.1, hh, if_true, Bool.not_false, Bool.false_eq_true, if_false]; rfl
      | true =>
        have hlt := has_lt hc.2 hh
        generalize cntN l x = c at *
        have hw : IntKind.i64.wrap ((c : Int) + 1) = ((c + 1 : Nat) : Int) := by rw [wrap64 (by omega) (by omega)]; omega
        have hys : List.take (l.length - (c + 1)) (List.drop (c + 1) l) = List.drop (c + 1) l := List.take_of_length_le (by rw [List.length_drop]; omega)
        have hn : c + (l.length - (c + 1)) = l.length - 1 := by omega
        have q0 : decide ((0 : Int) ≤ (l.length : Int)) = true := by rw [decide_eq_true_eq]; omega
        have q1 : decide ((l.length : Int) ≤ (l.length : Int)) = true := by rw [decide_eq_true_eq]; omega
        have q2 : decide ((0 : Int) ≤ ((c + 1 : Nat) : Int)) = true := by rw [decide_eq_true_eq]; omega
        have q3 : decide (((c + 1 : Nat) : Int) ≤ (l.length : Int)) = true := by rw [decide_eq_true_eq]; omega
        have q4 : decide ((0 : Int) ≤ (c : Int)) = true := by rw [decide_eq_true_eq]; omega
        have q5 : decide ((c : Int) ≤ ((c + 1 : Nat) : Int)) = true := by rw [decide_eq_true_eq]; omega
        have q6 : ((c : Int) == ((c + 1 : Nat) : Int)) = false := by rw [beq_eq_false_iff_ne]; omega
        have q7 : decide ((c : Int) ≤ (l.length : Int)) = true := by rw [decide_eq_true_eq]; omega
        have q8 : (c + 1 + (l.length - (c + 1))).ble l.length = true := by rw [Nat.ble_eq]; omega
        have q9 : (l.length - 1).ble l.length = true := by rw [Nat.ble_eq]; omega
        have q10 : l.length.ble l.length = true := by rw [Nat.ble_eq]; omega
        have q11 : decide ((0 : Int) ≤ ((l.length - 1 : Nat) : Int)) = true := by rw [decide_eq_true_eq]; omega
        have q12 : decide (((l.length - 1 : Nat) : Int) ≤ (l.length : Int)) = true := by rw [decide_eq_true_eq]; omega
        have hL : (List.take c l ++ List.drop (c + 1) l).length = l.length - 1 := by rw [List.length_append, List.length_take, List.length_drop]; omega
        have e1 : List.take (l.length - 1) (List.take c l ++ List.drop (c + 1) l ++ List.drop (l.length - 1) l) = List.take c l ++ List.drop (c + 1) l := List.take_left' hL
        have e2 : List.drop (l.length - 1 + (l.length - (l.length - 1))) (List.take c l ++ List.drop (c + 1) l ++ List.drop (l.length - 1) l) = [] := by
          apply List.drop_eq_nil_of_le
          rw [List.length_append, hL, List.length_drop]; omega
        have e3 : l.length - (l.length - 1) = 1 := by omega
        simp only [T.ev_ite, hc2, mid_small hc.1, hh, hw, hi0, lo0, Int.toNat_natCast, Nat.zero_add, Nat.sub_zero, hys, List.length_drop, hn, q0, q1, q2, q3, q4, q5, q6, q7, q8, q9, q10, q11, q12, Bool.and_self, Bool.not_true, Bool.false_eq_true, if_false, if_true, e1, e2]
        rw [e3, List.append_nil, if_pos (by simp)]
        rfl
    · exact (ev_fail h).elim⟩
def clone2A0 : NSt := ⟨[.row 0 1 (0)], [], [(0, .rows .ints [])], 1⟩
set_option maxRecDepth 100000 in
theorem clone2_nil : ((stRunV Tryz.prog [] [] [(0, .ints)] 30 141 ⟨[.slice none 0 0], [], [], 0⟩).cut
    (.yes (.all))).ev = T.ev (α := NSt) (
     stAt clone2A0 [.l .ints ([])]) := by kernel_rfl
def clone2B0 : NSt := ⟨[.row 0 1 (0)], [], [(0, .rows .ints [])], 1⟩
set_option maxRecDepth 100000 in
theorem clone2_nn : ((stRunV Tryz.prog [] [] [] 30 141 ⟨[.nnil], [], [], 0⟩).cut
    (.no (.yes (.all)))).ev = T.ev (α := NSt) (
     stAt clone2B0 [.l .ints ([])]) := by kernel_rfl
def clone2C0 : NSt := ⟨[.row 0 1 (0)], [], [(0, .rows .ints [])], 1⟩
set_option maxRecDepth 100000 in
theorem clone2_pl (l : List Int) : ((stRunV Tryz.prog [] [] [] 30 141 ⟨[.pl .ints l], [], [], 0⟩).cut
    (.ite (.no (.ite (.all) (.all))) (.all))).ev = T.ev (α := NSt) (
     .ite (!l.isEmpty)
      (.ite (roomB l.length (8 : Nat))
       (stAt clone2C0 [.l .ints (l)])
       (.fail))
      (.fail)) := by kernel_rfl

theorem clone2_fn : StFn Tryz.prog 141 cloneG :=
  ⟨bodied_ex (by kernel_rfl), fun n0 n h => by
    unfold cloneG at h
    split at h
    · rename_i l
      obtain ⟨hc, h1⟩ := ev_when h
      cases ev_ret h1
      refine ⟨Nat.zero_le _, ?_⟩
      cases l with
      | nil => exact .nil2 (st_cut plainN mixedN noE noL (clone2_nil.trans rfl)).2 (st_cut plainN mixedN noE noL (clone2_nn.trans rfl)).2
      | cons x l =>
        refine (st_cut plainN mixedN noE noL ((clone2_pl (x :: l)).trans ?_)).2
        have hr := roomB_small hc (b := 8) (by decide)
        rw [T.ev_ite, T.ev_ite, hr]; rfl
    · exact (ev_fail h).elim⟩

def setA (t n : Int) (l : List Int) (k a b : Int) : Ans :=
  if t ≠ 2 ∨ checkN t n l ≠ 0 then bad 12
  else if k < 3 ∨ 6 < k then bad 6
  else if b ≠ 0 ∨ (k = 6 ∧ a ≠ 0) then bad 2
  else if k = 3 then ⟨⟨2, 0, withN l a⟩, ⟨2, if hasN l a then 0 else 1⟩, 0⟩
  else if k = 4 then ⟨⟨2, 0, lessN l a⟩, ⟨2, if hasN l a then 1 else 0⟩, 0⟩
  else if k = 5 then ⟨⟨2, 0, l⟩, ⟨2, if hasN l a then 1 else 0⟩, 0⟩
  else ⟨⟨2, 0, l⟩, ⟨2, l.length⟩, 0⟩
def setG : List CV → T CV
  | [.agg ⟨[.int .i64 t, .int .i64 n, .pl .ints l]⟩, .int .i64 k, .int .i64 a, .int .i64 b] => T.when (midB l) (.ret (setA t n l k a b).cv)
  | _ => .fail
def stE : List (Nat × ExtFn) := [(137, pureExt (sigExt [.l .ints] findG)), (138, stExt withSG), (140, stExt lessSG), (141, stExt cloneG)] ++ kitE
theorem stE_ok (N : Nat) : ExtsOk Tryz.prog N stE :=
  extsOk_cons (extOk_pure find_fn) (extsOk_cons (extOk_st withS_fn) (extsOk_cons (extOk_st lessS_fn) (extsOk_cons (extOk_st clone2_fn) (kitE_ok N))))

theorem rises_at (l : List Int) : ∀ (d i : Nat), l.length < i + 1 + d → risesAt l 1 d (i + 1) = riseB (l.drop i)
  | 0, i, h => by rw [List.drop_eq_nil_of_le (by omega)]; rfl
  | d + 1, i, h => by
    have ih := rises_at l d (i + 1) (by omega)
    by_cases hi : i + 1 < l.length
    · rw [getD_cons (l := l) (i := i) (by omega) 0]
      rw [getD_cons (l := l) (i := i + 1) hi 0] at ih ⊢
      simp only [risesAt, hi, if_true, show i + 1 - 1 = i by omega, riseB]
      by_cases hle : l.getD (i + 1) 0 ≤ l.getD i 0
      · rw [if_pos hle, show decide (l.getD i 0 < l.getD (i + 1) 0) = false by rw [decide_eq_false_iff_not]; omega]; rfl
      · simp only [hle, if_false, ih, show l.getD i 0 < l.getD (i + 1) 0 by omega, decide_true, Bool.true_and]
    · simp only [risesAt, hi, if_false]
      by_cases hi2 : i < l.length
      · rw [getD_cons (l := l) (i := i) hi2 0, List.drop_eq_nil_of_le (by omega)]; rfl
      · rw [List.drop_eq_nil_of_le (by omega)]; rfl
theorem rises_rise (l : List Int) : rises l 1 = riseB l := rises_at l (l.length + 1) 0 (by omega)
theorem check2 {n : Int} {l : List Int} : checkN 2 n l = 0 ↔ n = 0 ∧ riseB l = true := by
  rw [checkN, rises_rise]
  by_cases h : n = 0 ∧ riseB l = true
  · simp [h]
  · simp [h]
theorem less_row {l : List Int} {x : Int} (hr : riseB l = true) (hh : hasN l x = true) : List.take (l.length - 1) (List.drop 0 (lessRow l (cntN l x))) = lessN l x := by
  have hlt := has_lt hr hh
  have hL : (List.take (cntN l x) l ++ List.drop (cntN l x + 1) l).length = l.length - 1 := by rw [List.length_append, List.length_take, List.length_drop]; omega
  rw [List.drop_zero, lessRow, List.take_left' hL, less_rise hr, hh]; rfl
theorem ws3 : IntKind.i64.wrap (3 - 3) = 0 := by decide
theorem ws4 : IntKind.i64.wrap (4 - 3) = 1 := by decide
theorem ws5 : IntKind.i64.wrap (5 - 3) = 2 := by decide
theorem ws6 : IntKind.i64.wrap (6 - 3) = 3 := by decide

end Go.Proofs.YtecidokjhplbgaaGreatDoorD.Set

