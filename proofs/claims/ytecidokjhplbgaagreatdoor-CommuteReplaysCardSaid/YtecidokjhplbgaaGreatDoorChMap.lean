/-
  Chapter 08: what maps answer.
-/
import Derived.Test.YtecidokjhplbgaaGreatDoorKitO5
import Derived.Test.YtecidokjhplbgaaGreatDoorClose
import Derived.Test.YtecidokjhplbgaaGreatDoorAns
set_option linter.unusedVariables false
set_option linter.unusedSimpArgs false
namespace Go.Proofs.YtecidokjhplbgaaGreatDoorD.Map
open Go Go.RowKit

def fiSk : NSt := ⟨[.func (.yield 10) #[] #[], .pointer (some ⟨5, 0, none⟩), .junk, .junk, .junk, .junk, .junk, .junk, .junk, .junk, .junk, .junk, .junk, .junk, .junk, .junk, .junk], [], [(0, .cells [.int .i64 (0)] 1 0), (1, .cells [.int .i64 (0)] 1 0), (2, .cells [.bool false] 1 0), (5, .cells [.pl .ints []] 1 0), (9, .defs), (10, .loop .ready none 120 [.junk, .junk, .junk, .pointer (some ⟨0, 0, none⟩), .pointer (some ⟨1, 0, none⟩), .pointer (some ⟨2, 0, none⟩), .junk, .junk, .junk, .junk, .tuple #[], .tuple #[], .junk, .junk, .junk, .junk, .junk, .junk] [0, 1, 0, 1] 9)], 11⟩
def drSk : NSt := ⟨[.func (.yield 9) #[] #[], .pointer (some ⟨4, 0, none⟩), .junk, .junk, .junk, .junk, .junk, .junk, .junk, .junk, .junk, .junk, .junk, .junk, .junk, .junk, .junk], [], [(0, .cells [.int .i64 (0)] 1 0), (1, .cells [.row 10 1 (0)] 1 0), (4, .cells [.pl .ints []] 1 0), (8, .defs), (9, .loop .ready none 119 [.junk, .junk, .junk, .pointer (some ⟨0, 0, none⟩), .pointer (some ⟨1, 0, none⟩), .junk, .junk, .junk, .junk, .tuple #[], .tuple #[], .junk, .junk, .junk, .junk, .junk, .junk, .junk, .junk, .junk] [0, 1, 0, 1] 8), (10, .rows .ints [])], 11⟩
def paId : LoopId := ⟨160, [0], []⟩
def pdId : LoopId := ⟨160, [0], [(voidAt 1 0, .ints)]⟩

def fiOut0 : NSt := ⟨[.junk, .junk, .junk, .junk, .junk, .junk, .junk, .junk, .junk, .junk, .junk, .junk, .junk, .junk, .junk, .junk, .junk], [], [(0, .cells [.int .i64 (0)] 1 0), (1, .cells [.int .i64 (0)] 1 0), (2, .cells [.bool false] 1 0), (5, .cells [.pl .ints []] 1 0), (9, .defs), (10, .loop .done (some (.exit 0)) 120 [.junk, .junk, .junk, .pointer (some ⟨0, 0, none⟩), .pointer (some ⟨1, 0, none⟩), .pointer (some ⟨2, 0, none⟩), .junk, .junk, .junk, .junk, .tuple #[], .tuple #[], .junk, .junk, .junk, .junk, .junk, .junk] [0, 1, 0, 1] 9)], 11⟩
def fiOut1 : NSt := ⟨[.junk, .junk, .junk, .junk, .junk, .junk, .junk, .junk, .junk, .junk, .junk, .junk, .junk, .junk, .junk, .junk, .junk], [], [(0, .cells [.int .i64 (0)] 1 0), (1, .cells [.int .i64 (0)] 1 0), (2, .cells [.bool false] 1 0), (5, .cells [.pl .ints []] 1 0), (9, .defs), (10, .loop .ready none 120 [.junk, .junk, .junk, .pointer (some ⟨0, 0, none⟩), .pointer (some ⟨1, 0, none⟩), .pointer (some ⟨2, 0, none⟩), .junk, .junk, .junk, .junk, .tuple #[], .tuple #[], .junk, .junk, .junk, .junk, .junk, .junk] [0, 1, 0, 1] 9)], 11⟩
set_option maxRecDepth 100000 in
theorem fi_round (k : Nat) (x v : Int) (is : Bool) (l : List Int) : ((rounds Tryz.prog [] [] 30 paId 11 none fiSk (k + 1) [.i x, .i v, .b is, .l .ints l]).cut
    (.ite (.ite (.ite (.yes (.ite (.yes (.all)) (.no (.ite (.all) (.all))))) (.all)) (.all)) (.all))).ev = T.ev (
     .ite (decide ((↑l.length : Int) > (1 : Int)))
      (.ite (inRange (0 : Int) l.length)
       (.ite (inRange (1 : Int) l.length)
        (.ite (l.getD (Int.toNat (0 : Int)) RC.ints.zero == x)
         (outAt .ret fiOut0 [.i (x), .i (l.getD (Int.toNat (1 : Int)) RC.ints.zero), .b true, .l .ints (l)])
         (.ite (decide ((0 : Int) ≤ (2 : Int)) && decide ((2 : Int) ≤ (↑(hi0 l.length none) : Int)))
          (rounds Tryz.prog [] [] 30 paId 11 none fiSk k [.i (x), .i (v), .b (is), .l .ints (lpart l (some (Int.toNat (2 : Int))) none)])
          (.fail)))
        (.fail))
       (.fail))
      (outAt (.exit 0) fiOut1 [.i (x), .i (v), .b (is), .l .ints (l)])) := by kernel_rfl
def drOut0 : NSt := ⟨[.junk, .junk, .junk, .junk, .junk, .junk, .junk, .junk, .junk, .junk, .junk, .junk, .junk, .junk, .junk, .junk, .junk], [], [(0, .cells [.int .i64 (0)] 1 0), (1, .cells [.row 10 1 (0)] 1 0), (4, .cells [.pl .ints []] 1 0), (8, .defs), (9, .loop .ready none 119 [.junk, .junk, .junk, .pointer (some ⟨0, 0, none⟩), .pointer (some ⟨1, 0, none⟩), .junk, .junk, .junk, .junk, .tuple #[], .tuple #[], .junk, .junk, .junk, .junk, .junk, .junk, .junk, .junk, .junk] [0, 1, 0, 1] 8), (10, .rows .ints [])], 11⟩
set_option maxRecDepth 100000 in
theorem dr_round (k : Nat) (x : Int) (l out : List Int) : ((rounds Tryz.prog [] [] 30 pdId 10 none drSk (k + 1) [.i x, .l .ints l, .l .ints out]).cut
    (.ite (.ite (.ite (.yes (.ite (.ite (.no (.ite (.all) (.all))) (.all)) (.no (.ite (.all) (.all))))) (.all)) (.all)) (.all))).ev = T.ev (
     .ite (decide ((↑l.length : Int) > (1 : Int)))
      (.ite (inRange (0 : Int) l.length)
       (.ite (inRange (1 : Int) l.length)
        (.ite (l.getD (Int.toNat (0 : Int)) RC.ints.zero != x)
         (.ite (roomB (out.length + [l.getD (Int.toNat (0 : Int)) RC.ints.zero, l.getD (Int.toNat (1 : Int)) RC.ints.zero].length) (8 : Nat))
          (.ite (decide ((0 : Int) ≤ (2 : Int)) && decide ((2 : Int) ≤ (↑(hi0 l.length none) : Int)))
           (rounds Tryz.prog [] [] 30 pdId 10 none drSk k [.i (x), .l .ints (lpart l (some (Int.toNat (2 : Int))) none), .l .ints (out ++ [l.getD (Int.toNat (0 : Int)) RC.ints.zero, l.getD (Int.toNat (1 : Int)) RC.ints.zero])])
           (.fail))
          (.fail))
         (.ite (decide ((0 : Int) ≤ (2 : Int)) && decide ((2 : Int) ≤ (↑(hi0 l.length none) : Int)))
          (rounds Tryz.prog [] [] 30 pdId 10 none drSk k [.i (x), .l .ints (lpart l (some (Int.toNat (2 : Int))) none), .l .ints (out)])
          (.fail)))
        (.fail))
       (.fail))
      (outAt (.exit 0) drOut0 [.i (x), .l .ints (l), .l .ints (out)])) := by kernel_rfl

def findP : List Int → Int → Int × Bool × List Int
  | k :: v :: r, x => if k = x then (v, true, k :: v :: r) else findP r x
  | l, _ => (0, false, l)
def dropP : List Int → Int → List Int
  | k :: v :: r, x => if k = x then dropP r x else k :: v :: dropP r x
  | _, _ => []
def tailP : List Int → List Int
  | _ :: _ :: r => tailP r
  | l => l
theorem dropP_length : ∀ (l : List Int) (x : Int), (dropP l x).length ≤ l.length
  | [], x => by simp [dropP]
  | [_], x => by simp [dropP]
  | k :: v :: r, x => by
    have := dropP_length r x
    simp only [dropP]; split <;> simp <;> omega
theorem len_gt1 (l : List Int) : (∃ k v r, l = k :: v :: r) ∨ (¬ ((l.length : Int) > 1) ∧ (∀ x, findP l x = (0, false, l)) ∧ (∀ x, dropP l x = []) ∧ tailP l = l) := by
  match l with
  | [] => exact .inr ⟨by simp, fun _ => rfl, fun _ => rfl, rfl⟩
  | [a] => exact .inr ⟨by simp, fun _ => rfl, fun _ => rfl, rfl⟩
  | k :: v :: r => exact .inl ⟨k, v, r, rfl⟩
theorem two_gt {k v : Int} {r : List Int} : decide ((((k :: v :: r).length : Nat) : Int) > 1) = true := by rw [decide_eq_true_eq]; simp; omega
theorem two_in0 {k v : Int} {r : List Int} : inRange 0 (k :: v :: r).length = true := by rw [inRange_iff]; simp; omega
theorem two_in1 {k v : Int} {r : List Int} : inRange 1 (k :: v :: r).length = true := by rw [inRange_iff]; simp; omega
theorem two_le {k v : Int} {r : List Int} : (decide ((0 : Int) ≤ 2) && decide ((2 : Int) ≤ ((hi0 (k :: v :: r).length none : Nat) : Int))) = true := by
  rw [Bool.and_eq_true]; exact ⟨by decide, by rw [decide_eq_true_eq]; show (2 : Int) ≤ ((r.length + 1 + 1 : Nat) : Int); omega⟩

theorem fi_rounds (x : Int) (q : CEx × NSt) : ∀ (m : Nat) (l : List Int), l.length ≤ m →
    (T.ite (findP l x).2.1 (outAt .ret fiOut0 [.i x, .i (findP l x).1, .b true, .l .ints (findP l x).2.2]) (outAt (.exit 0) fiOut1 [.i x, .i 0, .b false, .l .ints (findP l x).2.2])).ev = some q →
    ∃ k, (rounds Tryz.prog [] [] 30 paId 11 none fiSk k [.i x, .i 0, .b false, .l .ints l]).ev = some q
  | m, l, hm, hq => by
    rcases len_gt1 l with ⟨k, v, r, rfl⟩ | ⟨h1, h2, _, _⟩
    · by_cases hk : k = x
      · simp only [findP, hk, if_true] at hq
        refine ⟨1, cut_ev _ _ ((fi_round 0 x 0 false (k :: v :: r)).trans ?_)⟩
        have e : ((k :: v :: r).getD (Int.toNat 0) RC.ints.zero == x) = true := by rw [beq_iff_eq]; exact hk
        simp only [T.ev_ite, two_gt, two_in0, two_in1, e, if_true]
        subst hk
        exact hq
      · simp only [findP, hk, if_false] at hq
        match m, hm with
        | m + 2, hm =>
          obtain ⟨n, ih⟩ := fi_rounds x q m r (by simp at hm; omega) hq
          refine ⟨n + 1, cut_ev _ _ ((fi_round n x 0 false (k :: v :: r)).trans ?_)⟩
          have e : ((k :: v :: r).getD (Int.toNat 0) RC.ints.zero == x) = false := by rw [beq_eq_false_iff_ne]; exact hk
          simp only [T.ev_ite, two_gt, two_in0, two_in1, two_le, e, if_true, Bool.false_eq_true, if_false]
          exact ih
        | 0, hm => simp at hm
        | 1, hm => simp at hm
    · rw [h2] at hq
      refine ⟨1, cut_ev _ _ ((fi_round 0 x 0 false l).trans ?_)⟩
      rw [T.ev_ite, show decide ((l.length : Int) > 1) = false from decide_eq_false h1]
      exact hq

theorem dr_rounds (x : Int) (q : CEx × NSt) : ∀ (m : Nat) (l out : List Int), l.length ≤ m → out.length + m ≤ 1000000000 →
    (outAt (.exit 0) drOut0 [.i x, .l .ints (tailP l), .l .ints (out ++ dropP l x)]).ev = some q →
    ∃ k, (rounds Tryz.prog [] [] 30 pdId 10 none drSk k [.i x, .l .ints l, .l .ints out]).ev = some q
  | m, l, out, hm, hs, hq => by
    rcases len_gt1 l with ⟨k, v, r, rfl⟩ | ⟨h1, _, h2, h3⟩
    · match m, hm with
      | 0, hm => simp at hm
      | 1, hm => simp at hm
      | m + 2, hm =>
        by_cases hk : k = x
        · simp only [tailP, dropP, hk, if_true] at hq
          obtain ⟨n, ih⟩ := dr_rounds x q m r out (by simp at hm; omega) (by omega) hq
          refine ⟨n + 1, cut_ev _ _ ((dr_round n x (k :: v :: r) out).trans ?_)⟩
          have e : ((k :: v :: r).getD (Int.toNat 0) RC.ints.zero != x) = false := by rw [bne_eq_false_iff_eq]; exact hk
          simp only [T.ev_ite, two_gt, two_in0, two_in1, two_le, e, if_true, Bool.false_eq_true, if_false]
          exact ih
        · simp only [tailP, dropP, hk, if_false] at hq
          obtain ⟨n, ih⟩ := dr_rounds x q m r (out ++ [k, v]) (by simp at hm; omega) (by simp; omega) (by rw [List.append_assoc]; exact hq)
          refine ⟨n + 1, cut_ev _ _ ((dr_round n x (k :: v :: r) out).trans ?_)⟩
          have e : ((k :: v :: r).getD (Int.toNat 0) RC.ints.zero != x) = true := by rw [bne_iff_ne]; exact hk
          have hb : ∀ a b : Int, roomB (out.length + [a, b].length) 8 = true := fun a b => roomB_small (by rw [small_iff]; simp; omega) (by decide)
          simp only [T.ev_ite, two_gt, two_in0, two_in1, two_le, e, hb, if_true]
          exact ih
    · rw [h2, h3, List.append_nil] at hq
      refine ⟨1, cut_ev _ _ ((dr_round 0 x l out).trans ?_)⟩
      rw [T.ev_ite, show decide ((l.length : Int) > 1) = false from decide_eq_false h1]
      exact hq

theorem drop_two {l : List Int} {i : Nat} (h : i + 1 < l.length) : l.drop i = l.getD i 0 :: l.getD (i + 1) 0 :: l.drop (i + 2) := by
  rw [getD_cons (l := l) (i := i) (by omega) 0, getD_cons (l := l) (i := i + 1) h 0]
def fiG : List Leaf → T (CEx × NSt)
  | [.i x, .i v, .b false, .l .ints l] => T.when (v == 0 && small l.length) (.ite (findP l x).2.1 (outAt .ret fiOut0 [.i x, .i (findP l x).1, .b true, .l .ints (findP l x).2.2]) (outAt (.exit 0) fiOut1 [.i x, .i 0, .b false, .l .ints (findP l x).2.2]))
  | _ => .fail
def drG : List Leaf → T (CEx × NSt)
  | [.i x, .l .ints l, .l .ints []] => T.when (small l.length) (outAt (.exit 0) drOut0 [.i x, .l .ints (tailP l), .l .ints (dropP l x)])
  | _ => .fail
theorem fi_shape : ShapeOk Tryz.prog [] [] paId ⟨11, none, fiSk, fiG⟩ := by
  refine shapeOk_mk fun ls r h => ?_
  unfold fiG at h
  split at h
  · rename_i x v l
    obtain ⟨hc, h1⟩ := ev_when h
    simp only [Bool.and_eq_true, beq_iff_eq, small_iff] at hc
    obtain ⟨rfl, hs⟩ := hc
    obtain ⟨k, hk⟩ := fi_rounds x r l.length l (Nat.le_refl _) h1
    exact ⟨30, k, hk⟩
  · exact (ev_fail h).elim
theorem dr_shape : ShapeOk Tryz.prog [] [] pdId ⟨10, none, drSk, drG⟩ := by
  refine shapeOk_mk fun ls r h => ?_
  unfold drG at h
  split at h
  · rename_i x l
    obtain ⟨hc, h1⟩ := ev_when h
    rw [small_iff] at hc
    obtain ⟨k, hk⟩ := dr_rounds x r l.length l [] (Nat.le_refl _) (by simp; omega) h1
    exact ⟨30, k, hk⟩
  · exact (ev_fail h).elim
def fiL : List (Nat × List Nat × LoopFn) := [(160, [0], loopExt paId [⟨11, none, fiSk, fiG⟩])]
theorem fiL_ok (N : Nat) : LoopsOk Tryz.prog N fiL :=
  loopsOk_cons (loopExt_ok plainN mixedN (fun _ => extsOk_nil) (fun _ => loopsOk_nil) (all1 fi_shape all0) N) loopsOk_nil
def drL : List (Nat × List Nat × LoopFn) := [(160, [0], loopExt pdId [⟨10, none, drSk, drG⟩])]
theorem drL_ok (N : Nat) : LoopsOk Tryz.prog N drL :=
  loopsOk_cons (loopExt_ok plainN mixedN (fun _ => extsOk_nil) (fun _ => loopsOk_nil) (all1 dr_shape all0) N) loopsOk_nil

set_option maxRecDepth 100000 in
theorem find_tree (l : List Int) (x : Int) : (((tden Tryz.prog [] fiL 30).call 0 120 [.pl .ints l, .int .i64 x] ⟨.nil, 0⟩).pure.cut
    (.ite (.ite (.yes (.yes (.all))) (.yes (.yes (.all)))) (.all))).ev = T.ev (α := CV) (
     .ite ((0 : Int) == (0 : Int) && small l.length)
      (.ite ((findP l x).snd.fst)
       (.ret (.tuple #[.int .i64 ((findP l x).fst), .bool true]))
       (.ret (.tuple #[.int .i64 (0), .bool false])))
      (.fail)) := by kernel_rfl
def dropEnd0 : NSt := ⟨[.row 0 1 (0)], [], [(0, .rows .ints [])], 1⟩
set_option maxRecDepth 100000 in
theorem drop_tree (l : List Int) (x : Int) : ((stRunV Tryz.prog [] drL [] 30 119 ⟨[.pl .ints l, .int .i64 x], [], [], 0⟩).cut
    (.ite (.yes (.all)) (.all))).ev = T.ev (α := NSt) (
     .ite (small l.length)
      (stAt dropEnd0 [.l .ints (dropP l x)])
      (.fail)) := by kernel_rfl

def findG : List CV → T CV
  | [.pl .ints l, .int .i64 x] => T.when (small l.length) (.ret (.tuple #[.int .i64 (findP l x).1, .bool (findP l x).2.1]))
  | _ => .fail
def dropG : List CV → T CV
  | [.pl .ints l, .int .i64 x] => T.when (small l.length) (.ret (.pl .ints (dropP l x)))
  | _ => .fail
def dropSG : NSt → T NSt
  | ⟨[.pl .ints l, .int .i64 x], [], [], 0⟩ => T.when (small l.length) (.ret ⟨[.row 0 1 0], [], [(0, .rows .ints (dropP l x))], 1⟩)
  | _ => .fail
theorem findP_no {l : List Int} {x : Int} : (findP l x).2.1 = false → (findP l x).1 = 0 := by
  intro h
  have : ∀ (m : Nat) (l : List Int), l.length ≤ m → (findP l x).2.1 = false → (findP l x).1 = 0 := by
    intro m
    induction m using Nat.strongRecOn with
    | ind m ih =>
      intro l hl hf
      rcases len_gt1 l with ⟨k, v, r, rfl⟩ | ⟨_, h2, _⟩
      · by_cases hk : k = x
        · simp [findP, hk] at hf
        · simp only [findP, hk, if_false] at hf ⊢
          exact ih r.length (by simp at hl; omega) r (Nat.le_refl _) hf
      · rw [h2]
  exact this l.length l (Nat.le_refl _) h
theorem find_fn : PureFn Tryz.prog 120 (sigExt [.l .ints] findG) :=
  pureFn_mk (bodied_ex (by kernel_rfl)) fun args d h => by
    unfold findG at h
    split at h
    · rename_i l x
      obtain ⟨hc, h1⟩ := ev_when h
      cases ev_ret h1
      refine pureAt0 plainN mixedN noE fiL_ok (k := 30) ((find_tree l x).trans ?_) rfl
      cases hf : (findP l x).2.1 <;> simp [T.ev_ite, T.ev_ret, hc, hf, findP_no]
    · exact (ev_fail h).elim
theorem dropS_fn : StFn Tryz.prog 119 dropSG :=
  ⟨bodied_ex (by kernel_rfl), fun n0 n h => by
    unfold dropSG at h
    split at h
    · rename_i l x
      obtain ⟨hc, h1⟩ := ev_when h
      refine st_cut plainN mixedN noE drL_ok ((drop_tree l x).trans ?_)
      simp only [T.ev_ite, hc, if_true]
      exact h1
    · exact (ev_fail h).elim⟩
theorem drop_fn : PureFn Tryz.prog 119 (sigExt [.l .ints] dropG) :=
  pureFn_mk (bodied_ex (by kernel_rfl)) fun args d h => by
    refine (pure_of_st dropS_fn).2 args d ?_
    unfold dropG at h
    split at h
    · rename_i l x
      obtain ⟨hc, h1⟩ := ev_when h
      cases ev_ret h1
      simp only [pureOfSt, dropSG, T.when, hc]
      rfl
    · exact (ev_fail h).elim
def drpE : List (Nat × ExtFn) := [(119, pureExt (sigExt [.l .ints] dropG))]
theorem drpE_ok (N : Nat) : ExtsOk Tryz.prog N drpE := extsOk_cons (extOk_pure drop_fn) (extsOk_nil)

def seSk : NSt := ⟨[.func (.yield 14) #[] #[], .pointer (some ⟨9, 0, none⟩), .junk, .junk, .junk, .junk, .junk, .junk, .junk, .junk, .junk, .junk, .junk, .junk, .junk, .junk, .junk], [], [(0, .cells [.int .i64 (0)] 1 0), (1, .cells [.int .i64 (0)] 1 0), (2, .cells [.row 15 1 (0)] 1 0), (3, .cells [.bool false] 1 0), (9, .cells [.pl .ints []] 1 0), (13, .defs), (14, .loop .ready none 117 [.junk, .junk, .junk, .junk, .pointer (some ⟨0, 0, none⟩), .pointer (some ⟨1, 0, none⟩), .pointer (some ⟨2, 0, none⟩), .pointer (some ⟨3, 0, none⟩), .junk, .junk, .junk, .junk, .junk, .junk, .tuple #[], .tuple #[], .junk, .junk, .junk, .junk, .junk, .junk, .junk, .junk, .junk, .junk, .junk, .junk, .junk, .junk, .junk, .junk, .junk, .junk, .junk, .junk, .junk, .junk, .junk, .junk, .junk] [0, 1, 0, 1, 1] 13), (15, .rows .ints [])], 16⟩
def seId : LoopId := ⟨160, [0], [(voidAt 2 0, .ints)]⟩
def seOut0 : NSt := ⟨[.junk, .junk, .junk, .junk, .junk, .junk, .junk, .junk, .junk, .junk, .junk, .junk, .junk, .junk, .junk, .junk, .junk], [], [(0, .cells [.int .i64 (0)] 1 0), (1, .cells [.int .i64 (0)] 1 0), (2, .cells [.row 15 1 (0)] 1 0), (3, .cells [.bool false] 1 0), (9, .cells [.pl .ints []] 1 0), (13, .defs), (14, .loop .ready none 117 [.junk, .junk, .junk, .junk, .pointer (some ⟨0, 0, none⟩), .pointer (some ⟨1, 0, none⟩), .pointer (some ⟨2, 0, none⟩), .pointer (some ⟨3, 0, none⟩), .junk, .junk, .junk, .junk, .junk, .junk, .tuple #[], .tuple #[], .junk, .junk, .junk, .junk, .junk, .junk, .junk, .junk, .junk, .junk, .junk, .junk, .junk, .junk, .junk, .junk, .junk, .junk, .junk, .junk, .junk, .junk, .junk, .junk, .junk] [0, 1, 0, 1, 1] 13), (15, .rows .ints [])], 16⟩
set_option maxRecDepth 100000 in
theorem se_round (k : Nat) (x y : Int) (laid : Bool) (l out : List Int) : ((rounds Tryz.prog drpE [] 30 seId 15 none seSk (k + 1) [.i x, .i y, .b laid, .l .ints l, .l .ints out]).cut
    (.ite (.ite (.ite (.yes (.ite (.yes (.yes (.ite (.ite (.ite (.no (.ite (.all) (.all))) (.all)) (.all)) (.ite (.no (.ite (.all) (.all))) (.all))))) (.no (.no (.no (.no (.ite (.no (.ite (.all) (.all))) (.all)))))))) (.all)) (.all)) (.all))).ev = T.ev (
     .ite (decide ((↑l.length : Int) > (1 : Int)))
      (.ite (inRange (0 : Int) l.length)
       (.ite (inRange (1 : Int) l.length)
        (.ite (!laid)
         (.ite (decide (l.getD (Int.toNat (0 : Int)) RC.ints.zero ≥ x))
          (.ite (roomB (out.length + [x, y].length) (8 : Nat))
           (.ite (roomB (out.length + [x, y].length + [l.getD (Int.toNat (0 : Int)) RC.ints.zero, l.getD (Int.toNat (1 : Int)) RC.ints.zero].length) (8 : Nat))
            (.ite (decide ((0 : Int) ≤ (2 : Int)) && decide ((2 : Int) ≤ (↑(hi0 l.length none) : Int)))
             (rounds Tryz.prog drpE [] 30 seId 15 none seSk k [.i (x), .i (y), .b true, .l .ints (lpart l (some (Int.toNat (2 : Int))) none), .l .ints (out ++ [x, y] ++ [l.getD (Int.toNat (0 : Int)) RC.ints.zero, l.getD (Int.toNat (1 : Int)) RC.ints.zero])])
             (.fail))
            (.fail))
           (.fail))
          (.ite (roomB (out.length + [l.getD (Int.toNat (0 : Int)) RC.ints.zero, l.getD (Int.toNat (1 : Int)) RC.ints.zero].length) (8 : Nat))
           (.ite (decide ((0 : Int) ≤ (2 : Int)) && decide ((2 : Int) ≤ (↑(hi0 l.length none) : Int)))
            (rounds Tryz.prog drpE [] 30 seId 15 none seSk k [.i (x), .i (y), .b (laid), .l .ints (lpart l (some (Int.toNat (2 : Int))) none), .l .ints (out ++ [l.getD (Int.toNat (0 : Int)) RC.ints.zero, l.getD (Int.toNat (1 : Int)) RC.ints.zero])])
            (.fail))
           (.fail)))
         (.ite (roomB (out.length + [l.getD (Int.toNat (0 : Int)) RC.ints.zero, l.getD (Int.toNat (1 : Int)) RC.ints.zero].length) (8 : Nat))
          (.ite (decide ((0 : Int) ≤ (2 : Int)) && decide ((2 : Int) ≤ (↑(hi0 l.length none) : Int)))
           (rounds Tryz.prog drpE [] 30 seId 15 none seSk k [.i (x), .i (y), .b (laid), .l .ints (lpart l (some (Int.toNat (2 : Int))) none), .l .ints (out ++ [l.getD (Int.toNat (0 : Int)) RC.ints.zero, l.getD (Int.toNat (1 : Int)) RC.ints.zero])])
           (.fail))
          (.fail)))
        (.fail))
       (.fail))
      (outAt (.exit 0) seOut0 [.i (x), .i (y), .b (laid), .l .ints (l), .l .ints (out)])) := by kernel_rfl
def evenP : List Int → List Int
  | k :: v :: r => k :: v :: evenP r
  | _ => []
def seP : List Int → Int → Int → Bool × List Int
  | k :: v :: r, x, y => if x ≤ k then (true, x :: y :: k :: v :: evenP r) else ((seP r x y).1, k :: v :: (seP r x y).2)
  | _, _, _ => (false, [])
def setP (l : List Int) (x y : Int) : List Int := if (seP l x y).1 then (seP l x y).2 else (seP l x y).2 ++ [x, y]
def rsP : List Int → Int → Nat
  | k :: v :: r, x => if k < x then rsP r x + 2 else 0
  | _, _ => 0
theorem len_gt1' (l : List Int) : (∃ k v r, l = k :: v :: r) ∨ (¬ ((l.length : Int) > 1) ∧ evenP l = [] ∧ (∀ x y, seP l x y = (false, [])) ∧ (∀ x, rsP l x = 0) ∧ tailP l = l) := by
  match l with
  | [] => exact .inr ⟨by simp, rfl, fun _ _ => rfl, fun _ => rfl, rfl⟩
  | [a] => exact .inr ⟨by simp, rfl, fun _ _ => rfl, fun _ => rfl, rfl⟩
  | k :: v :: r => exact .inl ⟨k, v, r, rfl⟩

theorem se_rounds (x y : Int) (q : CEx × NSt) : ∀ (m : Nat) (laid : Bool) (l out : List Int), l.length ≤ m → out.length + m + (if laid then 0 else 2) ≤ 1000000000 →
    (outAt (.exit 0) seOut0 [.i x, .i y, .b (laid || (seP l x y).1), .l .ints (tailP l), .l .ints (out ++ (if laid then evenP l else (seP l x y).2))]).ev = some q →
    ∃ k, (rounds Tryz.prog drpE [] 30 seId 15 none seSk k [.i x, .i y, .b laid, .l .ints l, .l .ints out]).ev = some q
  | m, laid, l, out, hm, hs, hq => by
    rcases len_gt1' l with ⟨k, v, r, rfl⟩ | ⟨h1, h2, h3, _, h4⟩
    · match m, hm with
      | 0, hm => simp at hm
      | 1, hm => simp at hm
      | m + 2, hm =>
        have hb : ∀ (o : List Int) (a b : Int), o.length + 2 ≤ 1000000000 → roomB (o.length + [a, b].length) 8 = true := fun o a b h => roomB_small (by rw [small_iff]; simp; omega) (by decide)
        cases laid with
        | true =>
          simp only [tailP, evenP, if_true, Bool.true_or] at hq
          obtain ⟨n, ih⟩ := se_rounds x y q m true r (out ++ [k, v]) (by simp at hm; omega) (by simp; simp at hs; omega) (by rw [List.append_assoc]; simpa using hq)
          refine ⟨n + 1, cut_ev _ _ ((se_round n x y true (k :: v :: r) out).trans ?_)⟩
          simp only [T.ev_ite, two_gt, two_in0, two_in1, two_le, hb out _ _ (by simp at hs; omega), if_true, Bool.not_true, Bool.false_eq_true, if_false]
          exact ih
        | false =>
          simp only [Bool.false_eq_true, if_false] at hs
          by_cases hk : x ≤ k
          · simp only [tailP, seP, hk, if_true, Bool.false_or, Bool.false_eq_true, if_false] at hq
            obtain ⟨n, ih⟩ := se_rounds x y q m true r (out ++ [x, y] ++ [k, v]) (by simp at hm; omega) (by simp; omega) (by rw [List.append_assoc, List.append_assoc]; simpa using hq)
            refine ⟨n + 1, cut_ev _ _ ((se_round n x y false (k :: v :: r) out).trans ?_)⟩
            have e : decide ((k :: v :: r).getD (Int.toNat 0) RC.ints.zero ≥ x) = true := by rw [decide_eq_true_eq]; exact hk
            have e2 : ∀ a b c d : Int, roomB (out.length + [a, b].length + [c, d].length) 8 = true := fun a b c d => roomB_small (by rw [small_iff]; simp; omega) (by decide)
            simp only [T.ev_ite, two_gt, two_in0, two_in1, two_le, hb out _ _ (by omega), e, e2, if_true, Bool.not_false]
            exact ih
          · simp only [tailP, seP, hk, if_false, Bool.false_or, Bool.false_eq_true] at hq
            obtain ⟨n, ih⟩ := se_rounds x y q m false r (out ++ [k, v]) (by simp at hm; omega) (by simp; omega) (by rw [List.append_assoc]; simpa using hq)
            refine ⟨n + 1, cut_ev _ _ ((se_round n x y false (k :: v :: r) out).trans ?_)⟩
            have e : decide ((k :: v :: r).getD (Int.toNat 0) RC.ints.zero ≥ x) = false := by rw [decide_eq_false_iff_not]; exact hk
            simp only [T.ev_ite, two_gt, two_in0, two_in1, two_le, hb out _ _ (by omega), e, if_true, Bool.not_false, Bool.false_eq_true, if_false]
            exact ih
    · rw [h2, h3, h4] at hq
      refine ⟨1, cut_ev _ _ ((se_round 0 x y laid l out).trans ?_)⟩
      rw [T.ev_ite, show decide ((l.length : Int) > 1) = false from decide_eq_false h1]
      have e : (if laid = true then ([] : List Int) else []) = [] := by split <;> rfl
      simp only [e, List.append_nil, Bool.or_false] at hq
      exact hq

def seG : List Leaf → T (CEx × NSt)
  | [.i x, .i y, .b false, .l .ints l, .l .ints []] => T.when (small (l.length + 2)) (outAt (.exit 0) seOut0 [.i x, .i y, .b (seP l x y).1, .l .ints (tailP l), .l .ints (seP l x y).2])
  | _ => .fail
theorem se_shape : ShapeOk Tryz.prog drpE [] seId ⟨15, none, seSk, seG⟩ := by
  refine shapeOk_mk fun ls r h => ?_
  unfold seG at h
  split at h
  · rename_i x y l
    obtain ⟨hc, h1⟩ := ev_when h
    rw [small_iff] at hc
    obtain ⟨k, hk⟩ := se_rounds x y r l.length false l [] (Nat.le_refl _) (by simp; omega) h1
    exact ⟨30, k, hk⟩
  · exact (ev_fail h).elim
def setL : List (Nat × List Nat × LoopFn) := [(160, [0], loopExt seId [⟨15, none, seSk, seG⟩])]
theorem setL_ok (N : Nat) : LoopsOk Tryz.prog N setL :=
  loopsOk_cons (loopExt_ok plainN mixedN drpE_ok (fun _ => loopsOk_nil) (all1 se_shape all0) N)
    (loopsOk_nil)

theorem evenP_even : ∀ (m : Nat) (l : List Int), l.length = 2 * m → evenP l = l
  | 0, [], _ => rfl
  | m + 1, k :: v :: r, h => by rw [evenP, evenP_even m r (by simp at h; omega)]
  | 0, _ :: _, h => by simp at h
  | m + 1, [], h => by simp at h
  | m + 1, [_], h => by simp at h; omega
theorem setP_same (x y : Int) : ∀ (m : Nat) (l : List Int), l.length = 2 * m → setP l x y = l.take (rsP l x) ++ [x, y] ++ l.drop (rsP l x)
  | 0, [], _ => rfl
  | m + 1, k :: v :: r, h => by
    have he : evenP r = r := evenP_even m r (by simp at h; omega)
    have ih := setP_same x y m r (by simp at h; omega)
    by_cases hk : x ≤ k
    · simp [setP, seP, rsP, hk, he, show ¬ k < x by omega]
    · simp only [setP] at ih
      simp only [setP, seP, rsP, hk, show k < x by omega, if_true, if_false]
      simp only [List.take_succ_cons, List.drop_succ_cons, List.cons_append, ← ih]
      split <;> simp
  | 0, _ :: _, h => by simp at h
  | m + 1, [], h => by simp at h
  | m + 1, [_], h => by simp at h; omega
theorem dropP_even (x : Int) : ∀ (l : List Int), ∃ m, (dropP l x).length = 2 * m
  | [] => ⟨0, rfl⟩
  | [_] => ⟨0, rfl⟩
  | k :: v :: r => by
    obtain ⟨m, hm⟩ := dropP_even x r
    simp only [dropP]
    split
    · exact ⟨m, hm⟩
    · exact ⟨m + 1, by simp; omega⟩
theorem rsP_le (x : Int) : ∀ (l : List Int), rsP l x ≤ l.length
  | [] => by simp [rsP]
  | [_] => by simp [rsP]
  | k :: v :: r => by
    have := rsP_le x r
    simp only [rsP]; split <;> simp <;> omega
theorem seP_length (x y : Int) : ∀ (l : List Int), (seP l x y).2.length ≤ l.length + 2 ∧ (evenP l).length ≤ l.length
  | [] => by simp [seP, evenP]
  | [_] => by simp [seP, evenP]
  | k :: v :: r => by
    have := seP_length x y r
    simp only [seP, evenP]; split <;> simp <;> omega

def setEnd0 : NSt := ⟨[.row 0 1 (0)], [], [(0, .rows .ints [])], 1⟩
set_option maxRecDepth 100000 in
theorem set_tree (l : List Int) (x y : Int) : ((stRunV Tryz.prog drpE setL [] 30 117 ⟨[.pl .ints l, .int .i64 x, .int .i64 y], [], [], 0⟩).cut
    (.ite (.ite (.yes (.ite (.ite (.all) (.all)) (.all))) (.all)) (.all))).ev = T.ev (α := NSt) (
     .ite (small l.length)
      (.ite (small ((dropP l x).length + (2 : Nat)))
       (.ite (!(seP (dropP l x) x y).fst)
        (.ite (roomB ((seP (dropP l x) x y).snd.length + [x, y].length) (8 : Nat))
         (stAt setEnd0 [.l .ints ((seP (dropP l x) x y).snd ++ [x, y])])
         (.fail))
        (stAt setEnd0 [.l .ints ((seP (dropP l x) x y).snd)]))
       (.fail))
      (.fail)) := by kernel_rfl
def setG : List CV → T CV
  | [.pl .ints l, .int .i64 x, .int .i64 y] => T.when (small (l.length + 4)) (.ret (.pl .ints (setP (dropP l x) x y)))
  | _ => .fail
def setSG : NSt → T NSt
  | ⟨[.pl .ints l, .int .i64 x, .int .i64 y], [], [], 0⟩ => T.when (small (l.length + 4)) (.ret ⟨[.row 0 1 0], [], [(0, .rows .ints (setP (dropP l x) x y))], 1⟩)
  | _ => .fail
theorem small_le {a b : Nat} (h : small b = true) (hab : a ≤ b) : small a = true := by rw [small_iff] at h ⊢; omega
theorem setS_fn : StFn Tryz.prog 117 setSG :=
  ⟨bodied_ex (by kernel_rfl), fun n0 n h => by
    unfold setSG at h
    split at h
    · rename_i l x y
      obtain ⟨hc, h1⟩ := ev_when h
      have hd := dropP_length l x
      have hp := (seP_length x y (dropP l x)).1
      have e1 : small l.length = true := small_le hc (by omega)
      have e2 : small ((dropP l x).length + 2) = true := small_le hc (by omega)
      have e3 : roomB ((seP (dropP l x) x y).2.length + [x, y].length) 8 = true := roomB_small (small_le hc (by simp; omega)) (by decide)
      refine st_cut plainN mixedN drpE_ok setL_ok ((set_tree l x y).trans ?_)
      rw [← h1]
      simp only [T.ev_ite, e1, e2, e3, if_true]
      cases hq : (seP (dropP l x) x y).1
      · simp only [setP, hq]; rfl
      · simp only [setP, hq]; rfl
    · exact (ev_fail h).elim⟩
def hadP (l : List Int) (x : Int) : DRet := if (findP l x).2.1 then ⟨2, (findP l x).1⟩ else ⟨1, 0⟩
def mapA (t n : Int) (l : List Int) (k a b : Int) : Ans :=
  if t ≠ 3 ∨ checkN t n l ≠ 0 then bad 12
  else if k < 7 ∨ 9 < k then bad 6
  else if k ≠ 7 ∧ b ≠ 0 then bad 2
  else ⟨⟨3, 0, if k = 7 then setP (dropP l a) a b else if k = 8 then l else dropP l a⟩, hadP l a, 0⟩
def mapG : List CV → T CV
  | [.agg ⟨[.int .i64 t, .int .i64 n, .pl .ints l]⟩, .int .i64 k, .int .i64 a, .int .i64 b] => T.when (small (l.length + 4)) (.ret (mapA t n l k a b).cv)
  | _ => .fail
def mpE : List (Nat × ExtFn) := [(120, pureExt (sigExt [.l .ints] findG)), (119, stExt dropSG), (117, stExt setSG)] ++ kitE
theorem mpE_ok (N : Nat) : ExtsOk Tryz.prog N mpE :=
  extsOk_cons (extOk_pure find_fn) (extsOk_cons (extOk_st dropS_fn) (extsOk_cons (extOk_st setS_fn) (kitE_ok N)))

theorem wr7 : IntKind.i64.wrap (7 - 7) = 0 := by decide
theorem wr8 : IntKind.i64.wrap (8 - 7) = 1 := by decide
theorem wr9 : IntKind.i64.wrap (9 - 7) = 2 := by decide

end Go.Proofs.YtecidokjhplbgaaGreatDoorD.Map

