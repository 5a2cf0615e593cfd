/-
  Chapter 18: transactions that commute are replayed either way
-/
import Derived.Test.YtecidokjhplbgaaGreatDoorKitD
import Derived.Test.YtecidokjhplbgaaGreatDoorCtnAI
import Derived.Test.YtecidokjhplbgaaGreatDoorRepAI
import Derived.Test.YtecidokjhplbgaaGreatDoorChoAG
import Derived.Test.YtecidokjhplbgaaGreatDoorArG
set_option linter.unusedVariables false
set_option linter.unusedSimpArgs false
namespace Go.Proofs.YtecidokjhplbgaaGreatDoorD
open Go Go.RowKit

def ssSk : NSt := ⟨[.pl .states [], .pl .states [], .junk, .junk, .bool false, .int .i64 (0), .junk, .junk, .junk, .junk, .junk, .junk, .junk, .junk, .junk, .junk, .junk, .junk, .junk, .junk, .junk, .junk, .junk, .junk, .junk, .junk, .junk], [], [], 7⟩
def ssId : LoopId := ⟨28, [0, 1, 0, 1, 1], []⟩

def ssOut0 : NSt := ⟨[.junk, .junk, .junk, .junk, .bool false, .junk, .junk, .junk, .junk, .junk, .junk, .junk, .junk, .junk, .junk, .junk, .junk, .junk, .junk, .junk, .junk, .junk, .junk, .junk, .junk, .junk, .junk], [], [], 7⟩
set_option maxRecDepth 100000 in
theorem ss_round (k : Nat) (S S' : List DState) (x : Bool) (i : Int) : (rounds Tryz.prog kitE [] 30 ssId 7 none ssSk (k + 1) [.l .states S, .l .states S', .b x, .i i]).ev = T.ev (
     .ite (decide (i < (↑S.length : Int)))
      (.ite (inRange i S.length)
       (.ite (inRange i S'.length)
        (.ite (small (S.getD i.toNat RC.states.zero).l.length)
         (.ite (!((S.getD i.toNat RC.states.zero).type == (S'.getD i.toNat RC.states.zero).type && (S.getD i.toNat RC.states.zero).n == (S'.getD i.toNat RC.states.zero).n && (S.getD i.toNat RC.states.zero).l == (S'.getD i.toNat RC.states.zero).l))
          (outAt .ret ssOut0 [.b false])
          (rounds Tryz.prog kitE [] 30 ssId 7 none ssSk k [.l .states (S), .l .states (S'), .b (x), .i (IntKind.i64.wrap (i + (1 : Int)))]))
         (.fail))
        (.fail))
       (.fail))
      (outAt (.exit 0) ssOut0 [.b (x)])) := by kernel_rfl

theorem dec_cons2 {α : Type} [DecidableEq α] (x y : α) (r s : List α) : decide (x :: r = y :: s) = (decide (x = y) && decide (r = s)) := by
  rw [Bool.eq_iff_iff]; simp
theorem state_beq2 (x y : DState) : (x.type == y.type && x.n == y.n && x.l == y.l) = decide (x = y) := by
  obtain ⟨t, n, l⟩ := x
  obtain ⟨t2, n2, l2⟩ := y
  rw [Bool.eq_iff_iff]
  simp only [Bool.and_eq_true, beq_iff_eq, decide_eq_true_eq, DState.mk.injEq, and_assoc]
theorem all_at3 {α : Type} {p : α → Bool} {l : List α} (h : l.all p = true) {i : Nat} (hi : i < l.length) (z : α) : p (l.getD i z) = true := by
  rw [List.all_eq_true] at h
  rw [List.getD, List.getElem?_eq_getElem hi]
  exact h _ (List.getElem_mem hi)
theorem ss_rounds (S S' : List DState) (x : Bool) (hAB : S.length = S'.length) (hS : (S.all fun s => small s.l.length) = true) (hs : S.length ≤ 1000000000) (r : CEx × NSt) : ∀ (d i : Nat), i + d = S.length →
    (if decide (S.drop i = S'.drop i) = true then outAt (.exit 0) ssOut0 [.b x] else outAt .ret ssOut0 [.b false]).ev = some r →
    ∃ k, (rounds Tryz.prog kitE [] 30 ssId 7 none ssSk k [.l .states S, .l .states S', .b x, .i i]).ev = some r
  | 0, i, h, hr => ⟨1, by
    rw [ss_round, T.ev_ite, show decide ((i : Int) < (S.length : Int)) = false by simp; omega]
    rw [List.drop_eq_nil_of_le (by omega), List.drop_eq_nil_of_le (by omega), decide_eq_true rfl, if_pos rfl] at hr
    exact hr⟩
  | d + 1, i, h, hr => by
    have h1 : (i : Int) < (S.length : Int) := by omega
    have wi : IntKind.i64.wrap ((i : Int) + 1) = ((i + 1 : Nat) : Int) := (wrap64 (by omega) (by omega)).trans (by omega)
    have h3 : inRange (i : Int) S.length = true := by rw [inRange_iff]; omega
    have h4 : inRange (i : Int) S'.length = true := by rw [inRange_iff]; omega
    have h5 := all_at3 hS (i := i) (by omega) RC.states.zero
    rw [getD_cons (l := S) (i := i) (by omega) RC.states.zero, getD_cons (l := S') (i := i) (by omega) RC.states.zero, dec_cons2] at hr
    by_cases hq : S.getD i RC.states.zero = S'.getD i RC.states.zero
    · rw [decide_eq_true hq, Bool.true_and] at hr
      obtain ⟨k, ih⟩ := ss_rounds S S' x hAB hS hs r d (i + 1) (by omega) hr
      refine ⟨k + 1, ?_⟩
      rw [ss_round]
      simp only [T.ev_ite, wi, h1, h3, h4, h5, decide_true, if_true, Int.toNat_natCast, state_beq2, decide_eq_true hq, Bool.not_true, Bool.false_eq_true, if_false]
      exact ih
    · rw [decide_eq_false hq, Bool.false_and, if_neg Bool.false_ne_true] at hr
      refine ⟨1, ?_⟩
      rw [ss_round]
      simp only [T.ev_ite, wi, h1, h3, h4, h5, decide_true, if_true, Int.toNat_natCast, state_beq2, decide_eq_false hq, Bool.not_false]
      exact hr
def ssG : List Leaf → T (CEx × NSt)
  | [.l .states S, .l .states S', .b x, .i i] => T.when (i == 0 && S.length.beq S'.length && (small S.length && S.all fun s => small s.l.length)) (.ite (decide (S = S')) (outAt (.exit 0) ssOut0 [.b x]) (outAt .ret ssOut0 [.b false]))
  | _ => .fail
theorem ss_shape : ShapeOk Tryz.prog kitE [] ssId ⟨7, none, ssSk, ssG⟩ := by
  refine shapeOk_mk fun ls r h => ?_
  unfold ssG at h
  split at h
  · rename_i S S' x i
    obtain ⟨hc, h1⟩ := ev_when h
    simp only [Bool.and_eq_true, beq_iff_eq, small_iff, Nat.beq_eq] at hc
    obtain ⟨⟨rfl, hAB⟩, hs, hS⟩ := hc
    obtain ⟨k, hk⟩ := ss_rounds S S' x hAB hS hs r S.length 0 (by omega) (by
      rw [List.drop_zero, List.drop_zero]; rw [T.ev_ite] at h1; by_cases hu : S = S'
      · rw [decide_eq_true hu] at h1 ⊢; exact h1
      · rw [decide_eq_false hu] at h1 ⊢; exact h1)
    exact ⟨30, k, hk⟩
  · exact (ev_fail h).elim
def ssL : List (Nat × List Nat × LoopFn) := [(28, [0, 1, 0, 1, 1], loopExt ssId [⟨7, none, ssSk, ssG⟩])]
theorem ssL_ok (N : Nat) : LoopsOk Tryz.prog N ssL := loopsOk_cons (loopExt_ok plainN mixedN kitE_ok (fun _ => loopsOk_nil) (all1 ss_shape all0) N) loopsOk_nil

set_option maxRecDepth 100000 in
theorem sameStates_tree (S S' : List DState) : (((tden Tryz.prog kitE ssL 30).call 0 28 [.pl .states S, .pl .states S'] ⟨.nil, 0⟩).pure.cut
    (.ite (.all) (.ite (.ite (.all) (.all)) (.all)))).ev = T.ev (α := CV) (
     .ite ((↑S.length : Int) != (↑S'.length : Int))
      (.ret (.bool false))
      (.ite ((0 : Int) == (0 : Int) && S.length.beq S'.length && (small S.length && S.all fun s => small s.l.length))
       (.ite (decide (S = S'))
        (.ret (.bool true))
        (.ret (.bool false)))
       (.fail))) := by kernel_rfl
def sameStatesG : List CV → T CV
  | [.pl .states S, .pl .states S'] => T.when (small S.length && S.all fun s => small s.l.length) (.ret (.bool (decide (S = S'))))
  | _ => .fail
theorem sameStates_fn : PureFn Tryz.prog 28 (sigExt [.l .states, .l .states] sameStatesG) :=
  pureFn_mk (bodied_ex (by kernel_rfl)) fun args d h => by
    unfold sameStatesG at h
    split at h
    · rename_i S S'
      obtain ⟨hc, h1⟩ := ev_when h
      cases ev_ret h1
      rw [Bool.and_eq_true] at hc
      refine pureAt0 plainN mixedN kitE_ok ssL_ok (k := 30) ((sameStates_tree S S').trans ?_) rfl
      by_cases hl : S.length = S'.length
      · have b1 : ((S.length : Int) != (S'.length : Int)) = false := by simp [hl]
        have b2 : S.length.beq S'.length = true := by rw [Nat.beq_eq]; exact hl
        simp only [T.ev_ite, T.ev_ret, b1, b2, hc.1, hc.2, beq_self_eq_true, Bool.and_self, Bool.false_eq_true, if_false, if_true]
        by_cases he : S = S'
        · simp [he]
        · simp [he]
      · have b1 : ((S.length : Int) != (S'.length : Int)) = true := by rw [bne_iff_ne]; omega
        have he : ¬ S = S' := fun e => hl (by rw [e])
        simp only [T.ev_ite, T.ev_ret, b1, if_true]
        simp [he]
    · exact (ev_fail h).elim

def crpE : List (Nat × ExtFn) := (27, pureExt (sigExt [.l .states, sgTrn] repTG)) :: (28, pureExt (sigExt [.l .states, .l .states] sameStatesG)) :: ctnE2
theorem crpE_ok (N : Nat) : ExtsOk Tryz.prog N crpE := extsOk_cons (extOk_pure repT_fn) (extsOk_cons (extOk_pure sameStates_fn) (ctnE2_ok N))

def crS1 : NSt := ⟨[.pl .states [], .junk, .junk, .junk, .pointer (some ⟨0, 0, none⟩), .pointer (some ⟨1, 0, none⟩), .bool false, .bool false, .int .i64 (0), .junk, .junk, .junk, .junk, .junk, .junk, .junk, .junk, .junk, .junk, .junk, .junk, .junk, .junk, .junk, .junk, .junk, .junk, .junk, .junk, .junk, .junk, .junk, .junk, .junk, .junk, .junk, .junk, .junk, .junk, .junk, .junk, .junk, .junk, .junk, .junk, .junk, .junk, .junk, .junk, .junk, .junk, .junk, .junk, .junk, .junk, .junk, .junk, .junk, .junk, .junk, .junk, .junk, .junk, .junk, .junk, .junk, .junk, .junk, .junk, .junk, .junk, .junk, .junk, .junk, .junk, .junk, .junk, .junk, .junk, .junk, .junk, .junk, .junk, .junk, .junk, .junk, .junk, .junk, .junk, .junk, .junk, .junk, .junk, .junk, .junk, .junk, .junk, .junk, .junk, .junk, .junk, .junk, .junk, .junk, .junk, .junk, .junk, .junk, .junk, .junk, .junk, .junk, .junk, .junk, .junk, .junk, .junk, .junk, .junk], [], [(0, .cells [.string ⟨#[]⟩, .int .i64 (0), .int .i64 (0), .pl .acts [], .pl .ints []] 1 0), (1, .cells [.string ⟨#[]⟩, .int .i64 (0), .int .i64 (0), .pl .acts [], .pl .ints []] 1 0)], 21⟩

def crId1 : LoopId := ⟨7, [0, 1, 0, 1, 1, 1], []⟩
def crId2 : LoopId := ⟨7, [0, 1, 0, 1, 1, 1, 1, 1, 1, 1, 1], []⟩

def crX0 : NSt := ⟨[.pl .states [], .junk, .junk, .junk, .pointer (some ⟨0, 0, none⟩), .pointer (some ⟨1, 0, none⟩), .bool false, .bool false, .junk, .junk, .junk, .junk, .junk, .junk, .junk, .junk, .junk, .junk, .junk, .junk, .junk, .junk, .junk, .junk, .junk, .junk, .junk, .junk, .junk, .junk, .junk, .junk, .junk, .junk, .junk, .junk, .junk, .junk, .junk, .junk, .junk, .junk, .junk, .junk, .junk, .junk, .junk, .junk, .junk, .junk, .junk, .junk, .junk, .junk, .junk, .junk, .junk, .junk, .junk, .junk, .junk, .junk, .junk, .junk, .junk, .junk, .junk, .junk, .junk, .junk, .junk, .junk, .junk, .junk, .junk, .junk, .junk, .junk, .junk, .junk, .junk, .junk, .junk, .junk, .junk, .junk, .junk, .junk, .junk, .junk, .junk, .junk, .junk, .junk, .junk, .junk, .junk, .junk, .junk, .junk, .junk, .junk, .junk, .junk, .junk, .junk, .junk, .junk, .junk, .junk, .junk, .junk, .junk, .junk, .junk, .junk, .junk, .junk, .junk], [], [(0, .cells [.string ⟨#[]⟩, .int .i64 (0), .int .i64 (0), .pl .acts [], .pl .ints []] 1 0), (1, .cells [.string ⟨#[]⟩, .int .i64 (0), .int .i64 (0), .pl .acts [], .pl .ints []] 1 0)], 21⟩
set_option maxRecDepth 100000 in
theorem cr_round1 (k : Nat) (S : List DState) (x y : Bool) (i : Int) (nm : ByteArray) (bg cm : Int) (A : List DAct) (l : List Int) (nm' : ByteArray) (bg' cm' : Int) (B : List DAct) (l' : List Int) : (rounds Tryz.prog crpE [] 30 crId1 21 none crS1 (k + 1) [.l .states S, .b x, .b y, .i i, .s nm, .i bg, .i cm, .l .acts A, .l .ints l, .s nm', .i bg', .i cm', .l .acts B, .l .ints l']).ev = T.ev (
     .ite (decide (i < (↑S.length : Int)))
      (.ite (inRange i S.length)
       (.ite (decide ((↑(S.getD i.toNat RC.states.zero).l.length : Int) > (20 : Int)))
        (outAt .ret crX0 [.l .states (S), .b (y), .b (y), .s (nm), .i (bg), .i (cm), .l .acts (A), .l .ints (l), .s (nm'), .i (bg'), .i (cm'), .l .acts (B), .l .ints (l')])
        (rounds Tryz.prog crpE [] 30 crId1 21 none crS1 k [.l .states (S), .b (x), .b (y), .i (IntKind.i64.wrap (i + (1 : Int))), .s (nm), .i (bg), .i (cm), .l .acts (A), .l .ints (l), .s (nm'), .i (bg'), .i (cm'), .l .acts (B), .l .ints (l')]))
       (.fail))
      (outAt (.exit 0) crX0 [.l .states (S), .b (x), .b (y), .s (nm), .i (bg), .i (cm), .l .acts (A), .l .ints (l), .s (nm'), .i (bg'), .i (cm'), .l .acts (B), .l .ints (l')])) := by kernel_rfl

def longS : List DState → Bool
  | [] => false
  | s :: r => decide (20 < s.l.length) || longS r
theorem cr_rounds1 (S : List DState) (x y : Bool) (nm : ByteArray) (bg cm : Int) (A : List DAct) (l : List Int) (nm' : ByteArray) (bg' cm' : Int) (B : List DAct) (l' : List Int) (hs : S.length ≤ 1000000000) (r : CEx × NSt) : ∀ (d i : Nat), i + d = S.length →
    (if longS (S.drop i) = true then outAt .ret crX0 [.l .states S, .b y, .b y, .s nm, .i bg, .i cm, .l .acts A, .l .ints l, .s nm', .i bg', .i cm', .l .acts B, .l .ints l']
      else outAt (.exit 0) crX0 [.l .states S, .b x, .b y, .s nm, .i bg, .i cm, .l .acts A, .l .ints l, .s nm', .i bg', .i cm', .l .acts B, .l .ints l']).ev = some r →
    ∃ k, (rounds Tryz.prog crpE [] 30 crId1 21 none crS1 k [.l .states S, .b x, .b y, .i i, .s nm, .i bg, .i cm, .l .acts A, .l .ints l, .s nm', .i bg', .i cm', .l .acts B, .l .ints l']).ev = some r
  | 0, i, h, hr => ⟨1, by
    rw [cr_round1, T.ev_ite, show decide ((i : Int) < (S.length : Int)) = false by simp; omega]
    rw [List.drop_eq_nil_of_le (by omega), longS, if_neg Bool.false_ne_true] at hr
    exact hr⟩
  | d + 1, i, h, hr => by
    have h1 : (i : Int) < (S.length : Int) := by omega
    have wi : IntKind.i64.wrap ((i : Int) + 1) = ((i + 1 : Nat) : Int) := (wrap64 (by omega) (by omega)).trans (by omega)
    have h3 : inRange (i : Int) S.length = true := by rw [inRange_iff]; omega
    rw [getD_cons (l := S) (i := i) (by omega) RC.states.zero, longS] at hr
    by_cases hq : 20 < (S.getD i RC.states.zero).l.length
    · rw [decide_eq_true hq, Bool.true_or, if_pos rfl] at hr
      refine ⟨1, ?_⟩
      rw [cr_round1]
      have hd : decide (((S.getD i RC.states.zero).l.length : Int) > 20) = true := by rw [decide_eq_true_eq]; omega
      simp only [T.ev_ite, h1, h3, decide_true, if_true, Int.toNat_natCast, hd]
      exact hr
    · rw [decide_eq_false hq, Bool.false_or] at hr
      obtain ⟨k, ih⟩ := cr_rounds1 S x y nm bg cm A l nm' bg' cm' B l' hs r d (i + 1) (by omega) hr
      refine ⟨k + 1, ?_⟩
      rw [cr_round1]
      have hd : decide (((S.getD i RC.states.zero).l.length : Int) > 20) = false := by rw [decide_eq_false_iff_not]; omega
      simp only [T.ev_ite, wi, h1, h3, decide_true, if_true, Int.toNat_natCast, hd, Bool.false_eq_true, if_false]
      exact ih
def crG1 : List Leaf → T (CEx × NSt)
  | [.l .states S, .b x, .b y, .i i, .s nm, .i bg, .i cm, .l .acts A, .l .ints l, .s nm', .i bg', .i cm', .l .acts B, .l .ints l'] =>
    T.when (i == 0 && small S.length) (.ite (longS S) (outAt .ret crX0 [.l .states S, .b y, .b y, .s nm, .i bg, .i cm, .l .acts A, .l .ints l, .s nm', .i bg', .i cm', .l .acts B, .l .ints l'])
      (outAt (.exit 0) crX0 [.l .states S, .b x, .b y, .s nm, .i bg, .i cm, .l .acts A, .l .ints l, .s nm', .i bg', .i cm', .l .acts B, .l .ints l']))
  | _ => .fail
theorem cr_shape1 : ShapeOk Tryz.prog crpE [] crId1 ⟨21, none, crS1, crG1⟩ := by
  refine shapeOk_mk fun ls r h => ?_
  unfold crG1 at h
  split at h
  · rename_i S x y i nm bg cm A l nm' bg' cm' B l'
    obtain ⟨hc, h1⟩ := ev_when h
    simp only [Bool.and_eq_true, beq_iff_eq, small_iff] at hc
    obtain ⟨rfl, hs⟩ := hc
    obtain ⟨k, hk⟩ := cr_rounds1 S x y nm bg cm A l nm' bg' cm' B l' hs r S.length 0 (by omega) (by
      rw [List.drop_zero]; rw [T.ev_ite] at h1; cases hu : longS S <;> rw [hu] at h1 <;> exact h1)
    exact ⟨30, k, hk⟩
  · exact (ev_fail h).elim
def crL1 : List (Nat × List Nat × LoopFn) := [(7, [0, 1, 0, 1, 1, 1], loopExt crId1 [⟨21, none, crS1, crG1⟩])]
theorem crL1_ok (N : Nat) : LoopsOk Tryz.prog N crL1 := loopsOk_cons (loopExt_ok plainN mixedN crpE_ok (fun _ => loopsOk_nil) (all1 cr_shape1 all0) N) loopsOk_nil

def crS2 : NSt := ⟨[.pl .states [], .junk, .junk, .junk, .junk, .junk, .bool false, .bool false, .junk, .bool false, .row 36 6 (0), .row 44 6 (0), .int .i64 (0), .junk, .junk, .junk, .junk, .junk, .junk, .junk, .junk, .junk, .junk, .junk, .junk, .junk, .junk, .junk, .junk, .junk, .junk, .junk, .junk, .junk, .junk, .junk, .junk, .junk, .junk, .junk, .junk, .junk, .junk, .junk, .junk, .junk, .junk, .junk, .junk, .junk, .junk, .junk, .junk, .junk, .junk, .junk, .junk, .junk, .junk, .junk, .junk, .junk, .junk, .junk, .junk, .junk, .junk, .junk, .junk, .junk, .junk, .junk, .junk, .junk, .junk, .junk, .junk, .junk, .junk, .junk, .junk, .junk, .junk, .junk, .junk, .junk, .junk, .junk, .junk, .junk, .junk, .junk, .junk, .junk, .junk, .junk, .junk, .junk, .junk, .junk, .junk, .junk, .junk, .junk, .junk, .junk, .junk, .junk, .junk, .junk, .junk, .junk, .junk, .junk, .junk, .junk, .junk, .junk, .junk], [], [(0, .cells [.string ⟨#[]⟩, .int .i64 (0), .int .i64 (0), .pl .acts [], .pl .ints []] 1 0), (1, .cells [.string ⟨#[]⟩, .int .i64 (0), .int .i64 (0), .pl .acts [], .pl .ints []] 1 0), (30, .cells [] 6 0), (36, .rows .acts []), (38, .cells [] 6 0), (44, .rows .acts [])], 47⟩

def crY0 : NSt := ⟨[.pl .states [], .junk, .junk, .junk, .junk, .junk, .bool false, .bool false, .junk, .bool false, .row 36 6 (0), .row 44 6 (0), .junk, .junk, .junk, .junk, .junk, .junk, .junk, .junk, .junk, .junk, .junk, .junk, .junk, .junk, .junk, .junk, .junk, .junk, .junk, .junk, .junk, .junk, .junk, .junk, .junk, .junk, .junk, .junk, .junk, .junk, .junk, .junk, .junk, .junk, .junk, .junk, .junk, .junk, .junk, .junk, .junk, .junk, .junk, .junk, .junk, .junk, .junk, .junk, .junk, .junk, .junk, .junk, .junk, .junk, .junk, .junk, .junk, .junk, .junk, .junk, .junk, .junk, .junk, .junk, .junk, .junk, .junk, .junk, .junk, .junk, .junk, .junk, .junk, .junk, .junk, .junk, .junk, .junk, .junk, .junk, .junk, .junk, .junk, .junk, .junk, .junk, .junk, .junk, .junk, .junk, .junk, .junk, .junk, .junk, .junk, .junk, .junk, .junk, .junk, .junk, .junk, .junk, .junk, .junk, .junk, .junk, .junk], [], [(0, .cells [.string ⟨#[]⟩, .int .i64 (0), .int .i64 (0), .pl .acts [], .pl .ints []] 1 0), (1, .cells [.string ⟨#[]⟩, .int .i64 (0), .int .i64 (0), .pl .acts [], .pl .ints []] 1 0), (30, .cells [] 6 0), (36, .rows .acts []), (38, .cells [] 6 0), (44, .rows .acts [])], 47⟩
set_option maxRecDepth 100000 in
theorem cr_round2 (k : Nat) (S : List DState) (x y z : Bool) (i : Int) (nm : ByteArray) (bg cm : Int) (A : List DAct) (l : List Int) (nm' : ByteArray) (bg' cm' : Int) (B : List DAct) (l' : List Int) (P Q : List DAct) : (rounds Tryz.prog crpE crL1 30 crId2 47 none crS2 (k + 1) [.l .states S, .b x, .b y, .b z, .i i, .s nm, .i bg, .i cm, .l .acts A, .l .ints l, .s nm', .i bg', .i cm', .l .acts B, .l .ints l', .l .acts P, .l .acts Q]).ev = T.ev (
     .ite (decide (i < (↑P.length : Int)))
      (.ite (inRange i P.length)
       (.ite (i.toNat.blt P.length)
        (.ite (opChk (P.getD i.toNat RC.acts.zero).op.kind (P.getD i.toNat RC.acts.zero).op.a (P.getD i.toNat RC.acts.zero).op.b (P.getD i.toNat RC.acts.zero).op.ret.kind (P.getD i.toNat RC.acts.zero).op.ret.n != (0 : Int))
         (outAt .ret crY0 [.l .states (S), .b (y), .b (y), .b (z), .s (nm), .i (bg), .i (cm), .l .acts (A), .l .ints (l), .s (nm'), .i (bg'), .i (cm'), .l .acts (B), .l .ints (l'), .l .acts (P), .l .acts (Q)])
         (rounds Tryz.prog crpE crL1 30 crId2 47 none crS2 k [.l .states (S), .b (x), .b (y), .b (z), .i (IntKind.i64.wrap (i + (1 : Int))), .s (nm), .i (bg), .i (cm), .l .acts (A), .l .ints (l), .s (nm'), .i (bg'), .i (cm'), .l .acts (B), .l .ints (l'), .l .acts (P), .l .acts (Q)]))
        (.fail))
       (.fail))
      (outAt (.exit 2) crY0 [.l .states (S), .b (x), .b (y), .b (z), .s (nm), .i (bg), .i (cm), .l .acts (A), .l .ints (l), .s (nm'), .i (bg'), .i (cm'), .l .acts (B), .l .ints (l'), .l .acts (P), .l .acts (Q)])) := by kernel_rfl

def goodA : List DAct → Bool
  | [] => true
  | a :: r => decide (opC a.op = 0) && goodA r
theorem cr_rounds2 (S : List DState) (x y z : Bool) (nm : ByteArray) (bg cm : Int) (A : List DAct) (l : List Int) (nm' : ByteArray) (bg' cm' : Int) (B : List DAct) (l' : List Int) (P Q : List DAct) (hs : P.length ≤ 1000000000) (r : CEx × NSt) : ∀ (d i : Nat), i + d = P.length →
    (if goodA (P.drop i) = true then outAt (.exit 2) crY0 [.l .states S, .b x, .b y, .b z, .s nm, .i bg, .i cm, .l .acts A, .l .ints l, .s nm', .i bg', .i cm', .l .acts B, .l .ints l', .l .acts P, .l .acts Q]
      else outAt .ret crY0 [.l .states S, .b y, .b y, .b z, .s nm, .i bg, .i cm, .l .acts A, .l .ints l, .s nm', .i bg', .i cm', .l .acts B, .l .ints l', .l .acts P, .l .acts Q]).ev = some r →
    ∃ k, (rounds Tryz.prog crpE crL1 30 crId2 47 none crS2 k [.l .states S, .b x, .b y, .b z, .i i, .s nm, .i bg, .i cm, .l .acts A, .l .ints l, .s nm', .i bg', .i cm', .l .acts B, .l .ints l', .l .acts P, .l .acts Q]).ev = some r
  | 0, i, h, hr => ⟨1, by
    rw [cr_round2, T.ev_ite, show decide ((i : Int) < (P.length : Int)) = false by simp; omega]
    rw [List.drop_eq_nil_of_le (by omega), goodA, if_pos rfl] at hr
    exact hr⟩
  | d + 1, i, h, hr => by
    have h1 : (i : Int) < (P.length : Int) := by omega
    have wi : IntKind.i64.wrap ((i : Int) + 1) = ((i + 1 : Nat) : Int) := (wrap64 (by omega) (by omega)).trans (by omega)
    have h3 : inRange (i : Int) P.length = true := by rw [inRange_iff]; omega
    have h4 : i.blt P.length = true := by rw [Nat.blt_eq]; omega
    rw [getD_cons (l := P) (i := i) (by omega) RC.acts.zero, goodA] at hr
    have hO : opChk (P.getD i RC.acts.zero).op.kind (P.getD i RC.acts.zero).op.a (P.getD i RC.acts.zero).op.b (P.getD i RC.acts.zero).op.ret.kind (P.getD i RC.acts.zero).op.ret.n = opC (P.getD i RC.acts.zero).op := rfl
    by_cases hq : opC (P.getD i RC.acts.zero).op = 0
    · rw [decide_eq_true hq, Bool.true_and] at hr
      obtain ⟨k, ih⟩ := cr_rounds2 S x y z nm bg cm A l nm' bg' cm' B l' P Q hs r d (i + 1) (by omega) hr
      refine ⟨k + 1, ?_⟩
      rw [cr_round2]
      simp only [T.ev_ite, wi, h1, h3, h4, decide_true, if_true, Int.toNat_natCast, hO, hq, bne_self_eq_false, Bool.false_eq_true, if_false]
      exact ih
    · rw [decide_eq_false hq, Bool.false_and, if_neg Bool.false_ne_true] at hr
      refine ⟨1, ?_⟩
      rw [cr_round2]
      have hb : (opC (P.getD i RC.acts.zero).op != 0) = true := by rw [bne_iff_ne]; exact hq
      simp only [T.ev_ite, h1, h3, h4, decide_true, if_true, Int.toNat_natCast, hO, hb]
      exact hr
def crG2 : List Leaf → T (CEx × NSt)
  | [.l .states S, .b x, .b y, .b z, .i i, .s nm, .i bg, .i cm, .l .acts A, .l .ints l, .s nm', .i bg', .i cm', .l .acts B, .l .ints l', .l .acts P, .l .acts Q] =>
    T.when (i == 0 && small P.length) (.ite (goodA P) (outAt (.exit 2) crY0 [.l .states S, .b x, .b y, .b z, .s nm, .i bg, .i cm, .l .acts A, .l .ints l, .s nm', .i bg', .i cm', .l .acts B, .l .ints l', .l .acts P, .l .acts Q])
      (outAt .ret crY0 [.l .states S, .b y, .b y, .b z, .s nm, .i bg, .i cm, .l .acts A, .l .ints l, .s nm', .i bg', .i cm', .l .acts B, .l .ints l', .l .acts P, .l .acts Q]))
  | _ => .fail
theorem cr_shape2 : ShapeOk Tryz.prog crpE crL1 crId2 ⟨47, none, crS2, crG2⟩ := by
  refine shapeOk_mk fun ls r h => ?_
  unfold crG2 at h
  split at h
  · rename_i S x y z i nm bg cm A l nm' bg' cm' B l' P Q
    obtain ⟨hc, h1⟩ := ev_when h
    simp only [Bool.and_eq_true, beq_iff_eq, small_iff] at hc
    obtain ⟨rfl, hs⟩ := hc
    obtain ⟨k, hk⟩ := cr_rounds2 S x y z nm bg cm A l nm' bg' cm' B l' P Q hs r P.length 0 (by omega) (by
      rw [List.drop_zero]; rw [T.ev_ite] at h1; cases hu : goodA P <;> rw [hu] at h1 <;> exact h1)
    exact ⟨30, k, hk⟩
  · exact (ev_fail h).elim
def crL2 : List (Nat × List Nat × LoopFn) := (7, [0, 1, 0, 1, 1, 1, 1, 1, 1, 1, 1], loopExt crId2 [⟨47, none, crS2, crG2⟩]) :: crL1
theorem crL2_ok (N : Nat) : LoopsOk Tryz.prog N crL2 := loopsOk_cons (loopExt_ok plainN mixedN crpE_ok crL1_ok (all1 cr_shape2 all0) N) (crL1_ok N)

set_option maxRecDepth 100000 in
theorem creps_tree (S : List DState) (nm : ByteArray) (bg cm : Int) (A : List DAct) (l : List Int) (nm' : ByteArray) (bg' cm' : Int) (B : List DAct) (l' : List Int) : (((tden Tryz.prog crpE crL2 30).call 0 7 [.pl .states S, .agg #[.string nm, .int .i64 bg, .int .i64 cm, .pl .acts A, .pl .ints l], .agg #[.string nm', .int .i64 bg', .int .i64 cm', .pl .acts B, .pl .ints l']] ⟨.nil, 0⟩).pure.cut
    (.ite (.yes (.yes (.yes (.yes (.yes (.yes (.yes (.yes (.yes (.yes (.all))))))))))) (.no (.no (.no (.ite (.yes (.yes (.yes (.yes (.yes (.all)))))) (.no (.no (.no (.ite (.all) (.ite (.ite (.all) (.ite (.ite (.ite (.all) (.ite (.yes (.ite (.ite (.yes (.ite (.ite (.ite (.ite (.ite (.yes (.yes (.ite (.ite (.yes (.yes (.yes (.yes (.yes (.ite (.yes (.yes (.yes (.yes (.yes (.yes (.yes (.yes (.all))))))))) (.no (.no (.no (.no (.no (.yes (.yes (.yes (.ite (.no (.yes (.all))) (.all)))))))))))))))) (.yes (.yes (.yes (.ite (.yes (.yes (.yes (.yes (.yes (.yes (.yes (.yes (.all))))))))) (.no (.no (.no (.no (.no (.ite (.yes (.yes (.ite (.no (.yes (.all))) (.all)))) (.no (.no (.no (.no (.yes (.all))))))))))))))))) (.all)))) (.ite (.ite (.yes (.yes (.yes (.yes (.yes (.ite (.yes (.yes (.yes (.yes (.yes (.yes (.yes (.yes (.all))))))))) (.no (.no (.no (.no (.no (.ite (.yes (.yes (.yes (.no (.yes (.all)))))) (.no (.no (.no (.no (.yes (.all)))))))))))))))))) (.yes (.yes (.yes (.ite (.yes (.yes (.yes (.yes (.yes (.yes (.yes (.yes (.all))))))))) (.no (.no (.no (.no (.no (.ite (.yes (.yes (.yes (.no (.yes (.all)))))) (.no (.no (.no (.no (.yes (.all))))))))))))))))) (.all))) (.all)) (.all)) (.all)) (.all))) (.all)) (.all))) (.all))) (.all)) (.all))) (.all)))))))))))).ev = T.ev (α := CV) (
     .ite (decide ((↑S.length : Int) > (6 : Int)))
      (.ret (.bool true))
      (.ite (decide ((↑A.length : Int) > (6 : Int)))
       (.ret (.bool true))
       (.ite (decide ((↑B.length : Int) > (6 : Int)))
        (.ret (.bool true))
        (.ite ((0 : Int) == (0 : Int) && small S.length)
         (.ite (longS S)
          (.ret (.bool true))
          (.ite (small A.length && small B.length)
           (.ite (small B.length && small A.length)
            (.ite (!trB A B == trB B A)
             (.ret (.bool false))
             (.ite (roomB A.length (48 : Nat))
              (.ite (decide (B = B))
               (.ite (roomB (A.length + B.length) (48 : Nat))
                (.ite (roomB B.length (48 : Nat))
                 (.ite (decide (A = A))
                  (.ite (roomB (B.length + A.length) (48 : Nat))
                   (.ite ((0 : Int) == (0 : Int) && small (A ++ B).length)
                    (.ite (goodA (A ++ B))
                     (.ite (repOk S (A ++ B))
                      (.ite (decide ((repA S (A ++ B)).e = (0 : Int)))
                       (.ite (repOk S (A ++ B))
                        (.ite (decide ((repA S (A ++ B)).e = (0 : Int)))
                         (.ite (repOk S (B ++ A))
                          (.ite (decide ((repA S (B ++ A)).e = (0 : Int)))
                           (.ite (repOk S (B ++ A))
                            (.ite (decide ((repA S (B ++ A)).e = (0 : Int)))
                             (.ite (!trB A B)
                              (.ret (.bool true))
                              (.ite (small (repA S (A ++ B)).s.length && (repA S (A ++ B)).s.all fun s => small s.l.length)
                               (.ret (.bool (decide ((repA S (A ++ B)).s = (repA S (B ++ A)).s))))
                               (.fail)))
                             .fail)
                            .fail)
                           (.ite (!trB A B)
                            (.ret (.bool true))
                            (.ite (((0 : Int) == (0 : Int)) == ((repA S (B ++ A)).e == (0 : Int)))
                             (.ite (small (repA S (A ++ B)).s.length && (repA S (A ++ B)).s.all fun s => small s.l.length)
                              (.ret (.bool (decide ((repA S (A ++ B)).s = []))))
                              (.fail))
                             (.ret (.bool false)))))
                          (.fail))
                         .fail)
                        .fail)
                       (.ite (repOk S (B ++ A))
                        (.ite (decide ((repA S (B ++ A)).e = (0 : Int)))
                         (.ite (repOk S (B ++ A))
                          (.ite (decide ((repA S (B ++ A)).e = (0 : Int)))
                           (.ite (!trB A B)
                            (.ret (.bool true))
                            (.ite (((repA S (A ++ B)).e == (0 : Int)) == ((0 : Int) == (0 : Int)))
                             (.ret (.bool (decide ([] = (repA S (B ++ A)).s))))
                             (.ret (.bool false))))
                           .fail)
                          .fail)
                         (.ite (!trB A B)
                          (.ret (.bool true))
                          (.ite (((repA S (A ++ B)).e == (0 : Int)) == ((repA S (B ++ A)).e == (0 : Int)))
                           (.ret (.bool true))
                           (.ret (.bool false)))))
                        (.fail)))
                      (.fail))
                     (.ret (.bool true)))
                    (.fail))
                   (.fail))
                  .fail)
                 (.fail))
                (.fail))
               .fail)
              (.fail)))
            (.fail))
           (.fail)))
         (.fail))))) := by kernel_rfl

theorem acB_sym (p q : DAct) : acB p q = acB q p := by
  unfold acB
  by_cases h : p.object = q.object
  · rw [if_neg (not_not_intro h), if_neg (show ¬ (q.object ≠ p.object) from not_not_intro h.symm), cmIs_sym]
  · rw [if_pos h, if_pos (show q.object ≠ p.object from fun e => h e.symm)]
theorem acAll_iff (x : DAct) : ∀ B : List DAct, acAll x B = true ↔ ∀ y ∈ B, acB x y = true
  | [] => by simp [acAll]
  | y :: r => by rw [acAll, Bool.and_eq_true, acAll_iff x r]; simp
theorem trB_iff : ∀ A B : List DAct, trB A B = true ↔ ∀ x ∈ A, ∀ y ∈ B, acB x y = true
  | [], B => by simp [trB]
  | x :: r, B => by rw [trB, Bool.and_eq_true, acAll_iff, trB_iff r B]; simp
theorem trB_sym (A B : List DAct) : trB A B = trB B A := by
  rw [Bool.eq_iff_iff, trB_iff, trB_iff]
  constructor <;> (intro h x hx y hy; rw [acB_sym]; exact h y hy x hx)
theorem goodA_iff : ∀ A : List DAct, goodA A = true ↔ ∀ x ∈ A, opC x.op = 0
  | [] => by simp [goodA]
  | x :: r => by rw [goodA, Bool.and_eq_true, goodA_iff r, decide_eq_true_eq]; simp

def wS (S : List DState) : Prop := ∀ s ∈ S, w64 s.n
theorem step_w64 {s : DState} {o : DOp} (hn : w64 s.n) (e : (stepM s o).e = 0) : w64 (stepM s o).s.n := by
  obtain ⟨hs, ht⟩ := step_check e
  have kp := step_kind e
  have hcap : cap62 = 4611686018427387904 := rfl
  have w0 : w64 0 := by unfold w64; decide
  obtain ⟨t, n, l⟩ := s
  obtain ⟨k, a, b, r⟩ := o
  simp only at hs hn ht kp
  have tt : t = 1 ∨ t = 2 ∨ t = 3 ∨ t = 4 ∨ t = 5 := by
    by_cases h : t < 1 ∨ 5 < t
    · simp [checkN, h] at hs
    · omega
  unfold stepM machA at e ⊢
  simp only at e ⊢
  obtain rfl | rfl | rfl | rfl | rfl := tt
  · rw [if_pos rfl] at e ⊢
    unfold Ctr.ctrA at e ⊢
    rw [if_neg (by simp [hs])] at e ⊢
    by_cases h1 : k = 1
    · rw [if_pos h1] at e ⊢
      by_cases h2 : b = 0
      · rw [if_pos h2]; show w64 (Ctr.add64 n a); rw [add64_bm]; exact w64_bmod _
      · rw [if_neg h2] at e; simp [bad] at e
    · rw [if_neg h1] at e ⊢
      by_cases h2 : k = 2
      · rw [if_pos h2] at e ⊢
        by_cases h3 : b = 0 ∧ a = 0
        · rw [if_pos h3]; exact hn
        · rw [if_neg h3] at e; simp [bad] at e
      · rw [if_neg h2] at e; simp [bad] at e
  · rw [if_neg (by decide), if_pos rfl] at e ⊢
    unfold Set.setA at e ⊢
    rw [if_neg (by simp [hs])] at e ⊢
    by_cases h1 : k < 3 ∨ 6 < k
    · rw [if_pos h1] at e; simp [bad] at e
    rw [if_neg h1] at e ⊢
    by_cases h2 : b ≠ 0 ∨ (k = 6 ∧ a ≠ 0)
    · rw [if_pos h2] at e; simp [bad] at e
    rw [if_neg h2]
    (repeat' split) <;> exact w0
  · rw [if_neg (by decide), if_neg (by decide), if_pos rfl] at e ⊢
    unfold Map.mapA at e ⊢
    rw [if_neg (by simp [hs])] at e ⊢
    by_cases h1 : k < 7 ∨ 9 < k
    · rw [if_pos h1] at e; simp [bad] at e
    rw [if_neg h1] at e ⊢
    by_cases h2 : k ≠ 7 ∧ b ≠ 0
    · rw [if_pos h2] at e; simp [bad] at e
    rw [if_neg h2]
    exact w0
  · rw [if_neg (by decide), if_neg (by decide), if_neg (by decide), if_pos rfl] at e ⊢
    unfold Fif.fifoA at e ⊢
    rw [if_neg (by simp [hs])] at e ⊢
    by_cases h1 : k < 10 ∨ 12 < k
    · rw [if_pos h1] at e; simp [bad] at e
    rw [if_neg h1] at e ⊢
    by_cases h2 : b ≠ 0 ∨ (k ≠ 10 ∧ a ≠ 0)
    · rw [if_pos h2] at e; simp [bad] at e
    rw [if_neg h2]
    (repeat' split) <;> exact w0
  · rw [if_neg (by decide), if_neg (by decide), if_neg (by decide), if_neg (by decide), if_pos rfl] at e ⊢
    obtain ⟨rfl, hn5⟩ := Esc.check5.1 hs
    unfold Esc.escA at e ⊢
    rw [if_neg (by simp [hs])] at e ⊢
    by_cases h1 : k < 13 ∨ 15 < k
    · rw [if_pos h1] at e; simp [bad] at e
    rw [if_neg h1] at e ⊢
    by_cases h2 : b ≠ 0
    · rw [if_pos h2] at e; simp [bad] at e
    rw [if_neg h2] at e ⊢
    by_cases h3 : k = 15
    · rw [if_pos h3] at e ⊢
      by_cases h4 : a = 0
      · rw [if_pos h4]; exact hn
      · rw [if_neg h4] at e; simp [bad] at e
    rw [if_neg h3] at e ⊢
    by_cases h4 : a < 0 ∨ cap62 < a
    · rw [if_pos h4] at e; simp [bad] at e
    rw [if_neg h4]
    unfold w64 at hn ⊢
    (repeat' split) <;> simp only [] <;> omega

def actO (S : List DState) (a : DAct) : Option (List DState) :=
  if a.object < 0 ∨ (S.length : Int) ≤ a.object then none else (legS (S.getD a.object.toNat RC.states.zero) a.op).map fun t => S.set a.object.toNat t
def repO (S : List DState) : List DAct → Option (List DState)
  | [] => some S
  | a :: r => (actO S a).bind fun S' => repO S' r
theorem repO_eq : ∀ (A : List DAct) (S : List DState), repO S A = if (repA S A).e = 0 then some (repA S A).s else none
  | [], S => rfl
  | a :: r, S => by
    rw [repO, repA, actO]
    by_cases c1 : a.object < 0 ∨ (S.length : Int) ≤ a.object
    · rw [if_pos c1, if_pos c1]; rfl
    · rw [if_neg c1, if_neg c1]
      unfold legS
      by_cases c2 : (stepM (S.getD a.object.toNat RC.states.zero) a.op).e = 0
      · by_cases c3 : (stepM (S.getD a.object.toNat RC.states.zero) a.op).r = a.op.ret
        · rw [if_pos ⟨c2, c3⟩, if_neg (not_not_intro c2), if_neg (not_not_intro c3)]
          simp only [Option.map_some, Option.bind_some]
          rw [repO_eq r]
        · rw [if_neg (fun h => c3 h.2), if_neg (not_not_intro c2), if_pos c3]; rfl
      · rw [if_neg (fun h => c2 h.1), if_pos c2]
        simp only [Option.map_none, Option.bind_none]
        rw [if_neg c2]
theorem actO_w {S T : List DState} {a : DAct} (hS : wS S) (h : actO S a = some T) : wS T ∧ T.length = S.length := by
  unfold actO at h
  split at h
  · cases h
  · rename_i c
    obtain ⟨t, ht, rfl⟩ := Option.map_eq_some_iff.1 h
    refine ⟨fun s hs => ?_, by simp⟩
    rcases List.mem_or_eq_of_mem_set hs with hm | rfl
    · exact hS s hm
    · unfold legS at ht
      split at ht
      · rename_i h1
        cases ht
        refine step_w64 ?_ h1.1
        have hlt : a.object.toNat < S.length := by omega
        rw [List.getD, List.getElem?_eq_getElem hlt]
        exact hS _ (List.getElem_mem hlt)
      · cases ht
theorem getD_set_ne {α : Type} (l : List α) (i j : Nat) (x z : α) (h : i ≠ j) : (l.set i x).getD j z = l.getD j z := by
  rw [List.getD, List.getD, List.getElem?_set, if_neg h]
theorem getD_set_eq {α : Type} (l : List α) (i : Nat) (x z : α) (h : i < l.length) : (l.set i x).getD i z = x := by
  rw [List.getD, List.getElem?_set, if_pos rfl, if_pos h]; rfl
theorem act_swap {S : List DState} {a b : DAct} (hS : wS S) (ha : opC a.op = 0) (hb : opC b.op = 0) (hc : acB a b = true) : ((actO S a).bind fun T => actO T b) = ((actO S b).bind fun T => actO T a) := by
  by_cases ca : a.object < 0 ∨ (S.length : Int) ≤ a.object
  · have n1 : ∀ T : List DState, T.length = S.length → actO T a = none := fun T hT => if_pos (by rw [hT]; exact ca)
    rw [n1 S rfl, Option.bind_none]
    cases h : actO S b with
    | none => rfl
    | some T => exact (n1 T (actO_w hS h).2).symm
  by_cases cb : b.object < 0 ∨ (S.length : Int) ≤ b.object
  · have n1 : ∀ T : List DState, T.length = S.length → actO T b = none := fun T hT => if_pos (by rw [hT]; exact cb)
    rw [n1 S rfl, Option.bind_none]
    cases h : actO S a with
    | none => rfl
    | some T => exact n1 T (actO_w hS h).2
  have la : a.object.toNat < S.length := by omega
  have lb : b.object.toNat < S.length := by omega
  have ea : ∀ T : List DState, T.length = S.length → actO T a = (legS (T.getD a.object.toNat RC.states.zero) a.op).map fun t => T.set a.object.toNat t := fun T hT => if_neg (by rw [hT]; exact ca)
  have eb : ∀ T : List DState, T.length = S.length → actO T b = (legS (T.getD b.object.toNat RC.states.zero) b.op).map fun t => T.set b.object.toNat t := fun T hT => if_neg (by rw [hT]; exact cb)
  rw [ea S rfl, eb S rfl]
  by_cases ho : a.object = b.object
  · unfold acB at hc
    rw [if_neg (not_not_intro ho)] at hc
    rw [ho] at ea ⊢
    have hw : w64 (S.getD b.object.toNat RC.states.zero).n := by
      rw [List.getD, List.getElem?_eq_getElem lb]; exact hS _ (List.getElem_mem lb)
    have hI : cmOpsB a.op b.op = true := by unfold cmIs at hc; rw [if_neg (by simp [ha, hb])] at hc; exact hc
    have h2 := two_comm hw ha hb hI
    unfold twoS at h2
    have key : ∀ (p q : DAct), (∀ T : List DState, T.length = S.length → actO T q = (legS (T.getD b.object.toNat RC.states.zero) q.op).map fun t => T.set b.object.toNat t) →
        (((legS (S.getD b.object.toNat RC.states.zero) p.op).map fun t => S.set b.object.toNat t).bind fun T => actO T q) = ((legS (S.getD b.object.toNat RC.states.zero) p.op).bind fun t => legS t q.op).map fun t => S.set b.object.toNat t := by
      intro p q hq
      cases legS (S.getD b.object.toNat RC.states.zero) p.op with
      | none => rfl
      | some t =>
        simp only [Option.map_some, Option.bind_some]
        rw [hq _ (by simp), getD_set_eq _ _ _ _ lb]
        cases legS t q.op with
        | none => rfl
        | some u => simp only [Option.map_some, List.set_set]
    rw [key a b eb, key b a ea, h2]
  · have hij : a.object.toNat ≠ b.object.toNat := by omega
    cases h1 : legS (S.getD a.object.toNat RC.states.zero) a.op with
    | none =>
      cases h2 : legS (S.getD b.object.toNat RC.states.zero) b.op with
      | none => rfl
      | some u =>
        simp only [Option.map_none, Option.map_some, Option.bind_none, Option.bind_some]
        rw [ea _ (by simp), getD_set_ne _ _ _ _ _ (Ne.symm hij), h1]; rfl
    | some t =>
      cases h2 : legS (S.getD b.object.toNat RC.states.zero) b.op with
      | none =>
        simp only [Option.map_none, Option.map_some, Option.bind_none, Option.bind_some]
        rw [eb _ (by simp), getD_set_ne _ _ _ _ _ hij, h2]; rfl
      | some u =>
        simp only [Option.map_some, Option.bind_some]
        rw [ea _ (by simp), eb _ (by simp), getD_set_ne _ _ _ _ _ hij, getD_set_ne _ _ _ _ _ (Ne.symm hij), h1, h2]
        simp only [Option.map_some]
        rw [List.set_comm _ _ hij]
theorem act_past (a : DAct) (ha : opC a.op = 0) : ∀ (B : List DAct) (S : List DState), wS S → (∀ y ∈ B, opC y.op = 0) → (∀ y ∈ B, acB a y = true) → ((actO S a).bind fun T => repO T B) = ((repO S B).bind fun T => actO T a)
  | [], S, hS, _, _ => by
    simp only [repO, Option.bind_some]
    cases actO S a <;> rfl
  | b :: r, S, hS, hg, hc => by
    have h1 := act_swap hS ha (hg b (by simp)) (hc b (by simp))
    have e1 : ((actO S a).bind fun T => repO T (b :: r)) = ((actO S a).bind fun T => actO T b).bind fun T => repO T r := by
      cases actO S a <;> rfl
    have e2 : ((repO S (b :: r)).bind fun T => actO T a) = (actO S b).bind fun T => (repO T r).bind fun T => actO T a := by
      rw [repO]; cases actO S b <;> rfl
    rw [e1, h1, e2]
    cases h2 : actO S b with
    | none => rfl
    | some T =>
      simp only [Option.bind_some]
      have := act_past a ha r T (actO_w hS h2).1 (fun y hy => hg y (by simp [hy])) (fun y hy => hc y (by simp [hy]))
      rw [← this]
theorem repO_append (A : List DAct) : ∀ (B : List DAct) (S : List DState), repO S (A ++ B) = (repO S A).bind fun T => repO T B := by
  induction A with
  | nil => intro B S; rfl
  | cons a r ih =>
    intro B S
    rw [List.cons_append, repO, repO]
    cases actO S a with
    | none => rfl
    | some T => simp only [Option.bind_some]; exact ih B T
theorem rep_swap : ∀ (A B : List DAct) (S : List DState), wS S → (∀ x ∈ A, opC x.op = 0) → (∀ y ∈ B, opC y.op = 0) → (∀ x ∈ A, ∀ y ∈ B, acB x y = true) → repO S (A ++ B) = repO S (B ++ A)
  | [], B, S, _, _, _, _ => by simp
  | a :: r, B, S, hS, hA, hB, hc => by
    rw [List.cons_append, repO]
    have e1 : ((actO S a).bind fun T => repO T (r ++ B)) = ((actO S a).bind fun T => (repO T B).bind fun U => repO U r) := by
      cases h : actO S a with
      | none => rfl
      | some T =>
        simp only [Option.bind_some]
        rw [rep_swap r B T (actO_w hS h).1 (fun x hx => hA x (by simp [hx])) hB (fun x hx => hc x (by simp [hx])), repO_append]
    have e2 : ((actO S a).bind fun T => (repO T B).bind fun U => repO U r) = ((actO S a).bind fun T => repO T B).bind fun U => repO U r := by
      cases actO S a <;> rfl
    rw [e1, e2, act_past a (hA a (by simp)) B S hS hB (fun y hy => hc a (by simp) y hy), repO_append]
    cases repO S B <;> rfl

theorem lensOk_le {S : List DState} {d e : Nat} (h : lensOk S d = true) (he : e ≤ d) : lensOk S e = true := by
  unfold lensOk at h ⊢
  rw [List.all_eq_true] at h ⊢
  intro s hs
  have := h s hs
  rw [Nat.ble_eq] at this ⊢; omega
theorem rep_lens : ∀ (A : List DAct) (S : List DState), lensOk S A.length = true → lensOk (repA S A).s 0 = true ∧ (repA S A).s.length = S.length
  | [], S, h => ⟨h, rfl⟩
  | a :: r, S, h => by
    rw [repA]
    have h0 : lensOk S 0 = true := lensOk_le h (Nat.zero_le _)
    by_cases c1 : a.object < 0 ∨ (S.length : Int) ≤ a.object
    · rw [if_pos c1]; exact ⟨h0, rfl⟩
    · rw [if_neg c1]
      split
      · exact ⟨h0, rfl⟩
      · split
        · exact ⟨h0, rfl⟩
        · have hlt : a.object.toNat < S.length := by omega
          have := rep_lens r (S.set a.object.toNat (stepM (S.getD a.object.toNat RC.states.zero) a.op).s) (lensOk_set h _ hlt)
          exact ⟨this.1, by rw [this.2]; simp⟩
theorem longS_iff : ∀ S : List DState, longS S = false ↔ ∀ s ∈ S, s.l.length ≤ 20
  | [] => by simp [longS]
  | s :: r => by
    rw [longS, Bool.or_eq_false_iff, decide_eq_false_iff_not, longS_iff r]
    simp
theorem creps_all (xs : List CV) (h : ArsAll [.one (.row .states), .agg [.str, i6, i6, .row .acts, .row .ints], .agg [.str, i6, i6, .row .acts, .row .ints]] xs) : PureAt Tryz.prog 7 xs (.bool true) := by
  obtain ⟨_, _, rfl, ⟨S, rfl, wS0⟩, g1⟩ := h.cons_inv
  obtain ⟨_, _, rfl, h3, g3⟩ := g1.cons_inv; obtain ⟨nm, bg, cm, A, l, rfl, _, _, _, wA, _⟩ := ArG.trans h3
  obtain ⟨_, _, rfl, h4, g4⟩ := g3.cons_inv; obtain ⟨nm', bg', cm', B, l', rfl, _, _, _, wB, _⟩ := ArG.trans h4
  cases g4.nil_inv
  refine pureAt0 plainN mixedN crpE_ok crL2_ok (k := 30) ((creps_tree S nm bg cm A l nm' bg' cm' B l').trans ?_) rfl
  clear h h3 h4 g1 g3 g4
  simp only [T.ev_ite, T.ev_ret, T.ev_fail, eq_self, decide_true, beq_self_eq_true, Bool.true_and, if_true, trB_sym B A, Bool.not_true, Bool.false_eq_true, if_false]
  by_cases c1 : S.length ≤ 6
  · by_cases c2 : A.length ≤ 6
    · by_cases c3 : B.length ≤ 6
      · have d1 : decide ((S.length : Int) > 6) = false := by rw [decide_eq_false_iff_not]; omega
        have d2 : decide ((A.length : Int) > 6) = false := by rw [decide_eq_false_iff_not]; omega
        have d3 : decide ((B.length : Int) > 6) = false := by rw [decide_eq_false_iff_not]; omega
        have s1 : small S.length = true := by rw [small_iff]; omega
        have s2 : small A.length = true := by rw [small_iff]; omega
        have s3 : small B.length = true := by rw [small_iff]; omega
        have s4 : small (A ++ B).length = true := by rw [small_iff, List.length_append]; omega
        have r1 : roomB A.length 48 = true := roomB_small s2 (by decide)
        have r2 : roomB B.length 48 = true := roomB_small s3 (by decide)
        have r3 : roomB (A.length + B.length) 48 = true := by rw [roomB_iff]; omega
        have r4 : roomB (B.length + A.length) 48 = true := by rw [roomB_iff]; omega
        simp only [d1, d2, d3, s1, s2, s3, s4, r1, r2, r3, r4, Bool.and_self, if_true, Bool.false_eq_true, if_false]
        cases hL : longS S with
        | true => simp
        | false =>
          simp only [Bool.false_eq_true, if_false]
          cases hG : goodA (A ++ B) with
          | false => simp
          | true =>
            simp only [if_true]
            have hl := (longS_iff S).1 hL
            have hgood := (goodA_iff (A ++ B)).1 hG
            have gA : ∀ x ∈ A, opC x.op = 0 := fun x hx => hgood x (by simp [hx])
            have gB : ∀ x ∈ B, opC x.op = 0 := fun x hx => hgood x (by simp [hx])
            have hw : wS S := fun s hs => (wS0 s hs).2.1
            have inI : ∀ {n : Int}, w64 n → Ctr.inI64 n = true := fun h => Ctr.inI64_iff.2 h
            have aA : ∀ x ∈ A, opB x.op = true := fun x hx => by have := wA x hx; simp only [opB, inI this.2.2.1, inI this.2.2.2.1, Bool.and_self]
            have aB : ∀ x ∈ B, opB x.op = true := fun x hx => by have := wB x hx; simp only [opB, inI this.2.2.1, inI this.2.2.2.1, Bool.and_self]
            have ok : ∀ P : List DAct, P.length ≤ 12 → (∀ x ∈ P, opB x.op = true) → repOk S P = true ∧ lensOk S P.length = true := fun P hP hx => by
              have q1 : smallS S = true := by
                unfold smallS; rw [List.all_eq_true]; intro s hs; rw [small_iff]; have := hl s hs; omega
              have q2 : actsOk P = true := by unfold actsOk; rw [List.all_eq_true]; exact hx
              have q3 : P.length.ble 1000000 = true := by rw [Nat.ble_eq]; omega
              have q4 : lensOk S P.length = true := by
                unfold lensOk; rw [List.all_eq_true]; intro s hs; rw [Nat.ble_eq]; have := hl s hs; omega
              exact ⟨by unfold repOk; rw [s1, q1, q2, q3, q4]; rfl, q4⟩
            obtain ⟨k1, k2⟩ := ok (A ++ B) (by rw [List.length_append]; omega) (fun x hx => by rcases List.mem_append.1 hx with h | h; exact aA x h; exact aB x h)
            obtain ⟨k3, _⟩ := ok (B ++ A) (by rw [List.length_append]; omega) (fun x hx => by rcases List.mem_append.1 hx with h | h; exact aB x h; exact aA x h)
            obtain ⟨m1, m2⟩ := rep_lens (A ++ B) S k2
            have m3 : (small (repA S (A ++ B)).s.length && (repA S (A ++ B)).s.all fun s => small s.l.length) = true := by
              rw [Bool.and_eq_true]
              refine ⟨by rw [m2]; exact s1, ?_⟩
              rw [List.all_eq_true]
              intro s hs
              unfold lensOk at m1
              rw [List.all_eq_true] at m1
              have := m1 s hs
              rw [Nat.ble_eq] at this
              rw [small_iff]; omega
            simp only [k1, k3, m3, if_true]
            cases hT : trB A B with
            | false =>
              simp only [Bool.not_false, if_true]
              (repeat' split) <;> first | rfl | (rename_i h1 h2; exact absurd h1 h2) | simp_all
            | true =>
              have key := rep_swap A B S hw gA gB ((trB_iff A B).1 hT)
              rw [repO_eq, repO_eq] at key
              simp only [Bool.not_true, Bool.false_eq_true, if_false]
              by_cases e1 : (repA S (A ++ B)).e = 0
              · by_cases e2 : (repA S (B ++ A)).e = 0
                · rw [if_pos e1, if_pos e2, Option.some.injEq] at key
                  simp [e1, e2, key]
                · rw [if_pos e1, if_neg e2] at key; cases key
              · by_cases e2 : (repA S (B ++ A)).e = 0
                · rw [if_neg e1, if_pos e2] at key; cases key
                · have b1 : ((repA S (A ++ B)).e == 0) = false := by simpa using e1
                  have b2 : ((repA S (B ++ A)).e == 0) = false := by simpa using e2
                  simp [e1, e2, b1, b2]
      · simp [show (B.length : Int) > 6 by omega]
    · simp [show (A.length : Int) > 6 by omega]
  · simp [show (S.length : Int) > 6 by omega]

end Go.Proofs.YtecidokjhplbgaaGreatDoorD
