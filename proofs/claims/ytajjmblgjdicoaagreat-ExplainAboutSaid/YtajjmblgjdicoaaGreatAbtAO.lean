/-
  Chapter 28: steps of an object; the law ExplainAbout.
-/
import Derived.Test.YtajjmblgjdicoaaGreatKitQ
import Derived.Test.YtajjmblgjdicoaaGreatFreA
import Derived.Test.YtajjmblgjdicoaaGreatClose
import Derived.Test.YtajjmblgjdicoaaGreatKnE
set_option linter.unusedVariables false
set_option linter.unusedSimpArgs false
namespace Go.Proofs.YtajjmblgjdicoaaGreatD
open Go Go.RowKit

/- CloY -/
def cloneY : List CV → T CV := sigExt [.l .ints] (freshOfSt (.l .ints) cloneG)
theorem cloneY_fn : FreshFn Tryz.prog 72 cloneY := ⟨clone_fn.1, fun args d hd => ((fresh_of_st (.l .ints) clone_fn).2 _ d hd).args [.l .ints]⟩
def clyE : List (Nat × ExtFn) := (72, freshExt cloneY) :: kitE
theorem clyE_ok (N : Nat) : ExtsOk Tryz.prog N clyE := extsOk_cons (extOk_fresh cloneY_fn) (kitE_ok N)

/- AbtA -/
/- base 4 round none: Int, List (RC.den .steps), Int, Int, List (RC.den .steps): [.i (o), .l .steps (l), .i ((↑l.length : Int)), .i (nat_lit 0), .l .steps ([])] -/
def abSk : NSt := ⟨[.junk, .int .i64 (0), .junk, .junk, .row 4 14 (0), .junk, .junk, .pl .steps [], .int .i64 (0), .int .i64 (0), .junk, .junk, .junk, .junk, .junk, .junk, .junk, .junk, .junk, .junk, .junk, .junk, .junk, .junk, .junk, .junk, .junk, .junk, .junk, .junk, .junk], [], [(4, .rows .steps [])], 5⟩
/- base 2 round none: List (RC.den .steps), Bool, Int: [.l .steps (l), .b false, .i (nat_lit 0)] -/
def lgSk : NSt := ⟨[.pl .steps [], .junk, .bool false, .int .i64 (0), .junk, .junk, .junk, .junk, .junk, .junk, .junk, .junk, .junk, .junk, .junk, .junk, .junk, .junk, .junk, .junk, .junk, .junk, .junk, .junk, .junk, .junk, .junk, .junk, .junk, .junk, .junk, .junk, .junk, .junk, .junk], [], [], 2⟩
def abId : LoopId := ⟨23, [0, 1, 0, 1], [(4, .steps)]⟩
def lgId : LoopId := ⟨19, [0, 1, 0, 1], []⟩

/- AbtB -/
/- List (RC.den .steps) -/
def abOut0 : NSt := ⟨[.junk, .junk, .junk, .junk, .row 4 14 (0), .junk, .junk, .junk, .junk, .junk, .junk, .junk, .junk, .junk, .junk, .junk, .junk, .junk, .junk, .junk, .junk, .junk, .junk, .junk, .junk, .junk, .junk, .junk, .junk, .junk, .junk], [], [(4, .rows .steps [])], 5⟩
set_option maxRecDepth 100000 in
theorem ab_round (k : Nat) (o : Int) (l : List DStep) (n i : Int) (out : List DStep) : ((rounds Tryz.prog clyE [] 30 abId 4 none abSk (k + 1) [.i o, .l .steps l, .i n, .i i, .l .steps out]).cut
    (.ite (.ite (.ite (.ite (.yes (.yes (.yes (.ite (.ite (.all) (.all)) (.all))))) (.all)) (.all)) (.all)) (.all))).ev = T.ev (
     .ite (decide (i < n))
      (.ite (inRange i l.length)
       (.ite ((l.getD i.toNat RC.steps.zero).object == o)
        (.ite (small (l.getD i.toNat RC.steps.zero).ahead.l.length)
         (.ite (decide ((l.getD i.toNat RC.steps.zero).behind.type = (l.getD i.toNat RC.steps.zero).behind.type))
          (.ite (decide ((l.getD i.toNat RC.steps.zero).behind.n = (l.getD i.toNat RC.steps.zero).behind.n))
           (.ite (decide ((l.getD i.toNat RC.steps.zero).behind.l = (l.getD i.toNat RC.steps.zero).behind.l))
            (.ite (small (l.getD i.toNat RC.steps.zero).behind.l.length)
             (.ite (roomB (out.length + [DStep.mk (l.getD i.toNat RC.steps.zero).trans (l.getD i.toNat RC.steps.zero).object (l.getD i.toNat RC.steps.zero).at_ (DOp.mk (l.getD i.toNat RC.steps.zero).op.kind (l.getD i.toNat RC.steps.zero).op.a (l.getD i.toNat RC.steps.zero).op.b (DRet.mk (l.getD i.toNat RC.steps.zero).op.ret.kind (l.getD i.toNat RC.steps.zero).op.ret.n)) (DState.mk (l.getD i.toNat RC.steps.zero).ahead.type (l.getD i.toNat RC.steps.zero).ahead.n (l.getD i.toNat RC.steps.zero).ahead.l) (DState.mk (l.getD i.toNat RC.steps.zero).behind.type (l.getD i.toNat RC.steps.zero).behind.n (l.getD i.toNat RC.steps.zero).behind.l)].length) (144 : Nat))
              (rounds Tryz.prog clyE [] 30 abId 4 none abSk k [.i (o), .l .steps (l), .i (n), .i (IntKind.i64.wrap (i + (1 : Int))), .l .steps (out ++ [DStep.mk (l.getD i.toNat RC.steps.zero).trans (l.getD i.toNat RC.steps.zero).object (l.getD i.toNat RC.steps.zero).at_ (DOp.mk (l.getD i.toNat RC.steps.zero).op.kind (l.getD i.toNat RC.steps.zero).op.a (l.getD i.toNat RC.steps.zero).op.b (DRet.mk (l.getD i.toNat RC.steps.zero).op.ret.kind (l.getD i.toNat RC.steps.zero).op.ret.n)) (DState.mk (l.getD i.toNat RC.steps.zero).ahead.type (l.getD i.toNat RC.steps.zero).ahead.n (l.getD i.toNat RC.steps.zero).ahead.l) (DState.mk (l.getD i.toNat RC.steps.zero).behind.type (l.getD i.toNat RC.steps.zero).behind.n (l.getD i.toNat RC.steps.zero).behind.l)])])
              (.fail))
             (.fail))
            .fail)
           .fail)
          .fail)
         (.fail))
        (rounds Tryz.prog clyE [] 30 abId 4 none abSk k [.i (o), .l .steps (l), .i (n), .i (IntKind.i64.wrap (i + (1 : Int))), .l .steps (out)]))
       (.fail))
      (outAt (.exit 0) abOut0 [.l .steps (out)])) := by kernel_rfl
/- List (RC.den .steps), Bool -/
def lgOut0 : NSt := ⟨[.pl .steps [], .junk, .bool false, .junk, .junk, .junk, .junk, .junk, .junk, .junk, .junk, .junk, .junk, .junk, .junk, .junk, .junk, .junk, .junk, .junk, .junk, .junk, .junk, .junk, .junk, .junk, .junk, .junk, .junk, .junk, .junk, .junk, .junk, .junk, .junk], [], [], 2⟩
set_option maxRecDepth 100000 in
theorem lg_round (k : Nat) (l : List DStep) (b : Bool) (i : Int) : ((rounds Tryz.prog [] [] 30 lgId 2 none lgSk (k + 1) [.l .steps l, .b b, .i i]).cut
    (.ite (.yes (.ite (.ite (.ite (.yes (.yes (.yes (.yes (.yes (.yes (.yes (.yes (.yes (.all)))))))))) (.no (.no (.yes (.no (.no (.no (.no (.no (.ite (.all) (.all))))))))))) (.all)) (.all))) (.no (.no (.no (.all)))))).ev = T.ev (
     .ite (decide (i < (↑l.length : Int)))
      (.ite (decide (i < (61 : Int)))
       (.ite (inRange i l.length)
        (.ite (decide ((↑(l.getD i.toNat RC.steps.zero).ahead.l.length : Int) > (60 : Int)))
         (outAt .ret lgOut0 [.l .steps (l), .b true])
         (.ite (inRange i l.length)
          (.ite (decide ((↑(l.getD i.toNat RC.steps.zero).behind.l.length : Int) > (60 : Int)))
           (outAt .ret lgOut0 [.l .steps (l), .b true])
           (rounds Tryz.prog [] [] 30 lgId 2 none lgSk k [.l .steps (l), .b (b), .i (IntKind.i64.wrap (i + (1 : Int)))]))
          .fail))
        (.fail))
       (outAt (.exit 0) lgOut0 [.l .steps (l), .b (b)]))
      (outAt (.exit 0) lgOut0 [.l .steps (l), .b (b)])) := by kernel_rfl
set_option maxRecDepth 100000 in
theorem sameStep_tree (t o a k x y rk rn : Int) (t1 n1 : Int) (l1 : List Int) (t2 n2 : Int) (l2 : List Int) (t' o' a' k' x' y' rk' rn' : Int) (t3 n3 : Int) (l3 : List Int) (t4 n4 : Int) (l4 : List Int) : (((tden Tryz.prog kitE [] 30).call 0 38 [.agg #[.int .i64 t, .int .i64 o, .int .i64 a, .int .i64 k, .int .i64 x, .int .i64 y, .int .i64 rk, .int .i64 rn, .int .i64 t1, .int .i64 n1, .pl .ints l1, .int .i64 t2, .int .i64 n2, .pl .ints l2], .agg #[.int .i64 t', .int .i64 o', .int .i64 a', .int .i64 k', .int .i64 x', .int .i64 y', .int .i64 rk', .int .i64 rn', .int .i64 t3, .int .i64 n3, .pl .ints l3, .int .i64 t4, .int .i64 n4, .pl .ints l4]] ⟨.nil, 0⟩).pure.cut
    (.ite (.yes (.yes (.yes (.yes (.ite (.yes (.yes (.yes (.yes (.ite (.yes (.yes (.yes (.yes (.ite (.yes (.yes (.yes (.yes (.ite (.ite (.yes (.yes (.yes (.yes (.ite (.all) (.all)))))) (.no (.no (.no (.no (.no (.all))))))) (.all)))))) (.no (.no (.no (.no (.no (.no (.no (.no (.no (.no (.no (.all))))))))))))))))) (.no (.no (.no (.no (.no (.no (.no (.no (.no (.no (.no (.no (.no (.no (.no (.no (.no (.all))))))))))))))))))))))) (.no (.no (.no (.no (.no (.no (.no (.no (.no (.no (.no (.no (.no (.no (.no (.no (.no (.no (.no (.no (.no (.no (.no (.all))))))))))))))))))))))))))))) (.no (.no (.no (.no (.no (.no (.no (.no (.no (.no (.no (.no (.no (.no (.no (.no (.no (.no (.no (.no (.no (.no (.no (.no (.no (.no (.no (.no (.no (.all)))))))))))))))))))))))))))))))).ev = T.ev (α := CV) (
     .ite (t == t')
      (.ite (o == o')
       (.ite (a == a')
        (.ite (k == k' && (x == x' && (y == y' && (rk == rk' && (rn == rn' && true) && true))))
         (.ite (small l1.length)
          (.ite (t1 == t3 && n1 == n3 && l1 == l3)
           (.ite (small l2.length)
            (.ret (.bool (t2 == t4 && n2 == n4 && l2 == l4)))
            (.fail))
           (.ret (.bool false)))
          (.fail))
         (.ret (.bool false)))
        (.ret (.bool false)))
       (.ret (.bool false)))
      (.ret (.bool false))) := by kernel_rfl

/- AbtC -/
def aboutL (l : List DStep) (o : Int) : List DStep := l.filter fun s => s.object == o
def smallS (s : DStep) : Bool := small s.ahead.l.length && small s.behind.l.length
def smallSteps (l : List DStep) : Bool := small l.length && l.all smallS
def lngS (s : DStep) : Bool := decide ((s.ahead.l.length : Int) > 60) || decide ((s.behind.l.length : Int) > 60)

theorem ab_rounds (l : List DStep) (hs : l.length ≤ 1000000000) (hi : ∀ s ∈ l, smallS s = true) (o : Int) (q : CEx × NSt) : ∀ (d i : Nat) (out : List DStep), i + d = l.length → out.length ≤ i →
    (outAt (.exit 0) abOut0 [.l .steps (out ++ aboutL (l.drop i) o)]).ev = some q →
    ∃ k, (rounds Tryz.prog clyE [] 30 abId 4 none abSk k [.i o, .l .steps l, .i l.length, .i i, .l .steps out]).ev = some q
  | 0, i, out, h, ho, hq => by
    refine ⟨1, cut_ev _ _ ((ab_round 0 o l l.length i out).trans ?_)⟩
    rw [List.drop_eq_nil_of_le (by omega)] at hq
    simp only [aboutL, List.filter_nil, List.append_nil] at hq
    rw [T.ev_ite, show decide ((i : Int) < ↑l.length) = false by simp; omega]
    exact hq
  | d + 1, i, out, h, ho, hq => by
    have hlt : i < l.length := by omega
    have hd : l.drop i = l.getD i RC.steps.zero :: l.drop (i + 1) := by
      rw [List.drop_eq_getElem_cons hlt]; simp [List.getD, hlt]
    have hmem : l.getD i RC.steps.zero ∈ l := by simp [List.getD, hlt]
    have hsm := hi _ hmem
    simp only [smallS, Bool.and_eq_true] at hsm
    have h1 : decide ((i : Int) < ↑l.length) = true := by rw [decide_eq_true_eq]; omega
    have h2 : inRange (i : Int) l.length = true := by rw [inRange_iff]; omega
    have wi : IntKind.i64.wrap ((i : Int) + 1) = ((i + 1 : Nat) : Int) := by rw [wrap64 (by omega) (by omega)]; omega
    rw [hd] at hq
    cases he : ((l.getD i RC.steps.zero).object == o) with
    | false =>
      have hf : aboutL (l.getD i RC.steps.zero :: l.drop (i + 1)) o = aboutL (l.drop (i + 1)) o := by simp only [aboutL, List.filter_cons, he, Bool.false_eq_true, if_false]
      rw [hf] at hq
      obtain ⟨k, ih⟩ := ab_rounds l hs hi o q d (i + 1) out (by omega) (by omega) hq
      refine ⟨k + 1, cut_ev _ _ ((ab_round k o l l.length i out).trans ?_)⟩
      simp only [T.ev_ite, h1, h2, he, Int.toNat_natCast, if_true, Bool.false_eq_true, if_false, wi]
      exact ih
    | true =>
      have hf : aboutL (l.getD i RC.steps.zero :: l.drop (i + 1)) o = l.getD i RC.steps.zero :: aboutL (l.drop (i + 1)) o := by simp only [aboutL, List.filter_cons, he, if_true]
      rw [hf] at hq
      obtain ⟨k, ih⟩ := ab_rounds l hs hi o q d (i + 1) (out ++ [l.getD i RC.steps.zero]) (by omega) (by simp; omega) (by rw [List.append_assoc]; exact hq)
      refine ⟨k + 1, cut_ev _ _ ((ab_round k o l l.length i out).trans ?_)⟩
      have hb : ∀ a : DStep, roomB (out.length + [a].length) 144 = true := fun a => roomB_small (by rw [small_iff]; simp; omega) (by decide)
      simp only [T.ev_ite, h1, h2, he, hb, hsm.1, hsm.2, eq_self, decide_true, Int.toNat_natCast, if_true, wi]
      exact ih

theorem lg_rounds (l : List DStep) (b : Bool) (q : CEx × NSt) : ∀ (d i : Nat), i + d = min l.length 61 →
    (T.ite (((l.drop i).take d).any lngS) (outAt .ret lgOut0 [.l .steps l, .b true]) (outAt (.exit 0) lgOut0 [.l .steps l, .b b])).ev = some q →
    ∃ k, (rounds Tryz.prog [] [] 30 lgId 2 none lgSk k [.l .steps l, .b b, .i i]).ev = some q
  | 0, i, h, hq => by
    refine ⟨1, cut_ev _ _ ((lg_round 0 l b i).trans ?_)⟩
    simp only [List.take_zero, List.any_nil, T.ev_ite, Bool.false_eq_true, if_false] at hq
    simp only [T.ev_ite]
    by_cases h1 : (i : Int) < ↑l.length
    · have h2 : ¬ ((i : Int) < 61) := by omega
      simp only [h1, h2, decide_true, decide_false, if_true, Bool.false_eq_true, if_false]; exact hq
    · simp only [h1, decide_false, Bool.false_eq_true, if_false]; exact hq
  | d + 1, i, h, hq => by
    have hlt : i < l.length := by omega
    have hd : l.drop i = l.getD i RC.steps.zero :: l.drop (i + 1) := by
      rw [List.drop_eq_getElem_cons hlt]; simp [List.getD, hlt]
    have h1 : decide ((i : Int) < ↑l.length) = true := by rw [decide_eq_true_eq]; omega
    have h2 : decide ((i : Int) < 61) = true := by rw [decide_eq_true_eq]; omega
    have h3 : inRange (i : Int) l.length = true := by rw [inRange_iff]; omega
    have wi : IntKind.i64.wrap ((i : Int) + 1) = ((i + 1 : Nat) : Int) := by rw [wrap64 (by omega) (by omega)]; omega
    rw [hd, List.take_succ_cons, List.any_cons] at hq
    cases ha : decide (((l.getD i RC.steps.zero).ahead.l.length : Int) > 60) with
    | true =>
      refine ⟨1, cut_ev _ _ ((lg_round 0 l b i).trans ?_)⟩
      simp only [T.ev_ite, h1, h2, h3, ha, Int.toNat_natCast, if_true]
      simpa only [lngS, ha, Bool.true_or, T.ev_ite, if_true] using hq
    | false =>
      cases hb : decide (((l.getD i RC.steps.zero).behind.l.length : Int) > 60) with
      | true =>
        refine ⟨1, cut_ev _ _ ((lg_round 0 l b i).trans ?_)⟩
        simp only [T.ev_ite, h1, h2, h3, ha, hb, Int.toNat_natCast, if_true, Bool.false_eq_true, if_false]
        simpa only [lngS, ha, hb, Bool.true_or, Bool.or_true, T.ev_ite, if_true] using hq
      | false =>
        simp only [lngS, ha, hb, Bool.false_or] at hq
        obtain ⟨k, ih⟩ := lg_rounds l b q d (i + 1) (by omega) hq
        refine ⟨k + 1, cut_ev _ _ ((lg_round k l b i).trans ?_)⟩
        simp only [T.ev_ite, h1, h2, h3, ha, hb, Int.toNat_natCast, if_true, Bool.false_eq_true, if_false, wi]
        exact ih

def abG : List Leaf → T (CEx × NSt)
  | [.i o, .l .steps l, .i n, .i i, .l .steps []] => T.when (n == l.length && i == 0 && smallSteps l) (outAt (.exit 0) abOut0 [.l .steps (aboutL l o)])
  | _ => .fail
def lgG : List Leaf → T (CEx × NSt)
  | [.l .steps l, .b b, .i i] => T.when (i == 0) (.ite ((l.take 61).any lngS) (outAt .ret lgOut0 [.l .steps l, .b true]) (outAt (.exit 0) lgOut0 [.l .steps l, .b b]))
  | _ => .fail
theorem ab_shape : ShapeOk Tryz.prog clyE [] abId ⟨4, none, abSk, abG⟩ := by
  refine shapeOk_mk fun ls r h => ?_
  unfold abG at h
  split at h
  · rename_i o l n i
    obtain ⟨hc, h1⟩ := ev_when h
    simp only [Bool.and_eq_true, beq_iff_eq, smallSteps, small_iff, List.all_eq_true] at hc
    obtain ⟨⟨rfl, rfl⟩, hs, hi⟩ := hc
    obtain ⟨k, hk⟩ := ab_rounds l hs hi o r l.length 0 [] (by omega) (by simp) h1
    exact ⟨30, k, hk⟩
  · exact (ev_fail h).elim
theorem lg_shape : ShapeOk Tryz.prog [] [] lgId ⟨2, none, lgSk, lgG⟩ := by
  refine shapeOk_mk fun ls r h => ?_
  unfold lgG at h
  split at h
  · rename_i l b i
    obtain ⟨hc, h1⟩ := ev_when h
    simp only [beq_iff_eq] at hc
    subst hc
    have he : (l.drop 0).take (min l.length 61) = l.take 61 := by
      rw [List.drop_zero, Nat.min_comm, ← List.take_take, List.take_length]
    obtain ⟨k, hk⟩ := lg_rounds l b r (min l.length 61) 0 (by omega) (by rw [he]; exact h1)
    exact ⟨30, k, hk⟩
  · exact (ev_fail h).elim
def abL : List (Nat × List Nat × LoopFn) := [(23, [0, 1, 0, 1], loopExt abId [⟨4, none, abSk, abG⟩]), (19, [0, 1, 0, 1], loopExt lgId [⟨2, none, lgSk, lgG⟩])]
theorem abL_ok (N : Nat) : LoopsOk Tryz.prog N abL :=
  loopsOk_cons (loopExt_ok plainN mixedN clyE_ok (fun _ => loopsOk_nil) (all1 ab_shape all0) N)
    (loopsOk_cons (loopExt_ok plainN mixedN (fun _ => extsOk_nil) (fun _ => loopsOk_nil) (all1 lg_shape all0) N) loopsOk_nil)

def sgStep : Sg := .agg [.any, .any, .any, .any, .any, .any, .any, .any, .any, .any, .l .ints, .any, .any, .l .ints]
def stepOf : CV → Option DStep
  | .agg ⟨[.int .i64 t, .int .i64 o, .int .i64 a, .int .i64 k, .int .i64 x, .int .i64 y, .int .i64 rk, .int .i64 rn, .int .i64 t1, .int .i64 n1, .pl .ints l1, .int .i64 t2, .int .i64 n2, .pl .ints l2]⟩ =>
    some ⟨t, o, a, ⟨k, x, y, ⟨rk, rn⟩⟩, ⟨t1, n1, l1⟩, ⟨t2, n2, l2⟩⟩
  | _ => none
theorem stepOf_inv {v : CV} {s : DStep} (h : stepOf v = some s) : v = .agg ⟨RC.cells .steps s⟩ := by
  unfold stepOf at h
  split at h
  · cases h; rfl
  · cases h
def sameStepG : List CV → T CV
  | [v, u] => match stepOf v, stepOf u with
    | some s, some s' => T.when (smallS s) (.ret (.bool (decide (s = s'))))
    | _, _ => .fail
  | _ => .fail
theorem sameStep_fn : PureFn Tryz.prog 38 (sigExt [sgStep, sgStep] sameStepG) :=
  pureFn_mk (bodied_ex (by kernel_rfl)) fun args d h => by
    unfold sameStepG at h
    split at h
    · rename_i v u
      split at h
      rotate_left
      · exact (ev_fail h).elim
      rename_i s s' hs hs'
      obtain ⟨hc, h1⟩ := ev_when h
      cases ev_ret h1
      rw [stepOf_inv hs, stepOf_inv hs']
      obtain ⟨t, o, a, ⟨k, x, y, ⟨rk, rn⟩⟩, ⟨t1, n1, l1⟩, ⟨t2, n2, l2⟩⟩ := s
      obtain ⟨t', o', a', ⟨k', x', y', ⟨rk', rn'⟩⟩, ⟨t3, n3, l3⟩, ⟨t4, n4, l4⟩⟩ := s'
      simp only [smallS, Bool.and_eq_true] at hc
      refine pureAt0 plainN mixedN kitE_ok noL (k := 30) ((sameStep_tree t o a k x y rk rn t1 n1 l1 t2 n2 l2 t' o' a' k' x' y' rk' rn' t3 n3 l3 t4 n4 l4).trans ?_) rfl
      simp only [T.ev_ite, T.ev_ret, T.ev_fail, hc.1, hc.2, if_true]
      simp only [DStep.mk.injEq, DOp.mk.injEq, DRet.mk.injEq, DState.mk.injEq]
      by_cases e1 : t = t'
      · by_cases e2 : o = o'
        · by_cases e3 : a = a'
          · by_cases e4 : k = k' ∧ x = x' ∧ y = y' ∧ rk = rk' ∧ rn = rn'
            · by_cases e5 : t1 = t3 ∧ n1 = n3 ∧ l1 = l3
              · simp [e1, e2, e3, e4, e5, Bool.and_assoc, Bool.beq_eq_decide_eq]
              · have f5 : (t1 == t3 && n1 == n3 && l1 == l3) = false := by
                  rw [Bool.eq_false_iff]; intro hh; apply e5; simpa [and_assoc] using hh
                simp [e1, e2, e3, e4, f5]
                intro _ _ _; simp_all
            · have f4 : (k == k' && (x == x' && (y == y' && (rk == rk' && (rn == rn' && true) && true)))) = false := by
                rw [Bool.eq_false_iff]; intro hh; apply e4; simpa [and_assoc] using hh
              simp only [e1, e2, e3, f4, beq_self_eq_true, if_true, Bool.false_eq_true, if_false, true_and, eq_self]
              congr 2
              symm
              rw [decide_eq_false_iff_not]
              exact fun hh => e4 hh.1
          · simp [e1, e2, e3]
        · simp [e1, e2]
      · simp [e1]
    · exact (ev_fail h).elim

/- AbtD -/
set_option maxRecDepth 100000 in
theorem about_tree (l : List DStep) (o : Int) : (((tden Tryz.prog clyE abL 30).call 0 23 [.pl .steps l, .int .i64 o] ⟨.nil, 0⟩).pure.cut
    (.ite (.all) (.all))).ev = T.ev (α := CV) (
     .ite ((↑l.length : Int) == (↑l.length : Int) && (0 : Int) == (0 : Int) && smallSteps l)
      (.ret (.pl .steps (aboutL l o)))
      (.fail)) := by kernel_rfl
set_option maxRecDepth 100000 in
theorem long_tree (l : List DStep) : (((tden Tryz.prog [] abL 30).call 0 19 [.pl .steps l] ⟨.nil, 0⟩).pure.cut
    (.yes (.ite (.all) (.all)))).ev = T.ev (α := CV) (
     .ite ((List.take (61 : Nat) l).any lngS)
      (.ret (.bool true))
      (.ret (.bool (decide ((↑l.length : Int) > (60 : Int)))))) := by kernel_rfl

/- AbtE -/
def aboutG : List CV → T CV
  | [.pl .steps l, .int .i64 o] => T.when (smallSteps l) (.ret (.pl .steps (aboutL l o)))
  | _ => .fail
def longB (l : List DStep) : Bool := (l.take 61).any lngS || decide ((l.length : Int) > 60)
def longG : List CV → T CV
  | [.pl .steps l] => .ret (.bool (longB l))
  | _ => .fail
theorem about_fn : PureFn Tryz.prog 23 (sigExt [.l .steps] aboutG) :=
  pureFn_mk (bodied_ex (by kernel_rfl)) fun args d h => by
    unfold aboutG at h
    split at h
    · rename_i l o
      obtain ⟨hc, h1⟩ := ev_when h
      cases ev_ret h1
      refine pureAt0 plainN mixedN clyE_ok abL_ok (k := 30) ((about_tree l o).trans ?_) rfl
      simp only [T.ev_ite, T.ev_ret, hc, beq_self_eq_true, Bool.and_self, if_true]
    · exact (ev_fail h).elim
theorem long_fn : PureFn Tryz.prog 19 (sigExt [.l .steps] longG) :=
  pureFn_mk (bodied_ex (by kernel_rfl)) fun args d h => by
    unfold longG at h
    split at h
    · rename_i l
      cases ev_ret h
      refine pureAt0 plainN mixedN noE abL_ok (k := 30) ((long_tree l).trans ?_) rfl
      simp only [T.ev_ite, T.ev_ret, longB]
      cases (List.take 61 l).any lngS <;> simp
    · exact (ev_fail h).elim
def inE : List (Nat × ExtFn) := [(38, pureExt (sigExt [sgStep, sgStep] sameStepG))]
theorem inE_ok (N : Nat) : ExtsOk Tryz.prog N inE := extsOk_cons (extOk_pure sameStep_fn) extsOk_nil
def abtE : List (Nat × ExtFn) := [(19, pureExt (sigExt [.l .steps] longG)), (23, pureExt (sigExt [.l .steps] aboutG))] ++ inE
theorem abtE_ok (N : Nat) : ExtsOk Tryz.prog N abtE :=
  exts_append (E := [(19, pureExt (sigExt [.l .steps] longG)), (23, pureExt (sigExt [.l .steps] aboutG))]) (extsOk_cons (extOk_pure long_fn) (extsOk_cons (extOk_pure about_fn) extsOk_nil)) (inE_ok N)
def lawA : List (Nat × ExtFn) := (5, pureExt trueG) :: abtE

/- AbtF -/
/- base 15 round none: List (RC.den .steps), Bool, Bool, Int, Int, List (RC.den .steps), Int, Int: [.l .steps (l), .b false, .b true, .i (nat_lit 0), .i (nat_lit 0), .l .steps (aboutL l (0 : Int)), .i (nat_lit 0), .i (nat_lit 0)] -/
def xiSk : NSt := ⟨[.pl .steps [], .junk, .bool false, .bool false, .int .i64 (0), .int .i64 (0), .pl .steps [], .int .i64 (0), .int .i64 (0), .junk, .junk, .junk, .junk, .junk, .junk, .junk, .junk, .junk, .junk, .junk, .junk, .junk, .junk, .junk, .junk, .junk, .junk, .junk, .junk, .junk, .junk, .junk, .junk, .junk, .junk, .junk, .junk, .junk, .junk, .junk, .junk, .junk, .junk, .junk, .junk, .junk, .junk, .junk, .junk, .junk, .junk, .junk, .junk, .junk, .junk, .junk, .junk, .junk, .junk, .junk, .junk, .junk, .junk, .junk, .junk, .junk, .junk, .junk, .junk, .junk, .junk, .junk, .junk, .junk, .junk, .junk, .junk, .junk, .junk, .junk, .junk, .junk, .junk, .junk, .junk, .junk, .junk, .junk], [], [], 15⟩
/- base 7 round none: List (RC.den .steps), Bool, Bool, Int, Int: [.l .steps (l), .b false, .b true, .i (nat_lit 0), .i (nat_lit 0)] -/
def xoSk : NSt := ⟨[.pl .steps [], .junk, .bool false, .bool false, .int .i64 (0), .int .i64 (0), .junk, .junk, .junk, .junk, .junk, .junk, .junk, .junk, .junk, .junk, .junk, .junk, .junk, .junk, .junk, .junk, .junk, .junk, .junk, .junk, .junk, .junk, .junk, .junk, .junk, .junk, .junk, .junk, .junk, .junk, .junk, .junk, .junk, .junk, .junk, .junk, .junk, .junk, .junk, .junk, .junk, .junk, .junk, .junk, .junk, .junk, .junk, .junk, .junk, .junk, .junk, .junk, .junk, .junk, .junk, .junk, .junk, .junk, .junk, .junk, .junk, .junk, .junk, .junk, .junk, .junk, .junk, .junk, .junk, .junk, .junk, .junk, .junk, .junk, .junk, .junk, .junk, .junk, .junk, .junk, .junk, .junk], [], [], 7⟩
def xiId : LoopId := ⟨8, [0, 1, 0, 1, 1, 0, 0, 1, 0, 0, 1, 0, 1, 1, 1, 1], []⟩
def xcId : LoopId := ⟨8, [0, 1, 0, 1, 1, 1, 1, 1], []⟩

/- AbtG -/
/- List (RC.den .steps), Bool, Bool, Int, Int, List (RC.den .steps), Int -/
def xiOut0 : NSt := ⟨[.pl .steps [], .junk, .bool false, .bool false, .int .i64 (0), .int .i64 (0), .pl .steps [], .int .i64 (0), .junk, .junk, .junk, .junk, .junk, .junk, .junk, .junk, .junk, .junk, .junk, .junk, .junk, .junk, .junk, .junk, .junk, .junk, .junk, .junk, .junk, .junk, .junk, .junk, .junk, .junk, .junk, .junk, .junk, .junk, .junk, .junk, .junk, .junk, .junk, .junk, .junk, .junk, .junk, .junk, .junk, .junk, .junk, .junk, .junk, .junk, .junk, .junk, .junk, .junk, .junk, .junk, .junk, .junk, .junk, .junk, .junk, .junk, .junk, .junk, .junk, .junk, .junk, .junk, .junk, .junk, .junk, .junk, .junk, .junk, .junk, .junk, .junk, .junk, .junk, .junk, .junk, .junk, .junk, .junk], [], [], 15⟩
set_option maxRecDepth 100000 in
theorem xi_round (k : Nat) (l : List DStep) (b ok : Bool) (all o : Int) (m : List DStep) (at_ i : Int) : ((rounds Tryz.prog inE [] 30 xiId 15 none xiSk (k + 1) [.l .steps l, .b b, .b ok, .i all, .i o, .l .steps m, .i at_, .i i]).cut
    (.ite (.ite (.ite (.all) (.ite (.yes (.yes (.yes (.yes (.yes (.yes (.yes (.yes (.yes (.yes (.yes (.all)))))))))))) (.no (.no (.ite (.no (.no (.no (.no (.yes (.no (.no (.ite (.no (.ite (.all) (.all))) (.all))))))))) (.all)))))) (.all)) (.all))).ev = T.ev (
     .ite (decide (i < (↑l.length : Int)))
      (.ite (inRange i l.length)
       (.ite ((l.getD i.toNat RC.steps.zero).object != o)
        (rounds Tryz.prog inE [] 30 xiId 15 none xiSk k [.l .steps (l), .b (b), .b (ok), .i (all), .i (o), .l .steps (m), .i (at_), .i (IntKind.i64.wrap (i + (1 : Int)))])
        (.ite (decide (at_ ≥ (↑m.length : Int)))
         (outAt .ret xiOut0 [.l .steps (l), .b false, .b (ok), .i (all), .i (o), .l .steps (m), .i (at_)])
         (.ite (inRange at_ m.length)
          (.ite (inRange i l.length)
           (.ite (smallS (DStep.mk (m.getD at_.toNat RC.steps.zero).trans (m.getD at_.toNat RC.steps.zero).object (m.getD at_.toNat RC.steps.zero).at_ (DOp.mk (m.getD at_.toNat RC.steps.zero).op.kind (m.getD at_.toNat RC.steps.zero).op.a (m.getD at_.toNat RC.steps.zero).op.b (DRet.mk (m.getD at_.toNat RC.steps.zero).op.ret.kind (m.getD at_.toNat RC.steps.zero).op.ret.n)) (DState.mk (m.getD at_.toNat RC.steps.zero).ahead.type (m.getD at_.toNat RC.steps.zero).ahead.n (m.getD at_.toNat RC.steps.zero).ahead.l) (DState.mk (m.getD at_.toNat RC.steps.zero).behind.type (m.getD at_.toNat RC.steps.zero).behind.n (m.getD at_.toNat RC.steps.zero).behind.l)))
            (.ite (!decide (DStep.mk (m.getD at_.toNat RC.steps.zero).trans (m.getD at_.toNat RC.steps.zero).object (m.getD at_.toNat RC.steps.zero).at_ (DOp.mk (m.getD at_.toNat RC.steps.zero).op.kind (m.getD at_.toNat RC.steps.zero).op.a (m.getD at_.toNat RC.steps.zero).op.b (DRet.mk (m.getD at_.toNat RC.steps.zero).op.ret.kind (m.getD at_.toNat RC.steps.zero).op.ret.n)) (DState.mk (m.getD at_.toNat RC.steps.zero).ahead.type (m.getD at_.toNat RC.steps.zero).ahead.n (m.getD at_.toNat RC.steps.zero).ahead.l) (DState.mk (m.getD at_.toNat RC.steps.zero).behind.type (m.getD at_.toNat RC.steps.zero).behind.n (m.getD at_.toNat RC.steps.zero).behind.l) = DStep.mk (l.getD i.toNat RC.steps.zero).trans (l.getD i.toNat RC.steps.zero).object (l.getD i.toNat RC.steps.zero).at_ (DOp.mk (l.getD i.toNat RC.steps.zero).op.kind (l.getD i.toNat RC.steps.zero).op.a (l.getD i.toNat RC.steps.zero).op.b (DRet.mk (l.getD i.toNat RC.steps.zero).op.ret.kind (l.getD i.toNat RC.steps.zero).op.ret.n)) (DState.mk (l.getD i.toNat RC.steps.zero).ahead.type (l.getD i.toNat RC.steps.zero).ahead.n (l.getD i.toNat RC.steps.zero).ahead.l) (DState.mk (l.getD i.toNat RC.steps.zero).behind.type (l.getD i.toNat RC.steps.zero).behind.n (l.getD i.toNat RC.steps.zero).behind.l)))
             (outAt .ret xiOut0 [.l .steps (l), .b false, .b (ok), .i (all), .i (o), .l .steps (m), .i (at_)])
             (rounds Tryz.prog inE [] 30 xiId 15 none xiSk k [.l .steps (l), .b (b), .b (ok), .i (all), .i (o), .l .steps (m), .i (IntKind.i64.wrap (at_ + (1 : Int))), .i (IntKind.i64.wrap (i + (1 : Int)))]))
            (.fail))
           .fail)
          (.fail))))
       (.fail))
      (outAt (.exit 2) xiOut0 [.l .steps (l), .b (b), .b (ok), .i (all), .i (o), .l .steps (m), .i (at_)])) := by kernel_rfl

/- AbtH -/
theorem xi_rounds (l : List DStep) (hs : l.length ≤ 1000000000) (hi : ∀ s ∈ l, smallS s = true) (b ok : Bool) (all o : Int) (m : List DStep) (hml : m.length ≤ 1000000000) (q : CEx × NSt) : ∀ (d i a : Nat), i + d = l.length → a ≤ m.length → m.drop a = aboutL (l.drop i) o →
    (outAt (.exit 2) xiOut0 [.l .steps l, .b b, .b ok, .i all, .i o, .l .steps m, .i m.length]).ev = some q →
    ∃ k, (rounds Tryz.prog inE [] 30 xiId 15 none xiSk k [.l .steps l, .b b, .b ok, .i all, .i o, .l .steps m, .i a, .i i]).ev = some q
  | 0, i, a, h, ha, hm, hq => by
    refine ⟨1, cut_ev _ _ ((xi_round 0 l b ok all o m a i).trans ?_)⟩
    rw [show l.drop i = [] from List.drop_eq_nil_of_le (by omega)] at hm
    have : m.length ≤ a := by simpa [aboutL] using hm
    have e : a = m.length := by omega
    rw [T.ev_ite, show decide ((i : Int) < ↑l.length) = false by simp; omega]
    rw [e]
    exact hq
  | d + 1, i, a, h, ha, hm, hq => by
    have hlt : i < l.length := by omega
    have hd := getD_cons hlt RC.steps.zero
    have hmem : l.getD i RC.steps.zero ∈ l := by simp [List.getD, hlt]
    have hsm := hi _ hmem
    have h1 : decide ((i : Int) < ↑l.length) = true := by rw [decide_eq_true_eq]; omega
    have h2 : inRange (i : Int) l.length = true := by rw [inRange_iff]; omega
    have wi : IntKind.i64.wrap ((i : Int) + 1) = ((i + 1 : Nat) : Int) := by rw [wrap64 (by omega) (by omega)]; omega
    rw [hd] at hm
    cases he : ((l.getD i RC.steps.zero).object == o) with
    | false =>
      have hf : aboutL (l.getD i RC.steps.zero :: l.drop (i + 1)) o = aboutL (l.drop (i + 1)) o := by simp only [aboutL, List.filter_cons, he, Bool.false_eq_true, if_false]
      rw [hf] at hm
      obtain ⟨k, ih⟩ := xi_rounds l hs hi b ok all o m hml q d (i + 1) a (by omega) ha hm hq
      refine ⟨k + 1, cut_ev _ _ ((xi_round k l b ok all o m a i).trans ?_)⟩
      have he' : ((l.getD i RC.steps.zero).object != o) = true := by rw [bne, he]; rfl
      simp only [T.ev_ite, h1, h2, he', Int.toNat_natCast, if_true, wi]
      exact ih
    | true =>
      have hf : aboutL (l.getD i RC.steps.zero :: l.drop (i + 1)) o = l.getD i RC.steps.zero :: aboutL (l.drop (i + 1)) o := by simp only [aboutL, List.filter_cons, he, if_true]
      rw [hf] at hm
      have hal : a < m.length := by
        by_cases hh : a < m.length
        · exact hh
        · rw [List.drop_eq_nil_of_le (by omega)] at hm; cases hm
      rw [getD_cons hal RC.steps.zero] at hm
      obtain ⟨hg, hm⟩ := List.cons.inj hm
      obtain ⟨k, ih⟩ := xi_rounds l hs hi b ok all o m hml q d (i + 1) (a + 1) (by omega) (by omega) hm hq
      refine ⟨k + 1, cut_ev _ _ ((xi_round k l b ok all o m a i).trans ?_)⟩
      have he' : ((l.getD i RC.steps.zero).object != o) = false := by rw [bne, he]; rfl
      have h3 : decide ((a : Int) ≥ ↑m.length) = false := by rw [decide_eq_false_iff_not]; omega
      have h4 : inRange (a : Int) m.length = true := by rw [inRange_iff]; omega
      have wa : IntKind.i64.wrap ((a : Int) + 1) = ((a + 1 : Nat) : Int) := by rw [wrap64 (by omega) (by omega)]; omega
      simp only [T.ev_ite, h1, h2, h3, h4, he', Int.toNat_natCast, if_true, Bool.false_eq_true, if_false, wi, wa, hg]
      rw [if_pos hsm, if_neg (by simp)]
      exact ih

def xiG : List Leaf → T (CEx × NSt)
  | [.l .steps l, .b b, .b ok, .i all, .i o, .l .steps m, .i a, .i i] =>
    T.when (a == 0 && i == 0 && decide (m = aboutL l o) && smallSteps l) (outAt (.exit 2) xiOut0 [.l .steps l, .b b, .b ok, .i all, .i o, .l .steps m, .i m.length])
  | _ => .fail
theorem xi_shape : ShapeOk Tryz.prog inE [] xiId ⟨15, none, xiSk, xiG⟩ := by
  refine shapeOk_mk fun ls r h => ?_
  unfold xiG at h
  split at h
  · rename_i l b ok all o m a i
    obtain ⟨hc, h1⟩ := ev_when h
    simp only [Bool.and_eq_true, beq_iff_eq, smallSteps, small_iff, List.all_eq_true, decide_eq_true_eq] at hc
    obtain ⟨⟨⟨rfl, rfl⟩, hm⟩, hs, hi⟩ := hc
    have hml : m.length ≤ l.length := by rw [hm]; exact List.length_filter_le _ _
    obtain ⟨k, hk⟩ := xi_rounds l hs hi b ok all o m (by omega) r l.length 0 0 (by omega) (by omega) (by simpa using hm) h1
    exact ⟨30, k, hk⟩
  · exact (ev_fail h).elim
def xiL : List (Nat × List Nat × LoopFn) := [(8, [0, 1, 0, 1, 1, 0, 0, 1, 0, 0, 1, 0, 1, 1, 1, 1], loopExt xiId [⟨15, none, xiSk, xiG⟩])]
theorem xiL_ok (N : Nat) : LoopsOk Tryz.prog N xiL :=
  loopsOk_cons (loopExt_ok plainN mixedN inE_ok (fun _ => loopsOk_nil) (all1 xi_shape all0) N) loopsOk_nil
def xoId : LoopId := ⟨8, [0, 1, 0, 1, 1, 1, 1], []⟩

/- AbtI -/
/- List (RC.den .steps), Bool, Bool, Int -/
def xoOut0 : NSt := ⟨[.pl .steps [], .junk, .bool false, .bool false, .int .i64 (0), .junk, .junk, .junk, .junk, .junk, .junk, .junk, .junk, .junk, .junk, .junk, .junk, .junk, .junk, .junk, .junk, .junk, .junk, .junk, .junk, .junk, .junk, .junk, .junk, .junk, .junk, .junk, .junk, .junk, .junk, .junk, .junk, .junk, .junk, .junk, .junk, .junk, .junk, .junk, .junk, .junk, .junk, .junk, .junk, .junk, .junk, .junk, .junk, .junk, .junk, .junk, .junk, .junk, .junk, .junk, .junk, .junk, .junk, .junk, .junk, .junk, .junk, .junk, .junk, .junk, .junk, .junk, .junk, .junk, .junk, .junk, .junk, .junk, .junk, .junk, .junk, .junk, .junk, .junk, .junk, .junk, .junk, .junk], [], [], 7⟩
set_option maxRecDepth 100000 in
theorem xo_round (k : Nat) (l : List DStep) (b ok : Bool) (all o : Int) : (rounds Tryz.prog abtE xiL 30 xoId 7 none xoSk (k + 1) [.l .steps l, .b b, .b ok, .i all, .i o]).ev = T.ev (
     .ite (decide (o < (6 : Int)))
      (.ite (smallSteps l)
       (.ite ((0 : Int) == (0 : Int) && (0 : Int) == (0 : Int) && decide (aboutL l o = aboutL l o) && smallSteps l)
        (.ite ((↑(aboutL l o).length : Int) != (↑(aboutL l o).length : Int))
         (outAt .ret xoOut0 [.l .steps (l), .b false, .b (ok), .i (all)])
         (rounds Tryz.prog abtE xiL 30 xoId 7 none xoSk k [.l .steps (l), .b (b), .b (ok), .i (IntKind.i64.wrap (all + (↑(aboutL l o).length : Int))), .i (IntKind.i64.wrap (o + (1 : Int)))]))
        (.fail))
       (.fail))
      (outAt (.exit 0) xoOut0 [.l .steps (l), .b (b), .b (ok), .i (all)])) := by kernel_rfl

/- AbtJ -/
def sumA (l : List DStep) : Nat → Nat → Nat
  | _, 0 => 0
  | o, d + 1 => (aboutL l o).length + sumA l (o + 1) d
theorem xo_rounds (l : List DStep) (hs : smallSteps l = true) (b ok : Bool) (q : CEx × NSt) : ∀ (d o a : Nat), o + d = 6 → a ≤ o * l.length →
    (outAt (.exit 0) xoOut0 [.l .steps l, .b b, .b ok, .i ((a + sumA l o d : Nat) : Int)]).ev = some q →
    ∃ k, (rounds Tryz.prog abtE xiL 30 xoId 7 none xoSk k [.l .steps l, .b b, .b ok, .i a, .i o]).ev = some q
  | 0, o, a, h, ha, hq => by
    refine ⟨1, (xo_round 0 l b ok a o).trans ?_⟩
    rw [T.ev_ite, show decide ((o : Int) < 6) = false by simp; omega]
    exact hq
  | d + 1, o, a, h, ha, hq => by
    have h1 : decide ((o : Int) < 6) = true := by rw [decide_eq_true_eq]; omega
    have hle : (aboutL l o).length ≤ l.length := List.length_filter_le _ _
    have hl : l.length ≤ 1000000000 := by simp only [smallSteps, Bool.and_eq_true, small_iff] at hs; exact hs.1
    have ho : o * l.length ≤ 6 * l.length := Nat.mul_le_mul_right _ (by omega)
    have wo : IntKind.i64.wrap ((o : Int) + 1) = ((o + 1 : Nat) : Int) := by rw [wrap64 (by omega) (by omega)]; omega
    have wa : IntKind.i64.wrap ((a : Int) + ((aboutL l o).length : Int)) = ((a + (aboutL l o).length : Nat) : Int) := by rw [wrap64 (by omega) (by omega)]; omega
    obtain ⟨k, ih⟩ := xo_rounds l hs b ok q d (o + 1) (a + (aboutL l o).length) (by omega) (by rw [Nat.add_mul]; omega) (by rw [Nat.add_assoc]; exact hq)
    refine ⟨k + 1, (xo_round k l b ok a o).trans ?_⟩
    simp only [T.ev_ite, h1, hs, wo, wa, beq_self_eq_true, bne_self_eq_false, decide_true, Bool.and_self, if_true, Bool.false_eq_true, if_false]
    exact ih

def xoG : List Leaf → T (CEx × NSt)
  | [.l .steps l, .b b, .b ok, .i all, .i o] => T.when (all == 0 && o == 0 && smallSteps l) (outAt (.exit 0) xoOut0 [.l .steps l, .b b, .b ok, .i (sumA l 0 6)])
  | _ => .fail
theorem xo_shape : ShapeOk Tryz.prog abtE xiL xoId ⟨7, none, xoSk, xoG⟩ := by
  refine shapeOk_mk fun ls r h => ?_
  unfold xoG at h
  split at h
  · rename_i l b ok all o
    obtain ⟨hc, h1⟩ := ev_when h
    simp only [Bool.and_eq_true, beq_iff_eq] at hc
    obtain ⟨⟨rfl, rfl⟩, hs⟩ := hc
    obtain ⟨k, hk⟩ := xo_rounds l hs b ok r 6 0 0 (by omega) (by omega) (by rw [Nat.zero_add]; exact h1)
    exact ⟨30, k, hk⟩
  · exact (ev_fail h).elim
def xoL : List (Nat × List Nat × LoopFn) := [(8, [0, 1, 0, 1, 1, 1, 1], loopExt xoId [⟨7, none, xoSk, xoG⟩])]
theorem xoL_ok (N : Nat) : LoopsOk Tryz.prog N xoL :=
  loopsOk_cons (loopExt_ok plainN mixedN abtE_ok xiL_ok (all1 xo_shape all0) N) loopsOk_nil

/- AbtK -/
/- base 8 round none: List (RC.den .steps), Bool, Bool, Int, Int: [.l .steps (l), .b false, .b true, .i ((↑(sumA l (0 : Nat) (6 : Nat)) : Int)), .i (nat_lit 0)] -/
def xcSk : NSt := ⟨[.pl .steps [], .junk, .bool false, .bool false, .int .i64 (0), .junk, .junk, .junk, .junk, .int .i64 (0), .junk, .junk, .junk, .junk, .junk, .junk, .junk, .junk, .junk, .junk, .junk, .junk, .junk, .junk, .junk, .junk, .junk, .junk, .junk, .junk, .junk, .junk, .junk, .junk, .junk, .junk, .junk, .junk, .junk, .junk, .junk, .junk, .junk, .junk, .junk, .junk, .junk, .junk, .junk, .junk, .junk, .junk, .junk, .junk, .junk, .junk, .junk, .junk, .junk, .junk, .junk, .junk, .junk, .junk, .junk, .junk, .junk, .junk, .junk, .junk, .junk, .junk, .junk, .junk, .junk, .junk, .junk, .junk, .junk, .junk, .junk, .junk, .junk, .junk, .junk, .junk, .junk, .junk], [], [], 8⟩

/- AbtL -/
/- List (RC.den .steps), Bool, Bool, Int -/
def xcOut0 : NSt := ⟨[.pl .steps [], .junk, .bool false, .bool false, .int .i64 (0), .junk, .junk, .junk, .junk, .junk, .junk, .junk, .junk, .junk, .junk, .junk, .junk, .junk, .junk, .junk, .junk, .junk, .junk, .junk, .junk, .junk, .junk, .junk, .junk, .junk, .junk, .junk, .junk, .junk, .junk, .junk, .junk, .junk, .junk, .junk, .junk, .junk, .junk, .junk, .junk, .junk, .junk, .junk, .junk, .junk, .junk, .junk, .junk, .junk, .junk, .junk, .junk, .junk, .junk, .junk, .junk, .junk, .junk, .junk, .junk, .junk, .junk, .junk, .junk, .junk, .junk, .junk, .junk, .junk, .junk, .junk, .junk, .junk, .junk, .junk, .junk, .junk, .junk, .junk, .junk, .junk, .junk, .junk], [], [], 8⟩
set_option maxRecDepth 100000 in
theorem xc_round (k : Nat) (l : List DStep) (b ok : Bool) (all i : Int) : ((rounds Tryz.prog [] [] 30 xcId 8 none xcSk (k + 1) [.l .steps l, .b b, .b ok, .i all, .i i]).cut
    (.ite (.ite (.ite (.yes (.yes (.yes (.yes (.yes (.yes (.yes (.all)))))))) (.no (.no (.yes (.no (.no (.no (.ite (.all) (.all))))))))) (.all)) (.all))).ev = T.ev (
     .ite (decide (i < (↑l.length : Int)))
      (.ite (inRange i l.length)
       (.ite (decide ((l.getD i.toNat RC.steps.zero).object < (0 : Int)))
        (rounds Tryz.prog [] [] 30 xcId 8 none xcSk k [.l .steps (l), .b (b), .b (ok), .i (IntKind.i64.wrap (all + (1 : Int))), .i (IntKind.i64.wrap (i + (1 : Int)))])
        (.ite (inRange i l.length)
         (.ite (decide ((l.getD i.toNat RC.steps.zero).object > (5 : Int)))
          (rounds Tryz.prog [] [] 30 xcId 8 none xcSk k [.l .steps (l), .b (b), .b (ok), .i (IntKind.i64.wrap (all + (1 : Int))), .i (IntKind.i64.wrap (i + (1 : Int)))])
          (rounds Tryz.prog [] [] 30 xcId 8 none xcSk k [.l .steps (l), .b (b), .b (ok), .i (all), .i (IntKind.i64.wrap (i + (1 : Int)))]))
         .fail))
       (.fail))
      (outAt (.exit 4) xcOut0 [.l .steps (l), .b (b), .b (ok), .i (all)])) := by kernel_rfl

/- AbtM -/
def outS (s : DStep) : Bool := decide (s.object < 0) || decide (s.object > 5)
theorem sumA_le (l : List DStep) : ∀ (d o : Nat), sumA l o d ≤ d * l.length
  | 0, o => by simp [sumA]
  | d + 1, o => by
    have h1 := sumA_le l d (o + 1)
    have h2 : (aboutL l o).length ≤ l.length := List.length_filter_le _ _
    simp only [sumA, Nat.add_mul, Nat.one_mul]; omega
theorem about_cons (s : DStep) (l : List DStep) (o : Int) : (aboutL (s :: l) o).length = (if s.object = o then 1 else 0) + (aboutL l o).length := by
  simp only [aboutL, List.filter_cons]
  by_cases h : s.object = o
  · simp only [h, beq_self_eq_true, if_true, List.length_cons]; omega
  · simp only [h, beq_eq_false_iff_ne.2 h, if_false, Bool.false_eq_true]; omega
theorem count_all : ∀ (l : List DStep), sumA l 0 6 + (l.filter outS).length = l.length
  | [] => by simp [sumA, aboutL]
  | s :: l => by
    have ih := count_all l
    have hf : ((s :: l).filter outS).length = (if s.object < 0 ∨ s.object > 5 then 1 else 0) + (l.filter outS).length := by
      rw [List.filter_cons]
      by_cases h : s.object < 0 ∨ s.object > 5
      · have : outS s = true := by simpa [outS] using h
        simp only [this, h, if_true, List.length_cons]; omega
      · have : outS s = false := by rw [Bool.eq_false_iff]; intro hh; exact h (by simpa [outS] using hh)
        simp only [this, h, if_false, Bool.false_eq_true]; omega
    simp only [sumA, about_cons, hf, List.length_cons] at ih ⊢
    have e0 : ((0 : Nat) : Int) = 0 := rfl
    have e1 : ((0 + 1 : Nat) : Int) = 1 := rfl
    have e2 : ((0 + 1 + 1 : Nat) : Int) = 2 := rfl
    have e3 : ((0 + 1 + 1 + 1 : Nat) : Int) = 3 := rfl
    have e4 : ((0 + 1 + 1 + 1 + 1 : Nat) : Int) = 4 := rfl
    have e5 : ((0 + 1 + 1 + 1 + 1 + 1 : Nat) : Int) = 5 := rfl
    simp only [e0, e1, e2, e3, e4, e5] at ih ⊢
    generalize (aboutL l 0).length = c0 at *
    generalize (aboutL l 1).length = c1 at *
    generalize (aboutL l 2).length = c2 at *
    generalize (aboutL l 3).length = c3 at *
    generalize (aboutL l 4).length = c4 at *
    generalize (aboutL l 5).length = c5 at *
    generalize (l.filter outS).length = c6 at *
    generalize s.object = x at *
    (repeat' split) <;> omega

theorem xc_rounds (l : List DStep) (hs : l.length ≤ 1000000000) (b ok : Bool) (q : CEx × NSt) : ∀ (d i a : Nat), i + d = l.length → a ≤ 6 * l.length + i →
    (outAt (.exit 4) xcOut0 [.l .steps l, .b b, .b ok, .i ((a + ((l.drop i).filter outS).length : Nat) : Int)]).ev = some q →
    ∃ k, (rounds Tryz.prog [] [] 30 xcId 8 none xcSk k [.l .steps l, .b b, .b ok, .i a, .i i]).ev = some q
  | 0, i, a, h, ha, hq => by
    refine ⟨1, cut_ev _ _ ((xc_round 0 l b ok a i).trans ?_)⟩
    rw [List.drop_eq_nil_of_le (by omega)] at hq
    rw [T.ev_ite, show decide ((i : Int) < ↑l.length) = false by simp; omega]
    exact hq
  | d + 1, i, a, h, ha, hq => by
    have hlt : i < l.length := by omega
    have h1 : decide ((i : Int) < ↑l.length) = true := by rw [decide_eq_true_eq]; omega
    have h2 : inRange (i : Int) l.length = true := by rw [inRange_iff]; omega
    have wi : IntKind.i64.wrap ((i : Int) + 1) = ((i + 1 : Nat) : Int) := by rw [wrap64 (by omega) (by omega)]; omega
    have wa : IntKind.i64.wrap ((a : Int) + 1) = ((a + 1 : Nat) : Int) := by rw [wrap64 (by omega) (by omega)]; omega
    rw [getD_cons hlt RC.steps.zero, List.filter_cons] at hq
    cases hn : decide ((l.getD i RC.steps.zero).object < 0) with
    | true =>
      simp only [outS, hn, Bool.true_or, if_true, List.length_cons] at hq
      obtain ⟨k, ih⟩ := xc_rounds l hs b ok q d (i + 1) (a + 1) (by omega) (by omega) (by rw [Nat.add_assoc, Nat.add_comm 1]; exact hq)
      refine ⟨k + 1, cut_ev _ _ ((xc_round k l b ok a i).trans ?_)⟩
      simp only [T.ev_ite, h1, h2, hn, Int.toNat_natCast, if_true, wi, wa]
      exact ih
    | false =>
      cases hp : decide ((l.getD i RC.steps.zero).object > 5) with
      | true =>
        simp only [outS, hn, hp, Bool.or_true, if_true, List.length_cons] at hq
        obtain ⟨k, ih⟩ := xc_rounds l hs b ok q d (i + 1) (a + 1) (by omega) (by omega) (by rw [Nat.add_assoc, Nat.add_comm 1]; exact hq)
        refine ⟨k + 1, cut_ev _ _ ((xc_round k l b ok a i).trans ?_)⟩
        simp only [T.ev_ite, h1, h2, hn, hp, Int.toNat_natCast, if_true, Bool.false_eq_true, if_false, wi, wa]
        exact ih
      | false =>
        simp only [outS, hn, hp, Bool.or_self, Bool.false_eq_true, if_false] at hq
        obtain ⟨k, ih⟩ := xc_rounds l hs b ok q d (i + 1) a (by omega) (by omega) hq
        refine ⟨k + 1, cut_ev _ _ ((xc_round k l b ok a i).trans ?_)⟩
        simp only [T.ev_ite, h1, h2, hn, hp, Int.toNat_natCast, if_true, Bool.false_eq_true, if_false, wi]
        exact ih

def xcG : List Leaf → T (CEx × NSt)
  | [.l .steps l, .b b, .b ok, .i all, .i i] => T.when (i == 0 && all == (sumA l 0 6 : Int) && small l.length) (outAt (.exit 4) xcOut0 [.l .steps l, .b b, .b ok, .i l.length])
  | _ => .fail
theorem xc_shape : ShapeOk Tryz.prog [] [] xcId ⟨8, none, xcSk, xcG⟩ := by
  refine shapeOk_mk fun ls r h => ?_
  unfold xcG at h
  split at h
  · rename_i l b ok all i
    obtain ⟨hc, h1⟩ := ev_when h
    simp only [Bool.and_eq_true, beq_iff_eq, small_iff] at hc
    obtain ⟨⟨rfl, rfl⟩, hs⟩ := hc
    obtain ⟨k, hk⟩ := xc_rounds l hs b ok r l.length 0 (sumA l 0 6) (by omega) (by have := sumA_le l 6 0; omega) (by rw [List.drop_zero, count_all]; exact h1)
    exact ⟨30, k, hk⟩
  · exact (ev_fail h).elim
def xaL : List (Nat × List Nat × LoopFn) := (8, [0, 1, 0, 1, 1, 1, 1, 1], loopExt xcId [⟨8, none, xcSk, xcG⟩]) :: xoL
theorem xaL_ok (N : Nat) : LoopsOk Tryz.prog N xaL :=
  loopsOk_cons (loopExt_ok plainN mixedN (fun _ => extsOk_nil) (fun _ => loopsOk_nil) (all1 xc_shape all0) N) (xoL_ok N)

/- AbtN -/
set_option maxRecDepth 100000 in
theorem exab_tree (l : List DStep) : (((tden Tryz.prog lawA xaL 30).call 0 8 [.pl .steps l] ⟨.nil, 0⟩).pure.cut
    (.ite (.all) (.ite (.ite (.yes (.yes (.yes (.yes (.all))))) (.all)) (.all)))).ev = T.ev (α := CV) (
     .ite (longB l)
      (.ret (.bool true))
      (.ite ((0 : Int) == (0 : Int) && (0 : Int) == (0 : Int) && smallSteps l)
       (.ite ((0 : Int) == (0 : Int) && (↑(sumA l (0 : Nat) (6 : Nat)) : Int) == (↑(sumA l (0 : Nat) (6 : Nat)) : Int) && small l.length)
        (.ret (.bool ((↑l.length : Int) == (↑l.length : Int))))
        (.fail))
       (.fail))) := by kernel_rfl

/- AbtO -/
theorem lawA_ok (N : Nat) : ExtsOk Tryz.prog N lawA := extsOk_cons (extOk_pure known_fn) (abtE_ok N)
theorem long_small {l : List DStep} (h : longB l = false) : smallSteps l = true := by
  simp only [longB, Bool.or_eq_false_iff, decide_eq_false_iff_not] at h
  obtain ⟨h1, h2⟩ := h
  have hl : l.length ≤ 60 := by omega
  rw [List.take_of_length_le (by omega)] at h1
  simp only [smallSteps, Bool.and_eq_true, small_iff, List.all_eq_true]
  refine ⟨by omega, fun s hs => ?_⟩
  have := List.any_eq_false.1 h1 s hs
  simp only [lngS, Bool.or_eq_true, decide_eq_true_eq, not_or] at this
  simp only [smallS, Bool.and_eq_true, small_iff]
  omega
theorem about_at (l : List DStep) : PureAt Tryz.prog 8 [.pl .steps l] (.bool true) := by
  refine pureAt0 plainN mixedN lawA_ok xaL_ok (k := 30) ((exab_tree l).trans ?_) rfl
  cases h : longB l with
  | true => simp only [T.ev_ite, T.ev_ret, if_true]
  | false =>
    have hs := long_small h
    have hl : small l.length = true := by simp only [smallSteps, Bool.and_eq_true] at hs; exact hs.1
    simp only [T.ev_ite, T.ev_ret, hs, hl, beq_self_eq_true, Bool.and_self, if_true, Bool.false_eq_true, if_false]
theorem about_all (xs : List CV) (h : ArsAll [.one (.row .steps)] xs) : PureAt Tryz.prog 8 xs (.bool true) := by
  obtain ⟨_, _, rfl, ⟨l, rfl, _⟩, h2⟩ := h.cons_inv
  cases h2.nil_inv
  exact about_at l

end Go.Proofs.YtajjmblgjdicoaaGreatD
