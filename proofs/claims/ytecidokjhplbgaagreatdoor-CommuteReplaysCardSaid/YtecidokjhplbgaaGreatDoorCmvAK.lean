/-
  Chapter 18, the document's: which operations commute: trees and contracts
-/
import Derived.Test.YtecidokjhplbgaaGreatDoorCmuAK
import Derived.Test.YtecidokjhplbgaaGreatDoorCwAF
import Derived.Test.YtecidokjhplbgaaGreatDoorCmtC
set_option linter.unusedVariables false
set_option linter.unusedSimpArgs false
namespace Go.Proofs.YtecidokjhplbgaaGreatDoorD
open Go Go.RowKit

set_option maxRecDepth 100000 in
theorem rcCtr_tree (k a b rk rn k' a' b' rk' rn' : Int) : (((tden Tryz.prog [] [] 30).call 0 32 [.agg #[.int .i64 k, .int .i64 a, .int .i64 b, .int .i64 rk, .int .i64 rn], .agg #[.int .i64 k', .int .i64 a', .int .i64 b', .int .i64 rk', .int .i64 rn']] ⟨.nil, 0⟩).pure.cut
    (.ite (.all) (.ite (.all) (.all)))).ev = T.ev (α := CV) (
     .ite (k == k')
      (.ret (.bool true))
      (.ite (k == (1 : Int))
       (.ret (.bool (a == (0 : Int))))
       (.ret (.bool (a' == (0 : Int)))))) := by kernel_rfl
set_option maxRecDepth 100000 in
theorem rcMoves_tree (k a b rk rn : Int) : (((tden Tryz.prog [] [] 30).call 0 38 [.agg #[.int .i64 k, .int .i64 a, .int .i64 b, .int .i64 rk, .int .i64 rn]] ⟨.nil, 0⟩).pure.cut
    (.ite (.yes (.yes (.yes (.yes (.yes (.yes (.yes (.all)))))))) (.no (.no (.ite (.yes (.yes (.yes (.all)))) (.no (.no (.no (.no (.all)))))))))).ev = T.ev (α := CV) (
     .ite (k == (3 : Int))
      (.ret (.bool (rn == (1 : Int))))
      (.ite (k == (4 : Int))
       (.ret (.bool (rn == (1 : Int))))
       (.ret (.bool false)))) := by kernel_rfl
set_option maxRecDepth 100000 in
theorem rcLeft_tree (k a b rk rn : Int) : (((tden Tryz.prog [] [] 30).call 0 39 [.agg #[.int .i64 k, .int .i64 a, .int .i64 b, .int .i64 rk, .int .i64 rn]] ⟨.nil, 0⟩).pure.cut
    (.ite (.all) (.ite (.all) (.all)))).ev = T.ev (α := CV) (
     .ite (k == (7 : Int))
      (.ret (.agg #[.int .i64 (2), .int .i64 (b)]))
      (.ite (k == (9 : Int))
       (.ret (.agg #[.int .i64 (1), .int .i64 (0)]))
       (.ret (.agg #[.int .i64 (rk), .int .i64 (rn)])))) := by kernel_rfl
set_option maxRecDepth 100000 in
theorem rcQue_tree (k a b rk rn k' a' b' rk' rn' : Int) : (((tden Tryz.prog [] [] 4).call 0 35 [.agg #[.int .i64 k, .int .i64 a, .int .i64 b, .int .i64 rk, .int .i64 rn], .agg #[.int .i64 k', .int .i64 a', .int .i64 b', .int .i64 rk', .int .i64 rn']] ⟨.nil, 0⟩).pure.cut
    (.ite (.ite (.yes (.yes (.all))) (.ite (.yes (.yes (.ite (.all) (.yes (.ite (.ite (.yes (.yes (.yes (.yes (.yes (.all)))))) (.no (.no (.no (.no (.no (.no (.all)))))))) (.no (.no (.no (.no (.no (.no (.no (.no (.all)))))))))))))) (.no (.no (.no (.no (.no (.ite (.yes (.yes (.ite (.all) (.yes (.all))))) (.no (.no (.no (.no (.no (.all)))))))))))))) (.ite (.yes (.yes (.ite (.all) (.yes (.ite (.ite (.yes (.yes (.yes (.yes (.yes (.all)))))) (.no (.no (.no (.no (.no (.no (.all)))))))) (.no (.no (.no (.no (.no (.no (.no (.no (.all)))))))))))))) (.no (.no (.no (.no (.no (.ite (.yes (.yes (.ite (.all) (.yes (.all))))) (.no (.no (.no (.no (.no (.all))))))))))))))).ev = T.ev (α := CV) (
     .ite (decide (k > k'))
      (.ite (decide (k' > k))
       (.ite (decide (k > k'))
        (.ite (decide (k' > k))
         (.fail)
         .fail)
        .fail)
       (.ite (k' == (10 : Int))
        (.ite (k == (10 : Int))
         (.ret (.bool (a' == a)))
         (.ite (k' == (10 : Int))
          (.ite (k == (11 : Int))
           (.ite (rk == (2 : Int))
            (.ret (.bool (rn != a')))
            (.ret (.bool false)))
           (.ret (.bool false)))
          .fail))
        (.ite (k' == (10 : Int)) .fail
         (.ite (k' == (11 : Int))
          (.ite (k == (11 : Int))
           (.ret (.bool (rk' == rk && (rn' == rn && true))))
           (.ite (k' == (11 : Int))
            (.ret (.bool (!rk' == (2 : Int))))
            .fail))
          (.ite (k' == (11 : Int)) .fail
           (.ret (.bool true)))))))
      (.ite (k == (10 : Int))
       (.ite (k' == (10 : Int))
        (.ret (.bool (a == a')))
        (.ite (k == (10 : Int))
         (.ite (k' == (11 : Int))
          (.ite (rk' == (2 : Int))
           (.ret (.bool (rn' != a)))
           (.ret (.bool false)))
          (.ret (.bool false)))
         .fail))
       (.ite (k == (10 : Int)) .fail
        (.ite (k == (11 : Int))
         (.ite (k' == (11 : Int))
          (.ret (.bool (rk == rk' && (rn == rn' && true))))
          (.ite (k == (11 : Int))
           (.ret (.bool (!rk == (2 : Int))))
           .fail))
         (.ite (k == (11 : Int)) .fail
          (.ret (.bool true))))))) := by kernel_rfl
set_option maxRecDepth 100000 in
theorem rcRange_tree (k a r : Int) : (((tden Tryz.prog [] [] 30).call 0 93 [.int .i64 k, .int .i64 a, .int .i64 r] ⟨.nil, 0⟩).pure.cut
    (.ite (.yes (.yes (.yes (.yes (.ite (.yes (.ite (.yes (.yes (.yes (.yes (.no (.ite (.yes (.ite (.yes (.yes (.ite (.all) (.yes (.all))))) (.no (.no (.yes (.yes (.all))))))) (.no (.no (.no (.no (.no (.ite (.yes (.ite (.all) (.yes (.yes (.ite (.all) (.ite (.yes (.no (.ite (.all) (.yes (.all))))) (.no (.no (.no (.ite (.all) (.yes (.all)))))))))))) (.no (.no (.no (.yes (.yes (.ite (.all) (.ite (.yes (.no (.ite (.all) (.yes (.all))))) (.no (.no (.no (.ite (.all) (.yes (.all))))))))))))))))))))))))) (.no (.no (.ite (.yes (.no (.ite (.all) (.yes (.yes (.ite (.yes (.yes (.ite (.all) (.yes (.all))))) (.no (.no (.yes (.yes (.all))))))))))) (.no (.no (.no (.yes (.all)))))))))) (.no (.no (.no (.no (.no (.ite (.yes (.no (.ite (.all) (.yes (.yes (.ite (.yes (.yes (.ite (.all) (.yes (.all))))) (.no (.no (.yes (.yes (.all))))))))))) (.no (.no (.no (.yes (.all)))))))))))))))) (.no (.ite (.yes (.ite (.yes (.ite (.yes (.yes (.yes (.yes (.no (.ite (.yes (.ite (.yes (.yes (.ite (.all) (.yes (.all))))) (.no (.no (.yes (.yes (.all))))))) (.no (.no (.no (.no (.no (.ite (.yes (.ite (.all) (.no (.no (.no (.no (.yes (.yes (.ite (.all) (.ite (.all) (.no (.all)))))))))))) (.no (.no (.no (.no (.no (.no (.no (.yes (.yes (.ite (.all) (.ite (.all) (.no (.all))))))))))))))))))))))))) (.no (.no (.ite (.yes (.no (.ite (.all) (.yes (.yes (.ite (.yes (.yes (.ite (.all) (.yes (.all))))) (.no (.no (.yes (.yes (.all))))))))))) (.no (.no (.no (.yes (.all)))))))))) (.no (.no (.no (.no (.no (.ite (.yes (.no (.ite (.all) (.yes (.yes (.ite (.yes (.yes (.ite (.all) (.yes (.all))))) (.no (.no (.yes (.yes (.all))))))))))) (.no (.no (.no (.yes (.all))))))))))))) (.no (.no (.no (.no (.no (.ite (.yes (.no (.ite (.all) (.yes (.yes (.ite (.yes (.yes (.ite (.all) (.yes (.all))))) (.no (.no (.yes (.yes (.all))))))))))) (.no (.no (.no (.yes (.all))))))))))))))).ev = T.ev (α := CV) (
     .ite (k == (13 : Int))
      (.ite (decide (a ≥ (0 : Int)))
       (.ite (decide (a ≤ (4611686018427387904 : Int)))
        (.ite (k == (15 : Int))
         (.ite (decide (r ≥ (0 : Int)))
          (.ite (!decide (r ≤ (4611686018427387904 : Int)))
           (.ret (.tuple #[.int .i64 (0), .int .i64 (0), .bool false]))
           (.ite (k == (15 : Int))
            (.ret (.tuple #[.int .i64 (r), .int .i64 (r), .bool true]))
            .fail))
          (.ret (.tuple #[.int .i64 (0), .int .i64 (0), .bool false])))
         (.ite (k == (15 : Int)) .fail
          (.ite (r != (0 : Int))
           (.ite (r != (1 : Int))
            (.ret (.tuple #[.int .i64 (0), .int .i64 (0), .bool false]))
            (.ite (k == (13 : Int))
             (.ite (r == (1 : Int))
              (.ret (.tuple #[.int .i64 (0), .int .i64 (IntKind.i64.wrap ((4611686018427387904 : Int) - a)), .bool true]))
              (.ite (k == (14 : Int))
               (.ite (r == (1 : Int)) .fail
                (.ite (a == (0 : Int))
                 (.ret (.tuple #[.int .i64 (0), .int .i64 (0), .bool false]))
                 (.ite (k == (13 : Int))
                  (.ret (.tuple #[.int .i64 (IntKind.i64.wrap (IntKind.i64.wrap ((4611686018427387904 : Int) - a) + (1 : Int))), .int .i64 (4611686018427387904), .bool true]))
                  .fail)))
               (.ite (a == (0 : Int))
                (.ret (.tuple #[.int .i64 (0), .int .i64 (0), .bool false]))
                (.ite (k == (13 : Int))
                 (.ret (.tuple #[.int .i64 (IntKind.i64.wrap (IntKind.i64.wrap ((4611686018427387904 : Int) - a) + (1 : Int))), .int .i64 (4611686018427387904), .bool true]))
                 .fail))))
             .fail))
           (.ite (k == (13 : Int))
            (.ite (r == (1 : Int))
             (.ret (.tuple #[.int .i64 (0), .int .i64 (IntKind.i64.wrap ((4611686018427387904 : Int) - a)), .bool true]))
             (.ite (k == (14 : Int))
              (.ite (r == (1 : Int)) .fail
               (.ite (a == (0 : Int))
                (.ret (.tuple #[.int .i64 (0), .int .i64 (0), .bool false]))
                (.ite (k == (13 : Int))
                 (.ret (.tuple #[.int .i64 (IntKind.i64.wrap (IntKind.i64.wrap ((4611686018427387904 : Int) - a) + (1 : Int))), .int .i64 (4611686018427387904), .bool true]))
                 .fail)))
              (.ite (a == (0 : Int))
               (.ret (.tuple #[.int .i64 (0), .int .i64 (0), .bool false]))
               (.ite (k == (13 : Int))
                (.ret (.tuple #[.int .i64 (IntKind.i64.wrap (IntKind.i64.wrap ((4611686018427387904 : Int) - a) + (1 : Int))), .int .i64 (4611686018427387904), .bool true]))
                .fail))))
            .fail))))
        (.ite (k == (15 : Int))
         (.ite (!a == (0 : Int))
          (.ret (.tuple #[.int .i64 (0), .int .i64 (0), .bool false]))
          (.ite (k == (15 : Int))
           (.ite (decide (r ≥ (0 : Int)))
            (.ite (!decide (r ≤ (4611686018427387904 : Int)))
             (.ret (.tuple #[.int .i64 (0), .int .i64 (0), .bool false]))
             (.ite (k == (15 : Int))
              (.ret (.tuple #[.int .i64 (r), .int .i64 (r), .bool true]))
              .fail))
            (.ret (.tuple #[.int .i64 (0), .int .i64 (0), .bool false])))
           .fail))
         (.ret (.tuple #[.int .i64 (0), .int .i64 (0), .bool false]))))
       (.ite (k == (15 : Int))
        (.ite (!a == (0 : Int))
         (.ret (.tuple #[.int .i64 (0), .int .i64 (0), .bool false]))
         (.ite (k == (15 : Int))
          (.ite (decide (r ≥ (0 : Int)))
           (.ite (!decide (r ≤ (4611686018427387904 : Int)))
            (.ret (.tuple #[.int .i64 (0), .int .i64 (0), .bool false]))
            (.ite (k == (15 : Int))
             (.ret (.tuple #[.int .i64 (r), .int .i64 (r), .bool true]))
             .fail))
           (.ret (.tuple #[.int .i64 (0), .int .i64 (0), .bool false])))
          .fail))
        (.ret (.tuple #[.int .i64 (0), .int .i64 (0), .bool false]))))
      (.ite (k == (14 : Int))
       (.ite (decide (a ≥ (0 : Int)))
        (.ite (decide (a ≤ (4611686018427387904 : Int)))
         (.ite (k == (15 : Int))
          (.ite (decide (r ≥ (0 : Int)))
           (.ite (!decide (r ≤ (4611686018427387904 : Int)))
            (.ret (.tuple #[.int .i64 (0), .int .i64 (0), .bool false]))
            (.ite (k == (15 : Int))
             (.ret (.tuple #[.int .i64 (r), .int .i64 (r), .bool true]))
             .fail))
           (.ret (.tuple #[.int .i64 (0), .int .i64 (0), .bool false])))
          (.ite (k == (15 : Int)) .fail
           (.ite (r != (0 : Int))
            (.ite (r != (1 : Int))
             (.ret (.tuple #[.int .i64 (0), .int .i64 (0), .bool false]))
             (.ite (k == (13 : Int)) .fail
              (.ite (k == (14 : Int))
               (.ite (r == (1 : Int))
                (.ret (.tuple #[.int .i64 (a), .int .i64 (4611686018427387904), .bool true]))
                (.ite (a == (0 : Int))
                 (.ret (.tuple #[.int .i64 (0), .int .i64 (0), .bool false]))
                 (.ite (k == (13 : Int)) .fail
                  (.ret (.tuple #[.int .i64 (0), .int .i64 (IntKind.i64.wrap (a - (1 : Int))), .bool true])))))
               .fail)))
            (.ite (k == (13 : Int)) .fail
             (.ite (k == (14 : Int))
              (.ite (r == (1 : Int))
               (.ret (.tuple #[.int .i64 (a), .int .i64 (4611686018427387904), .bool true]))
               (.ite (a == (0 : Int))
                (.ret (.tuple #[.int .i64 (0), .int .i64 (0), .bool false]))
                (.ite (k == (13 : Int)) .fail
                 (.ret (.tuple #[.int .i64 (0), .int .i64 (IntKind.i64.wrap (a - (1 : Int))), .bool true])))))
              .fail)))))
         (.ite (k == (15 : Int))
          (.ite (!a == (0 : Int))
           (.ret (.tuple #[.int .i64 (0), .int .i64 (0), .bool false]))
           (.ite (k == (15 : Int))
            (.ite (decide (r ≥ (0 : Int)))
             (.ite (!decide (r ≤ (4611686018427387904 : Int)))
              (.ret (.tuple #[.int .i64 (0), .int .i64 (0), .bool false]))
              (.ite (k == (15 : Int))
               (.ret (.tuple #[.int .i64 (r), .int .i64 (r), .bool true]))
               .fail))
             (.ret (.tuple #[.int .i64 (0), .int .i64 (0), .bool false])))
            .fail))
          (.ret (.tuple #[.int .i64 (0), .int .i64 (0), .bool false]))))
        (.ite (k == (15 : Int))
         (.ite (!a == (0 : Int))
          (.ret (.tuple #[.int .i64 (0), .int .i64 (0), .bool false]))
          (.ite (k == (15 : Int))
           (.ite (decide (r ≥ (0 : Int)))
            (.ite (!decide (r ≤ (4611686018427387904 : Int)))
             (.ret (.tuple #[.int .i64 (0), .int .i64 (0), .bool false]))
             (.ite (k == (15 : Int))
              (.ret (.tuple #[.int .i64 (r), .int .i64 (r), .bool true]))
              .fail))
            (.ret (.tuple #[.int .i64 (0), .int .i64 (0), .bool false])))
           .fail))
         (.ret (.tuple #[.int .i64 (0), .int .i64 (0), .bool false]))))
       (.ite (k == (15 : Int))
        (.ite (!a == (0 : Int))
         (.ret (.tuple #[.int .i64 (0), .int .i64 (0), .bool false]))
         (.ite (k == (15 : Int))
          (.ite (decide (r ≥ (0 : Int)))
           (.ite (!decide (r ≤ (4611686018427387904 : Int)))
            (.ret (.tuple #[.int .i64 (0), .int .i64 (0), .bool false]))
            (.ite (k == (15 : Int))
             (.ret (.tuple #[.int .i64 (r), .int .i64 (r), .bool true]))
             .fail))
           (.ret (.tuple #[.int .i64 (0), .int .i64 (0), .bool false])))
          .fail))
        (.ret (.tuple #[.int .i64 (0), .int .i64 (0), .bool false]))))) := by kernel_rfl

def pairG2 (B : Int → Int → Int → Int → Int → Int → Int → Int → Int → Int → Bool) : List CV → T CV
  | [.agg ⟨[.int .i64 k, .int .i64 a, .int .i64 b, .int .i64 rk, .int .i64 rn]⟩, .agg ⟨[.int .i64 k', .int .i64 a', .int .i64 b', .int .i64 rk', .int .i64 rn']⟩] => .ret (.bool (B k a b rk rn k' a' b' rk' rn'))
  | _ => .fail
def rcCtrB (k a b rk rn k' a' b' rk' rn' : Int) : Bool := if k = k' then true else if k = 1 then decide (a = 0) else decide (a' = 0)
def rcMovesB (k rn : Int) : Bool := decide ((k = 3 ∨ k = 4) ∧ rn = 1)
def rcMovesG : List CV → T CV
  | [.agg ⟨[.int .i64 k, .int .i64 a, .int .i64 b, .int .i64 rk, .int .i64 rn]⟩] => .ret (.bool (rcMovesB k rn))
  | _ => .fail
def rcQ0 (k a rk rn k' a' rk' rn' : Int) : Bool :=
  if k = 10 ∧ k' = 10 then decide (a = a') else if k = 10 then decide (k' = 11 ∧ rk' = 2 ∧ rn' ≠ a) else if k = 11 ∧ k' = 11 then decide (rk = rk' ∧ rn = rn') else if k = 11 then decide (rk ≠ 2) else true
def rcQueB (k a b rk rn k' a' b' rk' rn' : Int) : Bool := if k' < k then rcQ0 k' a' rk' rn' k a rk rn else rcQ0 k a rk rn k' a' rk' rn'
theorem rcCtr_fn : PureFn Tryz.prog 32 (sigExt [] (pairG2 rcCtrB)) :=
  pureFn_mk (bodied_ex (by kernel_rfl)) fun args d h => by
    unfold pairG2 at h
    split at h
    · rename_i k a b rk rn k' a' b' rk' rn'
      cases ev_ret h
      refine pureAt0 plainN mixedN noE noL (k := 30) ((rcCtr_tree k a b rk rn k' a' b' rk' rn').trans ?_) rfl
      by_cases h1 : k = k'
      · simp [T.ev_ite, T.ev_ret, rcCtrB, h1]
      · have e : (k == k') = false := by simpa using h1
        simp only [T.ev_ite, T.ev_ret, rcCtrB, e, if_neg h1, Bool.false_eq_true, if_false]
        by_cases h2 : k = 1 <;> simp [h2, Bool.beq_eq_decide_eq]
    · exact (ev_fail h).elim
theorem rcMoves_fn : PureFn Tryz.prog 38 (sigExt [] rcMovesG) :=
  pureFn_mk (bodied_ex (by kernel_rfl)) fun args d h => by
    unfold rcMovesG at h
    split at h
    · rename_i k a b rk rn
      cases ev_ret h
      refine pureAt0 plainN mixedN noE noL (k := 30) ((rcMoves_tree k a b rk rn).trans ?_) rfl
      by_cases h1 : k = 3 <;> by_cases h2 : k = 4 <;> simp [T.ev_ite, T.ev_ret, rcMovesB, h1, h2, Bool.beq_eq_decide_eq]
    · exact (ev_fail h).elim
theorem rcLeft_fn : PureFn Tryz.prog 39 (sigExt [] leftG) :=
  pureFn_mk (bodied_ex (by kernel_rfl)) fun args d h => by
    unfold leftG at h
    split at h
    · rename_i k a b rk rn
      cases ev_ret h
      refine pureAt0 plainN mixedN noE noL (k := 30) ((rcLeft_tree k a b rk rn).trans ?_) rfl
      by_cases h7 : k = 7
      · simp [T.ev_ite, T.ev_ret, leftK, leftN, h7]
      · by_cases h9 : k = 9
        · simp [T.ev_ite, T.ev_ret, leftK, leftN, h9]
        · simp [T.ev_ite, T.ev_ret, leftK, leftN, h7, h9]
    · exact (ev_fail h).elim
theorem rcQue_fn : PureFn Tryz.prog 35 (sigExt [] (pairG2 rcQueB)) :=
  pureFn_mk (bodied_ex (by kernel_rfl)) fun args d h => by
    unfold pairG2 at h
    split at h
    · rename_i k a b rk rn k' a' b' rk' rn'
      cases ev_ret h
      refine pureAt0 plainN mixedN noE noL (k := 4) ((rcQue_tree k a b rk rn k' a' b' rk' rn').trans ?_) rfl
      by_cases h0 : k' < k
      · have e1 : decide (k > k') = true := by simpa using h0
        have e2 : decide (k' > k) = false := by simp; omega
        simp only [T.ev_ite, T.ev_ret, T.ev_fail, e1, e2, if_true, Bool.false_eq_true, if_false]
        unfold rcQueB rcQ0
        rw [if_pos h0]
        clear e1 e2 h0
        by_cases h1 : k' = 10
        · by_cases h2 : k = 10
          · simp [h1, h2, Bool.beq_eq_decide_eq]
          · by_cases h4 : k = 11
            · by_cases h5 : rk = 2 <;> simp [h1, h4, h5, bne, Bool.beq_eq_decide_eq]
            · simp [h1, h2, h4]
        · by_cases h3 : k' = 11
          · by_cases h4 : k = 11
            · simp [h3, h4, Bool.beq_eq_decide_eq]
            · simp [h3, h4, Bool.beq_eq_decide_eq]
          · simp [h1, h3]
      · have e1 : decide (k > k') = false := by simpa using h0
        simp only [T.ev_ite, T.ev_ret, T.ev_fail, e1, Bool.false_eq_true, if_false]
        unfold rcQueB rcQ0
        rw [if_neg h0]
        clear e1 h0
        by_cases h1 : k = 10
        · by_cases h2 : k' = 10
          · simp [h1, h2, Bool.beq_eq_decide_eq]
          · by_cases h4 : k' = 11
            · by_cases h5 : rk' = 2 <;> simp [h1, h4, h5, bne, Bool.beq_eq_decide_eq]
            · simp [h1, h2, h4]
        · by_cases h3 : k = 11
          · by_cases h4 : k' = 11
            · simp [h3, h4, Bool.beq_eq_decide_eq]
            · simp [h3, h4, Bool.beq_eq_decide_eq]
          · simp [h1, h3]
    · exact (ev_fail h).elim
set_option maxHeartbeats 4000000 in
theorem rcRange_fn : PureFn Tryz.prog 93 (sigExt [] rangeG) :=
  pureFn_mk (bodied_ex (by kernel_rfl)) fun args d h => by
    unfold rangeG at h
    split at h
    · rename_i k a r
      cases ev_ret h
      refine pureAtS plainN mixedN noE noL (k := 30) .any (rcRange_tree k a r) ?_
      have hcap : cap62 = 4611686018427387904 := rfl
      simp only [sat_ite, sat_ret, sat_fail, decide_eq_true_eq, decide_eq_false_iff_not, beq_iff_eq, bne_iff_ne, beq_eq_false_iff_ne, bne_eq_false_iff_eq, Bool.not_eq_true', Bool.not_eq_false', true_implies, Bool.true_eq_false, false_implies, and_true, true_and, implies_true, reduceCtorEq, eq_self, not_true_eq_false]
      simp only [rangeA]
      repeat' (first | apply And.intro | intro _)
      all_goals first
        | omega
        | (simp (disch := omega) only [wrap64] at *; omega)
        | ((repeat' split) <;> first | exact ⟨rfl, rfl⟩ | omega | (simp (disch := omega) only [wrap64] at *; first | omega | (subst_vars; exact ⟨rfl, rfl⟩)))
    · exact (ev_fail h).elim
def cmvE : List (Nat × ExtFn) := [(32, pureExt (sigExt [] (pairG2 rcCtrB))), (38, pureExt (sigExt [] rcMovesG)), (39, pureExt (sigExt [] leftG)), (35, pureExt (sigExt [] (pairG2 rcQueB))), (93, pureExt (sigExt [] rangeG)),
  (30, pureExt (sigExt [] opCheckG)), (26, pureExt (sigExt [] opCheckG)), (31, pureExt (sigExt [] opTypeG))]
theorem cmvE_ok (N : Nat) : ExtsOk Tryz.prog N cmvE := extsOk_cons (extOk_pure rcCtr_fn) (extsOk_cons (extOk_pure rcMoves_fn) (extsOk_cons (extOk_pure rcLeft_fn) (extsOk_cons (extOk_pure rcQue_fn) (extsOk_cons (extOk_pure rcRange_fn) (extsOk_cons (extOk_pure ropCheck_fn) (extsOk_cons (extOk_pure opCheck_fn) (extsOk_cons (extOk_pure ropType_fn) extsOk_nil)))))))

set_option maxRecDepth 100000 in
theorem rcSet_tree (k a b rk rn k' a' b' rk' rn' : Int) : (((tden Tryz.prog cmvE [] 30).call 0 33 [.agg #[.int .i64 k, .int .i64 a, .int .i64 b, .int .i64 rk, .int .i64 rn], .agg #[.int .i64 k', .int .i64 a', .int .i64 b', .int .i64 rk', .int .i64 rn']] ⟨.nil, 0⟩).pure.cut
    (.ite (.yes (.yes (.ite (.all) (.yes (.all))))) (.no (.no (.no (.no (.no (.ite (.all) (.ite (.all) (.ite (.yes (.ite (.all) (.ite (.yes (.yes (.all))) (.no (.no (.no (.all))))))) (.no (.no (.no (.ite (.yes (.yes (.all))) (.no (.no (.no (.all)))))))))))))))))).ev = T.ev (α := CV) (
     .ite (k == (6 : Int))
      (.ite (k' == (6 : Int))
       (.ret (.bool true))
       (.ite (k == (6 : Int))
        (.ret (.bool (!rcMovesB k' rn')))
        .fail))
      (.ite (k == (6 : Int)) .fail
       (.ite (k' == (6 : Int))
        (.ret (.bool (!rcMovesB k rn)))
        (.ite (a != a')
         (.ret (.bool true))
         (.ite (rcMovesB k rn)
          (.ite (rcMovesB k' rn')
           (.ret (.bool (k == k')))
           (.ite (!rcMovesB k rn)
            (.ret (.bool (!rcMovesB k' rn')))
            (.ret (.bool false))))
          (.ite (!rcMovesB k rn)
           (.ret (.bool (!rcMovesB k' rn')))
           (.ret (.bool false)))))))) := by kernel_rfl
set_option maxRecDepth 100000 in
theorem rcMap_tree (k a b rk rn k' a' b' rk' rn' : Int) : (((tden Tryz.prog cmvE [] 30).call 0 34 [.agg #[.int .i64 k, .int .i64 a, .int .i64 b, .int .i64 rk, .int .i64 rn], .agg #[.int .i64 k', .int .i64 a', .int .i64 b', .int .i64 rk', .int .i64 rn']] ⟨.nil, 0⟩).pure.cut
    (.ite (.all) (.yes (.yes (.yes (.yes (.yes (.yes (.yes (.yes (.yes (.yes (.yes (.yes (.yes (.yes (.yes (.yes (.yes (.yes (.yes (.yes (.yes (.yes (.yes (.yes (.yes (.ite (.yes (.yes (.ite (.yes (.yes (.yes (.yes (.yes (.yes (.yes (.all)))))))) (.no (.no (.no (.ite (.yes (.yes (.no (.no (.ite (.yes (.yes (.no (.all)))) (.no (.no (.no (.no (.all)))))))))) (.no (.no (.no (.no (.no (.no (.no (.no (.no (.no (.all)))))))))))))))))) (.no (.no (.no (.no (.no (.no (.no (.ite (.yes (.yes (.no (.no (.ite (.yes (.yes (.no (.all)))) (.no (.no (.no (.no (.all)))))))))) (.no (.no (.no (.no (.no (.no (.no (.no (.no (.no (.all))))))))))))))))))))))))))))))))))))))))))))))).ev = T.ev (α := CV) (
     .ite (a != a')
      (.ret (.bool true))
      (.ite (decide (rk = rk))
       (.ite (decide (rn = rn))
        (.ite (decide (rk' = rk'))
         (.ite (decide (rn' = rn'))
          (.ite (decide (k' = k'))
           (.ite (decide (a' = a'))
            (.ite (decide (b' = b'))
             (.ite (decide (rk' = rk'))
              (.ite (decide (rn' = rn'))
               (.ite (decide (rk' = rk'))
                (.ite (decide (rn' = rn'))
                 (.ite (decide (rk = rk))
                  (.ite (decide (rn = rn))
                   (.ite (decide (rk' = rk'))
                    (.ite (decide (rn' = rn'))
                     (.ite (decide (rk' = rk'))
                      (.ite (decide (rn' = rn'))
                       (.ite (!(leftK k rk == rk' && (leftN k b rn == rn' && true)))
                        (.ite (!(leftK k' rk' == rk && (leftN k' b' rn' == rn && true)))
                         (.ret (.bool true))
                         (.ite (rk == leftK k rk && (rn == leftN k b rn && true))
                          (.ite (leftK k rk == rk' && (leftN k b rn == rn' && true))
                           (.ret (.bool (rk' == leftK k' rk' && (rn' == leftN k' b' rn' && true))))
                           (.ret (.bool false)))
                          (.ret (.bool false))))
                        (.ite (rk == leftK k rk && (rn == leftN k b rn && true))
                         (.ite (leftK k rk == rk' && (leftN k b rn == rn' && true))
                          (.ret (.bool (rk' == leftK k' rk' && (rn' == leftN k' b' rn' && true))))
                          (.ret (.bool false)))
                         (.ret (.bool false))))
                       .fail)
                      .fail)
                     .fail)
                    .fail)
                   .fail)
                  .fail)
                 .fail)
                .fail)
               .fail)
              .fail)
             .fail)
            .fail)
           .fail)
          .fail)
         .fail)
        .fail)
       .fail)) := by kernel_rfl
set_option maxRecDepth 100000 in
theorem rcLegal_tree (k a b rk rn : Int) : (((tden Tryz.prog cmvE [] 30).call 0 79 [.agg #[.int .i64 k, .int .i64 a, .int .i64 b, .int .i64 rk, .int .i64 rn]] ⟨.nil, 0⟩).pure.cut
    (.ite (.yes (.yes (.yes (.ite (.all) (.ite (.yes (.yes (.yes (.no (.all))))) (.no (.no (.no (.no (.no (.all))))))))))) (.no (.no (.no (.no (.no (.ite (.yes (.yes (.yes (.ite (.all) (.all))))) (.no (.no (.no (.no (.no (.all)))))))))))))).ev = T.ev (α := CV) (
     .ite (k == (13 : Int))
      (.ite (rn == (1 : Int))
       (.ret (.tuple #[.agg #[.bool ((rangeA k a rn).is), .int .i64 ((rangeA k a rn).from_), .int .i64 ((rangeA k a rn).to)], .int .i64 (a)]))
       (.ite (k == (14 : Int))
        (.ite (rn == (1 : Int)) .fail
         (.ret (.tuple #[.agg #[.bool ((rangeA k a rn).is), .int .i64 ((rangeA k a rn).from_), .int .i64 ((rangeA k a rn).to)], .int .i64 (0)])))
        (.ret (.tuple #[.agg #[.bool ((rangeA k a rn).is), .int .i64 ((rangeA k a rn).from_), .int .i64 ((rangeA k a rn).to)], .int .i64 (0)]))))
      (.ite (k == (14 : Int))
       (.ite (rn == (1 : Int))
        (.ret (.tuple #[.agg #[.bool ((rangeA k a rn).is), .int .i64 ((rangeA k a rn).from_), .int .i64 ((rangeA k a rn).to)], .int .i64 (IntKind.i64.wrap ((0 : Int) - a))]))
        (.ret (.tuple #[.agg #[.bool ((rangeA k a rn).is), .int .i64 ((rangeA k a rn).from_), .int .i64 ((rangeA k a rn).to)], .int .i64 (0)])))
       (.ret (.tuple #[.agg #[.bool ((rangeA k a rn).is), .int .i64 ((rangeA k a rn).from_), .int .i64 ((rangeA k a rn).to)], .int .i64 (0)])))) := by kernel_rfl
set_option maxRecDepth 100000 in
theorem cmStl_tree (k a b rk rn : Int) : (((tden Tryz.prog cmvE [] 30).call 0 10 [.agg #[.int .i64 k, .int .i64 a, .int .i64 b, .int .i64 rk, .int .i64 rn]] ⟨.nil, 0⟩).pure.cut
    (.ite (.all) (.ite (.all) (.ite (.yes (.all)) (.ite (.all) (.ite (.yes (.yes (.yes (.yes (.yes (.yes (.yes (.all)))))))) (.ite (.yes (.yes (.yes (.yes (.yes (.no (.yes (.all)))))))) (.ite (.all) (.ite (.all) (.ite (.yes (.ite (.yes (.yes (.yes (.all)))) (.no (.no (.all))))) (.ite (.ite (.yes (.yes (.yes (.all)))) (.no (.no (.all)))) (.all)))))))))))).ev = T.ev (α := CV) (
     .ite (opChk k a b rk rn != (0 : Int))
      (.ret (.tuple #[.bool false, .int .i64 (opChk k a b rk rn)]))
      (.ite (k == (1 : Int))
       (.ret (.tuple #[.bool (a == (0 : Int)), .int .i64 (0)]))
       (.ite (k == (3 : Int))
        (.ret (.tuple #[.bool (rn == (0 : Int)), .int .i64 (0)]))
        (.ite (k == (4 : Int))
         (.ret (.tuple #[.bool (rn == (0 : Int)), .int .i64 (0)]))
         (.ite (k == (7 : Int))
          (.ite (decide (k = k))
           (.ite (decide (a = a))
            (.ite (decide (b = b))
             (.ite (decide (rk = rk))
              (.ite (decide (rn = rn))
               (.ite (k == (7 : Int))
                (.ret (.tuple #[.bool (rk == (2 : Int) && (rn == b && true)), .int .i64 (0)]))
                .fail)
               .fail)
              .fail)
             .fail)
            .fail)
           .fail)
          (.ite (k == (9 : Int))
           (.ite (decide (k = k))
            (.ite (decide (a = a))
             (.ite (decide (b = b))
              (.ite (decide (rk = rk))
               (.ite (decide (rn = rn))
                (.ite (k == (7 : Int)) .fail
                 (.ite (k == (9 : Int))
                  (.ret (.tuple #[.bool (rk == (1 : Int) && (rn == (0 : Int) && true)), .int .i64 (0)]))
                  .fail))
                .fail)
               .fail)
              .fail)
             .fail)
            .fail)
           (.ite (k == (10 : Int))
            (.ret (.tuple #[.bool false, .int .i64 (0)]))
            (.ite (k == (11 : Int))
             (.ret (.tuple #[.bool (rk == (1 : Int)), .int .i64 (0)]))
             (.ite (k == (13 : Int))
              (.ite (rn == (0 : Int))
               (.ret (.tuple #[.bool true, .int .i64 (0)]))
               (.ret (.tuple #[.bool (a == (0 : Int)), .int .i64 (0)])))
              (.ite (k == (14 : Int))
               (.ite (rn == (0 : Int))
                (.ret (.tuple #[.bool true, .int .i64 (0)]))
                (.ret (.tuple #[.bool (a == (0 : Int)), .int .i64 (0)])))
               (.ret (.tuple #[.bool true, .int .i64 (0)])))))))))))) := by kernel_rfl
set_option maxRecDepth 100000 in
theorem rcStl_tree (k a b rk rn : Int) : (((tden Tryz.prog cmvE [] 30).call 0 11 [.agg #[.int .i64 k, .int .i64 a, .int .i64 b, .int .i64 rk, .int .i64 rn]] ⟨.nil, 0⟩).pure.cut
    (.ite (.all) (.ite (.all) (.ite (.yes (.all)) (.ite (.all) (.ite (.yes (.yes (.yes (.all)))) (.ite (.yes (.yes (.all))) (.ite (.all) (.ite (.all) (.ite (.yes (.ite (.yes (.yes (.yes (.all)))) (.no (.no (.all))))) (.ite (.ite (.yes (.yes (.yes (.all)))) (.no (.no (.all)))) (.all)))))))))))).ev = T.ev (α := CV) (
     .ite (opChk k a b rk rn != (0 : Int))
      (.ret (.tuple #[.bool false, .int .i64 (opChk k a b rk rn)]))
      (.ite (k == (1 : Int))
       (.ret (.tuple #[.bool (a == (0 : Int)), .int .i64 (0)]))
       (.ite (k == (3 : Int))
        (.ret (.tuple #[.bool (!rcMovesB k rn), .int .i64 (0)]))
        (.ite (k == (4 : Int))
         (.ret (.tuple #[.bool (!rcMovesB k rn), .int .i64 (0)]))
         (.ite (k == (7 : Int))
          (.ite (decide (rk = rk))
           (.ite (decide (rn = rn))
            (.ret (.tuple #[.bool (leftK k rk == rk && (leftN k b rn == rn && true)), .int .i64 (0)]))
            .fail)
           .fail)
          (.ite (k == (9 : Int))
           (.ite (decide (rk = rk))
            (.ite (decide (rn = rn))
             (.ret (.tuple #[.bool (leftK k rk == rk && (leftN k b rn == rn && true)), .int .i64 (0)]))
             .fail)
            .fail)
           (.ite (k == (10 : Int))
            (.ret (.tuple #[.bool false, .int .i64 (0)]))
            (.ite (k == (11 : Int))
             (.ret (.tuple #[.bool (rk == (1 : Int)), .int .i64 (0)]))
             (.ite (k == (13 : Int))
              (.ite (rn == (0 : Int))
               (.ret (.tuple #[.bool true, .int .i64 (0)]))
               (.ret (.tuple #[.bool (a == (0 : Int)), .int .i64 (0)])))
              (.ite (k == (14 : Int))
               (.ite (rn == (0 : Int))
                (.ret (.tuple #[.bool true, .int .i64 (0)]))
                (.ret (.tuple #[.bool (a == (0 : Int)), .int .i64 (0)])))
               (.ret (.tuple #[.bool true, .int .i64 (0)])))))))))))) := by kernel_rfl

def OpF (k a b rk rn : Int) : Prop :=
  (k = 1 ∧ b = 0 ∧ rk = 0 ∧ rn = 0) ∨ (k = 2 ∧ a = 0 ∧ b = 0 ∧ rk = 2) ∨ ((k = 3 ∨ k = 4 ∨ k = 5) ∧ b = 0 ∧ rk = 2 ∧ (rn = 0 ∨ rn = 1)) ∨ (k = 6 ∧ a = 0 ∧ b = 0 ∧ rk = 2 ∧ 0 ≤ rn ∧ rn ≤ 4611686018427387904) ∨
  (k = 7 ∧ ((rk = 1 ∧ rn = 0) ∨ rk = 2)) ∨ ((k = 8 ∨ k = 9) ∧ b = 0 ∧ ((rk = 1 ∧ rn = 0) ∨ rk = 2)) ∨ (k = 10 ∧ b = 0 ∧ rk = 0 ∧ rn = 0) ∨ (k = 11 ∧ a = 0 ∧ b = 0 ∧ ((rk = 1 ∧ rn = 0) ∨ rk = 2)) ∨ (k = 12 ∧ a = 0 ∧ b = 0 ∧ rk = 2 ∧ 0 ≤ rn ∧ rn ≤ 4611686018427387904) ∨
  ((k = 13 ∨ k = 14) ∧ b = 0 ∧ 0 ≤ a ∧ a ≤ 4611686018427387904 ∧ rk = 2 ∧ (rn = 0 ∨ rn = 1)) ∨ (k = 15 ∧ a = 0 ∧ b = 0 ∧ rk = 2 ∧ 0 ≤ rn ∧ rn ≤ 4611686018427387904)
set_option maxHeartbeats 4000000 in
theorem opChk_facts {k a b rk rn : Int} (h : opChk k a b rk rn = 0) : OpF k a b rk rn := by
  by_cases hk : k < 1 ∨ 15 < k
  · rw [opChk, if_pos hk] at h; omega
  · rw [opChk, if_neg hk] at h
    by_cases ho : opArgs k a b
    · rw [if_pos ho, opRet] at h
      unfold opArgs at ho
      unfold opNum at h
      unfold OpF
      obtain rfl | rfl | rfl | rfl | rfl | rfl | rfl | rfl | rfl | rfl | rfl | rfl | rfl | rfl | rfl : k = 1 ∨ k = 2 ∨ k = 3 ∨ k = 4 ∨ k = 5 ∨ k = 6 ∨ k = 7 ∨ k = 8 ∨ k = 9 ∨ k = 10 ∨ k = 11 ∨ k = 12 ∨ k = 13 ∨ k = 14 ∨ k = 15 := by omega
      all_goals (simp at h ho ⊢; (repeat' split at h) <;> omega)
    · rw [if_neg ho] at h; omega
theorem opChk_kind {k a b rk rn : Int} (h : opChk k a b rk rn = 0) : 1 ≤ k ∧ k ≤ 15 := opC_kind (o := ⟨k, a, b, ⟨rk, rn⟩⟩) h
def stlG : List CV → T CV
  | [.agg ⟨[.int .i64 k, .int .i64 a, .int .i64 b, .int .i64 rk, .int .i64 rn]⟩] => .ret (.tuple #[.bool (if opChk k a b rk rn = 0 then stillB k a b rk rn else false), .int .i64 (opChk k a b rk rn)])
  | _ => .fail
set_option maxHeartbeats 2000000 in
theorem cmStl_fn : PureFn Tryz.prog 10 (sigExt [] stlG) :=
  pureFn_mk (bodied_ex (by kernel_rfl)) fun args d h => by
    unfold stlG at h
    split at h
    · rename_i k a b rk rn
      cases ev_ret h
      refine pureAt0 plainN mixedN cmvE_ok noL (k := 30) ((cmStl_tree k a b rk rn).trans ?_) rfl
      simp only [T.ev_ite, T.ev_ret, T.ev_fail, eq_self, decide_true, if_true, Bool.and_true]
      by_cases ho : opChk k a b rk rn = 0
      · rw [ho, if_neg (by simp), if_pos rfl]
        by_cases h1 : k = 1
        · simp [stillB, h1, Bool.beq_eq_decide_eq]
        by_cases h3 : k = 3
        · simp [stillB, h3, Bool.beq_eq_decide_eq]
        by_cases h4 : k = 4
        · simp [stillB, h4, Bool.beq_eq_decide_eq]
        by_cases h7 : k = 7
        · simp [stillB, h7, Bool.beq_eq_decide_eq]
        by_cases h9 : k = 9
        · simp [stillB, h9, Bool.beq_eq_decide_eq]
        by_cases h10 : k = 10
        · simp [stillB, h10]
        by_cases h11 : k = 11
        · simp [stillB, h11, Bool.beq_eq_decide_eq]
        by_cases h13 : k = 13
        · by_cases hr : rn = 0 <;> simp [stillB, h13, hr, Bool.beq_eq_decide_eq]
        by_cases h14 : k = 14
        · by_cases hr : rn = 0 <;> simp [stillB, h14, hr, Bool.beq_eq_decide_eq]
        simp [stillB, h1, h3, h4, h7, h9, h10, h11, h13, h14]
      · rw [if_pos (by simpa using ho), if_neg ho]
    · exact (ev_fail h).elim
set_option maxHeartbeats 2000000 in
theorem rcStl_fn : PureFn Tryz.prog 11 (sigExt [] stlG) :=
  pureFn_mk (bodied_ex (by kernel_rfl)) fun args d h => by
    unfold stlG at h
    split at h
    · rename_i k a b rk rn
      cases ev_ret h
      refine pureAt0 plainN mixedN cmvE_ok noL (k := 30) ((rcStl_tree k a b rk rn).trans ?_) rfl
      simp only [T.ev_ite, T.ev_ret, T.ev_fail, eq_self, decide_true, if_true, Bool.and_true]
      by_cases ho : opChk k a b rk rn = 0
      · have hF := opChk_facts ho
        unfold OpF at hF
        rw [ho, if_neg (by simp), if_pos rfl]
        by_cases h1 : k = 1
        · simp [stillB, h1, Bool.beq_eq_decide_eq]
        by_cases h3 : k = 3
        · have hr : rn = 0 ∨ rn = 1 := by omega
          rcases hr with rfl | rfl <;> simp [stillB, rcMovesB, h3]
        by_cases h4 : k = 4
        · have hr : rn = 0 ∨ rn = 1 := by omega
          rcases hr with rfl | rfl <;> simp [stillB, rcMovesB, h4]
        by_cases h7 : k = 7
        · simp [stillB, h7, leftK, leftN, Bool.beq_eq_decide_eq, eq_comm]
        by_cases h9 : k = 9
        · simp [stillB, h9, leftK, leftN, Bool.beq_eq_decide_eq, eq_comm]
        by_cases h10 : k = 10
        · simp [stillB, h10]
        by_cases h11 : k = 11
        · simp [stillB, h11, Bool.beq_eq_decide_eq]
        by_cases h13 : k = 13
        · by_cases hr : rn = 0 <;> simp [stillB, h13, hr, Bool.beq_eq_decide_eq]
        by_cases h14 : k = 14
        · by_cases hr : rn = 0 <;> simp [stillB, h14, hr, Bool.beq_eq_decide_eq]
        simp [stillB, h1, h3, h4, h7, h9, h10, h11, h13, h14]
      · rw [if_pos (by simpa using ho), if_neg ho]
    · exact (ev_fail h).elim

def rcSetB (k a b rk rn k' a' b' rk' rn' : Int) : Bool :=
  if k = 6 ∧ k' = 6 then true else if k = 6 then !rcMovesB k' rn' else if k' = 6 then !rcMovesB k rn else if a ≠ a' then true
  else if rcMovesB k rn = true ∧ rcMovesB k' rn' = true then decide (k = k') else !rcMovesB k rn && !rcMovesB k' rn'
theorem rcSet_fn : PureFn Tryz.prog 33 (sigExt [] (pairG2 rcSetB)) :=
  pureFn_mk (bodied_ex (by kernel_rfl)) fun args d h => by
    unfold pairG2 at h
    split at h
    · rename_i k a b rk rn k' a' b' rk' rn'
      cases ev_ret h
      refine pureAt0 plainN mixedN cmvE_ok noL (k := 30) ((rcSet_tree k a b rk rn k' a' b' rk' rn').trans ?_) rfl
      simp only [T.ev_ite, T.ev_ret, T.ev_fail, rcSetB]
      generalize rcMovesB k rn = x
      generalize rcMovesB k' rn' = y
      by_cases h1 : k = 6
      · by_cases h2 : k' = 6 <;> simp [h1, h2]
      · have e1 : (k == 6) = false := by simpa using h1
        by_cases h2 : k' = 6
        · simp [e1, h1, h2]
        · have e2 : (k' == 6) = false := by simpa using h2
          by_cases h3 : a = a'
          · cases x <;> cases y <;> simp [e1, e2, h1, h2, h3, Bool.beq_eq_decide_eq]
          · have e3 : (a != a') = true := by simpa using h3
            simp [e1, e2, e3, h1, h2, h3]
    · exact (ev_fail h).elim
theorem rcMap_fn : PureFn Tryz.prog 34 (sigExt [] (pairG2 cmMapB)) :=
  pureFn_mk (bodied_ex (by kernel_rfl)) fun args d h => by
    unfold pairG2 at h
    split at h
    · rename_i k a b rk rn k' a' b' rk' rn'
      cases ev_ret h
      refine pureAt0 plainN mixedN cmvE_ok noL (k := 30) ((rcMap_tree k a b rk rn k' a' b' rk' rn').trans ?_) rfl
      simp only [T.ev_ite, T.ev_ret, T.ev_fail, cmMapB, eq_self, decide_true, if_true, Bool.and_true, Bool.beq_eq_decide_eq, Bool.decide_or, Bool.decide_and, decide_not]
      generalize leftK k rk = x1
      generalize leftN k b rn = x2
      generalize leftK k' rk' = y1
      generalize leftN k' b' rn' = y2
      by_cases h1 : a = a'
      · have e1 : (a != a') = false := by simp [h1]
        by_cases h2 : x1 = rk' <;> by_cases h3 : x2 = rn' <;> by_cases h4 : y1 = rk <;> by_cases h5 : y2 = rn <;> by_cases h6 : rk = x1 <;> by_cases h7 : rn = x2 <;> simp_all
      · have e1 : (a != a') = true := by simpa using h1
        simp [h1, e1]
    · exact (ev_fail h).elim
def rcBy (k a rn : Int) : Int := if k = 13 ∧ rn = 1 then a else if k = 14 ∧ rn = 1 then IntKind.i64.wrap (0 - a) else 0
def rcLegalG : List CV → T CV
  | [.agg ⟨[.int .i64 k, .int .i64 a, .int .i64 b, .int .i64 rk, .int .i64 rn]⟩] => .ret (.tuple #[.agg #[.bool (rangeA k a rn).is, .int .i64 (rangeA k a rn).from_, .int .i64 (rangeA k a rn).to], .int .i64 (rcBy k a rn)])
  | _ => .fail
theorem rcLegal_fn : PureFn Tryz.prog 79 (sigExt [] rcLegalG) :=
  pureFn_mk (bodied_ex (by kernel_rfl)) fun args d h => by
    unfold rcLegalG at h
    split at h
    · rename_i k a b rk rn
      cases ev_ret h
      refine pureAt0 plainN mixedN cmvE_ok noL (k := 30) ((rcLegal_tree k a b rk rn).trans ?_) rfl
      simp only [T.ev_ite, T.ev_ret, T.ev_fail, rcBy]
      generalize rangeA k a rn = x
      generalize IntKind.i64.wrap (0 - a) = y
      by_cases h1 : k = 13
      · by_cases h2 : rn = 1 <;> simp [h1, h2]
      · have e1 : (k == 13) = false := by simpa using h1
        by_cases h3 : k = 14
        · by_cases h2 : rn = 1 <;> simp [h3, h2]
        · simp [h1, h3]
    · exact (ev_fail h).elim
def cmvE2 : List (Nat × ExtFn) := (33, pureExt (sigExt [] (pairG2 rcSetB))) :: (34, pureExt (sigExt [] (pairG2 cmMapB))) :: (79, pureExt (sigExt [] rcLegalG)) :: cmvE
theorem cmvE2_ok (N : Nat) : ExtsOk Tryz.prog N cmvE2 := extsOk_cons (extOk_pure rcSet_fn) (extsOk_cons (extOk_pure rcMap_fn) (extsOk_cons (extOk_pure rcLegal_fn) (cmvE_ok N)))

set_option maxRecDepth 100000 in
theorem rcBoth_tree (k a b rk rn k' a' b' rk' rn' : Int) : (((tden Tryz.prog cmvE2 [] 30).call 0 62 [.agg #[.int .i64 k, .int .i64 a, .int .i64 b, .int .i64 rk, .int .i64 rn], .agg #[.int .i64 k', .int .i64 a', .int .i64 b', .int .i64 rk', .int .i64 rn']] ⟨.nil, 0⟩).pure.cut
    (.ite (.yes (.yes (.yes (.yes (.all))))) (.no (.no (.ite (.all) (.ite (.all) (.all))))))).ev = T.ev (α := CV) (
     .ite (!(rangeA k a rn).is)
      (.ret (.agg #[.bool false, .int .i64 (0), .int .i64 (0)]))
      (.ite (!(rangeA k' a' rn').is)
       (.ret (.agg #[.bool false, .int .i64 (0), .int .i64 (0)]))
       (.ite (decide ((if (rangeA k' a' rn').from_ > IntKind.i64.wrap ((rangeA k a rn).from_ + rcBy k a rn) then (rangeA k' a' rn').from_ else IntKind.i64.wrap ((rangeA k a rn).from_ + rcBy k a rn)) > if (rangeA k' a' rn').to < IntKind.i64.wrap ((rangeA k a rn).to + rcBy k a rn) then (rangeA k' a' rn').to else IntKind.i64.wrap ((rangeA k a rn).to + rcBy k a rn)))
        (.ret (.agg #[.bool false, .int .i64 (0), .int .i64 (0)]))
        (.ret (.agg #[.bool true, .int .i64 (IntKind.i64.wrap ((if (rangeA k' a' rn').from_ > IntKind.i64.wrap ((rangeA k a rn).from_ + rcBy k a rn) then (rangeA k' a' rn').from_ else IntKind.i64.wrap ((rangeA k a rn).from_ + rcBy k a rn)) - rcBy k a rn)), .int .i64 (IntKind.i64.wrap ((if (rangeA k' a' rn').to < IntKind.i64.wrap ((rangeA k a rn).to + rcBy k a rn) then (rangeA k' a' rn').to else IntKind.i64.wrap ((rangeA k a rn).to + rcBy k a rn)) - rcBy k a rn))]))))) := by kernel_rfl

def rcBothG : List CV → T CV
  | [.agg ⟨[.int .i64 k, .int .i64 a, .int .i64 b, .int .i64 rk, .int .i64 rn]⟩, .agg ⟨[.int .i64 k', .int .i64 a', .int .i64 b', .int .i64 rk', .int .i64 rn']⟩] =>
    .ret (.agg #[.bool (behindA k a rn k' a' rn').is, .int .i64 (behindA k a rn k' a' rn').from_, .int .i64 (behindA k a rn k' a' rn').to])
  | _ => .fail
theorem rangeA_rn {k a r : Int} (h : (rangeA k a r).is = true) : k = 15 ∨ r = 0 ∨ r = 1 := by
  unfold rangeA at h
  by_cases c1 : k < 13 ∨ 15 < k
  · rw [if_pos c1] at h; cases h
  by_cases c2 : k = 15
  · exact .inl c2
  by_cases c3 : a < 0 ∨ cap62 < a ∨ (r ≠ 0 ∧ r ≠ 1)
  · rw [if_neg c1, if_neg c2, if_pos c3] at h; cases h
  · omega
theorem rcBoth_fn : PureFn Tryz.prog 62 (sigExt [] rcBothG) :=
  pureFn_mk (bodied_ex (by kernel_rfl)) fun args d h => by
    unfold rcBothG at h
    split at h
    · rename_i k a b rk rn k' a' b' rk' rn'
      cases ev_ret h
      refine pureAt0 plainN mixedN cmvE2_ok noL (k := 30) ((rcBoth_tree k a b rk rn k' a' b' rk' rn').trans ?_) rfl
      simp only [T.ev_ite, T.ev_ret]
      cases h1 : (rangeA k a rn).is with
      | false => simp [behindA, h1]
      | true =>
        cases h2 : (rangeA k' a' rn').is with
        | false => simp [behindA, h2]
        | true =>
          obtain ⟨⟨p1, p2, p3, p4⟩, p5, p6, p7, p8, p9⟩ := rangeA_facts h1
          obtain ⟨⟨q1, q2, q3, q4⟩, q5, q6, q7, q8, q9⟩ := rangeA_facts h2
          have hrn := rangeA_rn h1
          have hm : rcBy k a rn = movesB k a rn := by
            unfold rcBy movesB
            by_cases c1 : k = 13 ∧ rn = 1
            · rw [if_pos c1, if_neg (by omega), if_neg (by omega)]
            · rw [if_neg c1]
              by_cases c2 : k = 14 ∧ rn = 1
              · rw [if_pos c2, if_neg (by omega), if_pos c2.1]; exact (wrap64 (by omega) (by omega)).trans (by omega)
              · rw [if_neg c2, if_pos (by omega)]
          have hb : -4611686018427387904 ≤ movesB k a rn ∧ movesB k a rn ≤ 4611686018427387904 := by
            unfold movesB; split
            · omega
            · split <;> omega
          simp only [hm, Bool.not_true, Bool.false_eq_true, if_false]
          unfold behindA
          rw [if_neg (show ¬ ((rangeA k a rn).is = false ∨ (rangeA k' a' rn').is = false) from fun h => h.elim (fun h => by rw [h1] at h; cases h) (fun h => by rw [h2] at h; cases h))]
          generalize movesB k a rn = m at *
          generalize (rangeA k a rn).from_ = x1 at *
          generalize (rangeA k a rn).to = x2 at *
          generalize (rangeA k' a' rn').from_ = y1 at *
          generalize (rangeA k' a' rn').to = y2 at *
          rw [show IntKind.i64.wrap (x1 + m) = x1 + m from wrap64 (by omega) (by omega), show IntKind.i64.wrap (x2 + m) = x2 + m from wrap64 (by omega) (by omega)]
          have e1 : (if y1 > x1 + m then y1 else x1 + m) = max (x1 + m) y1 := by split <;> omega
          have e2 : (if y2 < x2 + m then y2 else x2 + m) = min (x2 + m) y2 := by split <;> omega
          rw [e1, e2]
          by_cases hl : min (x2 + m) y2 < max (x1 + m) y1
          · rw [if_pos hl, decide_eq_true (show max (x1 + m) y1 > min (x2 + m) y2 from hl)]; rfl
          · rw [if_neg hl, decide_eq_false (show ¬ max (x1 + m) y1 > min (x2 + m) y2 from hl)]
            simp only [Bool.false_eq_true, if_false]
            rw [show IntKind.i64.wrap (max (x1 + m) y1 - m) = max (x1 + m) y1 - m from wrap64 (by omega) (by omega), show IntKind.i64.wrap (min (x2 + m) y2 - m) = min (x2 + m) y2 - m from wrap64 (by omega) (by omega)]
    · exact (ev_fail h).elim
def cmvE3 : List (Nat × ExtFn) := (62, pureExt (sigExt [] rcBothG)) :: cmvE2
theorem cmvE3_ok (N : Nat) : ExtsOk Tryz.prog N cmvE3 := extsOk_cons (extOk_pure rcBoth_fn) (cmvE2_ok N)

set_option maxRecDepth 100000 in
theorem rcAcc_tree (k a b rk rn k' a' b' rk' rn' : Int) : (((tden Tryz.prog cmvE3 [] 30).call 0 36 [.agg #[.int .i64 k, .int .i64 a, .int .i64 b, .int .i64 rk, .int .i64 rn], .agg #[.int .i64 k', .int .i64 a', .int .i64 b', .int .i64 rk', .int .i64 rn']] ⟨.nil, 0⟩).pure.cut
    (.yes (.yes (.yes (.yes (.yes (.yes (.yes (.yes (.yes (.yes (.all)))))))))))).ev = T.ev (α := CV) (
     .ite (decide (k' = k'))
      (.ite (decide (a' = a'))
       (.ite (decide (b' = b'))
        (.ite (decide (rk' = rk'))
         (.ite (decide (rn' = rn'))
          (.ite (decide (k = k))
           (.ite (decide (a = a))
            (.ite (decide (b = b))
             (.ite (decide (rk = rk))
              (.ite (decide (rn = rn))
               (.ret (.bool ((behindA k a rn k' a' rn').is == (behindA k' a' rn' k a rn).is && ((behindA k a rn k' a' rn').from_ == (behindA k' a' rn' k a rn).from_ && ((behindA k a rn k' a' rn').to == (behindA k' a' rn' k a rn).to && true)))))
               .fail)
              .fail)
             .fail)
            .fail)
           .fail)
          .fail)
         .fail)
        .fail)
       .fail)
      .fail) := by kernel_rfl

theorem rcAcc_fn : PureFn Tryz.prog 36 (sigExt [] (pairG2 cmAccB)) :=
  pureFn_mk (bodied_ex (by kernel_rfl)) fun args d h => by
    unfold pairG2 at h
    split at h
    · rename_i k a b rk rn k' a' b' rk' rn'
      cases ev_ret h
      refine pureAt0 plainN mixedN cmvE3_ok noL (k := 30) ((rcAcc_tree k a b rk rn k' a' b' rk' rn').trans ?_) rfl
      simp only [T.ev_ite, T.ev_ret, T.ev_fail, cmAccB, eq_self, decide_true, if_true, Bool.decide_and, Bool.and_true, Bool.beq_eq_decide_eq]
      rw [Bool.and_comm, Bool.and_assoc]
    · exact (ev_fail h).elim
def cmvE4 : List (Nat × ExtFn) := (36, pureExt (sigExt [] (pairG2 cmAccB))) :: cmvE3
theorem cmvE4_ok (N : Nat) : ExtsOk Tryz.prog N cmvE4 := extsOk_cons (extOk_pure rcAcc_fn) (cmvE3_ok N)

set_option maxRecDepth 100000 in
theorem rcOps_tree (k a b rk rn k' a' b' rk' rn' : Int) : (((tden Tryz.prog cmvE4 [] 30).call 0 9 [.agg #[.int .i64 k, .int .i64 a, .int .i64 b, .int .i64 rk, .int .i64 rn], .agg #[.int .i64 k', .int .i64 a', .int .i64 b', .int .i64 rk', .int .i64 rn']] ⟨.nil, 0⟩).pure.cut
    (.ite (.ite (.all) (.ite (.all) (.ite (.all) (.ite (.all) (.ite (.all) (.ite (.all) (.all))))))) (.ite (.all) (.ite (.all) (.ite (.all) (.ite (.all) (.ite (.all) (.ite (.all) (.all))))))))).ev = T.ev (α := CV) (
     .ite (opChk k a b rk rn == (0 : Int))
      (.ite (opChk k' a' b' rk' rn' != (0 : Int))
       (.ret (.tuple #[.bool false, .int .i64 (opChk k' a' b' rk' rn')]))
       (.ite (opTy k != opTy k')
        (.ret (.tuple #[.bool true, .int .i64 (0)]))
        (.ite (opTy k == (1 : Int))
         (.ret (.tuple #[.bool (rcCtrB k a b rk rn k' a' b' rk' rn'), .int .i64 (0)]))
         (.ite (opTy k == (2 : Int))
          (.ret (.tuple #[.bool (rcSetB k a b rk rn k' a' b' rk' rn'), .int .i64 (0)]))
          (.ite (opTy k == (3 : Int))
           (.ret (.tuple #[.bool (cmMapB k a b rk rn k' a' b' rk' rn'), .int .i64 (0)]))
           (.ite (opTy k == (4 : Int))
            (.ret (.tuple #[.bool (rcQueB k a b rk rn k' a' b' rk' rn'), .int .i64 (0)]))
            (.ret (.tuple #[.bool (cmAccB k a b rk rn k' a' b' rk' rn'), .int .i64 (0)]))))))))
      (.ite (opChk k a b rk rn != (0 : Int))
       (.ret (.tuple #[.bool false, .int .i64 (opChk k a b rk rn)]))
       (.ite (opTy k != opTy k')
        (.ret (.tuple #[.bool true, .int .i64 (0)]))
        (.ite (opTy k == (1 : Int))
         (.ret (.tuple #[.bool (rcCtrB k a b rk rn k' a' b' rk' rn'), .int .i64 (0)]))
         (.ite (opTy k == (2 : Int))
          (.ret (.tuple #[.bool (rcSetB k a b rk rn k' a' b' rk' rn'), .int .i64 (0)]))
          (.ite (opTy k == (3 : Int))
           (.ret (.tuple #[.bool (cmMapB k a b rk rn k' a' b' rk' rn'), .int .i64 (0)]))
           (.ite (opTy k == (4 : Int))
            (.ret (.tuple #[.bool (rcQueB k a b rk rn k' a' b' rk' rn'), .int .i64 (0)]))
            (.ret (.tuple #[.bool (cmAccB k a b rk rn k' a' b' rk' rn'), .int .i64 (0)]))))))))) := by kernel_rfl

theorem rcCtr_eq {k a b rk rn k' a' b' rk' rn' : Int} (h1 : k = 1 ∨ k = 2) (h2 : k' = 1 ∨ k' = 2) : rcCtrB k a b rk rn k' a' b' rk' rn' = cmCtrB k a b rk rn k' a' b' rk' rn' := by
  unfold rcCtrB cmCtrB
  rcases h1 with rfl | rfl <;> rcases h2 with rfl | rfl <;> simp
theorem stillB_set {k a b rk rn : Int} (h1 : k = 3 ∨ k = 4 ∨ k = 5 ∨ k = 6) (hr : (k = 3 ∨ k = 4) → rn = 0 ∨ rn = 1) : stillB k a b rk rn = !rcMovesB k rn := by
  unfold stillB rcMovesB
  rcases h1 with rfl | rfl | rfl | rfl
  · rcases hr (by simp) with rfl | rfl <;> simp
  · rcases hr (by simp) with rfl | rfl <;> simp
  · simp
  · simp
theorem rcSet_eq {k a b rk rn k' a' b' rk' rn' : Int} (h1 : OpF k a b rk rn) (h2 : OpF k' a' b' rk' rn') (e1 : opTy k = 2) (e2 : opTy k' = 2) : rcSetB k a b rk rn k' a' b' rk' rn' = cmSetB k a b rk rn k' a' b' rk' rn' := by
  have k1 : k = 3 ∨ k = 4 ∨ k = 5 ∨ k = 6 := by
    unfold opTy at e1; unfold OpF at h1; split at e1 <;> (try split at e1) <;> (try split at e1) <;> (try split at e1) <;> (try split at e1) <;> omega
  have k2 : k' = 3 ∨ k' = 4 ∨ k' = 5 ∨ k' = 6 := by
    unfold opTy at e2; unfold OpF at h2; split at e2 <;> (try split at e2) <;> (try split at e2) <;> (try split at e2) <;> (try split at e2) <;> omega
  have r1 : (k = 3 ∨ k = 4) → rk = 2 ∧ (rn = 0 ∨ rn = 1) := fun h => by unfold OpF at h1; omega
  have r2 : (k' = 3 ∨ k' = 4) → rk' = 2 ∧ (rn' = 0 ∨ rn' = 1) := fun h => by unfold OpF at h2; omega
  have s1 := stillB_set (a := a) (b := b) (rk := rk) k1 fun h => (r1 h).2
  have s2 := stillB_set (a := a') (b := b') (rk := rk') k2 fun h => (r2 h).2
  unfold rcSetB cmSetB
  rw [s1, s2]
  clear s1 s2 e1 e2 h1 h2
  cases m1 : rcMovesB k rn with
  | true =>
    have q1 : (k = 3 ∨ k = 4) ∧ rn = 1 := by simpa [rcMovesB] using m1
    cases m2 : rcMovesB k' rn' with
    | true =>
      have q2 : (k' = 3 ∨ k' = 4) ∧ rn' = 1 := by simpa [rcMovesB] using m2
      have a1 := (r1 q1.1).1
      have a2 := (r2 q2.1).1
      by_cases c1 : k = 6
      · omega
      by_cases c2 : k' = 6
      · omega
      by_cases c3 : a = a' <;> simp [c1, c2, c3, q1.2, q2.2, a1, a2]
    | false =>
      by_cases c1 : k = 6
      · omega
      by_cases c2 : k' = 6
      · simp [c1, c2]
      · by_cases c3 : a = a'
        · simp only [c1, c2, c3, and_self, or_self, if_false, ne_eq, not_true_eq_false, Bool.not_true, Bool.false_and, Bool.not_false, Bool.false_or, Bool.true_and, Bool.false_eq_true, and_false]
          rw [eq_comm, decide_eq_false_iff_not]
          intro ⟨ek, er, en⟩
          have : rcMovesB k rn = rcMovesB k' rn' := by rw [ek, en]
          rw [m1, m2] at this; cases this
        · simp [c1, c2, c3]
  | false =>
    cases m2 : rcMovesB k' rn' with
    | true =>
      have q2 : (k' = 3 ∨ k' = 4) ∧ rn' = 1 := by simpa [rcMovesB] using m2
      have c2 : ¬ k' = 6 := by omega
      by_cases c1 : k = 6
      · simp [c1, c2]
      · by_cases c3 : a = a' <;> simp [c1, c2, c3]
    | false =>
      by_cases c1 : k = 6 <;> by_cases c2 : k' = 6 <;> by_cases c3 : a = a' <;> simp [c1, c2, c3]
theorem rcQue_eq {k a b rk rn k' a' b' rk' rn' : Int} (h1 : OpF k a b rk rn) (h2 : OpF k' a' b' rk' rn') (e1 : opTy k = 4) (e2 : opTy k' = 4) : rcQueB k a b rk rn k' a' b' rk' rn' = cmQueB k a b rk rn k' a' b' rk' rn' := by
  have k1 : k = 10 ∨ k = 11 ∨ k = 12 := by
    unfold opTy at e1; unfold OpF at h1; split at e1 <;> (try split at e1) <;> (try split at e1) <;> (try split at e1) <;> (try split at e1) <;> omega
  have k2 : k' = 10 ∨ k' = 11 ∨ k' = 12 := by
    unfold opTy at e2; unfold OpF at h2; split at e2 <;> (try split at e2) <;> (try split at e2) <;> (try split at e2) <;> (try split at e2) <;> omega
  have r1 : k = 11 → (rk = 1 ∧ rn = 0) ∨ rk = 2 := fun h => by unfold OpF at h1; omega
  have r2 : k' = 11 → (rk' = 1 ∧ rn' = 0) ∨ rk' = 2 := fun h => by unfold OpF at h2; omega
  unfold rcQueB rcQ0 cmQueB stillB
  clear e1 e2 h1 h2
  rcases k1 with rfl | rfl | rfl
  · rcases k2 with rfl | rfl | rfl
    · simp
    · rcases r2 rfl with ⟨rfl, rfl⟩ | rfl
      · simp
      · simp [eq_comm]
    · simp
  · rcases k2 with rfl | rfl | rfl
    · rcases r1 rfl with ⟨rfl, rfl⟩ | rfl
      · simp
      · simp [eq_comm]
    · rcases r1 rfl with ⟨rfl, rfl⟩ | rfl
      · rcases r2 rfl with ⟨rfl, rfl⟩ | rfl
        · simp
        · simp
      · rcases r2 rfl with ⟨rfl, rfl⟩ | rfl
        · simp
        · simp
    · rcases r1 rfl with ⟨rfl, rfl⟩ | rfl <;> simp
  · rcases k2 with rfl | rfl | rfl
    · simp
    · rcases r2 rfl with ⟨rfl, rfl⟩ | rfl <;> simp
    · simp
set_option maxHeartbeats 4000000 in
theorem rcOps_fn : PureFn Tryz.prog 9 (sigExt [] opsG) :=
  pureFn_mk (bodied_ex (by kernel_rfl)) fun args d h => by
    unfold opsG at h
    split at h
    · rename_i k a b rk rn k' a' b' rk' rn'
      cases ev_ret h
      refine pureAt0 plainN mixedN cmvE4_ok noL (k := 30) ((rcOps_tree k a b rk rn k' a' b' rk' rn').trans ?_) rfl
      simp only [T.ev_ite, T.ev_ret, T.ev_fail, cmIs, cmEr, opC, cmOpsB]
      by_cases hp : opChk k a b rk rn = 0
      · by_cases hq : opChk k' a' b' rk' rn' = 0
        · have f1 := opChk_facts hp
          have f2 := opChk_facts hq
          simp only [hp, hq, beq_self_eq_true, bne_self_eq_false, if_true, Bool.false_eq_true, if_false, ne_eq, not_true_eq_false, or_self]
          by_cases ht : opTy k = opTy k'
          · have e0 : (opTy k != opTy k') = false := by simp [ht]
            rw [e0]
            simp only [ht, Bool.false_eq_true, if_false, not_true_eq_false]
            have kk := opChk_kind hp
            have kk' := opChk_kind hq
            obtain ⟨_, f3⟩ := five kk
            obtain ⟨_, g3⟩ := five kk'
            simp only [decide_eq_true_eq, decide_eq_false_iff_not] at f3 g3
            by_cases t1 : opTy k' = 1
            · rw [t1]; simp only [beq_self_eq_true, if_true]
              rw [rcCtr_eq (by omega) (by omega)]
            by_cases t2 : opTy k' = 2
            · rw [t2]; simp only [show ((2 : Int) == 1) = false from rfl, show ¬ ((2 : Int) = 1) by decide, beq_self_eq_true, if_true, Bool.false_eq_true, if_false]
              rw [rcSet_eq f1 f2 (by omega) t2]
            by_cases t3 : opTy k' = 3
            · rw [t3]; simp
            by_cases t4 : opTy k' = 4
            · rw [t4]; simp only [show ((4 : Int) == 1) = false from rfl, show ((4 : Int) == 2) = false from rfl, show ((4 : Int) == 3) = false from rfl, show ¬ ((4 : Int) = 1) by decide, show ¬ ((4 : Int) = 2) by decide, show ¬ ((4 : Int) = 3) by decide, beq_self_eq_true, if_true, Bool.false_eq_true, if_false]
              rw [rcQue_eq f1 f2 (by omega) t4]
            simp [t1, t2, t3, t4]
          · have e0 : (opTy k != opTy k') = true := by rw [bne_iff_ne]; exact ht
            rw [e0]; simp [ht]
        · have e : (opChk k' a' b' rk' rn' != 0) = true := by rw [bne_iff_ne]; exact hq
          simp [hp, hq, e]
      · have e : (opChk k a b rk rn != 0) = true := by rw [bne_iff_ne]; exact hp
        have e' : (opChk k a b rk rn == 0) = false := by simpa using hp
        simp [hp, e, e']
    · exact (ev_fail h).elim

def c18E : List (Nat × ExtFn) := (12, pureExt trueG) :: (19, pureExt trueG) :: (8, pureExt (sigExt [] opsG)) :: (9, pureExt (sigExt [] opsG)) :: (10, pureExt (sigExt [] stlG)) :: (11, pureExt (sigExt [] stlG)) ::
  (26, pureExt (sigExt [] opCheckG)) :: (20, pureExt (sigExt [] opTypeG)) :: kitE
theorem c18E_ok (N : Nat) : ExtsOk Tryz.prog N c18E := extsOk_cons (extOk_pure cmtAwake_fn) (extsOk_cons (extOk_pure cmtKnown_fn) (extsOk_cons (extOk_pure ops_fn) (extsOk_cons (extOk_pure rcOps_fn) (extsOk_cons (extOk_pure cmStl_fn) (extsOk_cons (extOk_pure rcStl_fn) (extsOk_cons (extOk_pure opCheck_fn) (extsOk_cons (extOk_pure opType_fn) (kitE_ok N))))))))

end Go.Proofs.YtecidokjhplbgaaGreatDoorD
