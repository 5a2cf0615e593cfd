/-
  Chapter 18: which operations commute: trees, contracts.
-/
import Derived.Test.YtecidokjhplbgaaGreatDoorOpnAE
import Derived.Test.YtecidokjhplbgaaGreatDoorChEsc
set_option linter.unusedVariables false
set_option linter.unusedSimpArgs false
namespace Go.Proofs.YtecidokjhplbgaaGreatDoorD
open Go Go.RowKit

set_option maxRecDepth 100000 in
theorem cmStill_tree (k a b rk rn : Int) : (((tden Tryz.prog [] [] 30).call 0 37 [.agg #[.int .i64 k, .int .i64 a, .int .i64 b, .int .i64 rk, .int .i64 rn]] ⟨.nil, 0⟩).pure.cut
    (.ite (.all) (.ite (.yes (.all)) (.ite (.all) (.ite (.yes (.yes (.yes (.yes (.yes (.yes (.yes (.all)))))))) (.ite (.yes (.yes (.yes (.yes (.yes (.no (.yes (.all)))))))) (.ite (.all) (.ite (.all) (.ite (.yes (.ite (.yes (.yes (.yes (.all)))) (.no (.no (.all))))) (.ite (.ite (.yes (.yes (.yes (.all)))) (.no (.no (.all)))) (.all))))))))))).ev = T.ev (α := CV) (
     .ite (k == (1 : Int))
      (.ret (.bool (a == (0 : Int))))
      (.ite (k == (3 : Int))
       (.ret (.bool (rn == (0 : Int))))
       (.ite (k == (4 : Int))
        (.ret (.bool (rn == (0 : Int))))
        (.ite (k == (7 : Int))
         (.ite (decide (k = k))
          (.ite (decide (a = a))
           (.ite (decide (b = b))
            (.ite (decide (rk = rk))
             (.ite (decide (rn = rn))
              (.ite (k == (7 : Int))
               (.ret (.bool (rk == (2 : Int) && (rn == b && true))))
               .fail)
              .fail)
             .fail)
            .fail)
           .fail)
          .fail)
         (.ite (k == (9 : Int))
          (.ite (decide (k = k))
           (.ite (decide (a = a))
            (.ite (decide (b = b))
             (.ite (decide (rk = rk))
              (.ite (decide (rn = rn))
               (.ite (k == (7 : Int)) .fail
                (.ite (k == (9 : Int))
                 (.ret (.bool (rk == (1 : Int) && (rn == (0 : Int) && true))))
                 .fail))
               .fail)
              .fail)
             .fail)
            .fail)
           .fail)
          (.ite (k == (10 : Int))
           (.ret (.bool false))
           (.ite (k == (11 : Int))
            (.ret (.bool (rk == (1 : Int))))
            (.ite (k == (13 : Int))
             (.ite (rn == (0 : Int))
              (.ret (.bool true))
              (.ret (.bool (a == (0 : Int)))))
             (.ite (k == (14 : Int))
              (.ite (rn == (0 : Int))
               (.ret (.bool true))
               (.ret (.bool (a == (0 : Int)))))
              (.ret (.bool true))))))))))) := by kernel_rfl
set_option maxRecDepth 100000 in
theorem cmCtr_tree (k a b rk rn k' a' b' rk' rn' : Int) : (((tden Tryz.prog [] [] 30).call 0 55 [.agg #[.int .i64 k, .int .i64 a, .int .i64 b, .int .i64 rk, .int .i64 rn, .int .i64 k', .int .i64 a', .int .i64 b', .int .i64 rk', .int .i64 rn']] ⟨.nil, 0⟩).pure.cut
    (.ite (.yes (.yes (.yes (.yes (.yes (.yes (.yes (.yes (.yes (.yes (.yes (.yes (.yes (.all)))))))))))))) (.no (.no (.no (.no (.ite (.yes (.yes (.yes (.no (.ite (.yes (.yes (.yes (.yes (.yes (.yes (.all))))))) (.no (.no (.no (.no (.ite (.yes (.yes (.yes (.no (.all))))) (.no (.no (.no (.no (.no (.all)))))))))))))))) (.no (.no (.no (.no (.no (.no (.no (.no (.no (.no (.ite (.yes (.yes (.yes (.no (.all))))) (.no (.no (.no (.no (.no (.all)))))))))))))))))))))))).ev = T.ev (α := CV) (
     .ite (k == k')
      (.ret (.bool true))
      (.ite (k == (1 : Int))
       (.ite (a == (0 : Int))
        (.ret (.bool true))
        (.ite (k' == (1 : Int))
         (.ret (.bool (a' == (0 : Int))))
         (.ret (.bool false))))
       (.ite (k' == (1 : Int))
        (.ret (.bool (a' == (0 : Int))))
        (.ret (.bool false))))) := by kernel_rfl
set_option maxRecDepth 100000 in
theorem cmLeft_tree (k a b rk rn : Int) : (((tden Tryz.prog [] [] 30).call 0 64 [.agg #[.int .i64 k, .int .i64 a, .int .i64 b, .int .i64 rk, .int .i64 rn]] ⟨.nil, 0⟩).pure.cut
    (.ite (.all) (.ite (.all) (.all)))).ev = T.ev (α := CV) (
     .ite (k == (7 : Int))
      (.ret (.agg #[.int .i64 (2), .int .i64 (b)]))
      (.ite (k == (9 : Int))
       (.ret (.agg #[.int .i64 (1), .int .i64 (0)]))
       (.ret (.agg #[.int .i64 (rk), .int .i64 (rn)])))) := by kernel_rfl
set_option maxRecDepth 100000 in
theorem cmHome_tree (k a b rk rn : Int) : (((tden Tryz.prog [] [] 30).call 0 63 [.agg #[.int .i64 k, .int .i64 a, .int .i64 b, .int .i64 rk, .int .i64 rn]] ⟨.nil, 0⟩).pure.cut
    (.all)).ev = T.ev (α := CV) (
     .ret (.agg #[.int .i64 (rk), .int .i64 (rn)])) := by kernel_rfl

def leftK (k rk : Int) : Int := if k = 7 then 2 else if k = 9 then 1 else rk
def leftN (k b rn : Int) : Int := if k = 7 then b else if k = 9 then 0 else rn
def leftG : List CV → T CV
  | [.agg ⟨[.int .i64 k, .int .i64 a, .int .i64 b, .int .i64 rk, .int .i64 rn]⟩] => .ret (.agg #[.int .i64 (leftK k rk), .int .i64 (leftN k b rn)])
  | _ => .fail
def homeG : List CV → T CV
  | [.agg ⟨[.int .i64 k, .int .i64 a, .int .i64 b, .int .i64 rk, .int .i64 rn]⟩] => .ret (.agg #[.int .i64 rk, .int .i64 rn])
  | _ => .fail
def stillB (k a b rk rn : Int) : Bool :=
  if k = 1 then decide (a = 0) else if k = 3 ∨ k = 4 then decide (rn = 0) else if k = 7 then decide (rk = 2 ∧ rn = b) else if k = 9 then decide (rk = 1 ∧ rn = 0)
  else if k = 10 then false else if k = 11 then decide (rk = 1) else if k = 13 ∨ k = 14 then decide (rn = 0 ∨ a = 0) else true
def stillG : List CV → T CV
  | [.agg ⟨[.int .i64 k, .int .i64 a, .int .i64 b, .int .i64 rk, .int .i64 rn]⟩] => .ret (.bool (stillB k a b rk rn))
  | _ => .fail
theorem left_fn : PureFn Tryz.prog 64 (sigExt [] leftG) :=
  pureFn_mk (bodied_ex (by kernel_rfl)) fun args d h => by
    unfold leftG at h
    split at h
    · rename_i k a b rk rn
      cases ev_ret h
      refine pureAt0 plainN mixedN noE noL (k := 30) ((cmLeft_tree k a b rk rn).trans ?_) rfl
      by_cases h7 : k = 7
      · simp [T.ev_ite, T.ev_ret, leftK, leftN, h7]
      · by_cases h9 : k = 9
        · simp [T.ev_ite, T.ev_ret, leftK, leftN, h9]
        · simp [T.ev_ite, T.ev_ret, leftK, leftN, h7, h9]
    · exact (ev_fail h).elim
theorem home_fn : PureFn Tryz.prog 63 (sigExt [] homeG) :=
  pureFn_mk (bodied_ex (by kernel_rfl)) fun args d h => by
    unfold homeG at h
    split at h
    · rename_i k a b rk rn
      cases ev_ret h
      exact pureAt0 plainN mixedN noE noL (k := 30) ((cmHome_tree k a b rk rn).trans (by simp [T.ev_ite, T.ev_ret])) rfl
    · exact (ev_fail h).elim
theorem still_fn : PureFn Tryz.prog 37 (sigExt [] stillG) :=
  pureFn_mk (bodied_ex (by kernel_rfl)) fun args d h => by
    unfold stillG at h
    split at h
    · rename_i k a b rk rn
      cases ev_ret h
      refine pureAt0 plainN mixedN noE noL (k := 30) ((cmStill_tree k a b rk rn).trans ?_) rfl
      by_cases h1 : k = 1
      · simp [T.ev_ite, T.ev_ret, stillB, h1, Bool.beq_eq_decide_eq]
      by_cases h3 : k = 3
      · simp [T.ev_ite, T.ev_ret, stillB, h3, Bool.beq_eq_decide_eq]
      by_cases h4 : k = 4
      · simp [T.ev_ite, T.ev_ret, stillB, h4, Bool.beq_eq_decide_eq]
      by_cases h7 : k = 7
      · simp [T.ev_ite, T.ev_ret, stillB, h7, Bool.beq_eq_decide_eq]
      by_cases h9 : k = 9
      · simp [T.ev_ite, T.ev_ret, stillB, h9, Bool.beq_eq_decide_eq]
      by_cases h10 : k = 10
      · simp [T.ev_ite, T.ev_ret, stillB, h10]
      by_cases h11 : k = 11
      · simp [T.ev_ite, T.ev_ret, stillB, h11, Bool.beq_eq_decide_eq]
      by_cases h13 : k = 13
      · by_cases hr : rn = 0 <;> simp [T.ev_ite, T.ev_ret, stillB, h13, hr, Bool.beq_eq_decide_eq]
      by_cases h14 : k = 14
      · by_cases hr : rn = 0 <;> simp [T.ev_ite, T.ev_ret, stillB, h14, hr, Bool.beq_eq_decide_eq]
      simp [T.ev_ite, T.ev_ret, stillB, h1, h3, h4, h7, h9, h10, h11, h13, h14]
    · exact (ev_fail h).elim
def cmE : List (Nat × ExtFn) := [(64, pureExt (sigExt [] leftG)), (63, pureExt (sigExt [] homeG)), (37, pureExt (sigExt [] stillG))]
theorem cmE_ok (N : Nat) : ExtsOk Tryz.prog N cmE := extsOk_cons (extOk_pure left_fn) (extsOk_cons (extOk_pure home_fn) (extsOk_cons (extOk_pure still_fn) extsOk_nil))

set_option maxRecDepth 100000 in
theorem cmMap_tree (k a b rk rn k' a' b' rk' rn' : Int) : (((tden Tryz.prog cmE [] 30).call 0 57 [.agg #[.int .i64 k, .int .i64 a, .int .i64 b, .int .i64 rk, .int .i64 rn, .int .i64 k', .int .i64 a', .int .i64 b', .int .i64 rk', .int .i64 rn']] ⟨.nil, 0⟩).pure.cut
    (.ite (.all) (.yes (.yes (.yes (.yes (.yes (.yes (.yes (.yes (.yes (.yes (.yes (.yes (.yes (.yes (.yes (.yes (.yes (.yes (.yes (.yes (.yes (.yes (.yes (.yes (.yes (.yes (.yes (.yes (.yes (.yes (.yes (.yes (.yes (.yes (.yes (.yes (.yes (.yes (.yes (.yes (.yes (.yes (.yes (.yes (.yes (.yes (.ite (.yes (.yes (.ite (.yes (.yes (.yes (.yes (.yes (.yes (.yes (.all)))))))) (.no (.no (.no (.ite (.yes (.yes (.no (.no (.ite (.yes (.yes (.no (.all)))) (.no (.no (.no (.no (.all)))))))))) (.no (.no (.no (.no (.no (.no (.no (.no (.no (.no (.all)))))))))))))))))) (.no (.no (.no (.no (.no (.no (.no (.ite (.yes (.yes (.no (.no (.ite (.yes (.yes (.no (.all)))) (.no (.no (.no (.no (.all)))))))))) (.no (.no (.no (.no (.no (.no (.no (.no (.no (.no (.all)))))))))))))))))))))))))))))))))))))))))))))))))))))))))))))))))))).ev = T.ev (α := CV) (
     .ite (a != a')
      (.ret (.bool true))
      (.ite (decide (k = k))
       (.ite (decide (a = a))
        (.ite (decide (b = b))
         (.ite (decide (rk = rk))
          (.ite (decide (rn = rn))
           (.ite (decide (k' = k'))
            (.ite (decide (a' = a'))
             (.ite (decide (b' = b'))
              (.ite (decide (rk' = rk'))
               (.ite (decide (rn' = rn'))
                (.ite (decide (k' = k'))
                 (.ite (decide (a' = a'))
                  (.ite (decide (b' = b'))
                   (.ite (decide (rk' = rk'))
                    (.ite (decide (rn' = rn'))
                     (.ite (decide (k' = k'))
                      (.ite (decide (a' = a'))
                       (.ite (decide (b' = b'))
                        (.ite (decide (rk' = rk'))
                         (.ite (decide (rn' = rn'))
                          (.ite (decide (k' = k'))
                           (.ite (decide (a' = a'))
                            (.ite (decide (b' = b'))
                             (.ite (decide (rk' = rk'))
                              (.ite (decide (rn' = rn'))
                               (.ite (decide (k' = k'))
                                (.ite (decide (a' = a'))
                                 (.ite (decide (b' = b'))
                                  (.ite (decide (rk' = rk'))
                                   (.ite (decide (rn' = rn'))
                                    (.ite (!(leftK k rk == rk' && (leftN k b rn == rn' && true)))
                                     (.ite (!(leftK k' rk' == rk && (leftN k' b' rn' == rn && true)))
                                      (.ret (.bool true))
                                      (.ite (rk == leftK k rk && (rn == leftN k b rn && true))
                                       (.ite (leftK k rk == rk' && (leftN k b rn == rn' && true))
                                        (.ret (.bool (rk' == leftK k' rk' && (rn' == leftN k' b' rn' && true))))
                                        (.ret (.bool false)))
                                       (.ret (.bool false))))
                                     (.ite (rk == leftK k rk && (rn == leftN k b rn && true))
                                      (.ite (leftK k rk == rk' && (leftN k b rn == rn' && true))
                                       (.ret (.bool (rk' == leftK k' rk' && (rn' == leftN k' b' rn' && true))))
                                       (.ret (.bool false)))
                                      (.ret (.bool false))))
                                    .fail)
                                   .fail)
                                  .fail)
                                 .fail)
                                .fail)
                               .fail)
                              .fail)
                             .fail)
                            .fail)
                           .fail)
                          .fail)
                         .fail)
                        .fail)
                       .fail)
                      .fail)
                     .fail)
                    .fail)
                   .fail)
                  .fail)
                 .fail)
                .fail)
               .fail)
              .fail)
             .fail)
            .fail)
           .fail)
          .fail)
         .fail)
        .fail)
       .fail)) := by kernel_rfl

set_option maxRecDepth 100000 in
theorem cmSet_tree (k a b rk rn k' a' b' rk' rn' : Int) : (((tden Tryz.prog cmE [] 30).call 0 56 [.agg #[.int .i64 k, .int .i64 a, .int .i64 b, .int .i64 rk, .int .i64 rn, .int .i64 k', .int .i64 a', .int .i64 b', .int .i64 rk', .int .i64 rn']] ⟨.nil, 0⟩).pure.cut
    (.yes (.yes (.yes (.yes (.yes (.ite (.yes (.yes (.yes (.yes (.ite (.yes (.all)) (.no (.no (.all)))))))) (.no (.no (.ite (.ite (.yes (.all)) (.no (.no (.all)))) (.ite (.all) (.ite (.yes (.ite (.yes (.yes (.yes (.yes (.yes (.yes (.yes (.all)))))))) (.no (.no (.no (.ite (.yes (.yes (.yes (.yes (.no (.no (.ite (.yes (.yes (.yes (.yes (.no (.all)))))) (.no (.no (.no (.no (.no (.no (.all)))))))))))))) (.no (.no (.no (.no (.no (.no (.no (.no (.no (.no (.no (.no (.no (.no (.all))))))))))))))))))))) (.no (.no (.no (.no (.no (.no (.ite (.yes (.yes (.yes (.yes (.no (.no (.ite (.yes (.yes (.yes (.yes (.no (.all)))))) (.no (.no (.no (.no (.no (.no (.all)))))))))))))) (.no (.no (.no (.no (.no (.no (.no (.no (.no (.no (.no (.no (.no (.no (.all)))))))))))))))))))))))))))))))))).ev = T.ev (α := CV) (
     .ite (decide (k' = k'))
      (.ite (decide (a' = a'))
       (.ite (decide (b' = b'))
        (.ite (decide (rk' = rk'))
         (.ite (decide (rn' = rn'))
          (.ite (k == (6 : Int))
           (.ite (stillB k a b rk rn)
            (.ret (.bool (stillB k' a' b' rk' rn')))
            (.ret (.bool false)))
           (.ite (k' == (6 : Int))
            (.ite (stillB k a b rk rn)
             (.ret (.bool (stillB k' a' b' rk' rn')))
             (.ret (.bool false)))
            (.ite (a != a')
             (.ret (.bool true))
             (.ite (stillB k a b rk rn)
              (.ite (stillB k' a' b' rk' rn')
               (.ret (.bool true))
               (.ite (!stillB k a b rk rn)
                (.ite (k == k')
                 (.ret (.bool (rk == rk' && (rn == rn' && true))))
                 (.ret (.bool false)))
                (.ret (.bool false))))
              (.ite (!stillB k a b rk rn)
               (.ite (k == k')
                (.ret (.bool (rk == rk' && (rn == rn' && true))))
                (.ret (.bool false)))
               (.ret (.bool false)))))))
          .fail)
         .fail)
        .fail)
       .fail)
      .fail) := by kernel_rfl

set_option maxRecDepth 100000 in
theorem cmQue_tree (k a b rk rn k' a' b' rk' rn' : Int) : (((tden Tryz.prog cmE [] 30).call 0 58 [.agg #[.int .i64 k, .int .i64 a, .int .i64 b, .int .i64 rk, .int .i64 rn, .int .i64 k', .int .i64 a', .int .i64 b', .int .i64 rk', .int .i64 rn']] ⟨.nil, 0⟩).pure.cut
    (.yes (.yes (.yes (.yes (.yes (.ite (.yes (.ite (.all) (.ite (.yes (.yes (.ite (.all) (.ite (.yes (.yes (.yes (.ite (.yes (.yes (.ite (.yes (.yes (.yes (.ite (.all) (.yes (.yes (.yes (.yes (.yes (.yes (.yes (.no (.no (.no (.no (.no (.no (.all)))))))))))))))))) (.no (.no (.no (.no (.no (.yes (.yes (.yes (.no (.no (.no (.no (.no (.no (.no (.no (.no (.no (.no (.all))))))))))))))))))))))) (.no (.no (.no (.no (.yes (.yes (.yes (.ite (.yes (.yes (.yes (.ite (.all) (.no (.no (.no (.no (.no (.all)))))))))) (.no (.no (.no (.no (.no (.no (.no (.no (.no (.no (.all))))))))))))))))))))))) (.no (.no (.no (.no (.no (.no (.no (.no (.no (.yes (.yes (.yes (.ite (.yes (.yes (.yes (.ite (.all) (.no (.no (.no (.no (.no (.all)))))))))) (.no (.no (.no (.no (.no (.no (.no (.no (.no (.no (.all)))))))))))))))))))))))))))) (.no (.no (.no (.no (.ite (.yes (.yes (.yes (.ite (.yes (.yes (.ite (.yes (.yes (.yes (.ite (.all) (.no (.no (.no (.no (.no (.ite (.yes (.yes (.yes (.yes (.yes (.yes (.yes (.yes (.yes (.yes (.yes (.yes (.no (.no (.no (.no (.yes (.yes (.yes (.no (.yes (.yes (.yes (.yes (.no (.no (.no (.no (.no (.yes (.yes (.yes (.yes (.yes (.yes (.yes (.yes (.all)))))))))))))))))))))))))))))))))))))) (.no (.no (.no (.no (.all))))))))))))))) (.no (.no (.no (.no (.no (.no (.no (.no (.no (.no (.ite (.yes (.yes (.yes (.yes (.yes (.yes (.yes (.yes (.yes (.yes (.yes (.yes (.no (.no (.no (.no (.yes (.yes (.yes (.no (.no (.no (.no (.no (.no (.no (.no (.no (.no (.no (.yes (.yes (.yes (.yes (.yes (.yes (.yes (.yes (.all))))))))))))))))))))))))))))))))))))))) (.no (.no (.no (.no (.all))))))))))))))))))) (.no (.no (.no (.no (.no (.no (.no (.no (.no (.ite (.yes (.yes (.yes (.yes (.yes (.yes (.no (.all)))))))) (.no (.no (.no (.no (.all))))))))))))))))))) (.no (.no (.no (.no (.no (.no (.no (.no (.no (.no (.no (.no (.no (.no (.ite (.yes (.yes (.no (.no (.no (.no (.no (.no (.all))))))))) (.no (.no (.no (.no (.all)))))))))))))))))))))))))))) (.no (.no (.no (.ite (.yes (.yes (.ite (.all) (.ite (.yes (.yes (.yes (.ite (.yes (.yes (.ite (.yes (.yes (.yes (.ite (.all) (.yes (.yes (.yes (.yes (.yes (.yes (.yes (.no (.no (.no (.no (.no (.no (.all)))))))))))))))))) (.no (.no (.no (.no (.no (.yes (.yes (.yes (.no (.no (.no (.no (.no (.no (.no (.no (.no (.no (.no (.all))))))))))))))))))))))) (.no (.no (.no (.no (.yes (.yes (.yes (.ite (.yes (.yes (.yes (.ite (.all) (.no (.no (.no (.no (.no (.all)))))))))) (.no (.no (.no (.no (.no (.no (.no (.no (.no (.no (.all))))))))))))))))))))))) (.no (.no (.no (.no (.no (.no (.no (.no (.no (.yes (.yes (.yes (.ite (.yes (.yes (.yes (.ite (.all) (.no (.no (.no (.no (.no (.all)))))))))) (.no (.no (.no (.no (.no (.no (.no (.no (.no (.no (.all)))))))))))))))))))))))))))) (.no (.no (.no (.no (.ite (.yes (.yes (.yes (.ite (.yes (.yes (.ite (.yes (.yes (.yes (.ite (.all) (.no (.no (.no (.no (.no (.ite (.yes (.yes (.yes (.yes (.yes (.yes (.yes (.yes (.yes (.yes (.yes (.yes (.ite (.yes (.no (.yes (.yes (.yes (.no (.yes (.yes (.yes (.yes (.no (.no (.no (.no (.no (.yes (.yes (.yes (.yes (.yes (.yes (.yes (.yes (.all)))))))))))))))))))))))) (.no (.no (.no (.yes (.yes (.yes (.no (.yes (.yes (.yes (.yes (.no (.no (.no (.no (.no (.yes (.yes (.yes (.yes (.yes (.yes (.yes (.yes (.all)))))))))))))))))))))))))))))))))))))) (.no (.no (.no (.no (.all))))))))))))))) (.no (.no (.no (.no (.no (.no (.no (.no (.no (.no (.ite (.yes (.yes (.yes (.yes (.yes (.yes (.yes (.yes (.yes (.yes (.yes (.yes (.ite (.yes (.no (.yes (.yes (.yes (.no (.no (.no (.no (.no (.no (.no (.no (.no (.no (.no (.yes (.yes (.yes (.yes (.yes (.yes (.yes (.yes (.all))))))))))))))))))))))))) (.no (.no (.no (.yes (.yes (.yes (.no (.no (.no (.no (.no (.no (.no (.no (.no (.no (.no (.yes (.yes (.yes (.yes (.yes (.yes (.yes (.yes (.all))))))))))))))))))))))))))))))))))))))) (.no (.no (.no (.no (.all))))))))))))))))))) (.no (.no (.no (.no (.no (.no (.no (.no (.no (.ite (.yes (.yes (.yes (.yes (.yes (.yes (.no (.all)))))))) (.no (.no (.no (.no (.all))))))))))))))))))) (.no (.no (.no (.no (.no (.no (.no (.no (.no (.no (.no (.no (.no (.no (.ite (.yes (.yes (.no (.no (.no (.no (.no (.no (.all))))))))) (.no (.no (.no (.no (.all)))))))))))))))))))))))))))))))))))).ev = T.ev (α := CV) (
     .ite (decide (k' = k'))
      (.ite (decide (a' = a'))
       (.ite (decide (b' = b'))
        (.ite (decide (rk' = rk'))
         (.ite (decide (rn' = rn'))
          (.ite (stillB k a b rk rn)
           (.ite (stillB k' a' b' rk' rn')
            (.ret (.bool true))
            (.ite (k == (10 : Int))
             (.ite (k' == (10 : Int))
              (.ret (.bool (a == a')))
              (.ite (k == (11 : Int))
               (.ite (rk == (2 : Int))
                (.ite (k' == (11 : Int))
                 (.ite (rk' == (2 : Int))
                  (.ret (.bool (rk == rk' && (rn == rn' && true))))
                  (.ite (k == (10 : Int))
                   (.ite (k' == (11 : Int))
                    (.ite (rk' == (2 : Int)) .fail
                     (.ite (k' == (10 : Int)) .fail
                      (.ret (.bool false))))
                    .fail)
                   .fail))
                 (.ite (k == (10 : Int))
                  (.ite (k' == (11 : Int)) .fail
                   (.ite (k' == (10 : Int)) .fail
                    (.ret (.bool false))))
                  .fail))
                (.ite (k == (10 : Int))
                 (.ite (k' == (11 : Int))
                  (.ite (rk' == (2 : Int))
                   (.ret (.bool (a != rn')))
                   (.ite (k' == (10 : Int)) .fail
                    (.ret (.bool false))))
                  (.ite (k' == (10 : Int)) .fail
                   (.ret (.bool false))))
                 .fail))
               (.ite (k == (10 : Int))
                (.ite (k' == (11 : Int))
                 (.ite (rk' == (2 : Int))
                  (.ret (.bool (a != rn')))
                  (.ite (k' == (10 : Int)) .fail
                   (.ret (.bool false))))
                 (.ite (k' == (10 : Int)) .fail
                  (.ret (.bool false))))
                .fail)))
             (.ite (k == (11 : Int))
              (.ite (rk == (2 : Int))
               (.ite (k' == (11 : Int))
                (.ite (rk' == (2 : Int))
                 (.ret (.bool (rk == rk' && (rn == rn' && true))))
                 (.ite (k == (10 : Int)) .fail
                  (.ite (k' == (10 : Int))
                   (.ite (k == (11 : Int))
                    (.ite (rk == (2 : Int))
                     (.ite (decide (k = k))
                      (.ite (decide (a = a))
                       (.ite (decide (b = b))
                        (.ite (decide (rk = rk))
                         (.ite (decide (rn = rn))
                          (.ite (stillB k' a' b' rk' rn') .fail
                           (.ite (k' == (10 : Int))
                            (.ite (k == (10 : Int)) .fail
                             (.ite (k' == (11 : Int))
                              (.ite (rk' == (2 : Int)) .fail
                               (.ite (k' == (10 : Int))
                                (.ite (k == (11 : Int))
                                 (.ite (rk == (2 : Int))
                                  (.ret (.bool (a' != rn)))
                                  .fail)
                                 .fail)
                                .fail))
                              .fail))
                            .fail))
                          .fail)
                         .fail)
                        .fail)
                       .fail)
                      .fail)
                     .fail)
                    .fail)
                   (.ret (.bool false)))))
                (.ite (k == (10 : Int)) .fail
                 (.ite (k' == (10 : Int))
                  (.ite (k == (11 : Int))
                   (.ite (rk == (2 : Int))
                    (.ite (decide (k = k))
                     (.ite (decide (a = a))
                      (.ite (decide (b = b))
                       (.ite (decide (rk = rk))
                        (.ite (decide (rn = rn))
                         (.ite (stillB k' a' b' rk' rn') .fail
                          (.ite (k' == (10 : Int))
                           (.ite (k == (10 : Int)) .fail
                            (.ite (k' == (11 : Int)) .fail
                             (.ite (k' == (10 : Int))
                              (.ite (k == (11 : Int))
                               (.ite (rk == (2 : Int))
                                (.ret (.bool (a' != rn)))
                                .fail)
                               .fail)
                              .fail)))
                           .fail))
                         .fail)
                        .fail)
                       .fail)
                      .fail)
                     .fail)
                    .fail)
                   .fail)
                  (.ret (.bool false)))))
               (.ite (k == (10 : Int)) .fail
                (.ite (k' == (10 : Int))
                 (.ite (k == (11 : Int))
                  (.ite (rk == (2 : Int)) .fail
                   (.ret (.bool false)))
                  .fail)
                 (.ret (.bool false)))))
              (.ite (k == (10 : Int)) .fail
               (.ite (k' == (10 : Int))
                (.ite (k == (11 : Int)) .fail
                 (.ret (.bool false)))
                (.ret (.bool false)))))))
           (.ite (k == (10 : Int))
            (.ite (k' == (10 : Int))
             (.ret (.bool (a == a')))
             (.ite (k == (11 : Int))
              (.ite (rk == (2 : Int))
               (.ite (k' == (11 : Int))
                (.ite (rk' == (2 : Int))
                 (.ret (.bool (rk == rk' && (rn == rn' && true))))
                 (.ite (k == (10 : Int))
                  (.ite (k' == (11 : Int))
                   (.ite (rk' == (2 : Int)) .fail
                    (.ite (k' == (10 : Int)) .fail
                     (.ret (.bool false))))
                   .fail)
                  .fail))
                (.ite (k == (10 : Int))
                 (.ite (k' == (11 : Int)) .fail
                  (.ite (k' == (10 : Int)) .fail
                   (.ret (.bool false))))
                 .fail))
               (.ite (k == (10 : Int))
                (.ite (k' == (11 : Int))
                 (.ite (rk' == (2 : Int))
                  (.ret (.bool (a != rn')))
                  (.ite (k' == (10 : Int)) .fail
                   (.ret (.bool false))))
                 (.ite (k' == (10 : Int)) .fail
                  (.ret (.bool false))))
                .fail))
              (.ite (k == (10 : Int))
               (.ite (k' == (11 : Int))
                (.ite (rk' == (2 : Int))
                 (.ret (.bool (a != rn')))
                 (.ite (k' == (10 : Int)) .fail
                  (.ret (.bool false))))
                (.ite (k' == (10 : Int)) .fail
                 (.ret (.bool false))))
               .fail)))
            (.ite (k == (11 : Int))
             (.ite (rk == (2 : Int))
              (.ite (k' == (11 : Int))
               (.ite (rk' == (2 : Int))
                (.ret (.bool (rk == rk' && (rn == rn' && true))))
                (.ite (k == (10 : Int)) .fail
                 (.ite (k' == (10 : Int))
                  (.ite (k == (11 : Int))
                   (.ite (rk == (2 : Int))
                    (.ite (decide (k = k))
                     (.ite (decide (a = a))
                      (.ite (decide (b = b))
                       (.ite (decide (rk = rk))
                        (.ite (decide (rn = rn))
                         (.ite (stillB k' a' b' rk' rn')
                          (.ite (stillB k a b rk rn) .fail
                           (.ite (k' == (10 : Int))
                            (.ite (k == (10 : Int)) .fail
                             (.ite (k' == (11 : Int))
                              (.ite (rk' == (2 : Int)) .fail
                               (.ite (k' == (10 : Int))
                                (.ite (k == (11 : Int))
                                 (.ite (rk == (2 : Int))
                                  (.ret (.bool (a' != rn)))
                                  .fail)
                                 .fail)
                                .fail))
                              .fail))
                            .fail))
                          (.ite (k' == (10 : Int))
                           (.ite (k == (10 : Int)) .fail
                            (.ite (k' == (11 : Int))
                             (.ite (rk' == (2 : Int)) .fail
                              (.ite (k' == (10 : Int))
                               (.ite (k == (11 : Int))
                                (.ite (rk == (2 : Int))
                                 (.ret (.bool (a' != rn)))
                                 .fail)
                                .fail)
                               .fail))
                             .fail))
                           .fail))
                         .fail)
                        .fail)
                       .fail)
                      .fail)
                     .fail)
                    .fail)
                   .fail)
                  (.ret (.bool false)))))
               (.ite (k == (10 : Int)) .fail
                (.ite (k' == (10 : Int))
                 (.ite (k == (11 : Int))
                  (.ite (rk == (2 : Int))
                   (.ite (decide (k = k))
                    (.ite (decide (a = a))
                     (.ite (decide (b = b))
                      (.ite (decide (rk = rk))
                       (.ite (decide (rn = rn))
                        (.ite (stillB k' a' b' rk' rn')
                         (.ite (stillB k a b rk rn) .fail
                          (.ite (k' == (10 : Int))
                           (.ite (k == (10 : Int)) .fail
                            (.ite (k' == (11 : Int)) .fail
                             (.ite (k' == (10 : Int))
                              (.ite (k == (11 : Int))
                               (.ite (rk == (2 : Int))
                                (.ret (.bool (a' != rn)))
                                .fail)
                               .fail)
                              .fail)))
                           .fail))
                         (.ite (k' == (10 : Int))
                          (.ite (k == (10 : Int)) .fail
                           (.ite (k' == (11 : Int)) .fail
                            (.ite (k' == (10 : Int))
                             (.ite (k == (11 : Int))
                              (.ite (rk == (2 : Int))
                               (.ret (.bool (a' != rn)))
                               .fail)
                              .fail)
                             .fail)))
                          .fail))
                        .fail)
                       .fail)
                      .fail)
                     .fail)
                    .fail)
                   .fail)
                  .fail)
                 (.ret (.bool false)))))
              (.ite (k == (10 : Int)) .fail
               (.ite (k' == (10 : Int))
                (.ite (k == (11 : Int))
                 (.ite (rk == (2 : Int)) .fail
                  (.ret (.bool false)))
                 .fail)
                (.ret (.bool false)))))
             (.ite (k == (10 : Int)) .fail
              (.ite (k' == (10 : Int))
               (.ite (k == (11 : Int)) .fail
                (.ret (.bool false)))
               (.ret (.bool false)))))))
          .fail)
         .fail)
        .fail)
       .fail)
      .fail) := by kernel_rfl

def cmCtrB (k a b rk rn k' a' b' rk' rn' : Int) : Bool := decide (k = k' ∨ (k = 1 ∧ a = 0) ∨ (k' = 1 ∧ a' = 0))
def cmSetB (k a b rk rn k' a' b' rk' rn' : Int) : Bool :=
  if k = 6 ∨ k' = 6 then stillB k a b rk rn && stillB k' a' b' rk' rn'
  else if a ≠ a' then true
  else (stillB k a b rk rn && stillB k' a' b' rk' rn') || (!stillB k a b rk rn && decide (k = k' ∧ rk = rk' ∧ rn = rn'))
def cmMapB (k a b rk rn k' a' b' rk' rn' : Int) : Bool :=
  decide (a ≠ a' ∨ (¬ (leftK k rk = rk' ∧ leftN k b rn = rn') ∧ ¬ (leftK k' rk' = rk ∧ leftN k' b' rn' = rn)) ∨ ((rk = leftK k rk ∧ rn = leftN k b rn) ∧ (leftK k rk = rk' ∧ leftN k b rn = rn') ∧ (rk' = leftK k' rk' ∧ rn' = leftN k' b' rn')))
def pairG (B : Int → Int → Int → Int → Int → Int → Int → Int → Int → Int → Bool) : List CV → T CV
  | [.agg ⟨[.int .i64 k, .int .i64 a, .int .i64 b, .int .i64 rk, .int .i64 rn, .int .i64 k', .int .i64 a', .int .i64 b', .int .i64 rk', .int .i64 rn']⟩] => .ret (.bool (B k a b rk rn k' a' b' rk' rn'))
  | _ => .fail
theorem counters_fn : PureFn Tryz.prog 55 (sigExt [] (pairG cmCtrB)) :=
  pureFn_mk (bodied_ex (by kernel_rfl)) fun args d h => by
    unfold pairG at h
    split at h
    · rename_i k a b rk rn k' a' b' rk' rn'
      cases ev_ret h
      refine pureAt0 plainN mixedN noE noL (k := 30) ((cmCtr_tree k a b rk rn k' a' b' rk' rn').trans ?_) rfl
      simp only [T.ev_ite, T.ev_ret, cmCtrB]
      by_cases h1 : k = k' <;> by_cases h2 : k = 1 <;> by_cases h3 : a = 0 <;> by_cases h4 : k' = 1 <;> by_cases h5 : a' = 0 <;> simp_all
    · exact (ev_fail h).elim
theorem sets_fn : PureFn Tryz.prog 56 (sigExt [] (pairG cmSetB)) :=
  pureFn_mk (bodied_ex (by kernel_rfl)) fun args d h => by
    unfold pairG at h
    split at h
    · rename_i k a b rk rn k' a' b' rk' rn'
      cases ev_ret h
      refine pureAt0 plainN mixedN cmE_ok noL (k := 30) ((cmSet_tree k a b rk rn k' a' b' rk' rn').trans ?_) rfl
      simp only [T.ev_ite, T.ev_ret, T.ev_fail, cmSetB, eq_self, decide_true, if_true]
      generalize stillB k a b rk rn = x
      generalize stillB k' a' b' rk' rn' = y
      by_cases h1 : k = 6 <;> by_cases h2 : k' = 6 <;> by_cases h3 : a = a' <;> by_cases h4 : k = k' <;> cases x <;> cases y <;> simp_all [Bool.beq_eq_decide_eq]
    · exact (ev_fail h).elim
theorem maps_fn : PureFn Tryz.prog 57 (sigExt [] (pairG cmMapB)) :=
  pureFn_mk (bodied_ex (by kernel_rfl)) fun args d h => by
    unfold pairG at h
    split at h
    · rename_i k a b rk rn k' a' b' rk' rn'
      cases ev_ret h
      refine pureAt0 plainN mixedN cmE_ok noL (k := 30) ((cmMap_tree k a b rk rn k' a' b' rk' rn').trans ?_) rfl
      simp only [T.ev_ite, T.ev_ret, T.ev_fail, cmMapB, eq_self, decide_true, if_true]
      have e : ∀ p q r s : Int, (p == q && (r == s && true)) = (decide (p = q) && decide (r = s)) := fun p q r s => by simp [Bool.beq_eq_decide_eq]
      have e2 : (a != a') = !decide (a = a') := by by_cases h : a = a' <;> simp [h]
      simp only [e, e2, ne_eq, Bool.decide_or, Bool.decide_and, decide_not]
      generalize decide (a = a') = x0
      generalize decide (leftK k rk = rk') = x1; generalize decide (leftN k b rn = rn') = x2
      generalize decide (leftK k' rk' = rk) = x3; generalize decide (leftN k' b' rn' = rn) = x4
      generalize decide (rk = leftK k rk) = x5; generalize decide (rn = leftN k b rn) = x6
      generalize decide (rk' = leftK k' rk') = x7; generalize decide (rn' = leftN k' b' rn') = x8
      cases x0 <;> cases x1 <;> cases x2 <;> cases x3 <;> cases x4 <;> cases x5 <;> cases x6 <;> cases x7 <;> cases x8 <;> rfl
    · exact (ev_fail h).elim

def cmQueB (k a b rk rn k' a' b' rk' rn' : Int) : Bool :=
  if (stillB k a b rk rn && stillB k' a' b' rk' rn') = true then true
  else if k = 10 ∧ k' = 10 then decide (a = a')
  else if (k = 11 ∧ rk = 2) ∧ (k' = 11 ∧ rk' = 2) then decide (rk = rk' ∧ rn = rn')
  else if k = 10 ∧ k' = 11 ∧ rk' = 2 then decide (a ≠ rn')
  else if k' = 10 ∧ k = 11 ∧ rk = 2 then decide (a' ≠ rn)
  else false
set_option maxHeartbeats 4000000 in
theorem queues_fn : PureFn Tryz.prog 58 (sigExt [] (pairG cmQueB)) :=
  pureFn_mk (bodied_ex (by kernel_rfl)) fun args d h => by
    unfold pairG at h
    split at h
    · rename_i k a b rk rn k' a' b' rk' rn'
      cases ev_ret h
      refine pureAt0 plainN mixedN cmE_ok noL (k := 30) ((cmQue_tree k a b rk rn k' a' b' rk' rn').trans ?_) rfl
      simp only [T.ev_ite, T.ev_ret, T.ev_fail, cmQueB, eq_self, decide_true, if_true]
      have nb : ∀ p q : Int, (p != q) = !decide (p = q) := fun p q => by by_cases h : p = q <;> simp [h]
      simp only [nb]
      clear h nb
      generalize stillB k a b rk rn = x
      generalize stillB k' a' b' rk' rn' = y
      have n10 : ((11 : Int) == 10) = false := rfl
      have n11 : ((10 : Int) == 11) = false := rfl
      have m10 : ¬ ((11 : Int) = 10) := by decide
      have m11 : ¬ ((10 : Int) = 11) := by decide
      have hk : k = 10 ∨ k = 11 ∨ ((k == 10) = false ∧ (k == 11) = false ∧ ¬ k = 10 ∧ ¬ k = 11) := by
        by_cases h1 : k = 10
        · exact .inl h1
        · by_cases h2 : k = 11
          · exact .inr (.inl h2)
          · exact .inr (.inr ⟨by simp [h1], by simp [h2], h1, h2⟩)
      have hk' : k' = 10 ∨ k' = 11 ∨ ((k' == 10) = false ∧ (k' == 11) = false ∧ ¬ k' = 10 ∧ ¬ k' = 11) := by
        by_cases h1 : k' = 10
        · exact .inl h1
        · by_cases h2 : k' = 11
          · exact .inr (.inl h2)
          · exact .inr (.inr ⟨by simp [h1], by simp [h2], h1, h2⟩)
      rcases hk with rfl | rfl | ⟨c1, c2, c3, c4⟩ <;> rcases hk' with rfl | rfl | ⟨d1, d2, d3, d4⟩ <;> by_cases r1 : rk = 2 <;> by_cases r2 : rk' = 2 <;> cases x <;> cases y <;>
        simp_all [Bool.beq_eq_decide_eq]
    · exact (ev_fail h).elim
def cmE2 : List (Nat × ExtFn) := [(55, pureExt (sigExt [] (pairG cmCtrB))), (56, pureExt (sigExt [] (pairG cmSetB))), (57, pureExt (sigExt [] (pairG cmMapB))), (58, pureExt (sigExt [] (pairG cmQueB))),
  (26, pureExt (sigExt [] opCheckG)), (20, pureExt (sigExt [] opTypeG))]
theorem cmE2_ok (N : Nat) : ExtsOk Tryz.prog N cmE2 :=
  extsOk_cons (extOk_pure counters_fn) (extsOk_cons (extOk_pure sets_fn) (extsOk_cons (extOk_pure maps_fn) (extsOk_cons (extOk_pure queues_fn) (extsOk_cons (extOk_pure opCheck_fn) (extsOk_cons (extOk_pure opType_fn) extsOk_nil)))))

set_option maxRecDepth 100000 in
theorem range_tree (k a r : Int) : (((tden Tryz.prog [] [] 30).call 0 91 [.int .i64 k, .int .i64 a, .int .i64 r] ⟨.nil, 0⟩).pure.cut
    (.ite (.yes (.ite (.yes (.ite (.ite (.yes (.yes (.yes (.yes (.yes (.yes (.yes (.yes (.yes (.yes (.all))))))))))) (.no (.ite (.yes (.yes (.yes (.yes (.yes (.yes (.yes (.all)))))))) (.no (.no (.ite (.yes (.yes (.yes (.all)))) (.no (.ite (.all) (.all))))))))) (.ite (.yes (.ite (.all) (.yes (.yes (.ite (.ite (.yes (.yes (.yes (.yes (.yes (.yes (.yes (.yes (.yes (.yes (.all))))))))))) (.no (.no (.no (.no (.ite (.yes (.yes (.yes (.all)))) (.no (.ite (.all) (.all))))))))) (.yes (.ite (.yes (.yes (.yes (.yes (.yes (.yes (.yes (.yes (.yes (.yes (.all))))))))))) (.no (.ite (.yes (.yes (.yes (.yes (.yes (.yes (.yes (.all)))))))) (.no (.no (.ite (.yes (.yes (.yes (.all)))) (.no (.no (.all))))))))))))))) (.no (.no (.no (.yes (.yes (.ite (.ite (.yes (.yes (.yes (.yes (.yes (.yes (.yes (.yes (.yes (.yes (.all))))))))))) (.no (.no (.no (.no (.ite (.yes (.yes (.yes (.all)))) (.no (.ite (.all) (.all))))))))) (.yes (.ite (.yes (.yes (.yes (.yes (.yes (.yes (.yes (.yes (.yes (.yes (.all))))))))))) (.no (.ite (.yes (.yes (.yes (.yes (.yes (.yes (.yes (.all)))))))) (.no (.no (.ite (.yes (.yes (.yes (.all)))) (.no (.no (.all))))))))))))))))))) (.no (.no (.ite (.yes (.yes (.yes (.yes (.yes (.yes (.yes (.yes (.yes (.yes (.yes (.all)))))))))))) (.ite (.yes (.ite (.all) (.yes (.yes (.ite (.yes (.yes (.yes (.yes (.yes (.yes (.yes (.yes (.yes (.yes (.yes (.all)))))))))))) (.yes (.yes (.yes (.yes (.yes (.yes (.yes (.yes (.yes (.yes (.yes (.yes (.all)))))))))))))))))) (.no (.no (.no (.yes (.yes (.ite (.yes (.yes (.yes (.yes (.yes (.yes (.yes (.yes (.yes (.yes (.yes (.all)))))))))))) (.yes (.yes (.yes (.yes (.yes (.yes (.yes (.yes (.yes (.yes (.yes (.yes (.all))))))))))))))))))))))))) (.ite (.ite (.yes (.ite (.ite (.yes (.yes (.yes (.yes (.yes (.yes (.yes (.yes (.yes (.yes (.all))))))))))) (.no (.ite (.yes (.yes (.yes (.yes (.yes (.yes (.yes (.all)))))))) (.no (.no (.ite (.yes (.yes (.yes (.all)))) (.no (.ite (.all) (.all))))))))) (.ite (.yes (.ite (.all) (.no (.no (.no (.no (.no (.ite (.ite (.yes (.yes (.yes (.yes (.yes (.yes (.yes (.yes (.yes (.yes (.all))))))))))) (.no (.ite (.yes (.yes (.yes (.yes (.yes (.yes (.yes (.all)))))))) (.no (.no (.ite (.yes (.yes (.yes (.all)))) (.no (.no (.all))))))))) (.ite (.yes (.yes (.yes (.yes (.yes (.yes (.yes (.yes (.yes (.yes (.all))))))))))) (.no (.no (.no (.no (.ite (.yes (.yes (.yes (.all)))) (.no (.ite (.all) (.all))))))))))))))))) (.no (.no (.no (.no (.no (.no (.no (.no (.ite (.ite (.yes (.yes (.yes (.yes (.yes (.yes (.yes (.yes (.yes (.yes (.all))))))))))) (.no (.ite (.yes (.yes (.yes (.yes (.yes (.yes (.yes (.all)))))))) (.no (.no (.ite (.yes (.yes (.yes (.all)))) (.no (.no (.all))))))))) (.ite (.yes (.yes (.yes (.yes (.yes (.yes (.yes (.yes (.yes (.yes (.all))))))))))) (.no (.no (.no (.no (.ite (.yes (.yes (.yes (.all)))) (.no (.ite (.all) (.all))))))))))))))))))))) (.no (.no (.ite (.yes (.yes (.yes (.yes (.yes (.yes (.yes (.yes (.yes (.yes (.yes (.all)))))))))))) (.ite (.yes (.ite (.all) (.no (.no (.no (.no (.no (.ite (.yes (.yes (.yes (.yes (.yes (.yes (.yes (.yes (.yes (.yes (.yes (.all)))))))))))) (.yes (.yes (.yes (.yes (.yes (.yes (.yes (.yes (.yes (.yes (.yes (.all)))))))))))))))))))) (.no (.no (.no (.no (.no (.no (.no (.no (.ite (.yes (.yes (.yes (.yes (.yes (.yes (.yes (.yes (.yes (.yes (.yes (.all)))))))))))) (.yes (.yes (.yes (.yes (.yes (.yes (.yes (.yes (.yes (.yes (.yes (.all)))))))))))))))))))))))))) (.ite (.yes (.ite (.yes (.yes (.yes (.yes (.yes (.yes (.yes (.yes (.yes (.yes (.all))))))))))) (.no (.ite (.yes (.yes (.yes (.yes (.yes (.yes (.yes (.all)))))))) (.no (.no (.ite (.yes (.yes (.yes (.all)))) (.no (.ite (.all) (.all)))))))))) (.no (.ite (.yes (.ite (.all) (.no (.no (.no (.no (.no (.ite (.yes (.yes (.yes (.yes (.yes (.yes (.yes (.yes (.yes (.yes (.yes (.all)))))))))))) (.yes (.yes (.yes (.yes (.yes (.yes (.yes (.yes (.yes (.yes (.yes (.all)))))))))))))))))))) (.no (.no (.no (.no (.no (.no (.no (.no (.ite (.yes (.yes (.yes (.yes (.yes (.yes (.yes (.yes (.yes (.yes (.yes (.all)))))))))))) (.yes (.yes (.yes (.yes (.yes (.yes (.yes (.yes (.yes (.yes (.yes (.all))))))))))))))))))))))))))).ev = T.ev (α := CV) (
     .ite (k == (13 : Int))
      (.ite (decide (a ≥ (0 : Int)))
       (.ite (k == (15 : Int))
        (.ite (!decide (a ≤ (4611686018427387904 : Int)))
         (.ret (.tuple #[.int .i64 (0), .int .i64 (0), .bool false]))
         (.ite (decide (r < (0 : Int)))
          (.ret (.tuple #[.int .i64 (0), .int .i64 (0), .bool false]))
          (.ite (decide (r > r))
           (.ret (.tuple #[.int .i64 (0), .int .i64 (0), .bool false]))
           (.ite (decide (r > (4611686018427387904 : Int)))
            (.ret (.tuple #[.int .i64 (0), .int .i64 (0), .bool false]))
            (.ret (.tuple #[.int .i64 (r), .int .i64 (r), .bool true]))))))
        (.ite (r != (0 : Int))
         (.ite (r != (1 : Int))
          (.ret (.tuple #[.int .i64 (0), .int .i64 (0), .bool false]))
          (.ite (k == (13 : Int))
           (.ite (r == (1 : Int))
            (.ite (!decide (a ≤ (4611686018427387904 : Int)))
             (.ret (.tuple #[.int .i64 (0), .int .i64 (0), .bool false]))
             (.ite (decide ((0 : Int) > IntKind.i64.wrap ((4611686018427387904 : Int) - a)))
              (.ret (.tuple #[.int .i64 (0), .int .i64 (0), .bool false]))
              (.ite (decide (IntKind.i64.wrap ((4611686018427387904 : Int) - a) > (4611686018427387904 : Int)))
               (.ret (.tuple #[.int .i64 (0), .int .i64 (0), .bool false]))
               (.ret (.tuple #[.int .i64 (0), .int .i64 (IntKind.i64.wrap ((4611686018427387904 : Int) - a)), .bool true])))))
            (.ite (k == (13 : Int))
             (.ite (!decide (a ≤ (4611686018427387904 : Int)))
              (.ret (.tuple #[.int .i64 (0), .int .i64 (0), .bool false]))
              (.ite (decide (IntKind.i64.wrap (IntKind.i64.wrap ((4611686018427387904 : Int) - a) + (1 : Int)) < (0 : Int)))
               (.ret (.tuple #[.int .i64 (0), .int .i64 (0), .bool false]))
               (.ite (decide (IntKind.i64.wrap (IntKind.i64.wrap ((4611686018427387904 : Int) - a) + (1 : Int)) > (4611686018427387904 : Int)))
                (.ret (.tuple #[.int .i64 (0), .int .i64 (0), .bool false]))
                (.ret (.tuple #[.int .i64 (IntKind.i64.wrap (IntKind.i64.wrap ((4611686018427387904 : Int) - a) + (1 : Int))), .int .i64 (4611686018427387904), .bool true])))))
             .fail))
           .fail))
         (.ite (k == (13 : Int))
          (.ite (r == (1 : Int))
           (.ite (!decide (a ≤ (4611686018427387904 : Int)))
            (.ret (.tuple #[.int .i64 (0), .int .i64 (0), .bool false]))
            (.ite (decide ((0 : Int) > IntKind.i64.wrap ((4611686018427387904 : Int) - a)))
             (.ret (.tuple #[.int .i64 (0), .int .i64 (0), .bool false]))
             (.ite (decide (IntKind.i64.wrap ((4611686018427387904 : Int) - a) > (4611686018427387904 : Int)))
              (.ret (.tuple #[.int .i64 (0), .int .i64 (0), .bool false]))
              (.ret (.tuple #[.int .i64 (0), .int .i64 (IntKind.i64.wrap ((4611686018427387904 : Int) - a)), .bool true])))))
           (.ite (k == (13 : Int))
            (.ite (!decide (a ≤ (4611686018427387904 : Int)))
             (.ret (.tuple #[.int .i64 (0), .int .i64 (0), .bool false]))
             (.ite (decide (IntKind.i64.wrap (IntKind.i64.wrap ((4611686018427387904 : Int) - a) + (1 : Int)) < (0 : Int)))
              (.ret (.tuple #[.int .i64 (0), .int .i64 (0), .bool false]))
              (.ite (decide (IntKind.i64.wrap (IntKind.i64.wrap ((4611686018427387904 : Int) - a) + (1 : Int)) > (4611686018427387904 : Int)))
               (.ret (.tuple #[.int .i64 (0), .int .i64 (0), .bool false]))
               (.ret (.tuple #[.int .i64 (IntKind.i64.wrap (IntKind.i64.wrap ((4611686018427387904 : Int) - a) + (1 : Int))), .int .i64 (4611686018427387904), .bool true])))))
            .fail))
          .fail)))
       (.ite (k == (15 : Int))
        (.ret (.tuple #[.int .i64 (0), .int .i64 (0), .bool false]))
        (.ite (r != (0 : Int))
         (.ite (r != (1 : Int))
          (.ret (.tuple #[.int .i64 (0), .int .i64 (0), .bool false]))
          (.ite (k == (13 : Int))
           (.ite (r == (1 : Int))
            (.ret (.tuple #[.int .i64 (0), .int .i64 (0), .bool false]))
            (.ite (k == (13 : Int))
             (.ret (.tuple #[.int .i64 (0), .int .i64 (0), .bool false]))
             .fail))
           .fail))
         (.ite (k == (13 : Int))
          (.ite (r == (1 : Int))
           (.ret (.tuple #[.int .i64 (0), .int .i64 (0), .bool false]))
           (.ite (k == (13 : Int))
            (.ret (.tuple #[.int .i64 (0), .int .i64 (0), .bool false]))
            .fail))
          .fail))))
      (.ite (k == (14 : Int))
       (.ite (decide (a ≥ (0 : Int)))
        (.ite (k == (15 : Int))
         (.ite (!decide (a ≤ (4611686018427387904 : Int)))
          (.ret (.tuple #[.int .i64 (0), .int .i64 (0), .bool false]))
          (.ite (decide (r < (0 : Int)))
           (.ret (.tuple #[.int .i64 (0), .int .i64 (0), .bool false]))
           (.ite (decide (r > r))
            (.ret (.tuple #[.int .i64 (0), .int .i64 (0), .bool false]))
            (.ite (decide (r > (4611686018427387904 : Int)))
             (.ret (.tuple #[.int .i64 (0), .int .i64 (0), .bool false]))
             (.ret (.tuple #[.int .i64 (r), .int .i64 (r), .bool true]))))))
         (.ite (r != (0 : Int))
          (.ite (r != (1 : Int))
           (.ret (.tuple #[.int .i64 (0), .int .i64 (0), .bool false]))
           (.ite (k == (13 : Int)) .fail
            (.ite (k == (13 : Int)) .fail
             (.ite (r == (1 : Int))
              (.ite (!decide (a ≤ (4611686018427387904 : Int)))
               (.ret (.tuple #[.int .i64 (0), .int .i64 (0), .bool false]))
               (.ite (decide (a < (0 : Int)))
                (.ret (.tuple #[.int .i64 (0), .int .i64 (0), .bool false]))
                (.ite (decide (a > (4611686018427387904 : Int)))
                 (.ret (.tuple #[.int .i64 (0), .int .i64 (0), .bool false]))
                 (.ret (.tuple #[.int .i64 (a), .int .i64 (4611686018427387904), .bool true])))))
              (.ite (!decide (a ≤ (4611686018427387904 : Int)))
               (.ret (.tuple #[.int .i64 (0), .int .i64 (0), .bool false]))
               (.ite (decide ((0 : Int) > IntKind.i64.wrap (a - (1 : Int))))
                (.ret (.tuple #[.int .i64 (0), .int .i64 (0), .bool false]))
                (.ite (decide (IntKind.i64.wrap (a - (1 : Int)) > (4611686018427387904 : Int)))
                 (.ret (.tuple #[.int .i64 (0), .int .i64 (0), .bool false]))
                 (.ret (.tuple #[.int .i64 (0), .int .i64 (IntKind.i64.wrap (a - (1 : Int))), .bool true])))))))))
          (.ite (k == (13 : Int)) .fail
           (.ite (k == (13 : Int)) .fail
            (.ite (r == (1 : Int))
             (.ite (!decide (a ≤ (4611686018427387904 : Int)))
              (.ret (.tuple #[.int .i64 (0), .int .i64 (0), .bool false]))
              (.ite (decide (a < (0 : Int)))
               (.ret (.tuple #[.int .i64 (0), .int .i64 (0), .bool false]))
               (.ite (decide (a > (4611686018427387904 : Int)))
                (.ret (.tuple #[.int .i64 (0), .int .i64 (0), .bool false]))
                (.ret (.tuple #[.int .i64 (a), .int .i64 (4611686018427387904), .bool true])))))
             (.ite (!decide (a ≤ (4611686018427387904 : Int)))
              (.ret (.tuple #[.int .i64 (0), .int .i64 (0), .bool false]))
              (.ite (decide ((0 : Int) > IntKind.i64.wrap (a - (1 : Int))))
               (.ret (.tuple #[.int .i64 (0), .int .i64 (0), .bool false]))
               (.ite (decide (IntKind.i64.wrap (a - (1 : Int)) > (4611686018427387904 : Int)))
                (.ret (.tuple #[.int .i64 (0), .int .i64 (0), .bool false]))
                (.ret (.tuple #[.int .i64 (0), .int .i64 (IntKind.i64.wrap (a - (1 : Int))), .bool true]))))))))))
        (.ite (k == (15 : Int))
         (.ret (.tuple #[.int .i64 (0), .int .i64 (0), .bool false]))
         (.ite (r != (0 : Int))
          (.ite (r != (1 : Int))
           (.ret (.tuple #[.int .i64 (0), .int .i64 (0), .bool false]))
           (.ite (k == (13 : Int)) .fail
            (.ite (k == (13 : Int)) .fail
             (.ite (r == (1 : Int))
              (.ret (.tuple #[.int .i64 (0), .int .i64 (0), .bool false]))
              (.ret (.tuple #[.int .i64 (0), .int .i64 (0), .bool false]))))))
          (.ite (k == (13 : Int)) .fail
           (.ite (k == (13 : Int)) .fail
            (.ite (r == (1 : Int))
             (.ret (.tuple #[.int .i64 (0), .int .i64 (0), .bool false]))
             (.ret (.tuple #[.int .i64 (0), .int .i64 (0), .bool false]))))))))
       (.ite (k == (15 : Int))
        (.ite (k == (15 : Int))
         (.ite (!a == (0 : Int))
          (.ret (.tuple #[.int .i64 (0), .int .i64 (0), .bool false]))
          (.ite (decide (r < (0 : Int)))
           (.ret (.tuple #[.int .i64 (0), .int .i64 (0), .bool false]))
           (.ite (decide (r > r))
            (.ret (.tuple #[.int .i64 (0), .int .i64 (0), .bool false]))
            (.ite (decide (r > (4611686018427387904 : Int)))
             (.ret (.tuple #[.int .i64 (0), .int .i64 (0), .bool false]))
             (.ret (.tuple #[.int .i64 (r), .int .i64 (r), .bool true]))))))
         .fail)
        (.ite (k == (15 : Int)) .fail
         (.ite (r != (0 : Int))
          (.ite (r != (1 : Int))
           (.ret (.tuple #[.int .i64 (0), .int .i64 (0), .bool false]))
           (.ite (k == (13 : Int)) .fail
            (.ite (k == (13 : Int)) .fail
             (.ite (r == (1 : Int))
              (.ret (.tuple #[.int .i64 (0), .int .i64 (0), .bool false]))
              (.ret (.tuple #[.int .i64 (0), .int .i64 (0), .bool false]))))))
          (.ite (k == (13 : Int)) .fail
           (.ite (k == (13 : Int)) .fail
            (.ite (r == (1 : Int))
             (.ret (.tuple #[.int .i64 (0), .int .i64 (0), .bool false]))
             (.ret (.tuple #[.int .i64 (0), .int .i64 (0), .bool false])))))))))) := by kernel_rfl
set_option maxRecDepth 100000 in
theorem moves_tree (k a b rk rn : Int) : (((tden Tryz.prog [] [] 30).call 0 92 [.agg #[.int .i64 k, .int .i64 a, .int .i64 b, .int .i64 rk, .int .i64 rn]] ⟨.nil, 0⟩).pure.cut
    (.ite (.yes (.yes (.yes (.yes (.yes (.all)))))) (.no (.no (.no (.ite (.all) (.ite (.all) (.all)))))))).ev = T.ev (α := CV) (
     .ite (k == (15 : Int))
      (.ret (.int .i64 (0)))
      (.ite (rn == (0 : Int))
       (.ret (.int .i64 (0)))
       (.ite (k == (14 : Int))
        (.ret (.int .i64 (IntKind.i64.wrap ((0 : Int) - a))))
        (.ret (.int .i64 (a)))))) := by kernel_rfl

structure Rng where
  from_ : Int
  to : Int
  is : Bool
def rangeA (k a r : Int) : Rng :=
  if k < 13 ∨ 15 < k then ⟨0, 0, false⟩
  else if k = 15 then (if a = 0 ∧ 0 ≤ r ∧ r ≤ cap62 then ⟨r, r, true⟩ else ⟨0, 0, false⟩)
  else if a < 0 ∨ cap62 < a ∨ (r ≠ 0 ∧ r ≠ 1) then ⟨0, 0, false⟩
  else if k = 13 then (if r = 1 then ⟨0, cap62 - a, true⟩ else if a = 0 then ⟨0, 0, false⟩ else ⟨cap62 - a + 1, cap62, true⟩)
  else (if r = 1 then ⟨a, cap62, true⟩ else if a = 0 then ⟨0, 0, false⟩ else ⟨0, a - 1, true⟩)
def Rng.cv (x : Rng) : CV := .tuple #[.int .i64 x.from_, .int .i64 x.to, .bool x.is]
def rangeG : List CV → T CV
  | [.int .i64 k, .int .i64 a, .int .i64 r] => .ret (rangeA k a r).cv
  | _ => .fail
set_option maxHeartbeats 4000000 in
theorem range_fn : PureFn Tryz.prog 91 (sigExt [] rangeG) :=
  pureFn_mk (bodied_ex (by kernel_rfl)) fun args d h => by
    unfold rangeG at h
    split at h
    · rename_i k a r
      cases ev_ret h
      refine pureAtS plainN mixedN noE noL (k := 30) .any (range_tree k a r) ?_
      have hcap : cap62 = 4611686018427387904 := rfl
      simp only [sat_ite, sat_ret, sat_fail, decide_eq_true_eq, decide_eq_false_iff_not, beq_iff_eq, bne_iff_ne, beq_eq_false_iff_ne, bne_eq_false_iff_eq, Bool.not_eq_true', Bool.not_eq_false', true_implies, Bool.true_eq_false, false_implies, and_true, true_and, implies_true, reduceCtorEq, eq_self, not_true_eq_false]
      simp only [rangeA]
      repeat' (first | apply And.intro | intro _)
      all_goals first
        | omega
        | (simp (disch := omega) only [wrap64] at *; omega)
        | ((repeat' split) <;> first | exact ⟨rfl, rfl⟩ | omega | (simp (disch := omega) only [wrap64] at *; first | omega | (subst_vars; exact ⟨rfl, rfl⟩)))
    · exact (ev_fail h).elim
def movesA (k a rn : Int) : Int := if k = 15 ∨ rn = 0 then 0 else if k = 14 then IntKind.i64.wrap (-a) else a
def movesG : List CV → T CV
  | [.agg ⟨[.int .i64 k, .int .i64 a, .int .i64 b, .int .i64 rk, .int .i64 rn]⟩] => .ret (.int .i64 (movesA k a rn))
  | _ => .fail
theorem moves_fn : PureFn Tryz.prog 92 (sigExt [] movesG) :=
  pureFn_mk (bodied_ex (by kernel_rfl)) fun args d h => by
    unfold movesG at h
    split at h
    · rename_i k a b rk rn
      cases ev_ret h
      refine pureAt0 plainN mixedN noE noL (k := 30) ((moves_tree k a b rk rn).trans ?_) rfl
      by_cases h1 : k = 15 <;> by_cases h2 : rn = 0 <;> by_cases h3 : k = 14 <;> simp [T.ev_ite, T.ev_ret, movesA, h1, h2, h3]
    · exact (ev_fail h).elim
def cmR : List (Nat × ExtFn) := [(91, pureExt (sigExt [] rangeG)), (92, pureExt (sigExt [] movesG))]
theorem cmR_ok (N : Nat) : ExtsOk Tryz.prog N cmR := extsOk_cons (extOk_pure range_fn) (extsOk_cons (extOk_pure moves_fn) extsOk_nil)

set_option maxRecDepth 100000 in
theorem behind_tree (k a b rk rn k' a' b' rk' rn' : Int) : (((tden Tryz.prog cmR [] 30).call 0 77 [.agg #[.int .i64 k, .int .i64 a, .int .i64 b, .int .i64 rk, .int .i64 rn, .int .i64 k', .int .i64 a', .int .i64 b', .int .i64 rk', .int .i64 rn']] ⟨.nil, 0⟩).pure.cut
    (.ite (.yes (.yes (.yes (.yes (.yes (.yes (.yes (.all)))))))) (.no (.ite (.yes (.yes (.yes (.yes (.all))))) (.no (.no (.ite (.all) (.all)))))))).ev = T.ev (α := CV) (
     .ite (!(rangeA k a rn).is)
      (.ret (.agg #[.int .i64 (0), .int .i64 (0), .bool false]))
      (.ite (!(rangeA k' a' rn').is)
       (.ret (.agg #[.int .i64 (0), .int .i64 (0), .bool false]))
       (.ite (decide ((if (rangeA k' a' rn').from_ > IntKind.i64.wrap ((rangeA k a rn).from_ + movesA k a rn) then (rangeA k' a' rn').from_ else IntKind.i64.wrap ((rangeA k a rn).from_ + movesA k a rn)) > if (rangeA k' a' rn').to < IntKind.i64.wrap ((rangeA k a rn).to + movesA k a rn) then (rangeA k' a' rn').to else IntKind.i64.wrap ((rangeA k a rn).to + movesA k a rn)))
        (.ret (.agg #[.int .i64 (0), .int .i64 (0), .bool false]))
        (.ret (.agg #[.int .i64 (IntKind.i64.wrap ((if (rangeA k' a' rn').from_ > IntKind.i64.wrap ((rangeA k a rn).from_ + movesA k a rn) then (rangeA k' a' rn').from_ else IntKind.i64.wrap ((rangeA k a rn).from_ + movesA k a rn)) - movesA k a rn)), .int .i64 (IntKind.i64.wrap ((if (rangeA k' a' rn').to < IntKind.i64.wrap ((rangeA k a rn).to + movesA k a rn) then (rangeA k' a' rn').to else IntKind.i64.wrap ((rangeA k a rn).to + movesA k a rn)) - movesA k a rn)), .bool true]))))) := by kernel_rfl

def movesB (k a rn : Int) : Int := if k = 15 ∨ rn = 0 then 0 else if k = 14 then -a else a
def behindA (k a rn k' a' rn' : Int) : Rng :=
  if (rangeA k a rn).is = false ∨ (rangeA k' a' rn').is = false then ⟨0, 0, false⟩
  else if min ((rangeA k a rn).to + movesB k a rn) (rangeA k' a' rn').to < max ((rangeA k a rn).from_ + movesB k a rn) (rangeA k' a' rn').from_ then ⟨0, 0, false⟩
  else ⟨max ((rangeA k a rn).from_ + movesB k a rn) (rangeA k' a' rn').from_ - movesB k a rn, min ((rangeA k a rn).to + movesB k a rn) (rangeA k' a' rn').to - movesB k a rn, true⟩
def Rng.ag (x : Rng) : CV := .agg #[.int .i64 x.from_, .int .i64 x.to, .bool x.is]
def behindG : List CV → T CV
  | [.agg ⟨[.int .i64 k, .int .i64 a, .int .i64 b, .int .i64 rk, .int .i64 rn, .int .i64 k', .int .i64 a', .int .i64 b', .int .i64 rk', .int .i64 rn']⟩] => .ret (behindA k a rn k' a' rn').ag
  | _ => .fail
theorem rangeA_facts {k a r : Int} (h : (rangeA k a r).is = true) : (13 ≤ k ∧ k ≤ 15 ∧ 0 ≤ a ∧ a ≤ 4611686018427387904) ∧ 0 ≤ (rangeA k a r).from_ ∧ (rangeA k a r).from_ ≤ (rangeA k a r).to ∧ (rangeA k a r).to ≤ 4611686018427387904 ∧ 0 ≤ (rangeA k a r).from_ + movesB k a r ∧ (rangeA k a r).to + movesB k a r ≤ 4611686018427387904 := by
  have hcap : cap62 = 4611686018427387904 := rfl
  by_cases c1 : k < 13 ∨ 15 < k
  · rw [rangeA, if_pos c1] at h; cases h
  by_cases c2 : k = 15
  · by_cases c3 : a = 0 ∧ 0 ≤ r ∧ r ≤ cap62
    · have e : rangeA k a r = ⟨r, r, true⟩ := by rw [rangeA, if_neg c1, if_pos c2, if_pos c3]
      have m : movesB k a r = 0 := by rw [movesB, if_pos (.inl c2)]
      rw [e, m]; simp only []; omega
    · rw [rangeA, if_neg c1, if_pos c2, if_neg c3] at h; cases h
  by_cases c3 : a < 0 ∨ cap62 < a ∨ (r ≠ 0 ∧ r ≠ 1)
  · rw [rangeA, if_neg c1, if_neg c2, if_pos c3] at h; cases h
  by_cases c4 : k = 13
  · by_cases c5 : r = 1
    · have e : rangeA k a r = ⟨0, cap62 - a, true⟩ := by rw [rangeA, if_neg c1, if_neg c2, if_neg c3, if_pos c4, if_pos c5]
      have m : movesB k a r = a := by rw [movesB, if_neg (by omega), if_neg (by omega)]
      rw [e, m]; simp only []; omega
    · by_cases c6 : a = 0
      · rw [rangeA, if_neg c1, if_neg c2, if_neg c3, if_pos c4, if_neg c5, if_pos c6] at h; cases h
      · have e : rangeA k a r = ⟨cap62 - a + 1, cap62, true⟩ := by rw [rangeA, if_neg c1, if_neg c2, if_neg c3, if_pos c4, if_neg c5, if_neg c6]
        have m : movesB k a r = 0 := by rw [movesB, if_pos (by omega)]
        rw [e, m]; simp only []; omega
  · by_cases c5 : r = 1
    · have e : rangeA k a r = ⟨a, cap62, true⟩ := by rw [rangeA, if_neg c1, if_neg c2, if_neg c3, if_neg c4, if_pos c5]
      have m : movesB k a r = -a := by rw [movesB, if_neg (by omega), if_pos (by omega)]
      rw [e, m]; simp only []; omega
    · by_cases c6 : a = 0
      · rw [rangeA, if_neg c1, if_neg c2, if_neg c3, if_neg c4, if_neg c5, if_pos c6] at h; cases h
      · have e : rangeA k a r = ⟨0, a - 1, true⟩ := by rw [rangeA, if_neg c1, if_neg c2, if_neg c3, if_neg c4, if_neg c5, if_neg c6]
        have m : movesB k a r = 0 := by rw [movesB, if_pos (by omega)]
        rw [e, m]; simp only []; omega

theorem behind_fn : PureFn Tryz.prog 77 (sigExt [] behindG) :=
  pureFn_mk (bodied_ex (by kernel_rfl)) fun args d h => by
    unfold behindG at h
    split at h
    · rename_i k a b rk rn k' a' b' rk' rn'
      cases ev_ret h
      refine pureAt0 plainN mixedN cmR_ok noL (k := 30) ((behind_tree k a b rk rn k' a' b' rk' rn').trans ?_) rfl
      simp only [T.ev_ite, T.ev_ret]
      cases h1 : (rangeA k a rn).is with
      | false => simp [behindA, h1, Rng.ag]
      | true =>
        cases h2 : (rangeA k' a' rn').is with
        | false => simp [behindA, h2, Rng.ag]
        | true =>
          obtain ⟨⟨p1, p2, p3, p4⟩, p5, p6, p7, p8, p9⟩ := rangeA_facts h1
          obtain ⟨⟨q1, q2, q3, q4⟩, q5, q6, q7, q8, q9⟩ := rangeA_facts h2
          have hm : movesA k a rn = movesB k a rn := by
            unfold movesA movesB
            split
            · rfl
            · split
              · exact wrap64 (by omega) (by omega)
              · rfl
          have hb : -4611686018427387904 ≤ movesB k a rn ∧ movesB k a rn ≤ 4611686018427387904 := by
            unfold movesB; split
            · omega
            · split <;> omega
          simp only [hm, Bool.not_true, Bool.false_eq_true, if_false]
          unfold behindA
          rw [if_neg (show ¬ ((rangeA k a rn).is = false ∨ (rangeA k' a' rn').is = false) from fun h => h.elim (fun h => by rw [h1] at h; cases h) (fun h => by rw [h2] at h; cases h))]
          generalize movesB k a rn = m at *
          generalize (rangeA k a rn).from_ = x1 at *
          generalize (rangeA k a rn).to = x2 at *
          generalize (rangeA k' a' rn').from_ = y1 at *
          generalize (rangeA k' a' rn').to = y2 at *
          rw [show IntKind.i64.wrap (x1 + m) = x1 + m from wrap64 (by omega) (by omega), show IntKind.i64.wrap (x2 + m) = x2 + m from wrap64 (by omega) (by omega)]
          have e1 : (if y1 > x1 + m then y1 else x1 + m) = max (x1 + m) y1 := by split <;> omega
          have e2 : (if y2 < x2 + m then y2 else x2 + m) = min (x2 + m) y2 := by split <;> omega
          rw [e1, e2]
          by_cases hl : min (x2 + m) y2 < max (x1 + m) y1
          · rw [if_pos hl, decide_eq_true (show max (x1 + m) y1 > min (x2 + m) y2 from hl)]; rfl
          · rw [if_neg hl, decide_eq_false (show ¬ max (x1 + m) y1 > min (x2 + m) y2 from hl)]
            simp only [Bool.false_eq_true, if_false, Rng.ag]
            rw [show IntKind.i64.wrap (max (x1 + m) y1 - m) = max (x1 + m) y1 - m from wrap64 (by omega) (by omega), show IntKind.i64.wrap (min (x2 + m) y2 - m) = min (x2 + m) y2 - m from wrap64 (by omega) (by omega)]
    · exact (ev_fail h).elim
def cmB : List (Nat × ExtFn) := [(77, pureExt (sigExt [] behindG))]
theorem cmB_ok (N : Nat) : ExtsOk Tryz.prog N cmB := extsOk_cons (extOk_pure behind_fn) extsOk_nil

set_option maxRecDepth 100000 in
theorem accounts_tree (k a b rk rn k' a' b' rk' rn' : Int) : (((tden Tryz.prog cmB [] 30).call 0 59 [.agg #[.int .i64 k, .int .i64 a, .int .i64 b, .int .i64 rk, .int .i64 rn, .int .i64 k', .int .i64 a', .int .i64 b', .int .i64 rk', .int .i64 rn']] ⟨.nil, 0⟩).pure.cut
    (.yes (.yes (.yes (.yes (.yes (.yes (.yes (.yes (.yes (.yes (.all)))))))))))).ev = T.ev (α := CV) (
     .ite (decide (k = k))
      (.ite (decide (a = a))
       (.ite (decide (b = b))
        (.ite (decide (rk = rk))
         (.ite (decide (rn = rn))
          (.ite (decide (k' = k'))
           (.ite (decide (a' = a'))
            (.ite (decide (b' = b'))
             (.ite (decide (rk' = rk'))
              (.ite (decide (rn' = rn'))
               (.ret (.bool ((behindA k a rn k' a' rn').from_ == (behindA k' a' rn' k a rn).from_ && ((behindA k a rn k' a' rn').to == (behindA k' a' rn' k a rn).to && ((behindA k a rn k' a' rn').is == (behindA k' a' rn' k a rn).is && true)))))
               .fail)
              .fail)
             .fail)
            .fail)
           .fail)
          .fail)
         .fail)
        .fail)
       .fail)
      .fail) := by kernel_rfl

def cmAccB (k a b rk rn k' a' b' rk' rn' : Int) : Bool :=
  decide ((behindA k a rn k' a' rn').from_ = (behindA k' a' rn' k a rn).from_ ∧ (behindA k a rn k' a' rn').to = (behindA k' a' rn' k a rn).to ∧ (behindA k a rn k' a' rn').is = (behindA k' a' rn' k a rn).is)
theorem accounts_fn : PureFn Tryz.prog 59 (sigExt [] (pairG cmAccB)) :=
  pureFn_mk (bodied_ex (by kernel_rfl)) fun args d h => by
    unfold pairG at h
    split at h
    · rename_i k a b rk rn k' a' b' rk' rn'
      cases ev_ret h
      refine pureAt0 plainN mixedN cmB_ok noL (k := 30) ((accounts_tree k a b rk rn k' a' b' rk' rn').trans ?_) rfl
      simp only [T.ev_ite, T.ev_ret, T.ev_fail, cmAccB, eq_self, decide_true, if_true, Bool.decide_and, Bool.and_true, Bool.beq_eq_decide_eq]
    · exact (ev_fail h).elim
def opTypeC : List CV → T CV
  | [.int .i64 k] => .ite (decide (k < 1) || decide (15 < k)) (.ret (.tuple #[.int .i64 0, .int .i64 6])) (.ite (decide (k ≤ 2)) (.ret (.tuple #[.int .i64 1, .int .i64 0])) (.ite (decide (k ≤ 6)) (.ret (.tuple #[.int .i64 2, .int .i64 0]))
      (.ite (decide (k ≤ 9)) (.ret (.tuple #[.int .i64 3, .int .i64 0])) (.ite (decide (k ≤ 12)) (.ret (.tuple #[.int .i64 4, .int .i64 0])) (.ret (.tuple #[.int .i64 5, .int .i64 0]))))))
  | _ => .fail
theorem opTypeC_ev (k : Int) : (opTypeC [.int .i64 k]).ev = some (.tuple #[.int .i64 (opTy k), .int .i64 (opTyE k)]) := by
  simp only [opTypeC, T.ev_ite, T.ev_ret, opTy, opTyE]
  by_cases h : k < 1 ∨ 15 < k
  · simp [h, ← Bool.decide_or]
  · simp only [h, ← Bool.decide_or, decide_false, Bool.false_eq_true, if_false, decide_eq_true_eq]
    by_cases h2 : k ≤ 2
    · simp [h2]
    · by_cases h6 : k ≤ 6
      · simp [h2, h6]
      · by_cases h9 : k ≤ 9
        · simp [h2, h6, h9]
        · by_cases h12 : k ≤ 12 <;> simp [h2, h6, h9, h12]
theorem opTypeC_fn : PureFn Tryz.prog 20 (sigExt [] opTypeC) :=
  pureFn_mk (bodied_ex (by kernel_rfl)) fun args d h => by
    unfold opTypeC at h
    split at h
    · rename_i k
      have e := (opTypeC_ev k).symm.trans h
      cases e
      refine pureAt0 plainN mixedN noE noL (k := 30) ((opType_tree k).trans ?_) rfl
      by_cases hk : k < 1 ∨ 15 < k
      · have e : ∀ n : Int, 1 ≤ n → n ≤ 15 → (n == k) = false := fun n h1 h2 => by rw [beq_eq_false_iff_ne]; omega
        simp only [T.ev_ite, T.ev_ret, opTy, opTyE, hk, if_true, e 1 (by decide) (by decide), e 2 (by decide) (by decide), e 3 (by decide) (by decide), e 4 (by decide) (by decide), e 5 (by decide) (by decide), e 6 (by decide) (by decide), e 7 (by decide) (by decide), e 8 (by decide) (by decide), e 9 (by decide) (by decide), e 10 (by decide) (by decide), e 11 (by decide) (by decide), e 12 (by decide) (by decide), e 13 (by decide) (by decide), e 14 (by decide) (by decide), e 15 (by decide) (by decide), Bool.false_eq_true, if_false]
      · obtain rfl | rfl | rfl | rfl | rfl | rfl | rfl | rfl | rfl | rfl | rfl | rfl | rfl | rfl | rfl : k = 1 ∨ k = 2 ∨ k = 3 ∨ k = 4 ∨ k = 5 ∨ k = 6 ∨ k = 7 ∨ k = 8 ∨ k = 9 ∨ k = 10 ∨ k = 11 ∨ k = 12 ∨ k = 13 ∨ k = 14 ∨ k = 15 := by omega
        all_goals simp [T.ev_ite, T.ev_ret, opTy, opTyE]
    · exact (ev_fail h).elim
def cmE3 : List (Nat × ExtFn) := (20, pureExt (sigExt [] opTypeC)) :: (59, pureExt (sigExt [] (pairG cmAccB))) :: cmE2
theorem cmE3_ok (N : Nat) : ExtsOk Tryz.prog N cmE3 := extsOk_cons (extOk_pure opTypeC_fn) (extsOk_cons (extOk_pure accounts_fn) (cmE2_ok N))

set_option maxRecDepth 100000 in
theorem cmOps_tree (k a b rk rn k' a' b' rk' rn' : Int) : (((tden Tryz.prog cmE3 [] 30).call 0 8 [.agg #[.int .i64 k, .int .i64 a, .int .i64 b, .int .i64 rk, .int .i64 rn], .agg #[.int .i64 k', .int .i64 a', .int .i64 b', .int .i64 rk', .int .i64 rn']] ⟨.nil, 0⟩).pure.cut
    (.yes (.no (.yes (.ite (.all) (.yes (.yes (.ite (.all) (.no (.ite (.ite (.no (.no (.no (.no (.no (.no (.no (.no (.no (.no (.no (.no (.no (.no (.no (.no (.no (.no (.no (.yes (.yes (.yes (.yes (.yes (.yes (.yes (.yes (.yes (.yes (.no (.yes (.yes (.yes (.yes (.yes (.yes (.yes (.yes (.yes (.yes (.no (.no (.all))))))))))))))))))))))))))))))))))))))))))) (.ite (.yes (.yes (.yes (.yes (.yes (.yes (.yes (.yes (.all))))))))) (.ite (.yes (.yes (.yes (.yes (.yes (.yes (.yes (.yes (.all))))))))) (.ite (.yes (.yes (.yes (.yes (.yes (.yes (.yes (.yes (.all))))))))) (.ite (.yes (.yes (.yes (.yes (.yes (.yes (.yes (.yes (.all))))))))) (.yes (.yes (.yes (.yes (.yes (.yes (.yes (.yes (.all)))))))))))))) (.ite (.ite (.yes (.yes (.yes (.yes (.yes (.yes (.yes (.yes (.all))))))))) (.ite (.no (.no (.no (.no (.no (.no (.no (.no (.no (.no (.no (.no (.no (.yes (.no (.yes (.yes (.yes (.yes (.yes (.yes (.yes (.yes (.yes (.yes (.no (.yes (.yes (.yes (.yes (.yes (.yes (.yes (.yes (.yes (.yes (.no (.no (.all))))))))))))))))))))))))))))))))))))))) (.ite (.yes (.yes (.yes (.yes (.yes (.yes (.yes (.yes (.all))))))))) (.ite (.yes (.yes (.yes (.yes (.yes (.yes (.yes (.yes (.all))))))))) (.ite (.yes (.yes (.yes (.yes (.yes (.yes (.yes (.yes (.all))))))))) (.yes (.yes (.yes (.yes (.yes (.yes (.yes (.yes (.all)))))))))))))) (.ite (.ite (.yes (.yes (.yes (.yes (.yes (.yes (.yes (.yes (.all))))))))) (.ite (.yes (.yes (.yes (.yes (.yes (.yes (.yes (.yes (.all))))))))) (.ite (.no (.no (.no (.no (.no (.no (.no (.no (.no (.no (.no (.no (.no (.no (.yes (.no (.yes (.yes (.yes (.yes (.yes (.yes (.yes (.yes (.yes (.yes (.no (.yes (.yes (.yes (.yes (.yes (.yes (.yes (.yes (.yes (.yes (.no (.no (.all)))))))))))))))))))))))))))))))))))))))) (.ite (.yes (.yes (.yes (.yes (.yes (.yes (.yes (.yes (.all))))))))) (.ite (.yes (.yes (.yes (.yes (.yes (.yes (.yes (.yes (.all))))))))) (.yes (.yes (.yes (.yes (.yes (.yes (.yes (.yes (.all)))))))))))))) (.ite (.ite (.yes (.yes (.yes (.yes (.yes (.yes (.yes (.yes (.all))))))))) (.ite (.yes (.yes (.yes (.yes (.yes (.yes (.yes (.yes (.all))))))))) (.ite (.yes (.yes (.yes (.yes (.yes (.yes (.yes (.yes (.all))))))))) (.ite (.no (.no (.no (.no (.no (.no (.no (.no (.no (.no (.no (.no (.no (.no (.no (.yes (.no (.yes (.yes (.yes (.yes (.yes (.yes (.yes (.yes (.yes (.yes (.no (.yes (.yes (.yes (.yes (.yes (.yes (.yes (.yes (.yes (.yes (.no (.no (.all))))))))))))))))))))))))))))))))))))))))) (.ite (.yes (.yes (.yes (.yes (.yes (.yes (.yes (.yes (.all))))))))) (.yes (.yes (.yes (.yes (.yes (.yes (.yes (.yes (.all)))))))))))))) (.ite (.ite (.yes (.yes (.yes (.yes (.yes (.yes (.yes (.yes (.all))))))))) (.ite (.yes (.yes (.yes (.yes (.yes (.yes (.yes (.yes (.all))))))))) (.ite (.yes (.yes (.yes (.yes (.yes (.yes (.yes (.yes (.all))))))))) (.ite (.yes (.yes (.yes (.yes (.yes (.yes (.yes (.yes (.all))))))))) (.ite (.no (.no (.no (.no (.no (.no (.no (.no (.no (.no (.no (.no (.no (.no (.no (.no (.yes (.no (.yes (.yes (.yes (.yes (.yes (.yes (.yes (.yes (.yes (.yes (.no (.yes (.yes (.yes (.yes (.yes (.yes (.yes (.yes (.yes (.yes (.no (.no (.all)))))))))))))))))))))))))))))))))))))))))) (.yes (.yes (.yes (.yes (.yes (.yes (.yes (.yes (.all)))))))))))))) (.ite (.yes (.yes (.yes (.yes (.yes (.yes (.yes (.yes (.all))))))))) (.ite (.yes (.yes (.yes (.yes (.yes (.yes (.yes (.yes (.all))))))))) (.ite (.yes (.yes (.yes (.yes (.yes (.yes (.yes (.yes (.all))))))))) (.ite (.yes (.yes (.yes (.yes (.yes (.yes (.yes (.yes (.all))))))))) (.ite (.yes (.yes (.yes (.yes (.yes (.yes (.yes (.yes (.all))))))))) (.no (.no (.no (.no (.no (.no (.no (.no (.no (.no (.no (.no (.no (.no (.no (.no (.no (.yes (.no (.yes (.yes (.yes (.yes (.yes (.yes (.yes (.yes (.yes (.yes (.no (.yes (.yes (.yes (.yes (.yes (.yes (.yes (.yes (.yes (.yes (.no (.no (.all)))))))))))))))))))))))))))))))))))))))))))))))))))))))))))))).ev = T.ev (α := CV) (
     .ite (opChk k a b rk rn != (0 : Int))
      (.ret (.tuple #[.bool false, .int .i64 (opChk k a b rk rn)]))
      (.ite (opChk k' a' b' rk' rn' != (0 : Int))
       (.ret (.tuple #[.bool false, .int .i64 (opChk k' a' b' rk' rn')]))
       (.ite (decide (k < (1 : Int)) || decide ((15 : Int) < k))
        (.ite (decide (k' < (1 : Int)) || decide ((15 : Int) < k'))
         (.ite (decide (k = k))
          (.ite (decide (a = a))
           (.ite (decide (b = b))
            (.ite (decide (rk = rk))
             (.ite (decide (rn = rn))
              (.ite (decide (k = k))
               (.ite (decide (a = a))
                (.ite (decide (b = b))
                 (.ite (decide (rk = rk))
                  (.ite (decide (rn = rn))
                   (.ite (decide (k' = k'))
                    (.ite (decide (a' = a'))
                     (.ite (decide (b' = b'))
                      (.ite (decide (rk' = rk'))
                       (.ite (decide (rn' = rn'))
                        (.ite (decide (k' = k'))
                         (.ite (decide (a' = a'))
                          (.ite (decide (b' = b'))
                           (.ite (decide (rk' = rk'))
                            (.ite (decide (rn' = rn'))
                             (.fail)
                             .fail)
                            .fail)
                           .fail)
                          .fail)
                         .fail)
                        .fail)
                       .fail)
                      .fail)
                     .fail)
                    .fail)
                   .fail)
                  .fail)
                 .fail)
                .fail)
               .fail)
              .fail)
             .fail)
            .fail)
           .fail)
          .fail)
         (.ite (decide (k' ≤ (2 : Int)))
          (.ret (.tuple #[.bool true, .int .i64 (0)]))
          (.ite (decide (k' ≤ (6 : Int)))
           (.ret (.tuple #[.bool true, .int .i64 (0)]))
           (.ite (decide (k' ≤ (9 : Int)))
            (.ret (.tuple #[.bool true, .int .i64 (0)]))
            (.ite (decide (k' ≤ (12 : Int)))
             (.ret (.tuple #[.bool true, .int .i64 (0)]))
             (.ret (.tuple #[.bool true, .int .i64 (0)])))))))
        (.ite (decide (k ≤ (2 : Int)))
         (.ite (decide (k' < (1 : Int)) || decide ((15 : Int) < k'))
          (.ret (.tuple #[.bool true, .int .i64 (0)]))
          (.ite (decide (k' ≤ (2 : Int)))
           (.ite (decide (k = k))
            (.ite (decide (a = a))
             (.ite (decide (b = b))
              (.ite (decide (rk = rk))
               (.ite (decide (rn = rn))
                (.ite (decide (k = k))
                 (.ite (decide (a = a))
                  (.ite (decide (b = b))
                   (.ite (decide (rk = rk))
                    (.ite (decide (rn = rn))
                     (.ite (decide (k' = k'))
                      (.ite (decide (a' = a'))
                       (.ite (decide (b' = b'))
                        (.ite (decide (rk' = rk'))
                         (.ite (decide (rn' = rn'))
                          (.ite (decide (k' = k'))
                           (.ite (decide (a' = a'))
                            (.ite (decide (b' = b'))
                             (.ite (decide (rk' = rk'))
                              (.ite (decide (rn' = rn'))
                               (.ret (.tuple #[.bool (cmCtrB k a b rk rn k' a' b' rk' rn'), .int .i64 (0)]))
                               .fail)
                              .fail)
                             .fail)
                            .fail)
                           .fail)
                          .fail)
                         .fail)
                        .fail)
                       .fail)
                      .fail)
                     .fail)
                    .fail)
                   .fail)
                  .fail)
                 .fail)
                .fail)
               .fail)
              .fail)
             .fail)
            .fail)
           (.ite (decide (k' ≤ (6 : Int)))
            (.ret (.tuple #[.bool true, .int .i64 (0)]))
            (.ite (decide (k' ≤ (9 : Int)))
             (.ret (.tuple #[.bool true, .int .i64 (0)]))
             (.ite (decide (k' ≤ (12 : Int)))
              (.ret (.tuple #[.bool true, .int .i64 (0)]))
              (.ret (.tuple #[.bool true, .int .i64 (0)])))))))
         (.ite (decide (k ≤ (6 : Int)))
          (.ite (decide (k' < (1 : Int)) || decide ((15 : Int) < k'))
           (.ret (.tuple #[.bool true, .int .i64 (0)]))
           (.ite (decide (k' ≤ (2 : Int)))
            (.ret (.tuple #[.bool true, .int .i64 (0)]))
            (.ite (decide (k' ≤ (6 : Int)))
             (.ite (decide (k = k))
              (.ite (decide (a = a))
               (.ite (decide (b = b))
                (.ite (decide (rk = rk))
                 (.ite (decide (rn = rn))
                  (.ite (decide (k = k))
                   (.ite (decide (a = a))
                    (.ite (decide (b = b))
                     (.ite (decide (rk = rk))
                      (.ite (decide (rn = rn))
                       (.ite (decide (k' = k'))
                        (.ite (decide (a' = a'))
                         (.ite (decide (b' = b'))
                          (.ite (decide (rk' = rk'))
                           (.ite (decide (rn' = rn'))
                            (.ite (decide (k' = k'))
                             (.ite (decide (a' = a'))
                              (.ite (decide (b' = b'))
                               (.ite (decide (rk' = rk'))
                                (.ite (decide (rn' = rn'))
                                 (.ret (.tuple #[.bool (cmSetB k a b rk rn k' a' b' rk' rn'), .int .i64 (0)]))
                                 .fail)
                                .fail)
                               .fail)
                              .fail)
                             .fail)
                            .fail)
                           .fail)
                          .fail)
                         .fail)
                        .fail)
                       .fail)
                      .fail)
                     .fail)
                    .fail)
                   .fail)
                  .fail)
                 .fail)
                .fail)
               .fail)
              .fail)
             (.ite (decide (k' ≤ (9 : Int)))
              (.ret (.tuple #[.bool true, .int .i64 (0)]))
              (.ite (decide (k' ≤ (12 : Int)))
               (.ret (.tuple #[.bool true, .int .i64 (0)]))
               (.ret (.tuple #[.bool true, .int .i64 (0)])))))))
          (.ite (decide (k ≤ (9 : Int)))
           (.ite (decide (k' < (1 : Int)) || decide ((15 : Int) < k'))
            (.ret (.tuple #[.bool true, .int .i64 (0)]))
            (.ite (decide (k' ≤ (2 : Int)))
             (.ret (.tuple #[.bool true, .int .i64 (0)]))
             (.ite (decide (k' ≤ (6 : Int)))
              (.ret (.tuple #[.bool true, .int .i64 (0)]))
              (.ite (decide (k' ≤ (9 : Int)))
               (.ite (decide (k = k))
                (.ite (decide (a = a))
                 (.ite (decide (b = b))
                  (.ite (decide (rk = rk))
                   (.ite (decide (rn = rn))
                    (.ite (decide (k = k))
                     (.ite (decide (a = a))
                      (.ite (decide (b = b))
                       (.ite (decide (rk = rk))
                        (.ite (decide (rn = rn))
                         (.ite (decide (k' = k'))
                          (.ite (decide (a' = a'))
                           (.ite (decide (b' = b'))
                            (.ite (decide (rk' = rk'))
                             (.ite (decide (rn' = rn'))
                              (.ite (decide (k' = k'))
                               (.ite (decide (a' = a'))
                                (.ite (decide (b' = b'))
                                 (.ite (decide (rk' = rk'))
                                  (.ite (decide (rn' = rn'))
                                   (.ret (.tuple #[.bool (cmMapB k a b rk rn k' a' b' rk' rn'), .int .i64 (0)]))
                                   .fail)
                                  .fail)
                                 .fail)
                                .fail)
                               .fail)
                              .fail)
                             .fail)
                            .fail)
                           .fail)
                          .fail)
                         .fail)
                        .fail)
                       .fail)
                      .fail)
                     .fail)
                    .fail)
                   .fail)
                  .fail)
                 .fail)
                .fail)
               (.ite (decide (k' ≤ (12 : Int)))
                (.ret (.tuple #[.bool true, .int .i64 (0)]))
                (.ret (.tuple #[.bool true, .int .i64 (0)])))))))
           (.ite (decide (k ≤ (12 : Int)))
            (.ite (decide (k' < (1 : Int)) || decide ((15 : Int) < k'))
             (.ret (.tuple #[.bool true, .int .i64 (0)]))
             (.ite (decide (k' ≤ (2 : Int)))
              (.ret (.tuple #[.bool true, .int .i64 (0)]))
              (.ite (decide (k' ≤ (6 : Int)))
               (.ret (.tuple #[.bool true, .int .i64 (0)]))
               (.ite (decide (k' ≤ (9 : Int)))
                (.ret (.tuple #[.bool true, .int .i64 (0)]))
                (.ite (decide (k' ≤ (12 : Int)))
                 (.ite (decide (k = k))
                  (.ite (decide (a = a))
                   (.ite (decide (b = b))
                    (.ite (decide (rk = rk))
                     (.ite (decide (rn = rn))
                      (.ite (decide (k = k))
                       (.ite (decide (a = a))
                        (.ite (decide (b = b))
                         (.ite (decide (rk = rk))
                          (.ite (decide (rn = rn))
                           (.ite (decide (k' = k'))
                            (.ite (decide (a' = a'))
                             (.ite (decide (b' = b'))
                              (.ite (decide (rk' = rk'))
                               (.ite (decide (rn' = rn'))
                                (.ite (decide (k' = k'))
                                 (.ite (decide (a' = a'))
                                  (.ite (decide (b' = b'))
                                   (.ite (decide (rk' = rk'))
                                    (.ite (decide (rn' = rn'))
                                     (.ret (.tuple #[.bool (cmQueB k a b rk rn k' a' b' rk' rn'), .int .i64 (0)]))
                                     .fail)
                                    .fail)
                                   .fail)
                                  .fail)
                                 .fail)
                                .fail)
                               .fail)
                              .fail)
                             .fail)
                            .fail)
                           .fail)
                          .fail)
                         .fail)
                        .fail)
                       .fail)
                      .fail)
                     .fail)
                    .fail)
                   .fail)
                  .fail)
                 (.ret (.tuple #[.bool true, .int .i64 (0)])))))))
            (.ite (decide (k' < (1 : Int)) || decide ((15 : Int) < k'))
             (.ret (.tuple #[.bool true, .int .i64 (0)]))
             (.ite (decide (k' ≤ (2 : Int)))
              (.ret (.tuple #[.bool true, .int .i64 (0)]))
              (.ite (decide (k' ≤ (6 : Int)))
               (.ret (.tuple #[.bool true, .int .i64 (0)]))
               (.ite (decide (k' ≤ (9 : Int)))
                (.ret (.tuple #[.bool true, .int .i64 (0)]))
                (.ite (decide (k' ≤ (12 : Int)))
                 (.ret (.tuple #[.bool true, .int .i64 (0)]))
                 (.ite (decide (k = k))
                  (.ite (decide (a = a))
                   (.ite (decide (b = b))
                    (.ite (decide (rk = rk))
                     (.ite (decide (rn = rn))
                      (.ite (decide (k = k))
                       (.ite (decide (a = a))
                        (.ite (decide (b = b))
                         (.ite (decide (rk = rk))
                          (.ite (decide (rn = rn))
                           (.ite (decide (k' = k'))
                            (.ite (decide (a' = a'))
                             (.ite (decide (b' = b'))
                              (.ite (decide (rk' = rk'))
                               (.ite (decide (rn' = rn'))
                                (.ite (decide (k' = k'))
                                 (.ite (decide (a' = a'))
                                  (.ite (decide (b' = b'))
                                   (.ite (decide (rk' = rk'))
                                    (.ite (decide (rn' = rn'))
                                     (.ret (.tuple #[.bool (cmAccB k a b rk rn k' a' b' rk' rn'), .int .i64 (0)]))
                                     .fail)
                                    .fail)
                                   .fail)
                                  .fail)
                                 .fail)
                                .fail)
                               .fail)
                              .fail)
                             .fail)
                            .fail)
                           .fail)
                          .fail)
                         .fail)
                        .fail)
                       .fail)
                      .fail)
                     .fail)
                    .fail)
                   .fail)
                  .fail))))))))))))) := by kernel_rfl

end Go.Proofs.YtecidokjhplbgaaGreatDoorD
