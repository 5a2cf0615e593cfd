/-
  Shared small functions: their trees.
-/
import Derived.Test.YtknijbcmhjgllaaGreatKitC0
set_option linter.unusedVariables false
set_option linter.unusedSimpArgs false
namespace Go.Proofs.YtknijbcmhjgllaaGreatD
open Go Go.RowKit

set_option maxRecDepth 100000 in
theorem sameInts_tree (l m : List Int) : (((tden Tryz.prog [] kitL 30).call 0 39 [.pl .ints l, .pl .ints m] ⟨.nil, 0⟩).pure.cut
    (.ite (.all) (.ite (.ite (.all) (.all)) (.all)))).ev = T.ev (α := CV) (
     .ite ((↑l.length : Int) != (↑m.length : Int))
      (.ret (.bool false))
      (.ite ((0 : Int) == (0 : Int) && l.length == m.length && small l.length)
       (.ite (l == m)
        (.ret (.bool true))
        (.ret (.bool false)))
       (.fail))) := by kernel_rfl
set_option maxRecDepth 100000 in
theorem rrises_tree (l : List Int) (st : Int) : (((tden Tryz.prog [] kitL 30).call 0 219 [.pl .ints l, .int .i64 st] ⟨.nil, 0⟩).pure.cut
    (.ite (.ite (.all) (.all)) (.all))).ev = T.ev (α := CV) (
     .ite (stepOk st st && small l.length)
      (.ite (rises l st.toNat)
       (.ret (.bool true))
       (.ret (.bool false)))
      (.fail)) := by kernel_rfl
set_option maxRecDepth 100000 in
theorem frises_tree (t n : Int) (l : List Int) (st : Int) : (((tden Tryz.prog [] kitL 30).call 0 124 [.agg #[.int .i64 t, .int .i64 n, .pl .ints l], .int .i64 st] ⟨.nil, 0⟩).pure.cut
    (.ite (.ite (.all) (.all)) (.all))).ev = T.ev (α := CV) (
     .ite (stepOk st st && small l.length)
      (.ite (rises l st.toNat)
       (.ret (.bool true))
       (.ret (.bool false)))
      (.fail)) := by kernel_rfl
set_option maxRecDepth 100000 in
theorem copyInts_tree (l : List Int) : (((tden Tryz.prog [] [] 30).call 0 43 [.pl .ints l] ⟨.nil, 0⟩).pure.cut
    (.ite (.all) (.all))).ev = T.ev (α := CV) (
     .ite (roomB l.length (8 : Nat))
      (.ret (.pl .ints (l)))
      (.fail)) := by kernel_rfl
set_option maxRecDepth 100000 in
theorem sameState_tree (t n : Int) (l : List Int) (t2 n2 : Int) (l2 : List Int) : (((tden Tryz.prog kitE1 [] 30).call 0 18 [.agg #[.int .i64 t, .int .i64 n, .pl .ints l], .agg #[.int .i64 t2, .int .i64 n2, .pl .ints l2]] ⟨.nil, 0⟩).pure.cut
    (.ite (.yes (.yes (.yes (.yes (.ite (.yes (.yes (.yes (.yes (.ite (.all) (.all)))))) (.no (.no (.no (.no (.no (.all))))))))))) (.no (.no (.no (.no (.no (.no (.no (.no (.no (.no (.no (.all)))))))))))))).ev = T.ev (α := CV) (
     .ite (t == t2)
      (.ite (n == n2)
       (.ite (small l.length)
        (.ret (.bool (l == l2)))
        (.fail))
       (.ret (.bool false)))
      (.ret (.bool false))) := by kernel_rfl
set_option maxRecDepth 100000 in
theorem copyState_tree (t n : Int) (l : List Int) : (((tden Tryz.prog kitE1 [] 30).call 0 21 [.agg #[.int .i64 t, .int .i64 n, .pl .ints l]] ⟨.nil, 0⟩).pure.cut
    (.ite (.all) (.all))).ev = T.ev (α := CV) (
     .ite (small l.length)
      (.ret (.agg #[.int .i64 (t), .int .i64 (n), .pl .ints (l)]))
      (.fail)) := by kernel_rfl
set_option maxRecDepth 100000 in
theorem rcheck_tree (t n : Int) (l : List Int) : (((tden Tryz.prog kitE1 [] 30).call 0 178 [.agg #[.int .i64 t, .int .i64 n, .pl .ints l]] ⟨.nil, 0⟩).pure.cut
    (.ite (.yes (.yes (.yes (.yes (.all))))) (.no (.no (.ite (.all) (.ite (.yes (.yes (.yes (.yes (.ite (.all) (.all)))))) (.ite (.yes (.yes (.yes (.ite (.yes (.yes (.ite (.ite (.all) (.all)) (.all)))) (.no (.no (.no (.yes (.all))))))))) (.ite (.yes (.yes (.yes (.ite (.yes (.yes (.yes (.yes (.yes (.ite (.yes (.yes (.ite (.ite (.all) (.all)) (.all)))) (.no (.no (.no (.yes (.all))))))))))) (.no (.no (.no (.no (.no (.no (.no (.no (.no (.yes (.all))))))))))))))) (.ite (.yes (.yes (.yes (.ite (.all) (.all))))) (.yes (.yes (.yes (.yes (.ite (.yes (.yes (.ite (.yes (.yes (.ite (.all) (.all)))) (.no (.no (.no (.yes (.all)))))))) (.no (.no (.no (.no (.no (.no (.no (.yes (.all))))))))))))))))))))))).ev = T.ev (α := CV) (
     .ite (decide (t < (1 : Int)))
      (.ret (.int .i64 (nat_lit 8)))
      (.ite (decide (t > (5 : Int)))
       (.ret (.int .i64 (nat_lit 8)))
       (.ite (t == (1 : Int))
        (.ite (!(↑l.length : Int) == (0 : Int))
         (.ret (.int .i64 (nat_lit 5)))
         (.ret (.int .i64 (nat_lit 0))))
        (.ite (t == (2 : Int))
         (.ite (n == (0 : Int))
          (.ite (decide ((1 : Int) ≤ (1 : Int)) && decide ((1 : Int) ≤ (1000 : Int)) && small l.length)
           (.ite (!rises l (Int.toNat (1 : Int)))
            (.ret (.int .i64 (nat_lit 5)))
            (.ret (.int .i64 (nat_lit 0))))
           (.fail))
          (.ret (.int .i64 (nat_lit 5))))
         (.ite (t == (3 : Int))
          (.ite (n == (0 : Int))
           (.ite ((↑l.length : Int).tmod (2 : Int) == (0 : Int))
            (.ite (decide ((1 : Int) ≤ (2 : Int)) && decide ((2 : Int) ≤ (1000 : Int)) && small l.length)
             (.ite (!rises l (Int.toNat (2 : Int)))
              (.ret (.int .i64 (nat_lit 5)))
              (.ret (.int .i64 (nat_lit 0))))
             (.fail))
            (.ret (.int .i64 (nat_lit 5))))
           (.ret (.int .i64 (nat_lit 5))))
          (.ite (t == (4 : Int))
           (.ite (!n == (0 : Int))
            (.ret (.int .i64 (nat_lit 5)))
            (.ret (.int .i64 (nat_lit 0))))
           (.ite ((↑l.length : Int) == (0 : Int))
            (.ite (decide (n ≥ (0 : Int)))
             (.ite (!decide (n ≤ (4611686018427387904 : Int)))
              (.ret (.int .i64 (nat_lit 5)))
              (.ret (.int .i64 (nat_lit 0))))
             (.ret (.int .i64 (nat_lit 5))))
            (.ret (.int .i64 (nat_lit 5)))))))))) := by kernel_rfl
set_option maxRecDepth 100000 in
theorem check_tree (t n : Int) (l : List Int) : (((tden Tryz.prog kitE1 [] 30).call 0 17 [.agg #[.int .i64 t, .int .i64 n, .pl .ints l]] ⟨.nil, 0⟩).pure.cut
    (.ite (.yes (.yes (.yes (.ite (.all) (.yes (.ite (.yes (.yes (.yes (.ite (.yes (.yes (.ite (.yes (.yes (.ite (.all) (.all)))) (.no (.no (.no (.yes (.all)))))))) (.no (.no (.no (.no (.no (.no (.no (.yes (.all))))))))))))) (.ite (.yes (.yes (.yes (.ite (.all) (.all))))) (.ite (.yes (.yes (.yes (.ite (.yes (.yes (.yes (.yes (.yes (.ite (.yes (.ite (.ite (.all) (.all)) (.all))) (.no (.no (.yes (.all)))))))))) (.no (.no (.no (.no (.no (.no (.no (.no (.yes (.all)))))))))))))) (.ite (.yes (.yes (.yes (.ite (.yes (.ite (.ite (.all) (.all)) (.all))) (.no (.no (.yes (.all)))))))) (.ite (.yes (.yes (.yes (.ite (.all) (.all))))) (.all))))))))))) (.no (.no (.no (.no (.yes (.all)))))))).ev = T.ev (α := CV) (
     .ite (decide (t ≥ (1 : Int)))
      (.ite (!decide (t ≤ (5 : Int)))
       (.ret (.int .i64 (nat_lit 8)))
       (.ite (decide (t = t))
        (.ite (decide (IntKind.i64.wrap (t - (1 : Int)) = (↑(nat_lit 4) : Int)))
         (.ite (decide (t = t))
          (.ite (decide (n = n))
           (.ite (decide (l = l))
            (.ite ((↑l.length : Int) == (0 : Int))
             (.ite (decide (n ≥ (0 : Int)))
              (.ite (!decide (n ≤ (4611686018427387904 : Int)))
               (.ret (.int .i64 (nat_lit 5)))
               (.ret (.int .i64 (nat_lit 0))))
              (.ret (.int .i64 (nat_lit 5))))
             (.ret (.int .i64 (nat_lit 5))))
            .fail)
           .fail)
          .fail)
         (.ite (decide (IntKind.i64.wrap (t - (1 : Int)) = (↑(nat_lit 3) : Int)))
          (.ite (decide (t = t))
           (.ite (decide (n = n))
            (.ite (decide (l = l))
             (.ite (!n == (0 : Int))
              (.ret (.int .i64 (nat_lit 5)))
              (.ret (.int .i64 (nat_lit 0))))
             .fail)
            .fail)
           .fail)
          (.ite (decide (IntKind.i64.wrap (t - (1 : Int)) = (↑(nat_lit 2) : Int)))
           (.ite (decide (t = t))
            (.ite (decide (n = n))
             (.ite (decide (l = l))
              (.ite (n == (0 : Int))
               (.ite ((↑l.length : Int).tmod (2 : Int) == (0 : Int))
                (.ite (decide ((1 : Int) ≤ (2 : Int)) && decide ((2 : Int) ≤ (1000 : Int)) && small l.length)
                 (.ite (!rises l (Int.toNat (2 : Int)))
                  (.ret (.int .i64 (nat_lit 5)))
                  (.ret (.int .i64 (nat_lit 0))))
                 (.fail))
                (.ret (.int .i64 (nat_lit 5))))
               (.ret (.int .i64 (nat_lit 5))))
              .fail)
             .fail)
            .fail)
           (.ite (decide (IntKind.i64.wrap (t - (1 : Int)) = (↑(nat_lit 1) : Int)))
            (.ite (decide (t = t))
             (.ite (decide (n = n))
              (.ite (decide (l = l))
               (.ite (n == (0 : Int))
                (.ite (decide ((1 : Int) ≤ (1 : Int)) && decide ((1 : Int) ≤ (1000 : Int)) && small l.length)
                 (.ite (!rises l (Int.toNat (1 : Int)))
                  (.ret (.int .i64 (nat_lit 5)))
                  (.ret (.int .i64 (nat_lit 0))))
                 (.fail))
                (.ret (.int .i64 (nat_lit 5))))
               .fail)
              .fail)
             .fail)
            (.ite (decide (IntKind.i64.wrap (t - (1 : Int)) = (↑(nat_lit 0) : Int)))
             (.ite (decide (t = t))
              (.ite (decide (n = n))
               (.ite (decide (l = l))
                (.ite (!(↑l.length : Int) == (0 : Int))
                 (.ret (.int .i64 (nat_lit 5)))
                 (.ret (.int .i64 (nat_lit 0))))
                .fail)
               .fail)
              .fail)
             (.fail))))))
        .fail))
      (.ret (.int .i64 (nat_lit 8)))) := by kernel_rfl

end Go.Proofs.YtknijbcmhjgllaaGreatD
