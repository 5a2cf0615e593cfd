/-
  Chapter 07: trees of sets with and without a number.
-/
import Derived.Test.YtdefopkieleojaaSetF
set_option linter.unusedVariables false
set_option linter.unusedSimpArgs false
namespace Go.Proofs.YtdefopkieleojaaD
open Go Go.RowKit

/- List (RC.den .ints) -/
def wtEnd0 : NSt := ⟨[.row 0 1 (0)], [], [(0, .rows .ints [])], 1⟩
set_option maxRecDepth 100000 in
theorem with_tree (l : List Int) (x : Int) : ((stRunV Try.prog fdE [] [] 30 18 ⟨[.pl .ints l, .int .i64 x], [], [], 0⟩).cut
    (.ite (.ite (.ite (.all) (.all)) (.ite (.ite (.all) (.all)) (.all))) (.all))).ev = T.ev (α := NSt) (
     .ite (midB l && riseB l)
      (.ite (hasN l x)
       (.ite (small l.length)
        (stAt wtEnd0 [.l .ints (l)])
        (.fail))
       (.ite (small l.length)
        (.ite (decide ((0 : Int) ≤ (↑(cntN l x) : Int)) && decide ((↑(cntN l x) : Int) ≤ (↑l.length : Int)) && (l.length + (1 : Nat)).ble (1000000000 : Nat))
         (stAt wtEnd0 [.l .ints (List.take (↑(cntN l x) : Int).toNat l ++ [x] ++ List.drop (↑(cntN l x) : Int).toNat l)])
         (.fail))
        (.fail)))
      (.fail)) := by kernel_rfl
/- List (RC.den .ints) -/
def lsEnd0 : NSt := ⟨[.row 0 1 (0)], [], [(0, .rows .ints [])], 1⟩
/- Nat, Nat, Nat, List (RC.den .ints) -/
def lsEnd1 : NSt := ⟨[.win 0 1 (0) (0) (0)], [], [(0, .rows .ints [])], 1⟩
set_option maxRecDepth 100000 in
theorem less_tree (l : List Int) (x : Int) : ((stRunV Try.prog fdE [] [] 30 19 ⟨[.pl .ints l, .int .i64 x], [], [], 0⟩).cut
    (.ite (.ite (.ite (.all) (.all)) (.ite (.ite (.ite (.ite (.ite (.all) (.ite (.ite (.ite (.ite (.ite (.ite (.ite (.all) (.all)) (.all)) (.all)) (.ite (.ite (.ite (.all) (.all)) (.all)) (.all))) (.all)) (.all)) (.all))) (.all)) (.all)) (.all)) (.all))) (.all))).ev = T.ev (α := NSt) (
     .ite (midB l && riseB l)
      (.ite (!hasN l x)
       (.ite (small l.length)
        (stAt lsEnd0 [.l .ints (l)])
        (.fail))
       (.ite (small l.length)
        (.ite (decide ((0 : Int) ≤ (↑l.length : Int)) && decide ((↑l.length : Int) ≤ (↑l.length : Int)))
         (.ite (decide ((0 : Int) ≤ IntKind.i64.wrap ((↑(cntN l x) : Int) + (1 : Int))) && decide (IntKind.i64.wrap ((↑(cntN l x) : Int) + (1 : Int)) ≤ (↑(lo0 (some (↑l.length : Int).toNat)) : Int)))
          (.ite (decide ((0 : Int) ≤ (↑(cntN l x) : Int)) && decide ((↑(cntN l x) : Int) ≤ (↑(lo0 (some (IntKind.i64.wrap ((↑(cntN l x) : Int) + (1 : Int))).toNat)) : Int)))
           (.ite ((↑(cntN l x) : Int) == IntKind.i64.wrap ((↑(cntN l x) : Int) + (1 : Int)))
            (stAt lsEnd0 [.l .ints (l)])
            (.ite (decide ((0 : Int) ≤ (↑(cntN l x) : Int)) && decide ((↑(cntN l x) : Int) ≤ (↑l.length : Int)))
             (.ite (decide ((0 : Int) ≤ IntKind.i64.wrap ((↑(cntN l x) : Int) + (1 : Int))) && decide (IntKind.i64.wrap ((↑(cntN l x) : Int) + (1 : Int)) ≤ (↑(hi0 l.length none) : Int)))
              (.ite ((lo0 (some (IntKind.i64.wrap ((↑(cntN l x) : Int) + (1 : Int))).toNat) + (hi0 l.length none - lo0 (some (IntKind.i64.wrap ((↑(cntN l x) : Int) + (1 : Int))).toNat))).ble l.length)
               (.ite ((hi0 l.length (some (↑(cntN l x) : Int).toNat) - lo0 none + (List.take (hi0 l.length none - lo0 (some (IntKind.i64.wrap ((↑(cntN l x) : Int) + (1 : Int))).toNat)) (List.drop (lo0 (some (IntKind.i64.wrap ((↑(cntN l x) : Int) + (1 : Int))).toNat)) l)).length).ble (l.length - lo0 none))
                (.ite ((lo0 none + (l.length - lo0 none)).ble l.length)
                 (.ite (decide ((0 : Int) ≤ (↑l.length : Int)) && decide ((↑l.length : Int) ≤ (↑(l.length - lo0 none) : Int)))
                  (.ite (decide ((0 : Int) ≤ (↑(hi0 l.length (some (↑(cntN l x) : Int).toNat) - lo0 none + (List.take (hi0 l.length none - lo0 (some (IntKind.i64.wrap ((↑(cntN l x) : Int) + (1 : Int))).toNat)) (List.drop (lo0 (some (IntKind.i64.wrap ((↑(cntN l x) : Int) + (1 : Int))).toNat)) l)).length) : Int)) && decide ((↑(hi0 l.length (some (↑(cntN l x) : Int).toNat) - lo0 none + (List.take (hi0 l.length none - lo0 (some (IntKind.i64.wrap ((↑(cntN l x) : Int) + (1 : Int))).toNat)) (List.drop (lo0 (some (IntKind.i64.wrap ((↑(cntN l x) : Int) + (1 : Int))).toNat)) l)).length) : Int) ≤ (↑(hi0 (hi0 l.length (some (↑(cntN l x) : Int).toNat) - lo0 none + (List.take (hi0 l.length none - lo0 (some (IntKind.i64.wrap ((↑(cntN l x) : Int) + (1 : Int))).toNat)) (List.drop (lo0 (some (IntKind.i64.wrap ((↑(cntN l x) : Int) + (1 : Int))).toNat)) l)).length) (some (↑l.length : Int).toNat)) : Int)))
                   (stAt lsEnd1 [.n (0), .n (hi0 l.length (some (↑(cntN l x) : Int).toNat) - lo0 none + (List.take (hi0 l.length none - lo0 (some (IntKind.i64.wrap ((↑(cntN l x) : Int) + (1 : Int))).toNat)) (List.drop (lo0 (some (IntKind.i64.wrap ((↑(cntN l x) : Int) + (1 : Int))).toNat)) l)).length), .n (l.length - lo0 none), .l .ints (List.take (lo0 none + lo0 (some (↑(hi0 l.length (some (↑(cntN l x) : Int).toNat) - lo0 none + (List.take (hi0 l.length none - lo0 (some (IntKind.i64.wrap ((↑(cntN l x) : Int) + (1 : Int))).toNat)) (List.drop (lo0 (some (IntKind.i64.wrap ((↑(cntN l x) : Int) + (1 : Int))).toNat)) l)).length) : Int).toNat)) (List.take (lo0 none + (hi0 l.length (some (↑(cntN l x) : Int).toNat) - lo0 none)) l ++ List.take (hi0 l.length none - lo0 (some (IntKind.i64.wrap ((↑(cntN l x) : Int) + (1 : Int))).toNat)) (List.drop (lo0 (some (IntKind.i64.wrap ((↑(cntN l x) : Int) + (1 : Int))).toNat)) l) ++ List.drop (lo0 none + (hi0 l.length (some (↑(cntN l x) : Int).toNat) - lo0 none) + (List.take (hi0 l.length none - lo0 (some (IntKind.i64.wrap ((↑(cntN l x) : Int) + (1 : Int))).toNat)) (List.drop (lo0 (some (IntKind.i64.wrap ((↑(cntN l x) : Int) + (1 : Int))).toNat)) l)).length) l) ++ List.replicate (hi0 (hi0 l.length (some (↑(cntN l x) : Int).toNat) - lo0 none + (List.take (hi0 l.length none - lo0 (some (IntKind.i64.wrap ((↑(cntN l x) : Int) + (1 : Int))).toNat)) (List.drop (lo0 (some (IntKind.i64.wrap ((↑(cntN l x) : Int) + (1 : Int))).toNat)) l)).length) (some (↑l.length : Int).toNat) - lo0 (some (↑(hi0 l.length (some (↑(cntN l x) : Int).toNat) - lo0 none + (List.take (hi0 l.length none - lo0 (some (IntKind.i64.wrap ((↑(cntN l x) : Int) + (1 : Int))).toNat)) (List.drop (lo0 (some (IntKind.i64.wrap ((↑(cntN l x) : Int) + (1 : Int))).toNat)) l)).length) : Int).toNat)) (0 : RC.ints.den) ++ List.drop (lo0 none + lo0 (some (↑(hi0 l.length (some (↑(cntN l x) : Int).toNat) - lo0 none + (List.take (hi0 l.length none - lo0 (some (IntKind.i64.wrap ((↑(cntN l x) : Int) + (1 : Int))).toNat)) (List.drop (lo0 (some (IntKind.i64.wrap ((↑(cntN l x) : Int) + (1 : Int))).toNat)) l)).length) : Int).toNat) + (hi0 (hi0 l.length (some (↑(cntN l x) : Int).toNat) - lo0 none + (List.take (hi0 l.length none - lo0 (some (IntKind.i64.wrap ((↑(cntN l x) : Int) + (1 : Int))).toNat)) (List.drop (lo0 (some (IntKind.i64.wrap ((↑(cntN l x) : Int) + (1 : Int))).toNat)) l)).length) (some (↑l.length : Int).toNat) - lo0 (some (↑(hi0 l.length (some (↑(cntN l x) : Int).toNat) - lo0 none + (List.take (hi0 l.length none - lo0 (some (IntKind.i64.wrap ((↑(cntN l x) : Int) + (1 : Int))).toNat)) (List.drop (lo0 (some (IntKind.i64.wrap ((↑(cntN l x) : Int) + (1 : Int))).toNat)) l)).length) : Int).toNat))) (List.take (lo0 none + (hi0 l.length (some (↑(cntN l x) : Int).toNat) - lo0 none)) l ++ List.take (hi0 l.length none - lo0 (some (IntKind.i64.wrap ((↑(cntN l x) : Int) + (1 : Int))).toNat)) (List.drop (lo0 (some (IntKind.i64.wrap ((↑(cntN l x) : Int) + (1 : Int))).toNat)) l) ++ List.drop (lo0 none + (hi0 l.length (some (↑(cntN l x) : Int).toNat) - lo0 none) + (List.take (hi0 l.length none - lo0 (some (IntKind.i64.wrap ((↑(cntN l x) : Int) + (1 : Int))).toNat)) (List.drop (lo0 (some (IntKind.i64.wrap ((↑(cntN l x) : Int) + (1 : Int))).toNat)) l)).length) l))])
                   (.fail))
                  (.fail))
                 (.fail))
                (.ite (roomB (hi0 l.length (some (↑(cntN l x) : Int).toNat) - lo0 none + (List.take (hi0 l.length none - lo0 (some (IntKind.i64.wrap ((↑(cntN l x) : Int) + (1 : Int))).toNat)) (List.drop (lo0 (some (IntKind.i64.wrap ((↑(cntN l x) : Int) + (1 : Int))).toNat)) l)).length) (8 : Nat) && (lo0 none + (l.length - lo0 none)).beq l.length)
                 (.ite (decide ((0 : Int) ≤ (↑l.length : Int)) && decide ((↑l.length : Int) ≤ (↑(hi0 l.length (some (↑(cntN l x) : Int).toNat) - lo0 none + (List.take (hi0 l.length none - lo0 (some (IntKind.i64.wrap ((↑(cntN l x) : Int) + (1 : Int))).toNat)) (List.drop (lo0 (some (IntKind.i64.wrap ((↑(cntN l x) : Int) + (1 : Int))).toNat)) l)).length) : Int)))
                  (.ite (decide ((0 : Int) ≤ (↑(hi0 l.length (some (↑(cntN l x) : Int).toNat) - lo0 none + (List.take (hi0 l.length none - lo0 (some (IntKind.i64.wrap ((↑(cntN l x) : Int) + (1 : Int))).toNat)) (List.drop (lo0 (some (IntKind.i64.wrap ((↑(cntN l x) : Int) + (1 : Int))).toNat)) l)).length) : Int)) && decide ((↑(hi0 l.length (some (↑(cntN l x) : Int).toNat) - lo0 none + (List.take (hi0 l.length none - lo0 (some (IntKind.i64.wrap ((↑(cntN l x) : Int) + (1 : Int))).toNat)) (List.drop (lo0 (some (IntKind.i64.wrap ((↑(cntN l x) : Int) + (1 : Int))).toNat)) l)).length) : Int) ≤ (↑(hi0 (hi0 l.length (some (↑(cntN l x) : Int).toNat) - lo0 none + (List.take (hi0 l.length none - lo0 (some (IntKind.i64.wrap ((↑(cntN l x) : Int) + (1 : Int))).toNat)) (List.drop (lo0 (some (IntKind.i64.wrap ((↑(cntN l x) : Int) + (1 : Int))).toNat)) l)).length) (some (↑l.length : Int).toNat)) : Int)))
                   (stAt lsEnd0 [.l .ints (List.take (lo0 (some (↑(hi0 l.length (some (↑(cntN l x) : Int).toNat) - lo0 none + (List.take (hi0 l.length none - lo0 (some (IntKind.i64.wrap ((↑(cntN l x) : Int) + (1 : Int))).toNat)) (List.drop (lo0 (some (IntKind.i64.wrap ((↑(cntN l x) : Int) + (1 : Int))).toNat)) l)).length) : Int).toNat)) (List.take (hi0 l.length (some (↑(cntN l x) : Int).toNat) - lo0 none) (List.drop (lo0 none) l) ++ List.take (hi0 l.length none - lo0 (some (IntKind.i64.wrap ((↑(cntN l x) : Int) + (1 : Int))).toNat)) (List.drop (lo0 (some (IntKind.i64.wrap ((↑(cntN l x) : Int) + (1 : Int))).toNat)) l)) ++ List.replicate (hi0 (hi0 l.length (some (↑(cntN l x) : Int).toNat) - lo0 none + (List.take (hi0 l.length none - lo0 (some (IntKind.i64.wrap ((↑(cntN l x) : Int) + (1 : Int))).toNat)) (List.drop (lo0 (some (IntKind.i64.wrap ((↑(cntN l x) : Int) + (1 : Int))).toNat)) l)).length) (some (↑l.length : Int).toNat) - lo0 (some (↑(hi0 l.length (some (↑(cntN l x) : Int).toNat) - lo0 none + (List.take (hi0 l.length none - lo0 (some (IntKind.i64.wrap ((↑(cntN l x) : Int) + (1 : Int))).toNat)) (List.drop (lo0 (some (IntKind.i64.wrap ((↑(cntN l x) : Int) + (1 : Int))).toNat)) l)).length) : Int).toNat)) (0 : RC.ints.den) ++ List.drop (lo0 (some (↑(hi0 l.length (some (↑(cntN l x) : Int).toNat) - lo0 none + (List.take (hi0 l.length none - lo0 (some (IntKind.i64.wrap ((↑(cntN l x) : Int) + (1 : Int))).toNat)) (List.drop (lo0 (some (IntKind.i64.wrap ((↑(cntN l x) : Int) + (1 : Int))).toNat)) l)).length) : Int).toNat) + (hi0 (hi0 l.length (some (↑(cntN l x) : Int).toNat) - lo0 none + (List.take (hi0 l.length none - lo0 (some (IntKind.i64.wrap ((↑(cntN l x) : Int) + (1 : Int))).toNat)) (List.drop (lo0 (some (IntKind.i64.wrap ((↑(cntN l x) : Int) + (1 : Int))).toNat)) l)).length) (some (↑l.length : Int).toNat) - lo0 (some (↑(hi0 l.length (some (↑(cntN l x) : Int).toNat) - lo0 none + (List.take (hi0 l.length none - lo0 (some (IntKind.i64.wrap ((↑(cntN l x) : Int) + (1 : Int))).toNat)) (List.drop (lo0 (some (IntKind.i64.wrap ((↑(cntN l x) : Int) + (1 : Int))).toNat)) l)).length) : Int).toNat))) (List.take (hi0 l.length (some (↑(cntN l x) : Int).toNat) - lo0 none) (List.drop (lo0 none) l) ++ List.take (hi0 l.length none - lo0 (some (IntKind.i64.wrap ((↑(cntN l x) : Int) + (1 : Int))).toNat)) (List.drop (lo0 (some (IntKind.i64.wrap ((↑(cntN l x) : Int) + (1 : Int))).toNat)) l)))])
                   (.fail))
                  (.fail))
                 (.fail)))
               (.fail))
              (.fail))
             (.fail)))
           (.fail))
          (.fail))
         (.fail))
        (.fail)))
      (.fail)) := by kernel_rfl

end Go.Proofs.YtdefopkieleojaaD
