/-
  Chapter 11: what the machine answers: Apply and Legal, the document's too.
-/
import Derived.Test.YtecidokjhplbgaaGreatDoorChCtr
import Derived.Test.YtecidokjhplbgaaGreatDoorChSet
import Derived.Test.YtecidokjhplbgaaGreatDoorChMap
import Derived.Test.YtecidokjhplbgaaGreatDoorChFif
import Derived.Test.YtecidokjhplbgaaGreatDoorChEsc
import Derived.Test.YtecidokjhplbgaaGreatDoorFreA
set_option linter.unusedVariables false
set_option linter.unusedSimpArgs false
namespace Go.Proofs.YtecidokjhplbgaaGreatDoorD
open Go Go.RowKit


def machA (t n : Int) (l : List Int) (k a b : Int) : Ans :=
  if t = 1 then Ctr.ctrA t n l k a b
  else if t = 2 then Set.setA t n l k a b
  else if t = 3 then Map.mapA t n l k a b
  else if t = 4 then Fif.fifoA t n l k a b
  else if t = 5 then Esc.escA t n l k a b
  else bad 8
def machB (l : List Int) (a b : Int) : Bool := Set.midB l && (Ctr.inI64 a && Ctr.inI64 b)
def machG : List CV → T CV
  | [.agg ⟨[.int .i64 t, .int .i64 n, .pl .ints l]⟩, .int .i64 k, .int .i64 a, .int .i64 b] => T.when (machB l a b) (.ret (machA t n l k a b).cv)
  | _ => .fail

theorem machB_iff {l : List Int} {a b : Int} (h : machB l a b = true) : Set.midB l = true ∧ small l.length = true ∧ small (l.length + 1) = true ∧ small (l.length + 4) = true ∧ Ctr.inI64 a = true ∧ Ctr.inI64 b = true := by
  simp only [machB, Bool.and_eq_true] at h
  have h1 := h.1
  rw [Set.midB, Nat.ble_eq] at h1
  exact ⟨h.1, by rw [small_iff]; omega, by rw [small_iff]; omega, by rw [small_iff]; omega, h.2.1, h.2.2⟩
theorem wt1 : IntKind.i64.wrap (1 - 1) = 0 := by decide
theorem wt2 : IntKind.i64.wrap (2 - 1) = 1 := by decide
theorem wt3 : IntKind.i64.wrap (3 - 1) = 2 := by decide
theorem wt4 : IntKind.i64.wrap (4 - 1) = 3 := by decide
theorem wt5 : IntKind.i64.wrap (5 - 1) = 4 := by decide

def NoneIf (x : Ans) : Prop := x.e ≠ 0 → x.s = ⟨0, 0, []⟩ ∧ x.r = ⟨0, 0⟩
theorem noneIf_bad (e : Int) : NoneIf (bad e) := fun _ => ⟨rfl, rfl⟩
theorem noneIf_ok (s : DState) (r : DRet) : NoneIf ⟨s, r, 0⟩ := fun h => absurd rfl h
theorem noneIf_ite {p : Prop} [Decidable p] {x y : Ans} (h1 : NoneIf x) (h2 : NoneIf y) : NoneIf (if p then x else y) := by split <;> assumption
theorem map_none (t n : Int) (l : List Int) (k a b : Int) : NoneIf (Map.mapA t n l k a b) := by
  unfold Map.mapA
  repeat' (first | exact noneIf_bad _ | exact noneIf_ok _ _ | apply noneIf_ite)
def legB (x : Ans) (rk rn : Int) : Bool := x.e == 0 && (x.r.kind == rk && x.r.n == rn)
def legV (x : Ans) (rk rn : Int) : CV := .tuple #[.agg #[.int .i64 x.s.type, .int .i64 x.s.n, .pl .ints x.s.l], .bool (legB x rk rn), .int .i64 x.e]
def legG : List CV → T CV
  | [.agg ⟨[.int .i64 t, .int .i64 n, .pl .ints l]⟩, .agg ⟨[.int .i64 k, .int .i64 a, .int .i64 b, .int .i64 rk, .int .i64 rn]⟩] => T.when (machB l a b) (.ret (legV (machA t n l k a b) rk rn))
  | _ => .fail

set_option maxRecDepth 100000 in
theorem ctrN_tree (t n : Int) (l : List Int) (k a b : Int) : ((((tden Tryz.prog kitE [] 30).call 0 85 [.agg #[.int .i64 t, .int .i64 n, .pl .ints l], .int .i64 k, .int .i64 a, .int .i64 b] ⟨.nil, 0⟩).fresh (sgA)).cut
    (.ite (.yes (.yes (.yes (.yes (.all))))) (.no (.ite (.no (.ite (.all) (.ite (.ite (.all) (.yes (.yes (.all)))) (.ite (.ite (.all) (.yes (.yes (.all)))) (.all))))) (.all))))).ev = T.ev (α := CV) (
     .ite (t != (1 : Int))
      (.ret (.tuple #[.agg #[.int .i64 (0), .int .i64 (0), .pl .ints ([])], .agg #[.int .i64 (0), .int .i64 (0)], .int .i64 (12)]))
      (.ite (small l.length)
       (.ite (checkN t n l != (0 : Int))
        (.ret (.tuple #[.agg #[.int .i64 (0), .int .i64 (0), .pl .ints ([])], .agg #[.int .i64 (0), .int .i64 (0)], .int .i64 (12)]))
        (.ite (k == (1 : Int))
         (.ite (b != (0 : Int))
          (.ret (.tuple #[.agg #[.int .i64 (0), .int .i64 (0), .pl .ints ([])], .agg #[.int .i64 (0), .int .i64 (0)], .int .i64 (2)]))
          (.ret (.tuple #[.agg #[.int .i64 (1), .int .i64 (IntKind.i64.wrap (IntKind.u64.wrap (IntKind.u64.wrap n + IntKind.u64.wrap a))), .pl .ints ([])], .agg #[.int .i64 (0), .int .i64 (0)], .int .i64 (0)])))
         (.ite (k == (2 : Int))
          (.ite (IntKind.i64.wrap (↑(BitVec.ofInt IntKind.i64.bits b ||| BitVec.ofInt IntKind.i64.bits a).toNat : Int) != (0 : Int))
           (.ret (.tuple #[.agg #[.int .i64 (0), .int .i64 (0), .pl .ints ([])], .agg #[.int .i64 (0), .int .i64 (0)], .int .i64 (2)]))
           (.ite (decide (n = n))
            (.ret (.tuple #[.agg #[.int .i64 (1), .int .i64 (n), .pl .ints ([])], .agg #[.int .i64 (2), .int .i64 (n)], .int .i64 (0)]))
            .fail))
          (.ret (.tuple #[.agg #[.int .i64 (0), .int .i64 (0), .pl .ints ([])], .agg #[.int .i64 (0), .int .i64 (0)], .int .i64 (6)])))))
       (.fail))) := by kernel_rfl
set_option maxRecDepth 100000 in
theorem setN_tree (t n : Int) (l : List Int) (k a b : Int) : ((((tden Tryz.prog Set.stE [] 30).call 0 86 [.agg #[.int .i64 t, .int .i64 n, .pl .ints l], .int .i64 k, .int .i64 a, .int .i64 b] ⟨.nil, 0⟩).fresh (sgA)).cut
    (.ite (.yes (.yes (.yes (.yes (.all))))) (.no (.ite (.no (.ite (.all) (.ite (.yes (.yes (.yes (.all)))) (.no (.ite (.all) (.ite (.yes (.yes (.yes (.yes (.yes (.all)))))) (.no (.no (.ite (.yes (.no (.ite (.all) (.ite (.yes (.all)) (.ite (.ite (.yes (.ite (.all) (.all))) (.all)) (.ite (.ite (.yes (.ite (.yes (.yes (.all))) (.no (.all)))) (.all)) (.ite (.ite (.yes (.ite (.all) (.all))) (.all)) (.all)))))))) (.no (.no (.no (.no (.ite (.yes (.all)) (.ite (.ite (.yes (.ite (.all) (.all))) (.all)) (.ite (.ite (.yes (.ite (.yes (.yes (.all))) (.no (.all)))) (.all)) (.ite (.ite (.yes (.ite (.all) (.all))) (.all)) (.all)))))))))))))))))) (.all))))).ev = T.ev (α := CV) (
     .ite (t != (2 : Int))
      (.ret (.tuple #[.agg #[.int .i64 (0), .int .i64 (0), .pl .ints ([])], .agg #[.int .i64 (0), .int .i64 (0)], .int .i64 (12)]))
      (.ite (small l.length)
       (.ite (checkN t n l != (0 : Int))
        (.ret (.tuple #[.agg #[.int .i64 (0), .int .i64 (0), .pl .ints ([])], .agg #[.int .i64 (0), .int .i64 (0)], .int .i64 (12)]))
        (.ite (decide (k < (3 : Int)))
         (.ret (.tuple #[.agg #[.int .i64 (0), .int .i64 (0), .pl .ints ([])], .agg #[.int .i64 (0), .int .i64 (0)], .int .i64 (6)]))
         (.ite (decide (k > (6 : Int)))
          (.ret (.tuple #[.agg #[.int .i64 (0), .int .i64 (0), .pl .ints ([])], .agg #[.int .i64 (0), .int .i64 (0)], .int .i64 (6)]))
          (.ite (b != (0 : Int))
           (.ret (.tuple #[.agg #[.int .i64 (0), .int .i64 (0), .pl .ints ([])], .agg #[.int .i64 (0), .int .i64 (0)], .int .i64 (2)]))
           (.ite (k == (6 : Int))
            (.ite (a != (0 : Int))
             (.ret (.tuple #[.agg #[.int .i64 (0), .int .i64 (0), .pl .ints ([])], .agg #[.int .i64 (0), .int .i64 (0)], .int .i64 (2)]))
             (.ite (decide (IntKind.i64.wrap (k - (3 : Int)) = (3 : Int)))
              (.ite (small l.length)
               (.ret (.tuple #[.agg #[.int .i64 (2), .int .i64 (0), .pl .ints (l)], .agg #[.int .i64 (2), .int .i64 ((↑l.length : Int))], .int .i64 (0)]))
               .fail)
              (.ite (decide (IntKind.i64.wrap (k - (3 : Int)) = (2 : Int)))
               (.ite (Set.midB l && Set.riseB l)
                (.ite (small l.length)
                 (.ite (Set.hasN l a)
                  (.ret (.tuple #[.agg #[.int .i64 (2), .int .i64 (0), .pl .ints (l)], .agg #[.int .i64 (2), .int .i64 (1)], .int .i64 (0)]))
                  (.ret (.tuple #[.agg #[.int .i64 (2), .int .i64 (0), .pl .ints (l)], .agg #[.int .i64 (2), .int .i64 (0)], .int .i64 (0)])))
                 .fail)
                (.fail))
               (.ite (decide (IntKind.i64.wrap (k - (3 : Int)) = (1 : Int)))
                (.ite (Set.midB l && Set.riseB l)
                 (.ite (Set.midB l && Set.riseB l)
                  (.ite (Set.hasN l a)
                   (.ite (Set.hasN l a)
                    (.ite (small l.length)
                     (.ret (.tuple #[.agg #[.int .i64 (2), .int .i64 (0), .pl .ints (List.take (l.length - (1 : Nat)) (List.drop (0 : Nat) (Set.lessRow l (Set.cntN l a))))], .agg #[.int .i64 (2), .int .i64 (1)], .int .i64 (0)]))
                     .fail)
                    .fail)
                   (.ite (Set.hasN l a) .fail
                    (.ret (.tuple #[.agg #[.int .i64 (2), .int .i64 (0), .pl .ints (l)], .agg #[.int .i64 (2), .int .i64 (0)], .int .i64 (0)]))))
                  .fail)
                 (.fail))
                (.ite (decide (IntKind.i64.wrap (k - (3 : Int)) = (0 : Int)))
                 (.ite (Set.midB l && Set.riseB l)
                  (.ite (Set.midB l && Set.riseB l)
                   (.ite (!Set.hasN l a)
                    (.ret (.tuple #[.agg #[.int .i64 (2), .int .i64 (0), .pl .ints (Set.withN l a)], .agg #[.int .i64 (2), .int .i64 (1)], .int .i64 (0)]))
                    (.ret (.tuple #[.agg #[.int .i64 (2), .int .i64 (0), .pl .ints (Set.withN l a)], .agg #[.int .i64 (2), .int .i64 (0)], .int .i64 (0)])))
                   .fail)
                  (.fail))
                 (.fail))))))
            (.ite (decide (IntKind.i64.wrap (k - (3 : Int)) = (3 : Int)))
             (.ite (small l.length)
              (.ret (.tuple #[.agg #[.int .i64 (2), .int .i64 (0), .pl .ints (l)], .agg #[.int .i64 (2), .int .i64 ((↑l.length : Int))], .int .i64 (0)]))
              .fail)
             (.ite (decide (IntKind.i64.wrap (k - (3 : Int)) = (2 : Int)))
              (.ite (Set.midB l && Set.riseB l)
               (.ite (small l.length)
                (.ite (Set.hasN l a)
                 (.ret (.tuple #[.agg #[.int .i64 (2), .int .i64 (0), .pl .ints (l)], .agg #[.int .i64 (2), .int .i64 (1)], .int .i64 (0)]))
                 (.ret (.tuple #[.agg #[.int .i64 (2), .int .i64 (0), .pl .ints (l)], .agg #[.int .i64 (2), .int .i64 (0)], .int .i64 (0)])))
                .fail)
               (.fail))
              (.ite (decide (IntKind.i64.wrap (k - (3 : Int)) = (1 : Int)))
               (.ite (Set.midB l && Set.riseB l)
                (.ite (Set.midB l && Set.riseB l)
                 (.ite (Set.hasN l a)
                  (.ite (Set.hasN l a)
                   (.ite (small l.length)
                    (.ret (.tuple #[.agg #[.int .i64 (2), .int .i64 (0), .pl .ints (List.take (l.length - (1 : Nat)) (List.drop (0 : Nat) (Set.lessRow l (Set.cntN l a))))], .agg #[.int .i64 (2), .int .i64 (1)], .int .i64 (0)]))
                    .fail)
                   .fail)
                  (.ite (Set.hasN l a) .fail
                   (.ret (.tuple #[.agg #[.int .i64 (2), .int .i64 (0), .pl .ints (l)], .agg #[.int .i64 (2), .int .i64 (0)], .int .i64 (0)]))))
                 .fail)
                (.fail))
               (.ite (decide (IntKind.i64.wrap (k - (3 : Int)) = (0 : Int)))
                (.ite (Set.midB l && Set.riseB l)
                 (.ite (Set.midB l && Set.riseB l)
                  (.ite (!Set.hasN l a)
                   (.ret (.tuple #[.agg #[.int .i64 (2), .int .i64 (0), .pl .ints (Set.withN l a)], .agg #[.int .i64 (2), .int .i64 (1)], .int .i64 (0)]))
                   (.ret (.tuple #[.agg #[.int .i64 (2), .int .i64 (0), .pl .ints (Set.withN l a)], .agg #[.int .i64 (2), .int .i64 (0)], .int .i64 (0)])))
                  .fail)
                 (.fail))
                (.fail))))))))))
       (.fail))) := by kernel_rfl
set_option maxRecDepth 100000 in
theorem mapN_tree (t n : Int) (l : List Int) (k a b : Int) : ((((tden Tryz.prog Map.mpE [] 30).call 0 87 [.agg #[.int .i64 t, .int .i64 n, .pl .ints l], .int .i64 k, .int .i64 a, .int .i64 b] ⟨.nil, 0⟩).fresh (sgA)).cut
    (.ite (.yes (.yes (.yes (.yes (.all))))) (.no (.ite (.no (.ite (.all) (.ite (.yes (.yes (.yes (.all)))) (.no (.ite (.all) (.ite (.yes (.ite (.all) (.ite (.yes (.ite (.yes (.yes (.yes (.yes (.yes (.all)))))) (.yes (.yes (.yes (.yes (.yes (.all)))))))) (.ite (.yes (.ite (.ite (.yes (.yes (.yes (.yes (.all))))) (.all)) (.ite (.yes (.yes (.yes (.yes (.all))))) (.all)))) (.ite (.yes (.ite (.ite (.yes (.yes (.yes (.yes (.all))))) (.all)) (.ite (.yes (.yes (.yes (.yes (.all))))) (.all)))) (.all)))))) (.no (.no (.no (.ite (.yes (.ite (.yes (.yes (.yes (.yes (.yes (.all)))))) (.yes (.yes (.yes (.yes (.yes (.all)))))))) (.ite (.yes (.ite (.ite (.yes (.yes (.yes (.yes (.all))))) (.all)) (.ite (.yes (.yes (.yes (.yes (.all))))) (.all)))) (.ite (.yes (.ite (.ite (.yes (.yes (.yes (.yes (.all))))) (.all)) (.ite (.yes (.yes (.yes (.yes (.all))))) (.all)))) (.all))))))))))))) (.all))))).ev = T.ev (α := CV) (
     .ite (t != (3 : Int))
      (.ret (.tuple #[.agg #[.int .i64 (0), .int .i64 (0), .pl .ints ([])], .agg #[.int .i64 (0), .int .i64 (0)], .int .i64 (12)]))
      (.ite (small l.length)
       (.ite (checkN t n l != (0 : Int))
        (.ret (.tuple #[.agg #[.int .i64 (0), .int .i64 (0), .pl .ints ([])], .agg #[.int .i64 (0), .int .i64 (0)], .int .i64 (12)]))
        (.ite (decide (k < (7 : Int)))
         (.ret (.tuple #[.agg #[.int .i64 (0), .int .i64 (0), .pl .ints ([])], .agg #[.int .i64 (0), .int .i64 (0)], .int .i64 (6)]))
         (.ite (decide (k > (9 : Int)))
          (.ret (.tuple #[.agg #[.int .i64 (0), .int .i64 (0), .pl .ints ([])], .agg #[.int .i64 (0), .int .i64 (0)], .int .i64 (6)]))
          (.ite (k != (7 : Int))
           (.ite (b != (0 : Int))
            (.ret (.tuple #[.agg #[.int .i64 (0), .int .i64 (0), .pl .ints ([])], .agg #[.int .i64 (0), .int .i64 (0)], .int .i64 (2)]))
            (.ite (decide (IntKind.i64.wrap (k - (7 : Int)) = (2 : Int)))
             (.ite (small l.length)
              (.ite ((Map.findP l a).snd.fst)
               (.ite (small l.length)
                (.ite (decide ((Map.findP l a).fst = (Map.findP l a).fst))
                 (.ite (decide ((Map.findP l a).fst = (Map.findP l a).fst))
                  (.ret (.tuple #[.agg #[.int .i64 (3), .int .i64 (0), .pl .ints (Map.dropP l a)], .agg #[.int .i64 (2), .int .i64 ((Map.findP l a).fst)], .int .i64 (0)]))
                  .fail)
                 .fail)
                .fail)
               (.ite (small l.length)
                (.ret (.tuple #[.agg #[.int .i64 (3), .int .i64 (0), .pl .ints (Map.dropP l a)], .agg #[.int .i64 (1), .int .i64 (0)], .int .i64 (0)]))
                .fail))
              .fail)
             (.ite (decide (IntKind.i64.wrap (k - (7 : Int)) = (1 : Int)))
              (.ite (small l.length)
               (.ite ((Map.findP l a).snd.fst)
                (.ite (roomB l.length (8 : Nat))
                 (.ite (decide ((Map.findP l a).fst = (Map.findP l a).fst))
                  (.ite (decide ((Map.findP l a).fst = (Map.findP l a).fst))
                   (.ret (.tuple #[.agg #[.int .i64 (3), .int .i64 (0), .pl .ints (l)], .agg #[.int .i64 (2), .int .i64 ((Map.findP l a).fst)], .int .i64 (0)]))
                   .fail)
                  .fail)
                 (.fail))
                (.ite (roomB l.length (8 : Nat))
                 (.ret (.tuple #[.agg #[.int .i64 (3), .int .i64 (0), .pl .ints (l)], .agg #[.int .i64 (1), .int .i64 (0)], .int .i64 (0)]))
                 (.fail)))
               .fail)
              (.ite (decide (IntKind.i64.wrap (k - (7 : Int)) = (0 : Int)))
               (.ite (small l.length)
                (.ite ((Map.findP l a).snd.fst)
                 (.ite (small (l.length + (4 : Nat)))
                  (.ite (decide ((Map.findP l a).fst = (Map.findP l a).fst))
                   (.ite (decide ((Map.findP l a).fst = (Map.findP l a).fst))
                    (.ret (.tuple #[.agg #[.int .i64 (3), .int .i64 (0), .pl .ints (Map.setP (Map.dropP l a) a b)], .agg #[.int .i64 (2), .int .i64 ((Map.findP l a).fst)], .int .i64 (0)]))
                    .fail)
                   .fail)
                  (.fail))
                 (.ite (small (l.length + (4 : Nat)))
                  (.ret (.tuple #[.agg #[.int .i64 (3), .int .i64 (0), .pl .ints (Map.setP (Map.dropP l a) a b)], .agg #[.int .i64 (1), .int .i64 (0)], .int .i64 (0)]))
                  (.fail)))
                .fail)
               (.fail)))))
           (.ite (decide (IntKind.i64.wrap (k - (7 : Int)) = (2 : Int)))
            (.ite (small l.length)
             (.ite ((Map.findP l a).snd.fst)
              (.ite (small l.length)
               (.ite (decide ((Map.findP l a).fst = (Map.findP l a).fst))
                (.ite (decide ((Map.findP l a).fst = (Map.findP l a).fst))
                 (.ret (.tuple #[.agg #[.int .i64 (3), .int .i64 (0), .pl .ints (Map.dropP l a)], .agg #[.int .i64 (2), .int .i64 ((Map.findP l a).fst)], .int .i64 (0)]))
                 .fail)
                .fail)
               .fail)
              (.ite (small l.length)
               (.ret (.tuple #[.agg #[.int .i64 (3), .int .i64 (0), .pl .ints (Map.dropP l a)], .agg #[.int .i64 (1), .int .i64 (0)], .int .i64 (0)]))
               .fail))
             .fail)
            (.ite (decide (IntKind.i64.wrap (k - (7 : Int)) = (1 : Int)))
             (.ite (small l.length)
              (.ite ((Map.findP l a).snd.fst)
               (.ite (roomB l.length (8 : Nat))
                (.ite (decide ((Map.findP l a).fst = (Map.findP l a).fst))
                 (.ite (decide ((Map.findP l a).fst = (Map.findP l a).fst))
                  (.ret (.tuple #[.agg #[.int .i64 (3), .int .i64 (0), .pl .ints (l)], .agg #[.int .i64 (2), .int .i64 ((Map.findP l a).fst)], .int .i64 (0)]))
                  .fail)
                 .fail)
                (.fail))
               (.ite (roomB l.length (8 : Nat))
                (.ret (.tuple #[.agg #[.int .i64 (3), .int .i64 (0), .pl .ints (l)], .agg #[.int .i64 (1), .int .i64 (0)], .int .i64 (0)]))
                (.fail)))
              .fail)
             (.ite (decide (IntKind.i64.wrap (k - (7 : Int)) = (0 : Int)))
              (.ite (small l.length)
               (.ite ((Map.findP l a).snd.fst)
                (.ite (small (l.length + (4 : Nat)))
                 (.ite (decide ((Map.findP l a).fst = (Map.findP l a).fst))
                  (.ite (decide ((Map.findP l a).fst = (Map.findP l a).fst))
                   (.ret (.tuple #[.agg #[.int .i64 (3), .int .i64 (0), .pl .ints (Map.setP (Map.dropP l a) a b)], .agg #[.int .i64 (2), .int .i64 ((Map.findP l a).fst)], .int .i64 (0)]))
                   .fail)
                  .fail)
                 (.fail))
                (.ite (small (l.length + (4 : Nat)))
                 (.ret (.tuple #[.agg #[.int .i64 (3), .int .i64 (0), .pl .ints (Map.setP (Map.dropP l a) a b)], .agg #[.int .i64 (1), .int .i64 (0)], .int .i64 (0)]))
                 (.fail)))
               .fail)
              (.fail))))))))
       (.fail))) := by kernel_rfl
set_option maxRecDepth 100000 in
theorem fifN_tree (t n : Int) (l : List Int) (k a b : Int) : ((((tden Tryz.prog Fif.cloneE [] 30).call 0 88 [.agg #[.int .i64 t, .int .i64 n, .pl .ints l], .int .i64 k, .int .i64 a, .int .i64 b] ⟨.nil, 0⟩).fresh (sgA)).cut
    (.ite (.yes (.ite (.yes (.ite (.all) (.ite (.yes (.yes (.yes (.all)))) (.no (.ite (.all) (.ite (.yes (.yes (.yes (.yes (.yes (.all)))))) (.no (.no (.ite (.yes (.no (.ite (.all) (.yes (.ite (.ite (.yes (.yes (.all))) (.all)) (.ite (.ite (.no (.yes (.yes (.all)))) (.ite (.ite (.ite (.yes (.yes (.yes (.ite (.all) (.all))))) (.all)) (.all)) (.all))) (.yes (.yes (.all))))))))) (.no (.no (.no (.no (.yes (.ite (.ite (.yes (.yes (.all))) (.all)) (.ite (.ite (.no (.yes (.yes (.all)))) (.ite (.ite (.ite (.yes (.yes (.yes (.ite (.all) (.all))))) (.all)) (.all)) (.all))) (.yes (.yes (.all))))))))))))))))))) (.all))) (.no (.no (.no (.yes (.all))))))).ev = T.ev (α := CV) (
     .ite (t == (4 : Int))
      (.ite (small l.length)
       (.ite (!checkN t n l == (0 : Int))
        (.ret (.tuple #[.agg #[.int .i64 (0), .int .i64 (0), .pl .ints ([])], .agg #[.int .i64 (0), .int .i64 (0)], .int .i64 (12)]))
        (.ite (decide (k < (10 : Int)))
         (.ret (.tuple #[.agg #[.int .i64 (0), .int .i64 (0), .pl .ints ([])], .agg #[.int .i64 (0), .int .i64 (0)], .int .i64 (6)]))
         (.ite (decide (k > (12 : Int)))
          (.ret (.tuple #[.agg #[.int .i64 (0), .int .i64 (0), .pl .ints ([])], .agg #[.int .i64 (0), .int .i64 (0)], .int .i64 (6)]))
          (.ite (b != (0 : Int))
           (.ret (.tuple #[.agg #[.int .i64 (0), .int .i64 (0), .pl .ints ([])], .agg #[.int .i64 (0), .int .i64 (0)], .int .i64 (2)]))
           (.ite (k != (10 : Int))
            (.ite (a != (0 : Int))
             (.ret (.tuple #[.agg #[.int .i64 (0), .int .i64 (0), .pl .ints ([])], .agg #[.int .i64 (0), .int .i64 (0)], .int .i64 (2)]))
             (.ite (small l.length)
              (.ite (k == (10 : Int))
               (.ite (roomB (l.length + [a].length) (8 : Nat))
                (.ret (.tuple #[.agg #[.int .i64 (4), .int .i64 (0), .pl .ints (l ++ [a])], .agg #[.int .i64 (0), .int .i64 (0)], .int .i64 (0)]))
                (.fail))
               (.ite (k == (11 : Int))
                (.ite ((↑l.length : Int) == (0 : Int))
                 (.ret (.tuple #[.agg #[.int .i64 (4), .int .i64 (0), .pl .ints (l)], .agg #[.int .i64 (1), .int .i64 (0)], .int .i64 (0)]))
                 (.ite (inRange (0 : Int) l.length)
                  (.ite ((Int.toNat (0 : Int)).blt l.length)
                   (.ite (decide ((0 : Int) ≤ (1 : Int)) && decide ((1 : Int) ≤ (↑(hi0 l.length none) : Int)))
                    (.ite (decide (l.getD (Int.toNat (0 : Int)) RC.ints.zero = l.getD (Int.toNat (0 : Int)) RC.ints.zero))
                     (.ite (small (l.length - lo0 (some (Int.toNat (1 : Int)))))
                      (.ret (.tuple #[.agg #[.int .i64 (4), .int .i64 (0), .pl .ints (List.take (hi0 l.length none - lo0 (some (Int.toNat (1 : Int)))) (List.drop (lo0 (some (Int.toNat (1 : Int)))) l))], .agg #[.int .i64 (2), .int .i64 (l.getD (Int.toNat (0 : Int)) RC.ints.zero)], .int .i64 (0)]))
                      (.fail))
                     .fail)
                    (.fail))
                   (.fail))
                  (.fail)))
                (.ite (decide ((↑l.length : Int) = (↑l.length : Int)))
                 (.ret (.tuple #[.agg #[.int .i64 (4), .int .i64 (0), .pl .ints (l)], .agg #[.int .i64 (2), .int .i64 ((↑l.length : Int))], .int .i64 (0)]))
                 .fail)))
              .fail))
            (.ite (small l.length)
             (.ite (k == (10 : Int))
              (.ite (roomB (l.length + [a].length) (8 : Nat))
               (.ret (.tuple #[.agg #[.int .i64 (4), .int .i64 (0), .pl .ints (l ++ [a])], .agg #[.int .i64 (0), .int .i64 (0)], .int .i64 (0)]))
               (.fail))
              (.ite (k == (11 : Int))
               (.ite ((↑l.length : Int) == (0 : Int))
                (.ret (.tuple #[.agg #[.int .i64 (4), .int .i64 (0), .pl .ints (l)], .agg #[.int .i64 (1), .int .i64 (0)], .int .i64 (0)]))
                (.ite (inRange (0 : Int) l.length)
                 (.ite ((Int.toNat (0 : Int)).blt l.length)
                  (.ite (decide ((0 : Int) ≤ (1 : Int)) && decide ((1 : Int) ≤ (↑(hi0 l.length none) : Int)))
                   (.ite (decide (l.getD (Int.toNat (0 : Int)) RC.ints.zero = l.getD (Int.toNat (0 : Int)) RC.ints.zero))
                    (.ite (small (l.length - lo0 (some (Int.toNat (1 : Int)))))
                     (.ret (.tuple #[.agg #[.int .i64 (4), .int .i64 (0), .pl .ints (List.take (hi0 l.length none - lo0 (some (Int.toNat (1 : Int)))) (List.drop (lo0 (some (Int.toNat (1 : Int)))) l))], .agg #[.int .i64 (2), .int .i64 (l.getD (Int.toNat (0 : Int)) RC.ints.zero)], .int .i64 (0)]))
                     (.fail))
                    .fail)
                   (.fail))
                  (.fail))
                 (.fail)))
               (.ite (decide ((↑l.length : Int) = (↑l.length : Int)))
                (.ret (.tuple #[.agg #[.int .i64 (4), .int .i64 (0), .pl .ints (l)], .agg #[.int .i64 (2), .int .i64 ((↑l.length : Int))], .int .i64 (0)]))
                .fail)))
             .fail))))))
       (.fail))
      (.ret (.tuple #[.agg #[.int .i64 (0), .int .i64 (0), .pl .ints ([])], .agg #[.int .i64 (0), .int .i64 (0)], .int .i64 (12)]))) := by kernel_rfl
set_option maxRecDepth 100000 in
theorem escN_tree (t n : Int) (l : List Int) (k a b : Int) : ((((tden Tryz.prog kitE [] 30).call 0 89 [.agg #[.int .i64 t, .int .i64 n, .pl .ints l], .int .i64 k, .int .i64 a, .int .i64 b] ⟨.nil, 0⟩).fresh (sgA)).cut
    (.ite (.yes (.ite (.yes (.ite (.yes (.yes (.yes (.yes (.all))))) (.no (.ite (.no (.ite (.all) (.no (.ite (.yes (.yes (.yes (.all)))) (.no (.ite (.all) (.ite (.yes (.all)) (.ite (.yes (.ite (.all) (.all))) (.ite (.yes (.ite (.all) (.all))) (.all)))))))))) (.all))))) (.no (.no (.ite (.yes (.yes (.yes (.yes (.all))))) (.no (.ite (.no (.ite (.all) (.no (.yes (.yes (.yes (.yes (.all)))))))) (.all)))))))) (.ite (.ite (.yes (.ite (.yes (.yes (.yes (.yes (.all))))) (.no (.ite (.no (.ite (.all) (.no (.ite (.yes (.yes (.yes (.all)))) (.no (.ite (.all) (.ite (.yes (.all)) (.ite (.yes (.ite (.all) (.all))) (.ite (.yes (.ite (.all) (.all))) (.all)))))))))) (.all))))) (.no (.no (.ite (.yes (.yes (.yes (.yes (.all))))) (.no (.ite (.no (.ite (.all) (.no (.yes (.yes (.yes (.yes (.all)))))))) (.all))))))) (.ite (.ite (.yes (.yes (.yes (.yes (.all))))) (.no (.ite (.no (.ite (.all) (.no (.ite (.yes (.yes (.yes (.all)))) (.no (.ite (.all) (.ite (.yes (.all)) (.ite (.yes (.ite (.all) (.all))) (.ite (.yes (.ite (.all) (.all))) (.all)))))))))) (.all)))) (.ite (.yes (.yes (.yes (.yes (.all))))) (.no (.ite (.no (.ite (.all) (.yes (.all)))) (.all)))))))).ev = T.ev (α := CV) (
     .ite (k == (13 : Int))
      (.ite (decide (a ≥ (0 : Int)))
       (.ite (t != (5 : Int))
        (.ret (.tuple #[.agg #[.int .i64 (0), .int .i64 (0), .pl .ints ([])], .agg #[.int .i64 (0), .int .i64 (0)], .int .i64 (12)]))
        (.ite (small l.length)
         (.ite (checkN t n l != (0 : Int))
          (.ret (.tuple #[.agg #[.int .i64 (0), .int .i64 (0), .pl .ints ([])], .agg #[.int .i64 (0), .int .i64 (0)], .int .i64 (12)]))
          (.ite (!decide (a ≤ (4611686018427387904 : Int)))
           (.ret (.tuple #[.agg #[.int .i64 (0), .int .i64 (0), .pl .ints ([])], .agg #[.int .i64 (0), .int .i64 (0)], .int .i64 (2)]))
           (.ite (b != (0 : Int))
            (.ret (.tuple #[.agg #[.int .i64 (0), .int .i64 (0), .pl .ints ([])], .agg #[.int .i64 (0), .int .i64 (0)], .int .i64 (2)]))
            (.ite (decide (IntKind.i64.wrap (k - (13 : Int)) = (2 : Int)))
             (.ite (decide (n = n))
              (.ret (.tuple #[.agg #[.int .i64 (5), .int .i64 (n), .pl .ints ([])], .agg #[.int .i64 (2), .int .i64 (n)], .int .i64 (0)]))
              .fail)
             (.ite (decide (IntKind.i64.wrap (k - (13 : Int)) = (1 : Int)))
              (.ite (decide (n = n))
               (.ite (decide (IntKind.u64.wrap a > IntKind.u64.wrap n))
                (.ret (.tuple #[.agg #[.int .i64 (5), .int .i64 (n), .pl .ints ([])], .agg #[.int .i64 (2), .int .i64 (0)], .int .i64 (0)]))
                (.ret (.tuple #[.agg #[.int .i64 (5), .int .i64 (IntKind.i64.wrap (n - a)), .pl .ints ([])], .agg #[.int .i64 (2), .int .i64 (1)], .int .i64 (0)])))
               .fail)
              (.ite (decide (IntKind.i64.wrap (k - (13 : Int)) = (0 : Int)))
               (.ite (decide (n = n))
                (.ite (decide (IntKind.u64.wrap a > IntKind.u64.wrap ((4611686018427387904 : Int) - IntKind.u64.wrap n)))
                 (.ret (.tuple #[.agg #[.int .i64 (5), .int .i64 (n), .pl .ints ([])], .agg #[.int .i64 (2), .int .i64 (0)], .int .i64 (0)]))
                 (.ret (.tuple #[.agg #[.int .i64 (5), .int .i64 (IntKind.i64.wrap (n + a)), .pl .ints ([])], .agg #[.int .i64 (2), .int .i64 (1)], .int .i64 (0)])))
                .fail)
               (.fail)))))))
         (.fail)))
       (.ite (t != (5 : Int))
        (.ret (.tuple #[.agg #[.int .i64 (0), .int .i64 (0), .pl .ints ([])], .agg #[.int .i64 (0), .int .i64 (0)], .int .i64 (12)]))
        (.ite (small l.length)
         (.ite (checkN t n l != (0 : Int))
          (.ret (.tuple #[.agg #[.int .i64 (0), .int .i64 (0), .pl .ints ([])], .agg #[.int .i64 (0), .int .i64 (0)], .int .i64 (12)]))
          (.ret (.tuple #[.agg #[.int .i64 (0), .int .i64 (0), .pl .ints ([])], .agg #[.int .i64 (0), .int .i64 (0)], .int .i64 (2)])))
         (.fail))))
      (.ite (k == (14 : Int))
       (.ite (decide (a ≥ (0 : Int)))
        (.ite (t != (5 : Int))
         (.ret (.tuple #[.agg #[.int .i64 (0), .int .i64 (0), .pl .ints ([])], .agg #[.int .i64 (0), .int .i64 (0)], .int .i64 (12)]))
         (.ite (small l.length)
          (.ite (checkN t n l != (0 : Int))
           (.ret (.tuple #[.agg #[.int .i64 (0), .int .i64 (0), .pl .ints ([])], .agg #[.int .i64 (0), .int .i64 (0)], .int .i64 (12)]))
           (.ite (!decide (a ≤ (4611686018427387904 : Int)))
            (.ret (.tuple #[.agg #[.int .i64 (0), .int .i64 (0), .pl .ints ([])], .agg #[.int .i64 (0), .int .i64 (0)], .int .i64 (2)]))
            (.ite (b != (0 : Int))
             (.ret (.tuple #[.agg #[.int .i64 (0), .int .i64 (0), .pl .ints ([])], .agg #[.int .i64 (0), .int .i64 (0)], .int .i64 (2)]))
             (.ite (decide (IntKind.i64.wrap (k - (13 : Int)) = (2 : Int)))
              (.ite (decide (n = n))
               (.ret (.tuple #[.agg #[.int .i64 (5), .int .i64 (n), .pl .ints ([])], .agg #[.int .i64 (2), .int .i64 (n)], .int .i64 (0)]))
               .fail)
              (.ite (decide (IntKind.i64.wrap (k - (13 : Int)) = (1 : Int)))
               (.ite (decide (n = n))
                (.ite (decide (IntKind.u64.wrap a > IntKind.u64.wrap n))
                 (.ret (.tuple #[.agg #[.int .i64 (5), .int .i64 (n), .pl .ints ([])], .agg #[.int .i64 (2), .int .i64 (0)], .int .i64 (0)]))
                 (.ret (.tuple #[.agg #[.int .i64 (5), .int .i64 (IntKind.i64.wrap (n - a)), .pl .ints ([])], .agg #[.int .i64 (2), .int .i64 (1)], .int .i64 (0)])))
                .fail)
               (.ite (decide (IntKind.i64.wrap (k - (13 : Int)) = (0 : Int)))
                (.ite (decide (n = n))
                 (.ite (decide (IntKind.u64.wrap a > IntKind.u64.wrap ((4611686018427387904 : Int) - IntKind.u64.wrap n)))
                  (.ret (.tuple #[.agg #[.int .i64 (5), .int .i64 (n), .pl .ints ([])], .agg #[.int .i64 (2), .int .i64 (0)], .int .i64 (0)]))
                  (.ret (.tuple #[.agg #[.int .i64 (5), .int .i64 (IntKind.i64.wrap (n + a)), .pl .ints ([])], .agg #[.int .i64 (2), .int .i64 (1)], .int .i64 (0)])))
                 .fail)
                (.fail)))))))
          (.fail)))
        (.ite (t != (5 : Int))
         (.ret (.tuple #[.agg #[.int .i64 (0), .int .i64 (0), .pl .ints ([])], .agg #[.int .i64 (0), .int .i64 (0)], .int .i64 (12)]))
         (.ite (small l.length)
          (.ite (checkN t n l != (0 : Int))
           (.ret (.tuple #[.agg #[.int .i64 (0), .int .i64 (0), .pl .ints ([])], .agg #[.int .i64 (0), .int .i64 (0)], .int .i64 (12)]))
           (.ret (.tuple #[.agg #[.int .i64 (0), .int .i64 (0), .pl .ints ([])], .agg #[.int .i64 (0), .int .i64 (0)], .int .i64 (2)])))
          (.fail))))
       (.ite (k == (15 : Int))
        (.ite (t != (5 : Int))
         (.ret (.tuple #[.agg #[.int .i64 (0), .int .i64 (0), .pl .ints ([])], .agg #[.int .i64 (0), .int .i64 (0)], .int .i64 (12)]))
         (.ite (small l.length)
          (.ite (checkN t n l != (0 : Int))
           (.ret (.tuple #[.agg #[.int .i64 (0), .int .i64 (0), .pl .ints ([])], .agg #[.int .i64 (0), .int .i64 (0)], .int .i64 (12)]))
           (.ite (!a == (0 : Int))
            (.ret (.tuple #[.agg #[.int .i64 (0), .int .i64 (0), .pl .ints ([])], .agg #[.int .i64 (0), .int .i64 (0)], .int .i64 (2)]))
            (.ite (b != (0 : Int))
             (.ret (.tuple #[.agg #[.int .i64 (0), .int .i64 (0), .pl .ints ([])], .agg #[.int .i64 (0), .int .i64 (0)], .int .i64 (2)]))
             (.ite (decide (IntKind.i64.wrap (k - (13 : Int)) = (2 : Int)))
              (.ite (decide (n = n))
               (.ret (.tuple #[.agg #[.int .i64 (5), .int .i64 (n), .pl .ints ([])], .agg #[.int .i64 (2), .int .i64 (n)], .int .i64 (0)]))
               .fail)
              (.ite (decide (IntKind.i64.wrap (k - (13 : Int)) = (1 : Int)))
               (.ite (decide (n = n))
                (.ite (decide (IntKind.u64.wrap a > IntKind.u64.wrap n))
                 (.ret (.tuple #[.agg #[.int .i64 (5), .int .i64 (n), .pl .ints ([])], .agg #[.int .i64 (2), .int .i64 (0)], .int .i64 (0)]))
                 (.ret (.tuple #[.agg #[.int .i64 (5), .int .i64 (IntKind.i64.wrap (n - a)), .pl .ints ([])], .agg #[.int .i64 (2), .int .i64 (1)], .int .i64 (0)])))
                .fail)
               (.ite (decide (IntKind.i64.wrap (k - (13 : Int)) = (0 : Int)))
                (.ite (decide (n = n))
                 (.ite (decide (IntKind.u64.wrap a > IntKind.u64.wrap ((4611686018427387904 : Int) - IntKind.u64.wrap n)))
                  (.ret (.tuple #[.agg #[.int .i64 (5), .int .i64 (n), .pl .ints ([])], .agg #[.int .i64 (2), .int .i64 (0)], .int .i64 (0)]))
                  (.ret (.tuple #[.agg #[.int .i64 (5), .int .i64 (IntKind.i64.wrap (n + a)), .pl .ints ([])], .agg #[.int .i64 (2), .int .i64 (1)], .int .i64 (0)])))
                 .fail)
                (.fail)))))))
          (.fail)))
        (.ite (t != (5 : Int))
         (.ret (.tuple #[.agg #[.int .i64 (0), .int .i64 (0), .pl .ints ([])], .agg #[.int .i64 (0), .int .i64 (0)], .int .i64 (12)]))
         (.ite (small l.length)
          (.ite (checkN t n l != (0 : Int))
           (.ret (.tuple #[.agg #[.int .i64 (0), .int .i64 (0), .pl .ints ([])], .agg #[.int .i64 (0), .int .i64 (0)], .int .i64 (12)]))
           (.ret (.tuple #[.agg #[.int .i64 (0), .int .i64 (0), .pl .ints ([])], .agg #[.int .i64 (0), .int .i64 (0)], .int .i64 (6)])))
          (.fail)))))) := by kernel_rfl

namespace Ctr
set_option maxHeartbeats 8000000 in
theorem ctrN_at (t n : Int) (l : List Int) (k a b : Int) (hs : small l.length = true) (ha : w64 a) (hb : w64 b) :
    FreshAt Tryz.prog 85 [.agg #[.int .i64 t, .int .i64 n, .pl .ints l], .int .i64 k, .int .i64 a, .int .i64 b] (ctrA t n l k a b).cv := by
  refine freshAtS plainN mixedN kitE_ok noL (k := 30) (ctrN_tree t n l k a b) ?_
  simp only [sat_ite, sat_ret, sat_fail, hs, or_zero ha hb, decide_eq_true_eq, decide_eq_false_iff_not, beq_iff_eq, bne_iff_ne, ne_eq, beq_eq_false_iff_ne, bne_eq_false_iff_eq, Bool.not_eq_true', Bool.not_eq_false', true_implies, Bool.true_eq_false, false_implies, and_true, true_and, implies_true, reduceCtorEq, eq_self, not_true_eq_false]
  simp only [ctrA, ne_eq]
  generalize checkN t n l = c at *
  repeat' (first | apply And.intro | intro _)
  all_goals first
    | omega
    | ((repeat' split) <;> first | exact ⟨rfl⟩ | omega)

theorem ctrN_fn : FreshFn Tryz.prog 85 (sigExt [sgS] ctrApplyG) :=
  freshFn_mk (bodied_ex (by kernel_rfl)) fun args d h => by
    unfold ctrApplyG at h
    split at h
    · obtain ⟨hc, h1⟩ := ev_when h
      cases ev_ret h1
      simp only [Bool.and_eq_true, inI64_iff] at hc
      exact ctrN_at _ _ _ _ _ _ hc.1 hc.2.1 hc.2.2
    · exact (ev_fail h).elim

end Ctr

namespace Set
set_option maxHeartbeats 8000000 in
theorem setN_at (t n : Int) (l : List Int) (k a b : Int) (hm : midB l = true) :
    FreshAt Tryz.prog 86 [.agg #[.int .i64 t, .int .i64 n, .pl .ints l], .int .i64 k, .int .i64 a, .int .i64 b] (setA t n l k a b).cv := by
  refine freshAtS plainN mixedN stE_ok noL (k := 30) (setN_tree t n l k a b) ?_
  have hs : small l.length = true := mid_small hm
  by_cases hc : t = 2 ∧ checkN t n l = 0
  · obtain ⟨rfl, hc⟩ := hc
    have hr := (check2.1 hc).2
    have hle : hasN l a = false → lessN l a = l := fun hh => by rw [less_rise hr, hh]; rfl
    have hlt : hasN l a = true → List.take (l.length - 1) (List.drop 0 (lessRow l (cntN l a))) = lessN l a := fun hh => less_row hr hh
    simp only [setA, hc]
    by_cases hk : 3 ≤ k ∧ k ≤ 6
    · obtain rfl | rfl | rfl | rfl : k = 3 ∨ k = 4 ∨ k = 5 ∨ k = 6 := by omega
      all_goals
        cases hh : hasN l a with
        | true =>
          simp only [sat_ite, sat_ret, sat_fail, hs, hm, hr, hh, hlt hh, ws3, ws4, ws5, ws6, Bool.and_self, decide_eq_true_eq, decide_eq_false_iff_not, beq_iff_eq, bne_iff_ne, ne_eq, beq_eq_false_iff_ne, bne_eq_false_iff_eq, Bool.not_eq_true', Bool.not_eq_false', true_implies, Bool.true_eq_false, Bool.false_eq_true, false_implies, and_true, true_and, implies_true, reduceCtorEq, eq_self, not_true_eq_false]
          repeat' (first | apply And.intro | intro _)
          all_goals first
            | omega
            | ((repeat' split) <;> first | exact ⟨rfl⟩ | omega | (simp_all; done) | (simp_all; omega))
        | false =>
          simp only [sat_ite, sat_ret, sat_fail, hs, hm, hr, hh, hle hh, ws3, ws4, ws5, ws6, Bool.and_self, decide_eq_true_eq, decide_eq_false_iff_not, beq_iff_eq, bne_iff_ne, ne_eq, beq_eq_false_iff_ne, bne_eq_false_iff_eq, Bool.not_eq_true', Bool.not_eq_false', true_implies, Bool.true_eq_false, Bool.false_eq_true, false_implies, and_true, true_and, implies_true, reduceCtorEq, eq_self, not_true_eq_false]
          repeat' (first | apply And.intro | intro _)
          all_goals first
            | omega
            | ((repeat' split) <;> first | exact ⟨rfl⟩ | omega | (simp_all; done) | (simp_all; omega))
    · simp only [sat_ite, sat_ret, sat_fail, hs, hm, hr, Bool.and_self, decide_eq_true_eq, decide_eq_false_iff_not, beq_iff_eq, bne_iff_ne, ne_eq, beq_eq_false_iff_ne, bne_eq_false_iff_eq, Bool.not_eq_true', Bool.not_eq_false', true_implies, Bool.true_eq_false, Bool.false_eq_true, false_implies, and_true, true_and, implies_true, reduceCtorEq, eq_self, not_true_eq_false]
      repeat' (first | apply And.intro | intro _)
      all_goals first
        | omega
        | ((repeat' split) <;> first | exact ⟨rfl⟩ | omega | (simp_all; done) | (simp_all; omega))
  · have hc2 : t ≠ 2 ∨ checkN t n l ≠ 0 := by
      by_cases h2 : t = 2
      · exact .inr fun h => hc ⟨h2, h⟩
      · exact .inl h2
    simp only [setA, hc2, if_true]
    generalize checkN t n l = c at *
    simp only [sat_ite, sat_ret, sat_fail, hs, decide_eq_true_eq, decide_eq_false_iff_not, beq_iff_eq, bne_iff_ne, ne_eq, beq_eq_false_iff_ne, bne_eq_false_iff_eq, Bool.not_eq_true', Bool.not_eq_false', true_implies, Bool.true_eq_false, Bool.false_eq_true, false_implies, and_true, true_and, implies_true, reduceCtorEq, eq_self, not_true_eq_false]
    repeat' (first | apply And.intro | intro _)
    all_goals first
      | omega
      | exact ⟨rfl⟩
      | (exfalso; omega)

theorem setN_fn : FreshFn Tryz.prog 86 (sigExt [sgS] setG) :=
  freshFn_mk (bodied_ex (by kernel_rfl)) fun args d h => by
    unfold setG at h
    split at h
    · obtain ⟨hc, h1⟩ := ev_when h
      cases ev_ret h1
      exact setN_at _ _ _ _ _ _ hc
    · exact (ev_fail h).elim
end Set

namespace Map
set_option maxHeartbeats 8000000 in
theorem mapN_at (t n : Int) (l : List Int) (k a b : Int) (hs4 : small (l.length + 4) = true) :
    FreshAt Tryz.prog 87 [.agg #[.int .i64 t, .int .i64 n, .pl .ints l], .int .i64 k, .int .i64 a, .int .i64 b] (mapA t n l k a b).cv := by
  refine freshAtS plainN mixedN mpE_ok noL (k := 30) (mapN_tree t n l k a b) ?_
  have hs : small l.length = true := small_le hs4 (by omega)
  have hr0 := roomB_small hs (b := 8) (by decide)
  simp only [mapA, hadP, ne_eq]
  generalize checkN t n l = c at *
  generalize hf : (findP l a).2.1 = f at *
  by_cases hk : 7 ≤ k ∧ k ≤ 9
  · obtain rfl | rfl | rfl : k = 7 ∨ k = 8 ∨ k = 9 := by omega
    all_goals
      simp only [sat_ite, sat_ret, sat_fail, hs, hs4, hr0, wr7, wr8, wr9, decide_eq_true_eq, decide_eq_false_iff_not, beq_iff_eq, bne_iff_ne, ne_eq, beq_eq_false_iff_ne, bne_eq_false_iff_eq, Bool.not_eq_true', Bool.not_eq_false', true_implies, Bool.true_eq_false, Bool.false_eq_true, false_implies, and_true, true_and, implies_true, reduceCtorEq, eq_self, not_true_eq_false]
      repeat' (first | apply And.intro | intro _)
      all_goals first
        | omega
        | ((repeat' split) <;> first | exact ⟨rfl⟩ | omega | (simp_all; done) | (simp_all; omega))
  · simp only [sat_ite, sat_ret, sat_fail, hs, hs4, hr0, decide_eq_true_eq, decide_eq_false_iff_not, beq_iff_eq, bne_iff_ne, ne_eq, beq_eq_false_iff_ne, bne_eq_false_iff_eq, Bool.not_eq_true', Bool.not_eq_false', true_implies, Bool.true_eq_false, Bool.false_eq_true, false_implies, and_true, true_and, implies_true, reduceCtorEq, eq_self, not_true_eq_false]
    repeat' (first | apply And.intro | intro _)
    all_goals first
      | omega
      | ((repeat' split) <;> first | exact ⟨rfl⟩ | omega | (simp_all; done) | (simp_all; omega))

theorem mapN_fn : FreshFn Tryz.prog 87 (sigExt [sgS] mapG) :=
  freshFn_mk (bodied_ex (by kernel_rfl)) fun args d h => by
    unfold mapG at h
    split at h
    · obtain ⟨hc, h1⟩ := ev_when h
      cases ev_ret h1
      exact mapN_at _ _ _ _ _ _ hc
    · exact (ev_fail h).elim
end Map

namespace Fif
set_option maxHeartbeats 8000000 in
theorem fifN_at (t n : Int) (l : List Int) (k a b : Int) (hs : small l.length = true) (hs2 : small (l.length + 1) = true) :
    FreshAt Tryz.prog 88 [.agg #[.int .i64 t, .int .i64 n, .pl .ints l], .int .i64 k, .int .i64 a, .int .i64 b] (fifoA t n l k a b).cv := by
  refine freshAtS plainN mixedN cloneE_ok noL (k := 30) (fifN_tree t n l k a b) ?_
  have hr := small_succ hs2
  have hr0 := roomB_small hs (b := 8) (by decide)
  have hle : ∀ (x : Int) (q : List Int), inRange 0 (x :: q).length = true := fun x q => by rw [inRange_iff]; exact ⟨Int.le_refl _, by simp⟩
  simp only [fifoA, ne_eq]
  generalize checkN t n l = c at *
  cases l with
  | nil =>
    simp only [sat_ite, sat_ret, sat_fail, hs, hr, hr0, List.length_nil, List.length_singleton, Nat.zero_add, decide_eq_true_eq, decide_eq_false_iff_not, beq_iff_eq, bne_iff_ne, ne_eq, beq_eq_false_iff_ne, bne_eq_false_iff_eq, Bool.not_eq_true', Bool.not_eq_false', true_implies, Bool.true_eq_false, false_implies, and_true, true_and, implies_true, reduceCtorEq, eq_self, not_true_eq_false, Int.natCast_zero]
    repeat' (first | apply And.intro | intro _)
    all_goals first
      | omega
      | ((repeat' split) <;> first | exact ⟨rfl⟩ | omega | (simp_all; done) | (simp_all; omega))
  | cons x q =>
    have e1 : List.take (hi0 (x :: q).length none - lo0 (some (Int.toNat 1))) (List.drop (lo0 (some (Int.toNat 1))) (x :: q)) = q := by simp [hi0, lo0]
    have e2 : (decide ((0 : Int) ≤ 1) && decide ((1 : Int) ≤ ((hi0 (x :: q).length none : Nat) : Int))) = true := by
      rw [Bool.and_eq_true]; exact ⟨by decide, by rw [decide_eq_true_eq]; show (1 : Int) ≤ ((q.length + 1 : Nat) : Int); omega⟩
    have e3 : (Int.toNat 0).blt (x :: q).length = true := by rw [Nat.blt_eq]; simp
    have e4 : (x :: q).getD (Int.toNat 0) RC.ints.zero = x := rfl
    have e5 : ¬ (((x :: q).length : Nat) : Int) = 0 := by simp; omega
    have e6 : small ((x :: q).length - lo0 (some (Int.toNat 1))) = true := by rw [small_iff] at hs ⊢; omega
    simp only [sat_ite, sat_ret, sat_fail, hs, hr, hr0, hle, e1, e2, e3, e4, e5, e6, List.length_singleton, decide_eq_true_eq, decide_eq_false_iff_not, beq_iff_eq, bne_iff_ne, ne_eq, beq_eq_false_iff_ne, bne_eq_false_iff_eq, Bool.not_eq_true', Bool.not_eq_false', true_implies, Bool.true_eq_false, false_implies, and_true, true_and, implies_true, reduceCtorEq, eq_self, not_true_eq_false, not_false_eq_true]
    repeat' (first | apply And.intro | intro _)
    all_goals first
      | omega
      | ((repeat' split) <;> first | exact ⟨rfl⟩ | omega | (simp_all; done) | (simp_all; omega))

theorem fifN_fn : FreshFn Tryz.prog 88 (sigExt [sgS] fifoG) :=
  freshFn_mk (bodied_ex (by kernel_rfl)) fun args d h => by
    unfold fifoG at h
    split at h
    · obtain ⟨hc, h1⟩ := ev_when h
      cases ev_ret h1
      simp only [Bool.and_eq_true] at hc
      exact fifN_at _ _ _ _ _ _ hc.1 hc.2
    · exact (ev_fail h).elim
end Fif

namespace Esc
set_option maxHeartbeats 8000000 in
theorem escN_at (t n : Int) (l : List Int) (k a b : Int) (hs : small l.length = true) :
    FreshAt Tryz.prog 89 [.agg #[.int .i64 t, .int .i64 n, .pl .ints l], .int .i64 k, .int .i64 a, .int .i64 b] (escA t n l k a b).cv := by
  refine freshAtS plainN mixedN kitE_ok noL (k := 30) (escN_tree t n l k a b) ?_
  have hn : t = 5 → checkN t n l = 0 → 0 ≤ n ∧ n ≤ 4611686018427387904 := fun h1 h2 => (check5.1 (by rw [← h1]; exact h2)).2
  simp only [sat_ite, sat_ret, sat_fail, hs, decide_eq_true_eq, decide_eq_false_iff_not, beq_iff_eq, bne_iff_ne, beq_eq_false_iff_ne, bne_eq_false_iff_eq, Bool.not_eq_true', Bool.not_eq_false', true_implies, Bool.true_eq_false, false_implies, and_true, true_and, implies_true, reduceCtorEq, eq_self, not_true_eq_false]
  have hcap : cap62 = 4611686018427387904 := rfl
  simp only [escA]
  generalize checkN t n l = c at *
  repeat' (first | apply And.intro | intro _)
  all_goals first
    | omega
    | (simp (disch := omega) only [wrap64, wrapU64] at *; omega)
    | ((repeat' split) <;> first | exact ⟨rfl⟩ | omega | (simp (disch := omega) only [wrap64, wrapU64] at *; first | exact ⟨rfl⟩ | omega))

theorem escN_fn : FreshFn Tryz.prog 89 (sigExt [sgS] escApplyG) :=
  freshFn_mk (bodied_ex (by kernel_rfl)) fun args d h => by
    unfold escApplyG at h
    split at h
    · obtain ⟨hc, h1⟩ := ev_when h
      cases ev_ret h1
      exact escN_at _ _ _ _ _ _ hc
    · exact (ev_fail h).elim
end Esc

def freE : List (Nat × ExtFn) := [(85, freshExt (sigExt [sgS] Ctr.ctrApplyG)), (86, freshExt (sigExt [sgS] Set.setG)), (87, freshExt (sigExt [sgS] Map.mapG)), (88, freshExt (sigExt [sgS] Fif.fifoG)), (89, freshExt (sigExt [sgS] Esc.escApplyG))]
theorem freE_ok (N : Nat) : ExtsOk Tryz.prog N freE :=
  extsOk_cons (extOk_fresh Ctr.ctrN_fn) (extsOk_cons (extOk_fresh Set.setN_fn) (extsOk_cons (extOk_fresh Map.mapN_fn) (extsOk_cons (extOk_fresh Fif.fifN_fn) (extsOk_cons (extOk_fresh Esc.escN_fn) extsOk_nil))))

set_option maxRecDepth 100000 in
theorem machN_tree (t n : Int) (l : List Int) (k a b : Int) : ((((tden Tryz.prog freE [] 30).call 0 48 [.agg #[.int .i64 t, .int .i64 n, .pl .ints l], .int .i64 k, .int .i64 a, .int .i64 b] ⟨.nil, 0⟩).fresh (sgA)).cut
    (.ite (.yes (.yes (.yes (.yes (.all))))) (.no (.no (.ite (.all) (.yes (.ite (.yes (.yes (.yes (.ite (.all) (.all))))) (.ite (.yes (.yes (.yes (.ite (.all) (.all))))) (.ite (.yes (.yes (.yes (.ite (.all) (.all))))) (.ite (.yes (.yes (.yes (.ite (.all) (.all))))) (.ite (.yes (.yes (.yes (.ite (.all) (.all))))) (.all)))))))))))).ev = T.ev (α := CV) (
     .ite (decide (t < (1 : Int)))
      (.ret (.tuple #[.agg #[.int .i64 (0), .int .i64 (0), .pl .ints ([])], .agg #[.int .i64 (0), .int .i64 (0)], .int .i64 (8)]))
      (.ite (decide (t > (5 : Int)))
       (.ret (.tuple #[.agg #[.int .i64 (0), .int .i64 (0), .pl .ints ([])], .agg #[.int .i64 (0), .int .i64 (0)], .int .i64 (8)]))
       (.ite (decide (t = t))
        (.ite (decide (IntKind.i64.wrap (t - (1 : Int)) = (4 : Int)))
         (.ite (decide (t = t))
          (.ite (decide (n = n))
           (.ite (decide (l = l))
            (.ite (small l.length)
             (.ret (.tuple #[.agg #[.int .i64 ((Esc.escA t n l k a b).s.type), .int .i64 ((Esc.escA t n l k a b).s.n), .pl .ints ((Esc.escA t n l k a b).s.l)], .agg #[.int .i64 ((Esc.escA t n l k a b).r.kind), .int .i64 ((Esc.escA t n l k a b).r.n)], .int .i64 ((Esc.escA t n l k a b).e)]))
             (.fail))
            .fail)
           .fail)
          .fail)
         (.ite (decide (IntKind.i64.wrap (t - (1 : Int)) = (3 : Int)))
          (.ite (decide (t = t))
           (.ite (decide (n = n))
            (.ite (decide (l = l))
             (.ite (small l.length && small (l.length + (1 : Nat)))
              (.ret (.tuple #[.agg #[.int .i64 ((Fif.fifoA t n l k a b).s.type), .int .i64 ((Fif.fifoA t n l k a b).s.n), .pl .ints ((Fif.fifoA t n l k a b).s.l)], .agg #[.int .i64 ((Fif.fifoA t n l k a b).r.kind), .int .i64 ((Fif.fifoA t n l k a b).r.n)], .int .i64 ((Fif.fifoA t n l k a b).e)]))
              (.fail))
             .fail)
            .fail)
           .fail)
          (.ite (decide (IntKind.i64.wrap (t - (1 : Int)) = (2 : Int)))
           (.ite (decide (t = t))
            (.ite (decide (n = n))
             (.ite (decide (l = l))
              (.ite (small (l.length + (4 : Nat)))
               (.ret (.tuple #[.agg #[.int .i64 ((Map.mapA t n l k a b).s.type), .int .i64 ((Map.mapA t n l k a b).s.n), .pl .ints ((Map.mapA t n l k a b).s.l)], .agg #[.int .i64 ((Map.mapA t n l k a b).r.kind), .int .i64 ((Map.mapA t n l k a b).r.n)], .int .i64 ((Map.mapA t n l k a b).e)]))
               (.fail))
              .fail)
             .fail)
            .fail)
           (.ite (decide (IntKind.i64.wrap (t - (1 : Int)) = (1 : Int)))
            (.ite (decide (t = t))
             (.ite (decide (n = n))
              (.ite (decide (l = l))
               (.ite (Set.midB l)
                (.ret (.tuple #[.agg #[.int .i64 ((Set.setA t n l k a b).s.type), .int .i64 ((Set.setA t n l k a b).s.n), .pl .ints ((Set.setA t n l k a b).s.l)], .agg #[.int .i64 ((Set.setA t n l k a b).r.kind), .int .i64 ((Set.setA t n l k a b).r.n)], .int .i64 ((Set.setA t n l k a b).e)]))
                (.fail))
               .fail)
              .fail)
             .fail)
            (.ite (decide (IntKind.i64.wrap (t - (1 : Int)) = (0 : Int)))
             (.ite (decide (t = t))
              (.ite (decide (n = n))
               (.ite (decide (l = l))
                (.ite (small l.length && (Ctr.inI64 a && Ctr.inI64 b))
                 (.ret (.tuple #[.agg #[.int .i64 ((Ctr.ctrA t n l k a b).s.type), .int .i64 ((Ctr.ctrA t n l k a b).s.n), .pl .ints ((Ctr.ctrA t n l k a b).s.l)], .agg #[.int .i64 ((Ctr.ctrA t n l k a b).r.kind), .int .i64 ((Ctr.ctrA t n l k a b).r.n)], .int .i64 ((Ctr.ctrA t n l k a b).e)]))
                 (.fail))
                .fail)
               .fail)
              .fail)
             (.fail))))))
        .fail))) := by kernel_rfl

theorem machN_at (t n : Int) (l : List Int) (k a b : Int) (hm : machB l a b = true) :
    FreshAt Tryz.prog 48 [.agg #[.int .i64 t, .int .i64 n, .pl .ints l], .int .i64 k, .int .i64 a, .int .i64 b] (machA t n l k a b).cv := by
  refine freshAtS plainN mixedN freE_ok noL (k := 30) (machN_tree t n l k a b) ?_
  obtain ⟨h1, h2, h3, h4, h5, h6⟩ := machB_iff hm
  by_cases ht : 1 ≤ t ∧ t ≤ 5
  · obtain rfl | rfl | rfl | rfl | rfl : t = 1 ∨ t = 2 ∨ t = 3 ∨ t = 4 ∨ t = 5 := by omega
    all_goals
      simp only [sat_ite, sat_ret, sat_fail, h1, h2, h3, h4, h5, h6, wt1, wt2, wt3, wt4, wt5, machA, Bool.and_self, decide_eq_true_eq, decide_eq_false_iff_not, true_implies, Bool.true_eq_false, Bool.false_eq_true, false_implies, and_true, true_and, implies_true, reduceCtorEq, eq_self, not_true_eq_false]
      repeat' (first | apply And.intro | intro _)
      all_goals first
        | omega
        | exact ⟨rfl⟩
  · have e : machA t n l k a b = bad 8 := by
      unfold machA
      rw [if_neg (by omega), if_neg (by omega), if_neg (by omega), if_neg (by omega), if_neg (by omega)]
    rw [e]
    simp only [sat_ite, sat_ret, sat_fail, h1, h2, h3, h4, h5, h6, Bool.and_self, decide_eq_true_eq, decide_eq_false_iff_not, true_implies, Bool.true_eq_false, Bool.false_eq_true, false_implies, and_true, true_and, implies_true, reduceCtorEq, eq_self, not_true_eq_false]
    repeat' (first | apply And.intro | intro _)
    all_goals first
      | omega
      | exact ⟨rfl⟩
theorem machN_fn : FreshFn Tryz.prog 48 (sigExt [sgS] machG) :=
  freshFn_mk (bodied_ex (by kernel_rfl)) fun args d h => by
    unfold machG at h
    split at h
    · obtain ⟨hc, h1⟩ := ev_when h
      cases ev_ret h1
      exact machN_at _ _ _ _ _ _ hc
    · exact (ev_fail h).elim

namespace Set
end Set

namespace Set
end Set

namespace Map
end Map

namespace Map
end Map

namespace Ctr
end Ctr

namespace Set
end Set

namespace Map
end Map

namespace Fif
end Fif

namespace Esc
end Esc

def machRE : List (Nat × ExtFn) := [(48, freshExt (sigExt [sgS] machG))]
theorem machRE_ok (N : Nat) : ExtsOk Tryz.prog N machRE := extsOk_cons (extOk_fresh machN_fn) (extsOk_nil)

set_option maxRecDepth 100000 in
theorem legN_tree (t n : Int) (l : List Int) (k a b rk rn : Int) : ((((tden Tryz.prog machRE [] 30).call 0 24 [.agg #[.int .i64 t, .int .i64 n, .pl .ints l], .agg #[.int .i64 k, .int .i64 a, .int .i64 b, .int .i64 rk, .int .i64 rn]] ⟨.nil, 0⟩).fresh (sgA)).cut
    (.ite (.ite (.yes (.yes (.yes (.yes (.yes (.yes (.yes (.all)))))))) (.no (.no (.no (.no (.all)))))) (.all))).ev = T.ev (α := CV) (
     .ite (machB l a b)
      (.ite ((machA t n l k a b).e == (0 : Int))
       (.ite (decide (rk = rk))
        (.ite (decide (rn = rn))
         (.ite (decide ((machA t n l k a b).r.kind = (machA t n l k a b).r.kind))
          (.ite (decide ((machA t n l k a b).r.n = (machA t n l k a b).r.n))
           (.ret (.tuple #[.agg #[.int .i64 ((machA t n l k a b).s.type), .int .i64 ((machA t n l k a b).s.n), .pl .ints ((machA t n l k a b).s.l)], .bool ((machA t n l k a b).r.kind == rk && ((machA t n l k a b).r.n == rn && true)), .int .i64 ((machA t n l k a b).e)]))
           .fail)
          .fail)
         .fail)
        .fail)
       (.ret (.tuple #[.agg #[.int .i64 ((machA t n l k a b).s.type), .int .i64 ((machA t n l k a b).s.n), .pl .ints ((machA t n l k a b).s.l)], .bool false, .int .i64 ((machA t n l k a b).e)])))
      (.fail)) := by kernel_rfl
theorem legN_fn : FreshFn Tryz.prog 24 (sigExt [sgS] legG) :=
  freshFn_mk (bodied_ex (by kernel_rfl)) fun args d h => by
    unfold legG at h
    split at h
    · rename_i t n l k a b rk rn
      obtain ⟨hc, h1⟩ := ev_when h
      cases ev_ret h1
      refine freshAtS plainN mixedN machRE_ok noL (k := 30) (legN_tree t n l k a b rk rn) ?_
      simp only [legV, legB]
      generalize machA t n l k a b = x at *
      by_cases he : x.e = 0
      · simp only [sat_ite, sat_ret, sat_fail, hc, he, beq_self_eq_true, decide_true, Bool.and_true, Bool.true_and, true_implies, Bool.true_eq_false, false_implies, and_true, true_and]
        exact ⟨rfl⟩
      · have he' : (x.e == 0) = false := by rw [beq_eq_false_iff_ne]; exact he
        simp only [sat_ite, sat_ret, sat_fail, hc, he', Bool.false_and, true_implies, Bool.true_eq_false, Bool.false_eq_true, false_implies, and_true, true_and]
        exact ⟨rfl⟩
    · exact (ev_fail h).elim
def legNE : List (Nat × ExtFn) := [(24, freshExt (sigExt [sgS] legG))] ++ machRE
theorem legNE_ok (N : Nat) : ExtsOk Tryz.prog N legNE := exts_append (E := [(24, freshExt (sigExt [sgS] legG))]) (extsOk_cons (extOk_fresh legN_fn) (extsOk_nil)) (machRE_ok N)

end Go.Proofs.YtecidokjhplbgaaGreatDoorD

