/-
  Chapter 11: contracts of Apply, Type, Legal, may.
-/
import Derived.Test.YtcomfanipljolaaChCtr
import Derived.Test.YtcomfanipljolaaChSet
import Derived.Test.YtcomfanipljolaaChMap
import Derived.Test.YtcomfanipljolaaChFif
import Derived.Test.YtcomfanipljolaaChEsc
import Derived.Test.YtcomfanipljolaaKitP
import Derived.Test.YtcomfanipljolaaKitO5
set_option linter.unusedVariables false
set_option linter.unusedSimpArgs false
namespace Go.Proofs.YtcomfanipljolaaD
open Go Go.RowKit

/- MchA -/
def machA (t n : Int) (l : List Int) (k a b : Int) : Ans :=
  if t = 1 then Ctr.ctrA t n l k a b
  else if t = 2 then Set.setA t n l k a b
  else if t = 3 then Map.mapA t n l k a b
  else if t = 4 then Fif.fifoA t n l k a b
  else if t = 5 then Esc.escA t n l k a b
  else bad 8
def machB (l : List Int) (a b : Int) : Bool := Set.midB l && (Ctr.inI64 a && Ctr.inI64 b)
def machG : List CV → T CV
  | [.agg ⟨[.int .i64 t, .int .i64 n, .pl .ints l]⟩, .int .i64 k, .int .i64 a, .int .i64 b] => T.when (machB l a b) (.ret (machA t n l k a b).cv)
  | _ => .fail
def typeA (k : Int) : Int × Int := if k < 1 ∨ 15 < k then (0, 6) else if k ≤ 2 then (1, 0) else if k ≤ 6 then (2, 0) else if k ≤ 9 then (3, 0) else if k ≤ 12 then (4, 0) else (5, 0)
def appE : List (Nat × ExtFn) := [(44, pureExt (sigExt [sgS] Ctr.ctrApplyG)), (45, pureExt (sigExt [sgS] Set.setG)), (46, pureExt (sigExt [sgS] Map.mapG)), (47, pureExt (sigExt [sgS] Fif.fifoG)), (48, pureExt (sigExt [sgS] Esc.escApplyG)),
  (31, pureExt (sigExt [sgS] Ctr.ctrApplyG)), (32, pureExt (sigExt [sgS] Set.setG)), (33, pureExt (sigExt [sgS] Map.mapG)), (34, pureExt (sigExt [sgS] Fif.fifoG)), (35, pureExt (sigExt [sgS] Esc.escApplyG))]
theorem appE_ok (N : Nat) : ExtsOk Try.prog N appE :=
  extsOk_cons (extOk_pure Ctr.ctrApply_fn) (extsOk_cons (extOk_pure Set.set_fn) (extsOk_cons (extOk_pure Map.map_fn) (extsOk_cons (extOk_pure Fif.fifo_fn) (extsOk_cons (extOk_pure Esc.escApply_fn)
    (extsOk_cons (extOk_pure Ctr.rctrApply_fn) (extsOk_cons (extOk_pure Set.rset_fn) (extsOk_cons (extOk_pure Map.rmap_fn) (extsOk_cons (extOk_pure Fif.rfifo_fn) (extsOk_cons (extOk_pure Esc.rescApply_fn) extsOk_nil)))))))))

/- MchB -/
set_option maxRecDepth 100000 in
theorem mApply_tree (t n : Int) (l : List Int) (k a b : Int) : (((tden Try.prog appE [] 30).call 0 10 [.agg #[.int .i64 t, .int .i64 n, .pl .ints l], .int .i64 k, .int .i64 a, .int .i64 b] ⟨.nil, 0⟩).pure.cut
    (.ite (.yes (.yes (.yes (.yes (.all))))) (.no (.no (.ite (.all) (.yes (.ite (.yes (.yes (.yes (.ite (.all) (.all))))) (.ite (.yes (.yes (.yes (.ite (.all) (.all))))) (.ite (.yes (.yes (.yes (.ite (.all) (.all))))) (.ite (.yes (.yes (.yes (.ite (.all) (.all))))) (.ite (.yes (.yes (.yes (.ite (.all) (.all))))) (.all)))))))))))).ev = T.ev (α := CV) (
     .ite (decide (t < (1 : Int)))
      (.ret (.tuple #[.agg #[.int .i64 (0), .int .i64 (0), .slice none (0) (0)], .agg #[.int .i64 (0), .int .i64 (0)], .int .i64 (8)]))
      (.ite (decide (t > (5 : Int)))
       (.ret (.tuple #[.agg #[.int .i64 (0), .int .i64 (0), .slice none (0) (0)], .agg #[.int .i64 (0), .int .i64 (0)], .int .i64 (8)]))
       (.ite (decide (t = t))
        (.ite (decide (IntKind.i64.wrap (t - (1 : Int)) = (4 : Int)))
         (.ite (decide (t = t))
          (.ite (decide (n = n))
           (.ite (decide (l = l))
            (.ite (small l.length)
             (.ret (.tuple #[.agg #[.int .i64 ((Esc.escA t n l k a b).s.type), .int .i64 ((Esc.escA t n l k a b).s.n), .pl .ints ((Esc.escA t n l k a b).s.l)], .agg #[.int .i64 ((Esc.escA t n l k a b).r.kind), .int .i64 ((Esc.escA t n l k a b).r.n)], .int .i64 ((Esc.escA t n l k a b).e)]))
             (.fail))
            .fail)
           .fail)
          .fail)
         (.ite (decide (IntKind.i64.wrap (t - (1 : Int)) = (3 : Int)))
          (.ite (decide (t = t))
           (.ite (decide (n = n))
            (.ite (decide (l = l))
             (.ite (small l.length && small (l.length + (1 : Nat)))
              (.ret (.tuple #[.agg #[.int .i64 ((Fif.fifoA t n l k a b).s.type), .int .i64 ((Fif.fifoA t n l k a b).s.n), .pl .ints ((Fif.fifoA t n l k a b).s.l)], .agg #[.int .i64 ((Fif.fifoA t n l k a b).r.kind), .int .i64 ((Fif.fifoA t n l k a b).r.n)], .int .i64 ((Fif.fifoA t n l k a b).e)]))
              (.fail))
             .fail)
            .fail)
           .fail)
          (.ite (decide (IntKind.i64.wrap (t - (1 : Int)) = (2 : Int)))
           (.ite (decide (t = t))
            (.ite (decide (n = n))
             (.ite (decide (l = l))
              (.ite (small (l.length + (4 : Nat)))
               (.ret (.tuple #[.agg #[.int .i64 ((Map.mapA t n l k a b).s.type), .int .i64 ((Map.mapA t n l k a b).s.n), .pl .ints ((Map.mapA t n l k a b).s.l)], .agg #[.int .i64 ((Map.mapA t n l k a b).r.kind), .int .i64 ((Map.mapA t n l k a b).r.n)], .int .i64 ((Map.mapA t n l k a b).e)]))
               (.fail))
              .fail)
             .fail)
            .fail)
           (.ite (decide (IntKind.i64.wrap (t - (1 : Int)) = (1 : Int)))
            (.ite (decide (t = t))
             (.ite (decide (n = n))
              (.ite (decide (l = l))
               (.ite (Set.midB l)
                (.ret (.tuple #[.agg #[.int .i64 ((Set.setA t n l k a b).s.type), .int .i64 ((Set.setA t n l k a b).s.n), .pl .ints ((Set.setA t n l k a b).s.l)], .agg #[.int .i64 ((Set.setA t n l k a b).r.kind), .int .i64 ((Set.setA t n l k a b).r.n)], .int .i64 ((Set.setA t n l k a b).e)]))
                (.fail))
               .fail)
              .fail)
             .fail)
            (.ite (decide (IntKind.i64.wrap (t - (1 : Int)) = (0 : Int)))
             (.ite (decide (t = t))
              (.ite (decide (n = n))
               (.ite (decide (l = l))
                (.ite (small l.length && (Ctr.inI64 a && Ctr.inI64 b))
                 (.ret (.tuple #[.agg #[.int .i64 ((Ctr.ctrA t n l k a b).s.type), .int .i64 ((Ctr.ctrA t n l k a b).s.n), .pl .ints ((Ctr.ctrA t n l k a b).s.l)], .agg #[.int .i64 ((Ctr.ctrA t n l k a b).r.kind), .int .i64 ((Ctr.ctrA t n l k a b).r.n)], .int .i64 ((Ctr.ctrA t n l k a b).e)]))
                 (.fail))
                .fail)
               .fail)
              .fail)
             (.fail))))))
        .fail))) := by kernel_rfl
set_option maxRecDepth 100000 in
theorem rmApply_tree (t n : Int) (l : List Int) (k a b : Int) : (((tden Try.prog appE [] 30).call 0 11 [.agg #[.int .i64 t, .int .i64 n, .pl .ints l], .int .i64 k, .int .i64 a, .int .i64 b] ⟨.nil, 0⟩).pure.cut
    (.ite (.ite (.all) (.all)) (.ite (.ite (.all) (.all)) (.ite (.ite (.all) (.all)) (.ite (.ite (.all) (.all)) (.ite (.ite (.all) (.all)) (.all))))))).ev = T.ev (α := CV) (
     .ite (t == (1 : Int))
      (.ite (small l.length && (Ctr.inI64 a && Ctr.inI64 b))
       (.ret (.tuple #[.agg #[.int .i64 ((Ctr.ctrA t n l k a b).s.type), .int .i64 ((Ctr.ctrA t n l k a b).s.n), .pl .ints ((Ctr.ctrA t n l k a b).s.l)], .agg #[.int .i64 ((Ctr.ctrA t n l k a b).r.kind), .int .i64 ((Ctr.ctrA t n l k a b).r.n)], .int .i64 ((Ctr.ctrA t n l k a b).e)]))
       (.fail))
      (.ite (t == (2 : Int))
       (.ite (Set.midB l)
        (.ret (.tuple #[.agg #[.int .i64 ((Set.setA t n l k a b).s.type), .int .i64 ((Set.setA t n l k a b).s.n), .pl .ints ((Set.setA t n l k a b).s.l)], .agg #[.int .i64 ((Set.setA t n l k a b).r.kind), .int .i64 ((Set.setA t n l k a b).r.n)], .int .i64 ((Set.setA t n l k a b).e)]))
        (.fail))
       (.ite (t == (3 : Int))
        (.ite (small (l.length + (4 : Nat)))
         (.ret (.tuple #[.agg #[.int .i64 ((Map.mapA t n l k a b).s.type), .int .i64 ((Map.mapA t n l k a b).s.n), .pl .ints ((Map.mapA t n l k a b).s.l)], .agg #[.int .i64 ((Map.mapA t n l k a b).r.kind), .int .i64 ((Map.mapA t n l k a b).r.n)], .int .i64 ((Map.mapA t n l k a b).e)]))
         (.fail))
        (.ite (t == (4 : Int))
         (.ite (small l.length && small (l.length + (1 : Nat)))
          (.ret (.tuple #[.agg #[.int .i64 ((Fif.fifoA t n l k a b).s.type), .int .i64 ((Fif.fifoA t n l k a b).s.n), .pl .ints ((Fif.fifoA t n l k a b).s.l)], .agg #[.int .i64 ((Fif.fifoA t n l k a b).r.kind), .int .i64 ((Fif.fifoA t n l k a b).r.n)], .int .i64 ((Fif.fifoA t n l k a b).e)]))
          (.fail))
         (.ite (t == (5 : Int))
          (.ite (small l.length)
           (.ret (.tuple #[.agg #[.int .i64 ((Esc.escA t n l k a b).s.type), .int .i64 ((Esc.escA t n l k a b).s.n), .pl .ints ((Esc.escA t n l k a b).s.l)], .agg #[.int .i64 ((Esc.escA t n l k a b).r.kind), .int .i64 ((Esc.escA t n l k a b).r.n)], .int .i64 ((Esc.escA t n l k a b).e)]))
           (.fail))
          (.ret (.tuple #[.agg #[.int .i64 (0), .int .i64 (0), .slice none (0) (0)], .agg #[.int .i64 (0), .int .i64 (0)], .int .i64 (8)]))))))) := by kernel_rfl
set_option maxRecDepth 100000 in
theorem mType_tree (k : Int) : (((tden Try.prog [] [] 30).call 0 14 [.int .i64 k] ⟨.nil, 0⟩).pure.cut
    (.yes (.no (.no (.no (.no (.yes (.ite (.yes (.yes (.yes (.ite (.no (.all)) (.yes (.no (.no (.no (.yes (.ite (.yes (.yes (.yes (.ite (.no (.all)) (.yes (.no (.no (.yes (.ite (.yes (.yes (.yes (.ite (.no (.all)) (.yes (.no (.yes (.ite (.yes (.yes (.yes (.ite (.no (.all)) (.yes (.yes (.ite (.yes (.yes (.yes (.ite (.no (.all)) (.no (.yes (.all))))))) (.no (.no (.no (.no (.no (.no (.yes (.all))))))))))))))) (.no (.no (.no (.no (.no (.yes (.yes (.ite (.yes (.yes (.yes (.ite (.no (.all)) (.no (.yes (.all))))))) (.no (.no (.no (.no (.no (.no (.yes (.all)))))))))))))))))))))))) (.no (.no (.no (.no (.no (.yes (.no (.yes (.ite (.yes (.yes (.yes (.ite (.no (.all)) (.yes (.yes (.ite (.yes (.yes (.yes (.ite (.no (.all)) (.no (.yes (.all))))))) (.no (.no (.no (.no (.no (.no (.yes (.all))))))))))))))) (.no (.no (.no (.no (.no (.yes (.yes (.ite (.yes (.yes (.yes (.ite (.no (.all)) (.no (.yes (.all))))))) (.no (.no (.no (.no (.no (.no (.yes (.all)))))))))))))))))))))))))))))))))) (.no (.no (.no (.no (.no (.yes (.no (.no (.yes (.ite (.yes (.yes (.yes (.ite (.no (.all)) (.yes (.no (.yes (.ite (.yes (.yes (.yes (.ite (.no (.all)) (.yes (.yes (.ite (.yes (.yes (.yes (.ite (.no (.all)) (.no (.yes (.all))))))) (.no (.no (.no (.no (.no (.no (.yes (.all))))))))))))))) (.no (.no (.no (.no (.no (.yes (.yes (.ite (.yes (.yes (.yes (.ite (.no (.all)) (.no (.yes (.all))))))) (.no (.no (.no (.no (.no (.no (.yes (.all)))))))))))))))))))))))) (.no (.no (.no (.no (.no (.yes (.no (.yes (.ite (.yes (.yes (.yes (.ite (.no (.all)) (.yes (.yes (.ite (.yes (.yes (.yes (.ite (.no (.all)) (.no (.yes (.all))))))) (.no (.no (.no (.no (.no (.no (.yes (.all))))))))))))))) (.no (.no (.no (.no (.no (.yes (.yes (.ite (.yes (.yes (.yes (.ite (.no (.all)) (.no (.yes (.all))))))) (.no (.no (.no (.no (.no (.no (.yes (.all))))))))))))))))))))))))))))))))))))))))))))) (.no (.no (.no (.no (.no (.yes (.no (.no (.no (.yes (.ite (.yes (.yes (.yes (.ite (.no (.all)) (.yes (.no (.no (.yes (.ite (.yes (.yes (.yes (.ite (.no (.all)) (.yes (.no (.yes (.ite (.yes (.yes (.yes (.ite (.no (.all)) (.yes (.yes (.ite (.yes (.yes (.yes (.ite (.no (.all)) (.no (.yes (.all))))))) (.no (.no (.no (.no (.no (.no (.yes (.all))))))))))))))) (.no (.no (.no (.no (.no (.yes (.yes (.ite (.yes (.yes (.yes (.ite (.no (.all)) (.no (.yes (.all))))))) (.no (.no (.no (.no (.no (.no (.yes (.all)))))))))))))))))))))))) (.no (.no (.no (.no (.no (.yes (.no (.yes (.ite (.yes (.yes (.yes (.ite (.no (.all)) (.yes (.yes (.ite (.yes (.yes (.yes (.ite (.no (.all)) (.no (.yes (.all))))))) (.no (.no (.no (.no (.no (.no (.yes (.all))))))))))))))) (.no (.no (.no (.no (.no (.yes (.yes (.ite (.yes (.yes (.yes (.ite (.no (.all)) (.no (.yes (.all))))))) (.no (.no (.no (.no (.no (.no (.yes (.all)))))))))))))))))))))))))))))))))) (.no (.no (.no (.no (.no (.yes (.no (.no (.yes (.ite (.yes (.yes (.yes (.ite (.no (.all)) (.yes (.no (.yes (.ite (.yes (.yes (.yes (.ite (.no (.all)) (.yes (.yes (.ite (.yes (.yes (.yes (.ite (.no (.all)) (.no (.yes (.all))))))) (.no (.no (.no (.no (.no (.no (.yes (.all))))))))))))))) (.no (.no (.no (.no (.no (.yes (.yes (.ite (.yes (.yes (.yes (.ite (.no (.all)) (.no (.yes (.all))))))) (.no (.no (.no (.no (.no (.no (.yes (.all)))))))))))))))))))))))) (.no (.no (.no (.no (.no (.yes (.no (.yes (.ite (.yes (.yes (.yes (.ite (.no (.all)) (.yes (.yes (.ite (.yes (.yes (.yes (.ite (.no (.all)) (.no (.yes (.all))))))) (.no (.no (.no (.no (.no (.no (.yes (.all))))))))))))))) (.no (.no (.no (.no (.no (.yes (.yes (.ite (.yes (.yes (.yes (.ite (.no (.all)) (.no (.yes (.all))))))) (.no (.no (.no (.no (.no (.no (.yes (.all)))))))))))))))))))))))))))))))))))))))))))))))))))))).ev = T.ev (α := CV) (
     .ite (decide (k ≥ (1 : Int)))
      (.ite (decide (k ≤ (2 : Int)))
       (.ret (.tuple #[.int .i64 (1), .int .i64 (0)]))
       (.ite (decide (k ≥ (3 : Int)))
        (.ite (decide (k ≤ (6 : Int)))
         (.ret (.tuple #[.int .i64 (2), .int .i64 (0)]))
         (.ite (decide (k ≥ (7 : Int)))
          (.ite (decide (k ≤ (9 : Int)))
           (.ret (.tuple #[.int .i64 (3), .int .i64 (0)]))
           (.ite (decide (k ≥ (10 : Int)))
            (.ite (decide (k ≤ (12 : Int)))
             (.ret (.tuple #[.int .i64 (4), .int .i64 (0)]))
             (.ite (decide (k ≥ (13 : Int)))
              (.ite (decide (k ≤ (15 : Int)))
               (.ret (.tuple #[.int .i64 (5), .int .i64 (0)]))
               (.ret (.tuple #[.int .i64 (0), .int .i64 (6)])))
              (.ret (.tuple #[.int .i64 (0), .int .i64 (6)]))))
            (.ite (decide (k ≥ (13 : Int)))
             (.ite (decide (k ≤ (15 : Int)))
              (.ret (.tuple #[.int .i64 (5), .int .i64 (0)]))
              (.ret (.tuple #[.int .i64 (0), .int .i64 (6)])))
             (.ret (.tuple #[.int .i64 (0), .int .i64 (6)])))))
          (.ite (decide (k ≥ (10 : Int)))
           (.ite (decide (k ≤ (12 : Int)))
            (.ret (.tuple #[.int .i64 (4), .int .i64 (0)]))
            (.ite (decide (k ≥ (13 : Int)))
             (.ite (decide (k ≤ (15 : Int)))
              (.ret (.tuple #[.int .i64 (5), .int .i64 (0)]))
              (.ret (.tuple #[.int .i64 (0), .int .i64 (6)])))
             (.ret (.tuple #[.int .i64 (0), .int .i64 (6)]))))
           (.ite (decide (k ≥ (13 : Int)))
            (.ite (decide (k ≤ (15 : Int)))
             (.ret (.tuple #[.int .i64 (5), .int .i64 (0)]))
             (.ret (.tuple #[.int .i64 (0), .int .i64 (6)])))
            (.ret (.tuple #[.int .i64 (0), .int .i64 (6)]))))))
        (.ite (decide (k ≥ (7 : Int)))
         (.ite (decide (k ≤ (9 : Int)))
          (.ret (.tuple #[.int .i64 (3), .int .i64 (0)]))
          (.ite (decide (k ≥ (10 : Int)))
           (.ite (decide (k ≤ (12 : Int)))
            (.ret (.tuple #[.int .i64 (4), .int .i64 (0)]))
            (.ite (decide (k ≥ (13 : Int)))
             (.ite (decide (k ≤ (15 : Int)))
              (.ret (.tuple #[.int .i64 (5), .int .i64 (0)]))
              (.ret (.tuple #[.int .i64 (0), .int .i64 (6)])))
             (.ret (.tuple #[.int .i64 (0), .int .i64 (6)]))))
           (.ite (decide (k ≥ (13 : Int)))
            (.ite (decide (k ≤ (15 : Int)))
             (.ret (.tuple #[.int .i64 (5), .int .i64 (0)]))
             (.ret (.tuple #[.int .i64 (0), .int .i64 (6)])))
            (.ret (.tuple #[.int .i64 (0), .int .i64 (6)])))))
         (.ite (decide (k ≥ (10 : Int)))
          (.ite (decide (k ≤ (12 : Int)))
           (.ret (.tuple #[.int .i64 (4), .int .i64 (0)]))
           (.ite (decide (k ≥ (13 : Int)))
            (.ite (decide (k ≤ (15 : Int)))
             (.ret (.tuple #[.int .i64 (5), .int .i64 (0)]))
             (.ret (.tuple #[.int .i64 (0), .int .i64 (6)])))
            (.ret (.tuple #[.int .i64 (0), .int .i64 (6)]))))
          (.ite (decide (k ≥ (13 : Int)))
           (.ite (decide (k ≤ (15 : Int)))
            (.ret (.tuple #[.int .i64 (5), .int .i64 (0)]))
            (.ret (.tuple #[.int .i64 (0), .int .i64 (6)])))
           (.ret (.tuple #[.int .i64 (0), .int .i64 (6)])))))))
      (.ite (decide (k ≥ (3 : Int)))
       (.ite (decide (k ≤ (6 : Int)))
        (.ret (.tuple #[.int .i64 (2), .int .i64 (0)]))
        (.ite (decide (k ≥ (7 : Int)))
         (.ite (decide (k ≤ (9 : Int)))
          (.ret (.tuple #[.int .i64 (3), .int .i64 (0)]))
          (.ite (decide (k ≥ (10 : Int)))
           (.ite (decide (k ≤ (12 : Int)))
            (.ret (.tuple #[.int .i64 (4), .int .i64 (0)]))
            (.ite (decide (k ≥ (13 : Int)))
             (.ite (decide (k ≤ (15 : Int)))
              (.ret (.tuple #[.int .i64 (5), .int .i64 (0)]))
              (.ret (.tuple #[.int .i64 (0), .int .i64 (6)])))
             (.ret (.tuple #[.int .i64 (0), .int .i64 (6)]))))
           (.ite (decide (k ≥ (13 : Int)))
            (.ite (decide (k ≤ (15 : Int)))
             (.ret (.tuple #[.int .i64 (5), .int .i64 (0)]))
             (.ret (.tuple #[.int .i64 (0), .int .i64 (6)])))
            (.ret (.tuple #[.int .i64 (0), .int .i64 (6)])))))
         (.ite (decide (k ≥ (10 : Int)))
          (.ite (decide (k ≤ (12 : Int)))
           (.ret (.tuple #[.int .i64 (4), .int .i64 (0)]))
           (.ite (decide (k ≥ (13 : Int)))
            (.ite (decide (k ≤ (15 : Int)))
             (.ret (.tuple #[.int .i64 (5), .int .i64 (0)]))
             (.ret (.tuple #[.int .i64 (0), .int .i64 (6)])))
            (.ret (.tuple #[.int .i64 (0), .int .i64 (6)]))))
          (.ite (decide (k ≥ (13 : Int)))
           (.ite (decide (k ≤ (15 : Int)))
            (.ret (.tuple #[.int .i64 (5), .int .i64 (0)]))
            (.ret (.tuple #[.int .i64 (0), .int .i64 (6)])))
           (.ret (.tuple #[.int .i64 (0), .int .i64 (6)]))))))
       (.ite (decide (k ≥ (7 : Int)))
        (.ite (decide (k ≤ (9 : Int)))
         (.ret (.tuple #[.int .i64 (3), .int .i64 (0)]))
         (.ite (decide (k ≥ (10 : Int)))
          (.ite (decide (k ≤ (12 : Int)))
           (.ret (.tuple #[.int .i64 (4), .int .i64 (0)]))
           (.ite (decide (k ≥ (13 : Int)))
            (.ite (decide (k ≤ (15 : Int)))
             (.ret (.tuple #[.int .i64 (5), .int .i64 (0)]))
             (.ret (.tuple #[.int .i64 (0), .int .i64 (6)])))
            (.ret (.tuple #[.int .i64 (0), .int .i64 (6)]))))
          (.ite (decide (k ≥ (13 : Int)))
           (.ite (decide (k ≤ (15 : Int)))
            (.ret (.tuple #[.int .i64 (5), .int .i64 (0)]))
            (.ret (.tuple #[.int .i64 (0), .int .i64 (6)])))
           (.ret (.tuple #[.int .i64 (0), .int .i64 (6)])))))
        (.ite (decide (k ≥ (10 : Int)))
         (.ite (decide (k ≤ (12 : Int)))
          (.ret (.tuple #[.int .i64 (4), .int .i64 (0)]))
          (.ite (decide (k ≥ (13 : Int)))
           (.ite (decide (k ≤ (15 : Int)))
            (.ret (.tuple #[.int .i64 (5), .int .i64 (0)]))
            (.ret (.tuple #[.int .i64 (0), .int .i64 (6)])))
           (.ret (.tuple #[.int .i64 (0), .int .i64 (6)]))))
         (.ite (decide (k ≥ (13 : Int)))
          (.ite (decide (k ≤ (15 : Int)))
           (.ret (.tuple #[.int .i64 (5), .int .i64 (0)]))
           (.ret (.tuple #[.int .i64 (0), .int .i64 (6)])))
          (.ret (.tuple #[.int .i64 (0), .int .i64 (6)]))))))) := by kernel_rfl
set_option maxRecDepth 100000 in
theorem rmType_tree (k : Int) : (((tden Try.prog [] [] 30).call 0 15 [.int .i64 k] ⟨.nil, 0⟩).pure.cut
    (.ite (.yes (.yes (.yes (.all)))) (.no (.ite (.all) (.ite (.all) (.ite (.all) (.ite (.all) (.ite (.all) (.all))))))))).ev = T.ev (α := CV) (
     .ite (decide (k < (1 : Int)))
      (.ret (.tuple #[.int .i64 (0), .int .i64 (6)]))
      (.ite (decide (k > (15 : Int)))
       (.ret (.tuple #[.int .i64 (0), .int .i64 (6)]))
       (.ite (decide (k ≤ (2 : Int)))
        (.ret (.tuple #[.int .i64 (1), .int .i64 (0)]))
        (.ite (decide (k ≤ (6 : Int)))
         (.ret (.tuple #[.int .i64 (2), .int .i64 (0)]))
         (.ite (decide (k ≤ (9 : Int)))
          (.ret (.tuple #[.int .i64 (3), .int .i64 (0)]))
          (.ite (decide (k ≤ (12 : Int)))
           (.ret (.tuple #[.int .i64 (4), .int .i64 (0)]))
           (.ret (.tuple #[.int .i64 (5), .int .i64 (0)])))))))) := by kernel_rfl

/- MchC -/
theorem machB_iff {l : List Int} {a b : Int} (h : machB l a b = true) : Set.midB l = true ∧ small l.length = true ∧ small (l.length + 1) = true ∧ small (l.length + 4) = true ∧ Ctr.inI64 a = true ∧ Ctr.inI64 b = true := by
  simp only [machB, Bool.and_eq_true] at h
  have h1 := h.1
  rw [Set.midB, Nat.ble_eq] at h1
  exact ⟨h.1, by rw [small_iff]; omega, by rw [small_iff]; omega, by rw [small_iff]; omega, h.2.1, h.2.2⟩
theorem wt1 : IntKind.i64.wrap (1 - 1) = 0 := by decide
theorem wt2 : IntKind.i64.wrap (2 - 1) = 1 := by decide
theorem wt3 : IntKind.i64.wrap (3 - 1) = 2 := by decide
theorem wt4 : IntKind.i64.wrap (4 - 1) = 3 := by decide
theorem wt5 : IntKind.i64.wrap (5 - 1) = 4 := by decide

theorem mach_at (t n : Int) (l : List Int) (k a b : Int) (hm : machB l a b = true) :
    PureAt Try.prog 10 [.agg #[.int .i64 t, .int .i64 n, .pl .ints l], .int .i64 k, .int .i64 a, .int .i64 b] (machA t n l k a b).cv := by
  refine pureAtS plainN mixedN appE_ok noL (k := 30) sgA (mApply_tree t n l k a b) ?_
  obtain ⟨h1, h2, h3, h4, h5, h6⟩ := machB_iff hm
  by_cases ht : 1 ≤ t ∧ t ≤ 5
  · obtain rfl | rfl | rfl | rfl | rfl : t = 1 ∨ t = 2 ∨ t = 3 ∨ t = 4 ∨ t = 5 := by omega
    all_goals
      simp only [sat_ite, sat_ret, sat_fail, h1, h2, h3, h4, h5, h6, wt1, wt2, wt3, wt4, wt5, machA, Bool.and_self, decide_eq_true_eq, decide_eq_false_iff_not, true_implies, Bool.true_eq_false, Bool.false_eq_true, false_implies, and_true, true_and, implies_true, reduceCtorEq, eq_self, not_true_eq_false]
      repeat' (first | apply And.intro | intro _)
      all_goals first
        | omega
        | exact ⟨rfl, rfl⟩
  · have e : machA t n l k a b = bad 8 := by
      unfold machA
      rw [if_neg (by omega), if_neg (by omega), if_neg (by omega), if_neg (by omega), if_neg (by omega)]
    rw [e]
    simp only [sat_ite, sat_ret, sat_fail, h1, h2, h3, h4, h5, h6, Bool.and_self, decide_eq_true_eq, decide_eq_false_iff_not, true_implies, Bool.true_eq_false, Bool.false_eq_true, false_implies, and_true, true_and, implies_true, reduceCtorEq, eq_self, not_true_eq_false]
    repeat' (first | apply And.intro | intro _)
    all_goals first
      | omega
      | exact ⟨rfl, rfl⟩
theorem rmach_at (t n : Int) (l : List Int) (k a b : Int) (hm : machB l a b = true) :
    PureAt Try.prog 11 [.agg #[.int .i64 t, .int .i64 n, .pl .ints l], .int .i64 k, .int .i64 a, .int .i64 b] (machA t n l k a b).cv := by
  refine pureAtS plainN mixedN appE_ok noL (k := 30) sgA (rmApply_tree t n l k a b) ?_
  obtain ⟨h1, h2, h3, h4, h5, h6⟩ := machB_iff hm
  by_cases ht : 1 ≤ t ∧ t ≤ 5
  · obtain rfl | rfl | rfl | rfl | rfl : t = 1 ∨ t = 2 ∨ t = 3 ∨ t = 4 ∨ t = 5 := by omega
    all_goals
      simp only [sat_ite, sat_ret, sat_fail, h1, h2, h3, h4, h5, h6, machA, Bool.and_self, decide_eq_true_eq, decide_eq_false_iff_not, beq_iff_eq, beq_eq_false_iff_ne, ne_eq, true_implies, Bool.true_eq_false, Bool.false_eq_true, false_implies, and_true, true_and, implies_true, reduceCtorEq, eq_self, not_true_eq_false]
      repeat' (first | apply And.intro | intro _)
      all_goals first
        | omega
        | exact ⟨rfl, rfl⟩
  · have e : machA t n l k a b = bad 8 := by
      unfold machA
      rw [if_neg (by omega), if_neg (by omega), if_neg (by omega), if_neg (by omega), if_neg (by omega)]
    rw [e]
    simp only [sat_ite, sat_ret, sat_fail, h1, h2, h3, h4, h5, h6, Bool.and_self, decide_eq_true_eq, decide_eq_false_iff_not, beq_iff_eq, beq_eq_false_iff_ne, ne_eq, true_implies, Bool.true_eq_false, Bool.false_eq_true, false_implies, and_true, true_and, implies_true, reduceCtorEq, eq_self, not_true_eq_false]
    repeat' (first | apply And.intro | intro _)
    all_goals first
      | omega
      | exact ⟨rfl, rfl⟩
theorem mach_fn : PureFn Try.prog 10 (sigExt [sgS] machG) :=
  pureFn_mk (bodied_ex (by kernel_rfl)) fun args d h => by
    unfold machG at h
    split at h
    · obtain ⟨hc, h1⟩ := ev_when h
      cases ev_ret h1
      exact mach_at _ _ _ _ _ _ hc
    · exact (ev_fail h).elim
theorem rmach_fn : PureFn Try.prog 11 (sigExt [sgS] machG) :=
  pureFn_mk (bodied_ex (by kernel_rfl)) fun args d h => by
    unfold machG at h
    split at h
    · obtain ⟨hc, h1⟩ := ev_when h
      cases ev_ret h1
      exact rmach_at _ _ _ _ _ _ hc
    · exact (ev_fail h).elim
def mtypeG : List CV → T CV
  | [.int .i64 k] => .ret (.tuple #[.int .i64 (typeA k).1, .int .i64 (typeA k).2])
  | _ => .fail
theorem mtype_fn : PureFn Try.prog 14 mtypeG :=
  ⟨bodied_ex (by kernel_rfl), fun args d h => by
    unfold mtypeG at h
    split at h
    · rename_i k
      cases ev_ret h
      refine pureAt0 plainN mixedN noE noL (k := 30) ((mType_tree k).trans ?_) rfl
      by_cases h1 : k < 1
      · simp [T.ev_ite, T.ev_ret, typeA, h1, show ¬ 1 ≤ k by omega, show ¬ 3 ≤ k by omega, show ¬ 7 ≤ k by omega, show ¬ 10 ≤ k by omega, show ¬ 13 ≤ k by omega]
      · by_cases h2 : 15 < k
        · simp [T.ev_ite, T.ev_ret, typeA, h2, show 1 ≤ k by omega, show 3 ≤ k by omega, show 7 ≤ k by omega, show 10 ≤ k by omega, show 13 ≤ k by omega, show ¬ k ≤ 2 by omega, show ¬ k ≤ 6 by omega, show ¬ k ≤ 9 by omega, show ¬ k ≤ 12 by omega, show ¬ k ≤ 15 by omega]
        · obtain rfl | rfl | rfl | rfl | rfl | rfl | rfl | rfl | rfl | rfl | rfl | rfl | rfl | rfl | rfl : k = 1 ∨ k = 2 ∨ k = 3 ∨ k = 4 ∨ k = 5 ∨ k = 6 ∨ k = 7 ∨ k = 8 ∨ k = 9 ∨ k = 10 ∨ k = 11 ∨ k = 12 ∨ k = 13 ∨ k = 14 ∨ k = 15 := by omega
          all_goals rfl
    · exact (ev_fail h).elim⟩
theorem rmtype_fn : PureFn Try.prog 15 mtypeG :=
  ⟨bodied_ex (by kernel_rfl), fun args d h => by
    unfold mtypeG at h
    split at h
    · rename_i k
      cases ev_ret h
      refine pureAt0 plainN mixedN noE noL (k := 30) ((rmType_tree k).trans ?_) rfl
      by_cases h1 : k < 1
      · simp [T.ev_ite, T.ev_ret, typeA, h1, show ¬ 1 ≤ k by omega, show ¬ 3 ≤ k by omega, show ¬ 7 ≤ k by omega, show ¬ 10 ≤ k by omega, show ¬ 13 ≤ k by omega]
      · by_cases h2 : 15 < k
        · simp [T.ev_ite, T.ev_ret, typeA, h2, show 1 ≤ k by omega, show 3 ≤ k by omega, show 7 ≤ k by omega, show 10 ≤ k by omega, show 13 ≤ k by omega, show ¬ k ≤ 2 by omega, show ¬ k ≤ 6 by omega, show ¬ k ≤ 9 by omega, show ¬ k ≤ 12 by omega, show ¬ k ≤ 15 by omega]
        · obtain rfl | rfl | rfl | rfl | rfl | rfl | rfl | rfl | rfl | rfl | rfl | rfl | rfl | rfl | rfl : k = 1 ∨ k = 2 ∨ k = 3 ∨ k = 4 ∨ k = 5 ∨ k = 6 ∨ k = 7 ∨ k = 8 ∨ k = 9 ∨ k = 10 ∨ k = 11 ∨ k = 12 ∨ k = 13 ∨ k = 14 ∨ k = 15 := by omega
          all_goals rfl
    · exact (ev_fail h).elim⟩
def mchE : List (Nat × ExtFn) := [(10, pureExt (sigExt [sgS] machG)), (11, pureExt (sigExt [sgS] machG)), (14, pureExt mtypeG), (15, pureExt mtypeG)]
theorem mchE_ok (N : Nat) : ExtsOk Try.prog N mchE := extsOk_cons (extOk_pure mach_fn) (extsOk_cons (extOk_pure rmach_fn) (extsOk_cons (extOk_pure mtype_fn) (extsOk_cons (extOk_pure rmtype_fn) extsOk_nil)))
def pickE : List (Nat × ExtFn) := [(27, pureExt pickG)]
theorem pickE_ok (N : Nat) : ExtsOk Try.prog N pickE := extsOk_cons (extOk_pure pick_fn) extsOk_nil

/- MchD -/
set_option maxRecDepth 100000 in
theorem mLegal_tree (t n : Int) (l : List Int) (k a b rk rn : Int) : (((tden Try.prog mchE [] 30).call 0 12 [.agg #[.int .i64 t, .int .i64 n, .pl .ints l], .agg #[.int .i64 k, .int .i64 a, .int .i64 b, .int .i64 rk, .int .i64 rn]] ⟨.nil, 0⟩).pure.cut
    (.ite (.ite (.yes (.yes (.yes (.yes (.yes (.yes (.yes (.all)))))))) (.no (.no (.no (.no (.all)))))) (.all))).ev = T.ev (α := CV) (
     .ite (machB l a b)
      (.ite ((machA t n l k a b).e == (0 : Int))
       (.ite (decide (rk = rk))
        (.ite (decide (rn = rn))
         (.ite (decide ((machA t n l k a b).r.kind = (machA t n l k a b).r.kind))
          (.ite (decide ((machA t n l k a b).r.n = (machA t n l k a b).r.n))
           (.ret (.tuple #[.agg #[.int .i64 ((machA t n l k a b).s.type), .int .i64 ((machA t n l k a b).s.n), .pl .ints ((machA t n l k a b).s.l)], .bool ((machA t n l k a b).r.kind == rk && ((machA t n l k a b).r.n == rn && true)), .int .i64 ((machA t n l k a b).e)]))
           .fail)
          .fail)
         .fail)
        .fail)
       (.ret (.tuple #[.agg #[.int .i64 ((machA t n l k a b).s.type), .int .i64 ((machA t n l k a b).s.n), .pl .ints ((machA t n l k a b).s.l)], .bool false, .int .i64 ((machA t n l k a b).e)])))
      (.fail)) := by kernel_rfl
set_option maxRecDepth 100000 in
theorem rmLegal_tree (t n : Int) (l : List Int) (k a b rk rn : Int) : (((tden Try.prog mchE [] 30).call 0 13 [.agg #[.int .i64 t, .int .i64 n, .pl .ints l], .agg #[.int .i64 k, .int .i64 a, .int .i64 b, .int .i64 rk, .int .i64 rn]] ⟨.nil, 0⟩).pure.cut
    (.ite (.ite (.all) (.yes (.yes (.yes (.yes (.all)))))) (.all))).ev = T.ev (α := CV) (
     .ite (machB l a b)
      (.ite ((machA t n l k a b).e != (0 : Int))
       (.ret (.tuple #[.agg #[.int .i64 (0), .int .i64 (0), .slice none (0) (0)], .bool false, .int .i64 ((machA t n l k a b).e)]))
       (.ite (decide (rk = rk))
        (.ite (decide (rn = rn))
         (.ite (decide ((machA t n l k a b).r.kind = (machA t n l k a b).r.kind))
          (.ite (decide ((machA t n l k a b).r.n = (machA t n l k a b).r.n))
           (.ret (.tuple #[.agg #[.int .i64 ((machA t n l k a b).s.type), .int .i64 ((machA t n l k a b).s.n), .pl .ints ((machA t n l k a b).s.l)], .bool ((machA t n l k a b).r.kind == rk && ((machA t n l k a b).r.n == rn && true)), .int .i64 (0)]))
           .fail)
          .fail)
         .fail)
        .fail))
      (.fail)) := by kernel_rfl
set_option maxRecDepth 100000 in
theorem may_tree (t w a b : Int) : (((tden Try.prog pickE [] 30).call 0 26 [.int .i64 t, .int .i64 w, .int .i64 a, .int .i64 b] ⟨.nil, 0⟩).pure.cut
    (.ite (.ite (.ite (.ite (.ite (.ite (.yes (.yes (.yes (.yes (.yes (.yes (.yes (.yes (.yes (.yes (.yes (.yes (.yes (.yes (.yes (.yes (.all))))))))))))))))) (.no (.no (.ite (.yes (.yes (.yes (.yes (.yes (.yes (.yes (.yes (.yes (.yes (.yes (.yes (.all))))))))))))) (.no (.no (.ite (.yes (.yes (.yes (.yes (.yes (.yes (.yes (.yes (.all))))))))) (.no (.no (.ite (.yes (.yes (.yes (.yes (.all))))) (.no (.no (.ite (.all) (.all)))))))))))))) (.ite (.yes (.yes (.yes (.yes (.yes (.yes (.yes (.yes (.yes (.yes (.yes (.yes (.yes (.yes (.yes (.yes (.all))))))))))))))))) (.no (.no (.ite (.yes (.yes (.yes (.yes (.yes (.yes (.yes (.yes (.yes (.yes (.yes (.yes (.all))))))))))))) (.no (.no (.ite (.yes (.yes (.yes (.yes (.yes (.yes (.yes (.yes (.all))))))))) (.no (.no (.ite (.yes (.yes (.yes (.yes (.all))))) (.no (.no (.ite (.all) (.all))))))))))))))) (.all)) (.ite (.ite (.yes (.yes (.yes (.yes (.yes (.yes (.yes (.yes (.yes (.yes (.yes (.yes (.yes (.yes (.yes (.yes (.all))))))))))))))))) (.no (.no (.ite (.yes (.yes (.yes (.yes (.yes (.yes (.yes (.yes (.yes (.yes (.yes (.yes (.all))))))))))))) (.no (.no (.ite (.yes (.yes (.yes (.yes (.yes (.yes (.yes (.yes (.all))))))))) (.no (.no (.ite (.yes (.yes (.yes (.yes (.all))))) (.no (.no (.ite (.all) (.all)))))))))))))) (.ite (.yes (.yes (.yes (.yes (.yes (.yes (.yes (.yes (.yes (.yes (.yes (.yes (.yes (.yes (.yes (.yes (.all))))))))))))))))) (.no (.no (.ite (.yes (.yes (.yes (.yes (.yes (.yes (.yes (.yes (.yes (.yes (.yes (.yes (.all))))))))))))) (.no (.no (.ite (.yes (.yes (.yes (.yes (.yes (.yes (.yes (.yes (.all))))))))) (.no (.no (.ite (.yes (.yes (.yes (.yes (.all))))) (.no (.no (.ite (.all) (.all)))))))))))))))) (.all)) (.ite (.ite (.ite (.ite (.ite (.ite (.yes (.yes (.yes (.yes (.yes (.yes (.yes (.yes (.yes (.yes (.yes (.yes (.yes (.yes (.yes (.yes (.all))))))))))))))))) (.no (.no (.ite (.yes (.yes (.yes (.yes (.yes (.yes (.yes (.yes (.yes (.yes (.yes (.yes (.all))))))))))))) (.no (.no (.ite (.yes (.yes (.yes (.yes (.yes (.yes (.yes (.yes (.all))))))))) (.no (.no (.ite (.yes (.yes (.yes (.yes (.all))))) (.no (.no (.ite (.all) (.all)))))))))))))) (.ite (.yes (.yes (.yes (.yes (.yes (.yes (.yes (.yes (.yes (.yes (.yes (.yes (.yes (.yes (.yes (.yes (.all))))))))))))))))) (.no (.no (.ite (.yes (.yes (.yes (.yes (.yes (.yes (.yes (.yes (.yes (.yes (.yes (.yes (.all))))))))))))) (.no (.no (.ite (.yes (.yes (.yes (.yes (.yes (.yes (.yes (.yes (.all))))))))) (.no (.no (.ite (.yes (.yes (.yes (.yes (.all))))) (.no (.no (.ite (.all) (.all))))))))))))))) (.all)) (.ite (.ite (.yes (.yes (.yes (.yes (.yes (.yes (.yes (.yes (.yes (.yes (.yes (.yes (.yes (.yes (.yes (.yes (.all))))))))))))))))) (.no (.no (.ite (.yes (.yes (.yes (.yes (.yes (.yes (.yes (.yes (.yes (.yes (.yes (.yes (.all))))))))))))) (.no (.no (.ite (.yes (.yes (.yes (.yes (.yes (.yes (.yes (.yes (.all))))))))) (.no (.no (.ite (.yes (.yes (.yes (.yes (.all))))) (.no (.no (.ite (.all) (.all)))))))))))))) (.ite (.yes (.yes (.yes (.yes (.yes (.yes (.yes (.yes (.yes (.yes (.yes (.yes (.yes (.yes (.yes (.yes (.all))))))))))))))))) (.no (.no (.ite (.yes (.yes (.yes (.yes (.yes (.yes (.yes (.yes (.yes (.yes (.yes (.yes (.all))))))))))))) (.no (.no (.ite (.yes (.yes (.yes (.yes (.yes (.yes (.yes (.yes (.all))))))))) (.no (.no (.ite (.yes (.yes (.yes (.yes (.all))))) (.no (.no (.ite (.all) (.all)))))))))))))))) (.all)) (.ite (.ite (.ite (.ite (.ite (.ite (.yes (.yes (.yes (.yes (.yes (.yes (.yes (.yes (.yes (.yes (.yes (.yes (.yes (.yes (.yes (.yes (.all))))))))))))))))) (.no (.no (.ite (.yes (.yes (.yes (.yes (.yes (.yes (.yes (.yes (.yes (.yes (.yes (.yes (.all))))))))))))) (.no (.no (.ite (.yes (.yes (.yes (.yes (.yes (.yes (.yes (.yes (.all))))))))) (.no (.no (.ite (.yes (.yes (.yes (.yes (.all))))) (.no (.no (.ite (.all) (.all)))))))))))))) (.ite (.yes (.yes (.yes (.yes (.yes (.yes (.yes (.yes (.yes (.yes (.yes (.yes (.yes (.yes (.yes (.yes (.all))))))))))))))))) (.no (.no (.ite (.yes (.yes (.yes (.yes (.yes (.yes (.yes (.yes (.yes (.yes (.yes (.yes (.all))))))))))))) (.no (.no (.ite (.yes (.yes (.yes (.yes (.yes (.yes (.yes (.yes (.all))))))))) (.no (.no (.ite (.yes (.yes (.yes (.yes (.all))))) (.no (.no (.ite (.all) (.all))))))))))))))) (.all)) (.ite (.ite (.yes (.yes (.yes (.yes (.yes (.yes (.yes (.yes (.yes (.yes (.yes (.yes (.yes (.yes (.yes (.yes (.all))))))))))))))))) (.no (.no (.ite (.yes (.yes (.yes (.yes (.yes (.yes (.yes (.yes (.yes (.yes (.yes (.yes (.all))))))))))))) (.no (.no (.ite (.yes (.yes (.yes (.yes (.yes (.yes (.yes (.yes (.all))))))))) (.no (.no (.ite (.yes (.yes (.yes (.yes (.all))))) (.no (.no (.ite (.all) (.all)))))))))))))) (.ite (.yes (.yes (.yes (.yes (.yes (.yes (.yes (.yes (.yes (.yes (.yes (.yes (.yes (.yes (.yes (.yes (.all))))))))))))))))) (.no (.no (.ite (.yes (.yes (.yes (.yes (.yes (.yes (.yes (.yes (.yes (.yes (.yes (.yes (.all))))))))))))) (.no (.no (.ite (.yes (.yes (.yes (.yes (.yes (.yes (.yes (.yes (.all))))))))) (.no (.no (.ite (.yes (.yes (.yes (.yes (.all))))) (.no (.no (.ite (.all) (.all)))))))))))))))) (.all)) (.ite (.ite (.yes (.ite (.ite (.ite (.yes (.yes (.yes (.yes (.yes (.yes (.yes (.yes (.yes (.yes (.yes (.yes (.yes (.yes (.yes (.yes (.all))))))))))))))))) (.no (.no (.ite (.yes (.yes (.yes (.yes (.yes (.yes (.yes (.yes (.yes (.yes (.yes (.yes (.all))))))))))))) (.no (.no (.ite (.yes (.yes (.yes (.yes (.yes (.yes (.yes (.yes (.all))))))))) (.no (.no (.ite (.yes (.yes (.yes (.yes (.all))))) (.no (.no (.ite (.all) (.all)))))))))))))) (.ite (.yes (.yes (.yes (.yes (.yes (.yes (.yes (.yes (.yes (.yes (.yes (.yes (.yes (.yes (.yes (.yes (.all))))))))))))))))) (.no (.no (.ite (.yes (.yes (.yes (.yes (.yes (.yes (.yes (.yes (.yes (.yes (.yes (.yes (.all))))))))))))) (.no (.no (.ite (.yes (.yes (.yes (.yes (.yes (.yes (.yes (.yes (.all))))))))) (.no (.no (.ite (.yes (.yes (.yes (.yes (.all))))) (.no (.no (.ite (.all) (.all))))))))))))))) (.all))) (.all)) (.ite (.no (.ite (.ite (.yes (.yes (.yes (.yes (.yes (.yes (.yes (.yes (.yes (.yes (.yes (.yes (.yes (.yes (.yes (.yes (.all))))))))))))))))) (.no (.no (.ite (.yes (.yes (.yes (.yes (.yes (.yes (.yes (.yes (.yes (.yes (.yes (.yes (.all))))))))))))) (.no (.no (.ite (.yes (.yes (.yes (.yes (.yes (.yes (.yes (.yes (.all))))))))) (.no (.no (.ite (.yes (.yes (.yes (.yes (.all))))) (.no (.no (.ite (.all) (.all)))))))))))))) (.ite (.yes (.yes (.yes (.yes (.yes (.yes (.yes (.yes (.yes (.yes (.yes (.yes (.yes (.yes (.yes (.yes (.all))))))))))))))))) (.no (.no (.ite (.yes (.yes (.yes (.yes (.yes (.yes (.yes (.yes (.yes (.yes (.yes (.yes (.all))))))))))))) (.no (.no (.ite (.yes (.yes (.yes (.yes (.yes (.yes (.yes (.yes (.all))))))))) (.no (.no (.ite (.yes (.yes (.yes (.yes (.all))))) (.no (.no (.ite (.all) (.all)))))))))))))))) (.all))))))).ev = T.ev (α := CV) (
     .ite (t == (2 : Int))
      (.ite (decide ((-9223372036854775808 : Int) ≤ w) && decide (w ≤ (9223372036854775807 : Int)) && decide ((4 : Int) ≤ (9223372036854775807 : Int)))
       (.ite (t == (5 : Int))
        (.ite (decide ((-9223372036854775808 : Int) ≤ a) && decide (a ≤ (9223372036854775807 : Int)) && decide ((4611686018427387904 : Int) ≤ (9223372036854775807 : Int)))
         (.ite (IntKind.i64.wrap ((3 : Int) + pick w (4 : Int)) != (7 : Int))
          (.ite (IntKind.i64.wrap ((3 : Int) + pick w (4 : Int)) == (2 : Int))
           (.ret (.agg #[.int .i64 (IntKind.i64.wrap ((3 : Int) + pick w (4 : Int))), .int .i64 (0), .int .i64 (0), .int .i64 (0), .int .i64 (0)]))
           (.ite (IntKind.i64.wrap ((3 : Int) + pick w (4 : Int)) == (6 : Int))
            (.ret (.agg #[.int .i64 (IntKind.i64.wrap ((3 : Int) + pick w (4 : Int))), .int .i64 (0), .int .i64 (0), .int .i64 (0), .int .i64 (0)]))
            (.ite (IntKind.i64.wrap ((3 : Int) + pick w (4 : Int)) == (11 : Int))
             (.ret (.agg #[.int .i64 (IntKind.i64.wrap ((3 : Int) + pick w (4 : Int))), .int .i64 (0), .int .i64 (0), .int .i64 (0), .int .i64 (0)]))
             (.ite (IntKind.i64.wrap ((3 : Int) + pick w (4 : Int)) == (12 : Int))
              (.ret (.agg #[.int .i64 (IntKind.i64.wrap ((3 : Int) + pick w (4 : Int))), .int .i64 (0), .int .i64 (0), .int .i64 (0), .int .i64 (0)]))
              (.ite (IntKind.i64.wrap ((3 : Int) + pick w (4 : Int)) == (15 : Int))
               (.ret (.agg #[.int .i64 (IntKind.i64.wrap ((3 : Int) + pick w (4 : Int))), .int .i64 (0), .int .i64 (0), .int .i64 (0), .int .i64 (0)]))
               (.ret (.agg #[.int .i64 (IntKind.i64.wrap ((3 : Int) + pick w (4 : Int))), .int .i64 (IntKind.i64.wrap (pick a (4611686018427387904 : Int) + IntKind.i64.wrap (↑(BitVec.ofInt IntKind.i64.bits b &&& BitVec.ofInt IntKind.i64.bits (1 : Int)).toNat : Int))), .int .i64 (0), .int .i64 (0), .int .i64 (0)])))))))
          (.ite (IntKind.i64.wrap ((3 : Int) + pick w (4 : Int)) == (2 : Int))
           (.ret (.agg #[.int .i64 (IntKind.i64.wrap ((3 : Int) + pick w (4 : Int))), .int .i64 (0), .int .i64 (b), .int .i64 (0), .int .i64 (0)]))
           (.ite (IntKind.i64.wrap ((3 : Int) + pick w (4 : Int)) == (6 : Int))
            (.ret (.agg #[.int .i64 (IntKind.i64.wrap ((3 : Int) + pick w (4 : Int))), .int .i64 (0), .int .i64 (b), .int .i64 (0), .int .i64 (0)]))
            (.ite (IntKind.i64.wrap ((3 : Int) + pick w (4 : Int)) == (11 : Int))
             (.ret (.agg #[.int .i64 (IntKind.i64.wrap ((3 : Int) + pick w (4 : Int))), .int .i64 (0), .int .i64 (b), .int .i64 (0), .int .i64 (0)]))
             (.ite (IntKind.i64.wrap ((3 : Int) + pick w (4 : Int)) == (12 : Int))
              (.ret (.agg #[.int .i64 (IntKind.i64.wrap ((3 : Int) + pick w (4 : Int))), .int .i64 (0), .int .i64 (b), .int .i64 (0), .int .i64 (0)]))
              (.ite (IntKind.i64.wrap ((3 : Int) + pick w (4 : Int)) == (15 : Int))
               (.ret (.agg #[.int .i64 (IntKind.i64.wrap ((3 : Int) + pick w (4 : Int))), .int .i64 (0), .int .i64 (b), .int .i64 (0), .int .i64 (0)]))
               (.ret (.agg #[.int .i64 (IntKind.i64.wrap ((3 : Int) + pick w (4 : Int))), .int .i64 (IntKind.i64.wrap (pick a (4611686018427387904 : Int) + IntKind.i64.wrap (↑(BitVec.ofInt IntKind.i64.bits b &&& BitVec.ofInt IntKind.i64.bits (1 : Int)).toNat : Int))), .int .i64 (b), .int .i64 (0), .int .i64 (0)]))))))))
         (.fail))
        (.ite (IntKind.i64.wrap ((3 : Int) + pick w (4 : Int)) != (7 : Int))
         (.ite (IntKind.i64.wrap ((3 : Int) + pick w (4 : Int)) == (2 : Int))
          (.ret (.agg #[.int .i64 (IntKind.i64.wrap ((3 : Int) + pick w (4 : Int))), .int .i64 (0), .int .i64 (0), .int .i64 (0), .int .i64 (0)]))
          (.ite (IntKind.i64.wrap ((3 : Int) + pick w (4 : Int)) == (6 : Int))
           (.ret (.agg #[.int .i64 (IntKind.i64.wrap ((3 : Int) + pick w (4 : Int))), .int .i64 (0), .int .i64 (0), .int .i64 (0), .int .i64 (0)]))
           (.ite (IntKind.i64.wrap ((3 : Int) + pick w (4 : Int)) == (11 : Int))
            (.ret (.agg #[.int .i64 (IntKind.i64.wrap ((3 : Int) + pick w (4 : Int))), .int .i64 (0), .int .i64 (0), .int .i64 (0), .int .i64 (0)]))
            (.ite (IntKind.i64.wrap ((3 : Int) + pick w (4 : Int)) == (12 : Int))
             (.ret (.agg #[.int .i64 (IntKind.i64.wrap ((3 : Int) + pick w (4 : Int))), .int .i64 (0), .int .i64 (0), .int .i64 (0), .int .i64 (0)]))
             (.ite (IntKind.i64.wrap ((3 : Int) + pick w (4 : Int)) == (15 : Int))
              (.ret (.agg #[.int .i64 (IntKind.i64.wrap ((3 : Int) + pick w (4 : Int))), .int .i64 (0), .int .i64 (0), .int .i64 (0), .int .i64 (0)]))
              (.ret (.agg #[.int .i64 (IntKind.i64.wrap ((3 : Int) + pick w (4 : Int))), .int .i64 (a), .int .i64 (0), .int .i64 (0), .int .i64 (0)])))))))
         (.ite (IntKind.i64.wrap ((3 : Int) + pick w (4 : Int)) == (2 : Int))
          (.ret (.agg #[.int .i64 (IntKind.i64.wrap ((3 : Int) + pick w (4 : Int))), .int .i64 (0), .int .i64 (b), .int .i64 (0), .int .i64 (0)]))
          (.ite (IntKind.i64.wrap ((3 : Int) + pick w (4 : Int)) == (6 : Int))
           (.ret (.agg #[.int .i64 (IntKind.i64.wrap ((3 : Int) + pick w (4 : Int))), .int .i64 (0), .int .i64 (b), .int .i64 (0), .int .i64 (0)]))
           (.ite (IntKind.i64.wrap ((3 : Int) + pick w (4 : Int)) == (11 : Int))
            (.ret (.agg #[.int .i64 (IntKind.i64.wrap ((3 : Int) + pick w (4 : Int))), .int .i64 (0), .int .i64 (b), .int .i64 (0), .int .i64 (0)]))
            (.ite (IntKind.i64.wrap ((3 : Int) + pick w (4 : Int)) == (12 : Int))
             (.ret (.agg #[.int .i64 (IntKind.i64.wrap ((3 : Int) + pick w (4 : Int))), .int .i64 (0), .int .i64 (b), .int .i64 (0), .int .i64 (0)]))
             (.ite (IntKind.i64.wrap ((3 : Int) + pick w (4 : Int)) == (15 : Int))
              (.ret (.agg #[.int .i64 (IntKind.i64.wrap ((3 : Int) + pick w (4 : Int))), .int .i64 (0), .int .i64 (b), .int .i64 (0), .int .i64 (0)]))
              (.ret (.agg #[.int .i64 (IntKind.i64.wrap ((3 : Int) + pick w (4 : Int))), .int .i64 (a), .int .i64 (b), .int .i64 (0), .int .i64 (0)])))))))))
       (.fail))
      (.ite (t == (3 : Int))
       (.ite (decide ((-9223372036854775808 : Int) ≤ w) && decide (w ≤ (9223372036854775807 : Int)) && decide ((3 : Int) ≤ (9223372036854775807 : Int)))
        (.ite (t == (5 : Int))
         (.ite (decide ((-9223372036854775808 : Int) ≤ a) && decide (a ≤ (9223372036854775807 : Int)) && decide ((4611686018427387904 : Int) ≤ (9223372036854775807 : Int)))
          (.ite (IntKind.i64.wrap ((7 : Int) + pick w (3 : Int)) != (7 : Int))
           (.ite (IntKind.i64.wrap ((7 : Int) + pick w (3 : Int)) == (2 : Int))
            (.ret (.agg #[.int .i64 (IntKind.i64.wrap ((7 : Int) + pick w (3 : Int))), .int .i64 (0), .int .i64 (0), .int .i64 (0), .int .i64 (0)]))
            (.ite (IntKind.i64.wrap ((7 : Int) + pick w (3 : Int)) == (6 : Int))
             (.ret (.agg #[.int .i64 (IntKind.i64.wrap ((7 : Int) + pick w (3 : Int))), .int .i64 (0), .int .i64 (0), .int .i64 (0), .int .i64 (0)]))
             (.ite (IntKind.i64.wrap ((7 : Int) + pick w (3 : Int)) == (11 : Int))
              (.ret (.agg #[.int .i64 (IntKind.i64.wrap ((7 : Int) + pick w (3 : Int))), .int .i64 (0), .int .i64 (0), .int .i64 (0), .int .i64 (0)]))
              (.ite (IntKind.i64.wrap ((7 : Int) + pick w (3 : Int)) == (12 : Int))
               (.ret (.agg #[.int .i64 (IntKind.i64.wrap ((7 : Int) + pick w (3 : Int))), .int .i64 (0), .int .i64 (0), .int .i64 (0), .int .i64 (0)]))
               (.ite (IntKind.i64.wrap ((7 : Int) + pick w (3 : Int)) == (15 : Int))
                (.ret (.agg #[.int .i64 (IntKind.i64.wrap ((7 : Int) + pick w (3 : Int))), .int .i64 (0), .int .i64 (0), .int .i64 (0), .int .i64 (0)]))
                (.ret (.agg #[.int .i64 (IntKind.i64.wrap ((7 : Int) + pick w (3 : Int))), .int .i64 (IntKind.i64.wrap (pick a (4611686018427387904 : Int) + IntKind.i64.wrap (↑(BitVec.ofInt IntKind.i64.bits b &&& BitVec.ofInt IntKind.i64.bits (1 : Int)).toNat : Int))), .int .i64 (0), .int .i64 (0), .int .i64 (0)])))))))
           (.ite (IntKind.i64.wrap ((7 : Int) + pick w (3 : Int)) == (2 : Int))
            (.ret (.agg #[.int .i64 (IntKind.i64.wrap ((7 : Int) + pick w (3 : Int))), .int .i64 (0), .int .i64 (b), .int .i64 (0), .int .i64 (0)]))
            (.ite (IntKind.i64.wrap ((7 : Int) + pick w (3 : Int)) == (6 : Int))
             (.ret (.agg #[.int .i64 (IntKind.i64.wrap ((7 : Int) + pick w (3 : Int))), .int .i64 (0), .int .i64 (b), .int .i64 (0), .int .i64 (0)]))
             (.ite (IntKind.i64.wrap ((7 : Int) + pick w (3 : Int)) == (11 : Int))
              (.ret (.agg #[.int .i64 (IntKind.i64.wrap ((7 : Int) + pick w (3 : Int))), .int .i64 (0), .int .i64 (b), .int .i64 (0), .int .i64 (0)]))
              (.ite (IntKind.i64.wrap ((7 : Int) + pick w (3 : Int)) == (12 : Int))
               (.ret (.agg #[.int .i64 (IntKind.i64.wrap ((7 : Int) + pick w (3 : Int))), .int .i64 (0), .int .i64 (b), .int .i64 (0), .int .i64 (0)]))
               (.ite (IntKind.i64.wrap ((7 : Int) + pick w (3 : Int)) == (15 : Int))
                (.ret (.agg #[.int .i64 (IntKind.i64.wrap ((7 : Int) + pick w (3 : Int))), .int .i64 (0), .int .i64 (b), .int .i64 (0), .int .i64 (0)]))
                (.ret (.agg #[.int .i64 (IntKind.i64.wrap ((7 : Int) + pick w (3 : Int))), .int .i64 (IntKind.i64.wrap (pick a (4611686018427387904 : Int) + IntKind.i64.wrap (↑(BitVec.ofInt IntKind.i64.bits b &&& BitVec.ofInt IntKind.i64.bits (1 : Int)).toNat : Int))), .int .i64 (b), .int .i64 (0), .int .i64 (0)]))))))))
          (.fail))
         (.ite (IntKind.i64.wrap ((7 : Int) + pick w (3 : Int)) != (7 : Int))
          (.ite (IntKind.i64.wrap ((7 : Int) + pick w (3 : Int)) == (2 : Int))
           (.ret (.agg #[.int .i64 (IntKind.i64.wrap ((7 : Int) + pick w (3 : Int))), .int .i64 (0), .int .i64 (0), .int .i64 (0), .int .i64 (0)]))
           (.ite (IntKind.i64.wrap ((7 : Int) + pick w (3 : Int)) == (6 : Int))
            (.ret (.agg #[.int .i64 (IntKind.i64.wrap ((7 : Int) + pick w (3 : Int))), .int .i64 (0), .int .i64 (0), .int .i64 (0), .int .i64 (0)]))
            (.ite (IntKind.i64.wrap ((7 : Int) + pick w (3 : Int)) == (11 : Int))
             (.ret (.agg #[.int .i64 (IntKind.i64.wrap ((7 : Int) + pick w (3 : Int))), .int .i64 (0), .int .i64 (0), .int .i64 (0), .int .i64 (0)]))
             (.ite (IntKind.i64.wrap ((7 : Int) + pick w (3 : Int)) == (12 : Int))
              (.ret (.agg #[.int .i64 (IntKind.i64.wrap ((7 : Int) + pick w (3 : Int))), .int .i64 (0), .int .i64 (0), .int .i64 (0), .int .i64 (0)]))
              (.ite (IntKind.i64.wrap ((7 : Int) + pick w (3 : Int)) == (15 : Int))
               (.ret (.agg #[.int .i64 (IntKind.i64.wrap ((7 : Int) + pick w (3 : Int))), .int .i64 (0), .int .i64 (0), .int .i64 (0), .int .i64 (0)]))
               (.ret (.agg #[.int .i64 (IntKind.i64.wrap ((7 : Int) + pick w (3 : Int))), .int .i64 (a), .int .i64 (0), .int .i64 (0), .int .i64 (0)])))))))
          (.ite (IntKind.i64.wrap ((7 : Int) + pick w (3 : Int)) == (2 : Int))
           (.ret (.agg #[.int .i64 (IntKind.i64.wrap ((7 : Int) + pick w (3 : Int))), .int .i64 (0), .int .i64 (b), .int .i64 (0), .int .i64 (0)]))
           (.ite (IntKind.i64.wrap ((7 : Int) + pick w (3 : Int)) == (6 : Int))
            (.ret (.agg #[.int .i64 (IntKind.i64.wrap ((7 : Int) + pick w (3 : Int))), .int .i64 (0), .int .i64 (b), .int .i64 (0), .int .i64 (0)]))
            (.ite (IntKind.i64.wrap ((7 : Int) + pick w (3 : Int)) == (11 : Int))
             (.ret (.agg #[.int .i64 (IntKind.i64.wrap ((7 : Int) + pick w (3 : Int))), .int .i64 (0), .int .i64 (b), .int .i64 (0), .int .i64 (0)]))
             (.ite (IntKind.i64.wrap ((7 : Int) + pick w (3 : Int)) == (12 : Int))
              (.ret (.agg #[.int .i64 (IntKind.i64.wrap ((7 : Int) + pick w (3 : Int))), .int .i64 (0), .int .i64 (b), .int .i64 (0), .int .i64 (0)]))
              (.ite (IntKind.i64.wrap ((7 : Int) + pick w (3 : Int)) == (15 : Int))
               (.ret (.agg #[.int .i64 (IntKind.i64.wrap ((7 : Int) + pick w (3 : Int))), .int .i64 (0), .int .i64 (b), .int .i64 (0), .int .i64 (0)]))
               (.ret (.agg #[.int .i64 (IntKind.i64.wrap ((7 : Int) + pick w (3 : Int))), .int .i64 (a), .int .i64 (b), .int .i64 (0), .int .i64 (0)])))))))))
        (.fail))
       (.ite (t == (4 : Int))
        (.ite (decide ((-9223372036854775808 : Int) ≤ w) && decide (w ≤ (9223372036854775807 : Int)) && decide ((3 : Int) ≤ (9223372036854775807 : Int)))
         (.ite (t == (5 : Int))
          (.ite (decide ((-9223372036854775808 : Int) ≤ a) && decide (a ≤ (9223372036854775807 : Int)) && decide ((4611686018427387904 : Int) ≤ (9223372036854775807 : Int)))
           (.ite (IntKind.i64.wrap ((10 : Int) + pick w (3 : Int)) != (7 : Int))
            (.ite (IntKind.i64.wrap ((10 : Int) + pick w (3 : Int)) == (2 : Int))
             (.ret (.agg #[.int .i64 (IntKind.i64.wrap ((10 : Int) + pick w (3 : Int))), .int .i64 (0), .int .i64 (0), .int .i64 (0), .int .i64 (0)]))
             (.ite (IntKind.i64.wrap ((10 : Int) + pick w (3 : Int)) == (6 : Int))
              (.ret (.agg #[.int .i64 (IntKind.i64.wrap ((10 : Int) + pick w (3 : Int))), .int .i64 (0), .int .i64 (0), .int .i64 (0), .int .i64 (0)]))
              (.ite (IntKind.i64.wrap ((10 : Int) + pick w (3 : Int)) == (11 : Int))
               (.ret (.agg #[.int .i64 (IntKind.i64.wrap ((10 : Int) + pick w (3 : Int))), .int .i64 (0), .int .i64 (0), .int .i64 (0), .int .i64 (0)]))
               (.ite (IntKind.i64.wrap ((10 : Int) + pick w (3 : Int)) == (12 : Int))
                (.ret (.agg #[.int .i64 (IntKind.i64.wrap ((10 : Int) + pick w (3 : Int))), .int .i64 (0), .int .i64 (0), .int .i64 (0), .int .i64 (0)]))
                (.ite (IntKind.i64.wrap ((10 : Int) + pick w (3 : Int)) == (15 : Int))
                 (.ret (.agg #[.int .i64 (IntKind.i64.wrap ((10 : Int) + pick w (3 : Int))), .int .i64 (0), .int .i64 (0), .int .i64 (0), .int .i64 (0)]))
                 (.ret (.agg #[.int .i64 (IntKind.i64.wrap ((10 : Int) + pick w (3 : Int))), .int .i64 (IntKind.i64.wrap (pick a (4611686018427387904 : Int) + IntKind.i64.wrap (↑(BitVec.ofInt IntKind.i64.bits b &&& BitVec.ofInt IntKind.i64.bits (1 : Int)).toNat : Int))), .int .i64 (0), .int .i64 (0), .int .i64 (0)])))))))
            (.ite (IntKind.i64.wrap ((10 : Int) + pick w (3 : Int)) == (2 : Int))
             (.ret (.agg #[.int .i64 (IntKind.i64.wrap ((10 : Int) + pick w (3 : Int))), .int .i64 (0), .int .i64 (b), .int .i64 (0), .int .i64 (0)]))
             (.ite (IntKind.i64.wrap ((10 : Int) + pick w (3 : Int)) == (6 : Int))
              (.ret (.agg #[.int .i64 (IntKind.i64.wrap ((10 : Int) + pick w (3 : Int))), .int .i64 (0), .int .i64 (b), .int .i64 (0), .int .i64 (0)]))
              (.ite (IntKind.i64.wrap ((10 : Int) + pick w (3 : Int)) == (11 : Int))
               (.ret (.agg #[.int .i64 (IntKind.i64.wrap ((10 : Int) + pick w (3 : Int))), .int .i64 (0), .int .i64 (b), .int .i64 (0), .int .i64 (0)]))
               (.ite (IntKind.i64.wrap ((10 : Int) + pick w (3 : Int)) == (12 : Int))
                (.ret (.agg #[.int .i64 (IntKind.i64.wrap ((10 : Int) + pick w (3 : Int))), .int .i64 (0), .int .i64 (b), .int .i64 (0), .int .i64 (0)]))
                (.ite (IntKind.i64.wrap ((10 : Int) + pick w (3 : Int)) == (15 : Int))
                 (.ret (.agg #[.int .i64 (IntKind.i64.wrap ((10 : Int) + pick w (3 : Int))), .int .i64 (0), .int .i64 (b), .int .i64 (0), .int .i64 (0)]))
                 (.ret (.agg #[.int .i64 (IntKind.i64.wrap ((10 : Int) + pick w (3 : Int))), .int .i64 (IntKind.i64.wrap (pick a (4611686018427387904 : Int) + IntKind.i64.wrap (↑(BitVec.ofInt IntKind.i64.bits b &&& BitVec.ofInt IntKind.i64.bits (1 : Int)).toNat : Int))), .int .i64 (b), .int .i64 (0), .int .i64 (0)]))))))))
           (.fail))
          (.ite (IntKind.i64.wrap ((10 : Int) + pick w (3 : Int)) != (7 : Int))
           (.ite (IntKind.i64.wrap ((10 : Int) + pick w (3 : Int)) == (2 : Int))
            (.ret (.agg #[.int .i64 (IntKind.i64.wrap ((10 : Int) + pick w (3 : Int))), .int .i64 (0), .int .i64 (0), .int .i64 (0), .int .i64 (0)]))
            (.ite (IntKind.i64.wrap ((10 : Int) + pick w (3 : Int)) == (6 : Int))
             (.ret (.agg #[.int .i64 (IntKind.i64.wrap ((10 : Int) + pick w (3 : Int))), .int .i64 (0), .int .i64 (0), .int .i64 (0), .int .i64 (0)]))
             (.ite (IntKind.i64.wrap ((10 : Int) + pick w (3 : Int)) == (11 : Int))
              (.ret (.agg #[.int .i64 (IntKind.i64.wrap ((10 : Int) + pick w (3 : Int))), .int .i64 (0), .int .i64 (0), .int .i64 (0), .int .i64 (0)]))
              (.ite (IntKind.i64.wrap ((10 : Int) + pick w (3 : Int)) == (12 : Int))
               (.ret (.agg #[.int .i64 (IntKind.i64.wrap ((10 : Int) + pick w (3 : Int))), .int .i64 (0), .int .i64 (0), .int .i64 (0), .int .i64 (0)]))
               (.ite (IntKind.i64.wrap ((10 : Int) + pick w (3 : Int)) == (15 : Int))
                (.ret (.agg #[.int .i64 (IntKind.i64.wrap ((10 : Int) + pick w (3 : Int))), .int .i64 (0), .int .i64 (0), .int .i64 (0), .int .i64 (0)]))
                (.ret (.agg #[.int .i64 (IntKind.i64.wrap ((10 : Int) + pick w (3 : Int))), .int .i64 (a), .int .i64 (0), .int .i64 (0), .int .i64 (0)])))))))
           (.ite (IntKind.i64.wrap ((10 : Int) + pick w (3 : Int)) == (2 : Int))
            (.ret (.agg #[.int .i64 (IntKind.i64.wrap ((10 : Int) + pick w (3 : Int))), .int .i64 (0), .int .i64 (b), .int .i64 (0), .int .i64 (0)]))
            (.ite (IntKind.i64.wrap ((10 : Int) + pick w (3 : Int)) == (6 : Int))
             (.ret (.agg #[.int .i64 (IntKind.i64.wrap ((10 : Int) + pick w (3 : Int))), .int .i64 (0), .int .i64 (b), .int .i64 (0), .int .i64 (0)]))
             (.ite (IntKind.i64.wrap ((10 : Int) + pick w (3 : Int)) == (11 : Int))
              (.ret (.agg #[.int .i64 (IntKind.i64.wrap ((10 : Int) + pick w (3 : Int))), .int .i64 (0), .int .i64 (b), .int .i64 (0), .int .i64 (0)]))
              (.ite (IntKind.i64.wrap ((10 : Int) + pick w (3 : Int)) == (12 : Int))
               (.ret (.agg #[.int .i64 (IntKind.i64.wrap ((10 : Int) + pick w (3 : Int))), .int .i64 (0), .int .i64 (b), .int .i64 (0), .int .i64 (0)]))
               (.ite (IntKind.i64.wrap ((10 : Int) + pick w (3 : Int)) == (15 : Int))
                (.ret (.agg #[.int .i64 (IntKind.i64.wrap ((10 : Int) + pick w (3 : Int))), .int .i64 (0), .int .i64 (b), .int .i64 (0), .int .i64 (0)]))
                (.ret (.agg #[.int .i64 (IntKind.i64.wrap ((10 : Int) + pick w (3 : Int))), .int .i64 (a), .int .i64 (b), .int .i64 (0), .int .i64 (0)])))))))))
         (.fail))
        (.ite (t == (5 : Int))
         (.ite (decide ((-9223372036854775808 : Int) ≤ w) && decide (w ≤ (9223372036854775807 : Int)) && decide ((3 : Int) ≤ (9223372036854775807 : Int)))
          (.ite (t == (5 : Int))
           (.ite (decide ((-9223372036854775808 : Int) ≤ a) && decide (a ≤ (9223372036854775807 : Int)) && decide ((4611686018427387904 : Int) ≤ (9223372036854775807 : Int)))
            (.ite (IntKind.i64.wrap ((13 : Int) + pick w (3 : Int)) != (7 : Int))
             (.ite (IntKind.i64.wrap ((13 : Int) + pick w (3 : Int)) == (2 : Int))
              (.ret (.agg #[.int .i64 (IntKind.i64.wrap ((13 : Int) + pick w (3 : Int))), .int .i64 (0), .int .i64 (0), .int .i64 (0), .int .i64 (0)]))
              (.ite (IntKind.i64.wrap ((13 : Int) + pick w (3 : Int)) == (6 : Int))
               (.ret (.agg #[.int .i64 (IntKind.i64.wrap ((13 : Int) + pick w (3 : Int))), .int .i64 (0), .int .i64 (0), .int .i64 (0), .int .i64 (0)]))
               (.ite (IntKind.i64.wrap ((13 : Int) + pick w (3 : Int)) == (11 : Int))
                (.ret (.agg #[.int .i64 (IntKind.i64.wrap ((13 : Int) + pick w (3 : Int))), .int .i64 (0), .int .i64 (0), .int .i64 (0), .int .i64 (0)]))
                (.ite (IntKind.i64.wrap ((13 : Int) + pick w (3 : Int)) == (12 : Int))
                 (.ret (.agg #[.int .i64 (IntKind.i64.wrap ((13 : Int) + pick w (3 : Int))), .int .i64 (0), .int .i64 (0), .int .i64 (0), .int .i64 (0)]))
                 (.ite (IntKind.i64.wrap ((13 : Int) + pick w (3 : Int)) == (15 : Int))
                  (.ret (.agg #[.int .i64 (IntKind.i64.wrap ((13 : Int) + pick w (3 : Int))), .int .i64 (0), .int .i64 (0), .int .i64 (0), .int .i64 (0)]))
                  (.ret (.agg #[.int .i64 (IntKind.i64.wrap ((13 : Int) + pick w (3 : Int))), .int .i64 (IntKind.i64.wrap (pick a (4611686018427387904 : Int) + IntKind.i64.wrap (↑(BitVec.ofInt IntKind.i64.bits b &&& BitVec.ofInt IntKind.i64.bits (1 : Int)).toNat : Int))), .int .i64 (0), .int .i64 (0), .int .i64 (0)])))))))
             (.ite (IntKind.i64.wrap ((13 : Int) + pick w (3 : Int)) == (2 : Int))
              (.ret (.agg #[.int .i64 (IntKind.i64.wrap ((13 : Int) + pick w (3 : Int))), .int .i64 (0), .int .i64 (b), .int .i64 (0), .int .i64 (0)]))
              (.ite (IntKind.i64.wrap ((13 : Int) + pick w (3 : Int)) == (6 : Int))
               (.ret (.agg #[.int .i64 (IntKind.i64.wrap ((13 : Int) + pick w (3 : Int))), .int .i64 (0), .int .i64 (b), .int .i64 (0), .int .i64 (0)]))
               (.ite (IntKind.i64.wrap ((13 : Int) + pick w (3 : Int)) == (11 : Int))
                (.ret (.agg #[.int .i64 (IntKind.i64.wrap ((13 : Int) + pick w (3 : Int))), .int .i64 (0), .int .i64 (b), .int .i64 (0), .int .i64 (0)]))
                (.ite (IntKind.i64.wrap ((13 : Int) + pick w (3 : Int)) == (12 : Int))
                 (.ret (.agg #[.int .i64 (IntKind.i64.wrap ((13 : Int) + pick w (3 : Int))), .int .i64 (0), .int .i64 (b), .int .i64 (0), .int .i64 (0)]))
                 (.ite (IntKind.i64.wrap ((13 : Int) + pick w (3 : Int)) == (15 : Int))
                  (.ret (.agg #[.int .i64 (IntKind.i64.wrap ((13 : Int) + pick w (3 : Int))), .int .i64 (0), .int .i64 (b), .int .i64 (0), .int .i64 (0)]))
                  (.ret (.agg #[.int .i64 (IntKind.i64.wrap ((13 : Int) + pick w (3 : Int))), .int .i64 (IntKind.i64.wrap (pick a (4611686018427387904 : Int) + IntKind.i64.wrap (↑(BitVec.ofInt IntKind.i64.bits b &&& BitVec.ofInt IntKind.i64.bits (1 : Int)).toNat : Int))), .int .i64 (b), .int .i64 (0), .int .i64 (0)]))))))))
            (.fail))
           .fail)
          (.fail))
         (.ite (decide ((-9223372036854775808 : Int) ≤ w) && decide (w ≤ (9223372036854775807 : Int)) && decide ((2 : Int) ≤ (9223372036854775807 : Int)))
          (.ite (t == (5 : Int)) .fail
           (.ite (IntKind.i64.wrap ((1 : Int) + pick w (2 : Int)) != (7 : Int))
            (.ite (IntKind.i64.wrap ((1 : Int) + pick w (2 : Int)) == (2 : Int))
             (.ret (.agg #[.int .i64 (IntKind.i64.wrap ((1 : Int) + pick w (2 : Int))), .int .i64 (0), .int .i64 (0), .int .i64 (0), .int .i64 (0)]))
             (.ite (IntKind.i64.wrap ((1 : Int) + pick w (2 : Int)) == (6 : Int))
              (.ret (.agg #[.int .i64 (IntKind.i64.wrap ((1 : Int) + pick w (2 : Int))), .int .i64 (0), .int .i64 (0), .int .i64 (0), .int .i64 (0)]))
              (.ite (IntKind.i64.wrap ((1 : Int) + pick w (2 : Int)) == (11 : Int))
               (.ret (.agg #[.int .i64 (IntKind.i64.wrap ((1 : Int) + pick w (2 : Int))), .int .i64 (0), .int .i64 (0), .int .i64 (0), .int .i64 (0)]))
               (.ite (IntKind.i64.wrap ((1 : Int) + pick w (2 : Int)) == (12 : Int))
                (.ret (.agg #[.int .i64 (IntKind.i64.wrap ((1 : Int) + pick w (2 : Int))), .int .i64 (0), .int .i64 (0), .int .i64 (0), .int .i64 (0)]))
                (.ite (IntKind.i64.wrap ((1 : Int) + pick w (2 : Int)) == (15 : Int))
                 (.ret (.agg #[.int .i64 (IntKind.i64.wrap ((1 : Int) + pick w (2 : Int))), .int .i64 (0), .int .i64 (0), .int .i64 (0), .int .i64 (0)]))
                 (.ret (.agg #[.int .i64 (IntKind.i64.wrap ((1 : Int) + pick w (2 : Int))), .int .i64 (a), .int .i64 (0), .int .i64 (0), .int .i64 (0)])))))))
            (.ite (IntKind.i64.wrap ((1 : Int) + pick w (2 : Int)) == (2 : Int))
             (.ret (.agg #[.int .i64 (IntKind.i64.wrap ((1 : Int) + pick w (2 : Int))), .int .i64 (0), .int .i64 (b), .int .i64 (0), .int .i64 (0)]))
             (.ite (IntKind.i64.wrap ((1 : Int) + pick w (2 : Int)) == (6 : Int))
              (.ret (.agg #[.int .i64 (IntKind.i64.wrap ((1 : Int) + pick w (2 : Int))), .int .i64 (0), .int .i64 (b), .int .i64 (0), .int .i64 (0)]))
              (.ite (IntKind.i64.wrap ((1 : Int) + pick w (2 : Int)) == (11 : Int))
               (.ret (.agg #[.int .i64 (IntKind.i64.wrap ((1 : Int) + pick w (2 : Int))), .int .i64 (0), .int .i64 (b), .int .i64 (0), .int .i64 (0)]))
               (.ite (IntKind.i64.wrap ((1 : Int) + pick w (2 : Int)) == (12 : Int))
                (.ret (.agg #[.int .i64 (IntKind.i64.wrap ((1 : Int) + pick w (2 : Int))), .int .i64 (0), .int .i64 (b), .int .i64 (0), .int .i64 (0)]))
                (.ite (IntKind.i64.wrap ((1 : Int) + pick w (2 : Int)) == (15 : Int))
                 (.ret (.agg #[.int .i64 (IntKind.i64.wrap ((1 : Int) + pick w (2 : Int))), .int .i64 (0), .int .i64 (b), .int .i64 (0), .int .i64 (0)]))
                 (.ret (.agg #[.int .i64 (IntKind.i64.wrap ((1 : Int) + pick w (2 : Int))), .int .i64 (a), .int .i64 (b), .int .i64 (0), .int .i64 (0)])))))))))
          (.fail)))))) := by kernel_rfl

/- MchE -/
def NoneIf (x : Ans) : Prop := x.e ≠ 0 → x.s = ⟨0, 0, []⟩ ∧ x.r = ⟨0, 0⟩
theorem noneIf_bad (e : Int) : NoneIf (bad e) := fun _ => ⟨rfl, rfl⟩
theorem noneIf_ok (s : DState) (r : DRet) : NoneIf ⟨s, r, 0⟩ := fun h => absurd rfl h
theorem noneIf_ite {p : Prop} [Decidable p] {x y : Ans} (h1 : NoneIf x) (h2 : NoneIf y) : NoneIf (if p then x else y) := by split <;> assumption
theorem ctr_none (t n : Int) (l : List Int) (k a b : Int) : NoneIf (Ctr.ctrA t n l k a b) := by
  unfold Ctr.ctrA
  repeat' (first | exact noneIf_bad _ | exact noneIf_ok _ _ | apply noneIf_ite)
theorem set_none (t n : Int) (l : List Int) (k a b : Int) : NoneIf (Set.setA t n l k a b) := by
  unfold Set.setA
  repeat' (first | exact noneIf_bad _ | exact noneIf_ok _ _ | apply noneIf_ite)
theorem map_none (t n : Int) (l : List Int) (k a b : Int) : NoneIf (Map.mapA t n l k a b) := by
  unfold Map.mapA
  repeat' (first | exact noneIf_bad _ | exact noneIf_ok _ _ | apply noneIf_ite)
theorem fif_none (t n : Int) (l : List Int) (k a b : Int) : NoneIf (Fif.fifoA t n l k a b) := by
  unfold Fif.fifoA
  repeat' (first | exact noneIf_bad _ | exact noneIf_ok _ _ | apply noneIf_ite)
  cases l <;> exact noneIf_ok _ _
theorem esc_none (t n : Int) (l : List Int) (k a b : Int) : NoneIf (Esc.escA t n l k a b) := by
  unfold Esc.escA
  repeat' (first | exact noneIf_bad _ | exact noneIf_ok _ _ | apply noneIf_ite)
theorem mach_bad (t n : Int) (l : List Int) (k a b : Int) : NoneIf (machA t n l k a b) := by
  unfold machA
  exact noneIf_ite (ctr_none _ _ _ _ _ _) (noneIf_ite (set_none _ _ _ _ _ _) (noneIf_ite (map_none _ _ _ _ _ _) (noneIf_ite (fif_none _ _ _ _ _ _) (noneIf_ite (esc_none _ _ _ _ _ _) (noneIf_bad _)))))

/- MchF -/
def legB (x : Ans) (rk rn : Int) : Bool := x.e == 0 && (x.r.kind == rk && x.r.n == rn)
def legV (x : Ans) (rk rn : Int) : CV := .tuple #[.agg #[.int .i64 x.s.type, .int .i64 x.s.n, .pl .ints x.s.l], .bool (legB x rk rn), .int .i64 x.e]
def legG : List CV → T CV
  | [.agg ⟨[.int .i64 t, .int .i64 n, .pl .ints l]⟩, .agg ⟨[.int .i64 k, .int .i64 a, .int .i64 b, .int .i64 rk, .int .i64 rn]⟩] => T.when (machB l a b) (.ret (legV (machA t n l k a b) rk rn))
  | _ => .fail
theorem legal_fn : PureFn Try.prog 12 (sigExt [sgS] legG) :=
  pureFn_mk (bodied_ex (by kernel_rfl)) fun args d h => by
    unfold legG at h
    split at h
    · rename_i t n l k a b rk rn
      obtain ⟨hc, h1⟩ := ev_when h
      cases ev_ret h1
      refine pureAtS plainN mixedN mchE_ok noL (k := 30) sgA (mLegal_tree t n l k a b rk rn) ?_
      simp only [legV, legB]
      generalize machA t n l k a b = x at *
      by_cases he : x.e = 0
      · simp only [sat_ite, sat_ret, sat_fail, hc, he, beq_self_eq_true, decide_true, Bool.and_true, Bool.true_and, true_implies, Bool.true_eq_false, false_implies, and_true, true_and]
        exact ⟨rfl, rfl⟩
      · have he' : (x.e == 0) = false := by rw [beq_eq_false_iff_ne]; exact he
        simp only [sat_ite, sat_ret, sat_fail, hc, he', Bool.false_and, true_implies, Bool.true_eq_false, Bool.false_eq_true, false_implies, and_true, true_and]
        exact ⟨rfl, rfl⟩
    · exact (ev_fail h).elim
theorem rlegal_fn : PureFn Try.prog 13 (sigExt [sgS] legG) :=
  pureFn_mk (bodied_ex (by kernel_rfl)) fun args d h => by
    unfold legG at h
    split at h
    · rename_i t n l k a b rk rn
      obtain ⟨hc, h1⟩ := ev_when h
      cases ev_ret h1
      refine pureAtS plainN mixedN mchE_ok noL (k := 30) sgA (rmLegal_tree t n l k a b rk rn) ?_
      have hb := mach_bad t n l k a b
      simp only [legV, legB]
      generalize machA t n l k a b = x at *
      by_cases he : x.e = 0
      · have he' : (x.e != 0) = false := by rw [bne_eq_false_iff_eq]; exact he
        simp only [sat_ite, sat_ret, sat_fail, hc, he', he, bne_self_eq_false, beq_self_eq_true, decide_true, Bool.and_true, Bool.true_and, true_implies, Bool.true_eq_false, Bool.false_eq_true, false_implies, and_true, true_and]
        exact ⟨rfl, rfl⟩
      · have he' : (x.e != 0) = true := by rw [bne_iff_ne]; exact he
        have he2 : (x.e == 0) = false := by rw [beq_eq_false_iff_ne]; exact he
        obtain ⟨b1, b2⟩ := hb he
        simp only [sat_ite, sat_ret, sat_fail, hc, he', he2, b1, b2, Bool.false_and, true_implies, Bool.true_eq_false, Bool.false_eq_true, false_implies, and_true, true_and]
        exact ⟨rfl, rfl⟩
    · exact (ev_fail h).elim

theorem wc1 : IntKind.i64.wrap 1 = 1 := by decide
theorem wc2 : IntKind.i64.wrap 2 = 2 := by decide
theorem wc3 : IntKind.i64.wrap 3 = 3 := by decide
theorem wc4 : IntKind.i64.wrap 4 = 4 := by decide
theorem wc5 : IntKind.i64.wrap 5 = 5 := by decide
theorem wc6 : IntKind.i64.wrap 6 = 6 := by decide
theorem wc7 : IntKind.i64.wrap 7 = 7 := by decide
theorem wc8 : IntKind.i64.wrap 8 = 8 := by decide
theorem wc9 : IntKind.i64.wrap 9 = 9 := by decide
theorem wc10 : IntKind.i64.wrap 10 = 10 := by decide
theorem wc11 : IntKind.i64.wrap 11 = 11 := by decide
theorem wc12 : IntKind.i64.wrap 12 = 12 := by decide
theorem wc13 : IntKind.i64.wrap 13 = 13 := by decide
theorem wc14 : IntKind.i64.wrap 14 = 14 := by decide
theorem wc15 : IntKind.i64.wrap 15 = 15 := by decide
def lowBit (b : Int) : Int := ((BitVec.ofInt IntKind.i64.bits b &&& BitVec.ofInt IntKind.i64.bits (1 : Int)).toNat : Int)
theorem lowBit_range (b : Int) : 0 ≤ lowBit b ∧ lowBit b ≤ 1 := by
  unfold lowBit
  rw [BitVec.toNat_and]
  have h1 : (BitVec.ofInt IntKind.i64.bits (1 : Int)).toNat = 1 := by decide
  rw [h1, Nat.and_one_is_mod]
  omega
def firstA (t : Int) : Int × Int := if t = 2 then (3, 4) else if t = 3 then (7, 3) else if t = 4 then (10, 3) else if t = 5 then (13, 3) else (1, 2)
def mayK (t w : Int) : Int := (firstA t).1 + pick w (firstA t).2
def mayX (t w a b : Int) : Int := if mayK t w = 2 ∨ mayK t w = 6 ∨ mayK t w = 11 ∨ mayK t w = 12 ∨ mayK t w = 15 then 0 else if t = 5 then pick a 4611686018427387904 + lowBit b else a
def mayY (t w b : Int) : Int := if mayK t w = 7 then b else 0
def mayG : List CV → T CV
  | [.int .i64 t, .int .i64 w, .int .i64 a, .int .i64 b] => T.when (Ctr.inI64 w && Ctr.inI64 a) (.ret (.agg #[.int .i64 (mayK t w), .int .i64 (mayX t w a b), .int .i64 (mayY t w b), .int .i64 0, .int .i64 0]))
  | _ => .fail
set_option maxHeartbeats 4000000 in
theorem may_fn : PureFn Try.prog 26 mayG :=
  ⟨bodied_ex (by kernel_rfl), fun args d h => by
    unfold mayG at h
    split at h
    · rename_i t w a b
      obtain ⟨hc, h1⟩ := ev_when h
      cases ev_ret h1
      simp only [Bool.and_eq_true, Ctr.inI64, decide_eq_true_eq] at hc
      obtain ⟨⟨c1, c2⟩, c3, c4⟩ := hc
      refine pureAt0 plainN mixedN pickE_ok noL (k := 30) ((may_tree t w a b).trans ?_) rfl
      have p4 := pick_range w (n := 4) (by omega)
      have p3 := pick_range w (n := 3) (by omega)
      have p2 := pick_range w (n := 2) (by omega)
      have pc := pick_range a (n := 4611686018427387904) (by omega)
      have hb := lowBit_range b
      have hw1 : IntKind.i64.wrap (↑(BitVec.ofInt IntKind.i64.bits b &&& BitVec.ofInt IntKind.i64.bits (1 : Int)).toNat : Int) = lowBit b := wrap64 (show _ ≤ lowBit b by omega) (show lowBit b ≤ _ by omega)
      have hw2 : IntKind.i64.wrap (pick a 4611686018427387904 + lowBit b) = pick a 4611686018427387904 + lowBit b := wrap64 (by omega) (by omega)
      rw [hw1, hw2]
      by_cases h2 : t = 2
      · subst h2
        obtain hp | hp | hp | hp : pick w 4 = 0 ∨ pick w 4 = 1 ∨ pick w 4 = 2 ∨ pick w 4 = 3 := by omega
        all_goals simp [T.ev_ite, T.ev_ret, mayX, mayY, mayK, firstA, hp, c1, c2, c3, c4, wc1, wc2, wc3, wc4, wc5, wc6, wc7, wc8, wc9, wc10, wc11, wc12, wc13, wc14, wc15]
      · by_cases h3 : t = 3
        · subst h3
          obtain hp | hp | hp : pick w 3 = 0 ∨ pick w 3 = 1 ∨ pick w 3 = 2 := by omega
          all_goals simp [T.ev_ite, T.ev_ret, mayX, mayY, mayK, firstA, hp, c1, c2, c3, c4, wc1, wc2, wc3, wc4, wc5, wc6, wc7, wc8, wc9, wc10, wc11, wc12, wc13, wc14, wc15]
        · by_cases h4 : t = 4
          · subst h4
            obtain hp | hp | hp : pick w 3 = 0 ∨ pick w 3 = 1 ∨ pick w 3 = 2 := by omega
            all_goals simp [T.ev_ite, T.ev_ret, mayX, mayY, mayK, firstA, hp, c1, c2, c3, c4, wc1, wc2, wc3, wc4, wc5, wc6, wc7, wc8, wc9, wc10, wc11, wc12, wc13, wc14, wc15]
          · by_cases h5 : t = 5
            · subst h5
              obtain hp | hp | hp : pick w 3 = 0 ∨ pick w 3 = 1 ∨ pick w 3 = 2 := by omega
              all_goals simp [T.ev_ite, T.ev_ret, mayX, mayY, mayK, firstA, hp, c1, c2, c3, c4, wc1, wc2, wc3, wc4, wc5, wc6, wc7, wc8, wc9, wc10, wc11, wc12, wc13, wc14, wc15]
            · obtain hp | hp : pick w 2 = 0 ∨ pick w 2 = 1 := by omega
              all_goals simp [T.ev_ite, T.ev_ret, mayX, mayY, mayK, firstA, h2, h3, h4, h5, hp, c1, c2, c3, c4, wc1, wc2, wc3, wc4, wc5, wc6, wc7, wc8, wc9, wc10, wc11, wc12, wc13, wc14, wc15]
    · exact (ev_fail h).elim⟩
def opE : List (Nat × ExtFn) := [(12, pureExt (sigExt [sgS] legG)), (13, pureExt (sigExt [sgS] legG)), (26, pureExt mayG)] ++ (mchE ++ (pickE ++ kitE))
theorem opE_ok (N : Nat) : ExtsOk Try.prog N opE :=
  extsOk_cons (extOk_pure legal_fn) (extsOk_cons (extOk_pure rlegal_fn) (extsOk_cons (extOk_pure may_fn) (exts_append (E := mchE) (E' := pickE ++ kitE) (mchE_ok N) (exts_append (E := pickE) (E' := kitE) (pickE_ok N) (kitE_ok N)))))

end Go.Proofs.YtcomfanipljolaaD
