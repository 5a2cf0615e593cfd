/-
  Chapter 11: the references' Apply and Legal, their answers in new memory.
-/
import Derived.Test.YtcomfanipljolaaMchKN
set_option linter.unusedVariables false
set_option linter.unusedSimpArgs false
namespace Go.Proofs.YtcomfanipljolaaD
open Go Go.RowKit

/- MchR -/
set_option maxRecDepth 100000 in
theorem rwithN_tree (l : List Int) (x : Int) : ((((tden Try.prog [] Set.setL 30).call 0 52 [.pl .ints l, .int .i64 x] ⟨.nil, 0⟩).fresh (.l .ints)).cut
    (.ite (.ite (.ite (.all) (.all)) (.all)) (.all))).ev = T.ev (α := CV) (
     .ite ((0 : Int) == (0 : Int) && l.length.ble (400000000 : Nat))
      (.ite (!(Set.withR false l x).fst)
       (.ite (roomB ((Set.withR false l x).snd.length + [x].length) (8 : Nat))
        (.ret (.pl .ints ((Set.withR false l x).snd ++ [x])))
        (.fail))
       (.ret (.pl .ints ((Set.withR false l x).snd))))
      (.fail)) := by kernel_rfl
set_option maxRecDepth 100000 in
theorem rlessN_tree (l : List Int) (x : Int) : ((((tden Try.prog [] Set.setL 30).call 0 54 [.pl .ints l, .int .i64 x] ⟨.nil, 0⟩).fresh (.l .ints)).cut
    (.ite (.all) (.all))).ev = T.ev (α := CV) (
     .ite ((0 : Int) == (0 : Int) && small l.length)
      (.ret (.pl .ints (Set.lessN l x)))
      (.fail)) := by kernel_rfl
set_option maxRecDepth 100000 in
theorem rdropN_tree (l : List Int) (x : Int) : ((((tden Try.prog [] Map.refL 30).call 0 56 [.pl .ints l, .int .i64 x] ⟨.nil, 0⟩).fresh (.l .ints)).cut
    (.ite (.all) (.all))).ev = T.ev (α := CV) (
     .ite ((0 : Int) == (0 : Int) && small l.length)
      (.ret (.pl .ints (Map.dropP l x)))
      (.fail)) := by kernel_rfl
set_option maxRecDepth 100000 in
theorem rmsetN_tree (l : List Int) (x y : Int) : ((((tden Try.prog Map.drpE Map.setL 30).call 0 55 [.pl .ints l, .int .i64 x, .int .i64 y] ⟨.nil, 0⟩).fresh (.l .ints)).cut
    (.ite (.ite (.ite (.ite (.yes (.yes (.yes (.yes (.ite (.all) (.all)))))) (.all)) (.all)) (.all)) (.all))).ev = T.ev (α := CV) (
     .ite (small l.length)
      (.ite ((0 : Int) == (0 : Int) && small (Map.dropP l x).length)
       (.ite (roomB ((List.take (Map.rsP (Map.dropP l x) x) (Map.dropP l x)).length + [x, y].length) (8 : Nat))
        (.ite (decide ((0 : Int) ≤ (↑(Map.rsP (Map.dropP l x) x) : Int)) && decide ((↑(Map.rsP (Map.dropP l x) x) : Int) ≤ (↑(hi0 (Map.dropP l x).length none) : Int)))
         (.ite (decide ((0 : Int) ≤ (↑(Map.rsP (Map.dropP l x) x) : Int)) && decide ((↑(Map.rsP (Map.dropP l x) x) : Int) ≤ (↑(hi0 (Map.dropP l x).length none) : Int)))
          (.ite (decide (lpart (Map.dropP l x) (some (↑(Map.rsP (Map.dropP l x) x) : Int).toNat) none = lpart (Map.dropP l x) (some (↑(Map.rsP (Map.dropP l x) x) : Int).toNat) none))
           (.ite (decide ((0 : Int) ≤ (↑(Map.rsP (Map.dropP l x) x) : Int)) && decide ((↑(Map.rsP (Map.dropP l x) x) : Int) ≤ (↑(hi0 (Map.dropP l x).length none) : Int)))
            (.ite (decide (lpart (Map.dropP l x) (some (↑(Map.rsP (Map.dropP l x) x) : Int).toNat) none = lpart (Map.dropP l x) (some (↑(Map.rsP (Map.dropP l x) x) : Int).toNat) none))
             (.ite (roomB ((List.take (Map.rsP (Map.dropP l x) x) (Map.dropP l x)).length + [x, y].length + (lpart (Map.dropP l x) (some (↑(Map.rsP (Map.dropP l x) x) : Int).toNat) none).length) (8 : Nat))
              (.ret (.pl .ints (List.take (Map.rsP (Map.dropP l x) x) (Map.dropP l x) ++ [x, y] ++ lpart (Map.dropP l x) (some (↑(Map.rsP (Map.dropP l x) x) : Int).toNat) none)))
              (.fail))
             .fail)
            .fail)
           .fail)
          .fail)
         (.fail))
        (.fail))
       (.fail))
      (.fail)) := by kernel_rfl

/- MchS -/
namespace Set
theorem rwithN_fn : FreshFn Try.prog 52 (sigExt [.l .ints] rwithG) :=
  freshFn_mk (bodied_ex (by kernel_rfl)) fun args d h => by
    unfold rwithG at h
    split at h
    · rename_i l x
      obtain ⟨hc, h1⟩ := ev_when h
      cases ev_ret h1
      refine freshAt0 plainN mixedN noE setL_ok (k := 30) ((rwithN_tree l x).trans ?_)
      have hw := withR_length l x false
      have hb : roomB ((withR false l x).2.length + [x].length) 8 = true := roomB_small (by rw [midB, Nat.ble_eq] at hc; rw [small_iff]; simp; omega) (by decide)
      have hc' : l.length.ble 400000000 = true := hc
      cases hp : (withR false l x).1 <;> simp only [T.ev_ite, T.ev_ret, hc', hb, hp, withN, beq_self_eq_true, Bool.and_self, Bool.not_true, Bool.not_false, if_true, Bool.false_eq_true, if_false]
    · exact (ev_fail h).elim
end Set

namespace Set
theorem rlessN_fn : FreshFn Try.prog 54 (sigExt [.l .ints] rlessG) :=
  freshFn_mk (bodied_ex (by kernel_rfl)) fun args d h => by
    unfold rlessG at h
    split at h
    · rename_i l x
      obtain ⟨hc, h1⟩ := ev_when h
      cases ev_ret h1
      refine freshAt0 plainN mixedN noE setL_ok (k := 30) ((rlessN_tree l x).trans ?_)
      simp [T.ev_ite, T.ev_ret, mid_small hc]
    · exact (ev_fail h).elim
end Set

namespace Map
theorem rdropN_fn : FreshFn Try.prog 56 (sigExt [.l .ints] dropG) :=
  freshFn_mk (bodied_ex (by kernel_rfl)) fun args d h => by
    unfold dropG at h
    split at h
    · rename_i l x
      obtain ⟨hc, h1⟩ := ev_when h
      cases ev_ret h1
      refine freshAt0 plainN mixedN noE refL_ok (k := 30) ((rdropN_tree l x).trans ?_)
      simp [T.ev_ite, T.ev_ret, hc]
    · exact (ev_fail h).elim
end Map

namespace Map
theorem rmsetN_fn : FreshFn Try.prog 55 (sigExt [.l .ints] setG) :=
  freshFn_mk (bodied_ex (by kernel_rfl)) fun args d h => by
    unfold setG at h
    split at h
    · rename_i l x y
      obtain ⟨hc, h1⟩ := ev_when h
      cases ev_ret h1
      have hd := dropP_length l x
      have hr := rsP_le x (dropP l x)
      have e1 : small l.length = true := small_le hc (by omega)
      have e2 : small (dropP l x).length = true := small_le hc (by omega)
      refine freshAt0 plainN mixedN drpE_ok setL_ok (k := 30) ((rmsetN_tree l x y).trans ?_)
      obtain ⟨m, hm⟩ := dropP_even x l
      rw [setP_same x y m _ hm]
      generalize dropP l x = D at *
      generalize rsP D x = p at *
      have e3 : roomB ((List.take p D).length + [x, y].length) 8 = true := roomB_small (small_le hc (by simp; omega)) (by decide)
      have e4 : roomB ((List.take p D).length + [x, y].length + (List.drop p D).length) 8 = true := roomB_small (small_le hc (by simp; omega)) (by decide)
      have e5 : (decide ((0 : Int) ≤ (p : Int)) && decide ((p : Int) ≤ ((hi0 D.length none : Nat) : Int))) = true := by
        rw [Bool.and_eq_true]; exact ⟨by rw [decide_eq_true_eq]; omega, by rw [decide_eq_true_eq]; show (p : Int) ≤ (D.length : Int); omega⟩
      simp only [T.ev_ite, lpart, Int.toNat_natCast, e1, e2, e3, e4, e5, beq_self_eq_true, Bool.and_self, if_true, decide_true]
      rfl
    · exact (ev_fail h).elim

end Map

/-- The references' lists, new. -/
def refNE : List (Nat × ExtFn) := [(52, freshExt (sigExt [.l .ints] Set.rwithG)), (54, freshExt (sigExt [.l .ints] Set.rlessG)), (56, freshExt (sigExt [.l .ints] Map.dropG)), (55, freshExt (sigExt [.l .ints] Map.setG)),
  (51, pureExt (sigExt [.l .ints] Set.rfindG)), (84, pureExt (sigExt [.l .ints] Map.findG))] ++ kitE
theorem refNE_ok (N : Nat) : ExtsOk Try.prog N refNE :=
  extsOk_cons (extOk_fresh Set.rwithN_fn) (extsOk_cons (extOk_fresh Set.rlessN_fn) (extsOk_cons (extOk_fresh Map.rdropN_fn) (extsOk_cons (extOk_fresh Map.rmsetN_fn) (extsOk_cons (extOk_pure Set.rfind_fn) (extsOk_cons (extOk_pure Map.rfind_fn) (kitE_ok N))))))

/- MchT -/
set_option maxRecDepth 100000 in
theorem rctrN_tree (t n : Int) (l : List Int) (k a b : Int) : ((((tden Try.prog kitE [] 30).call 0 31 [.agg #[.int .i64 t, .int .i64 n, .pl .ints l], .int .i64 k, .int .i64 a, .int .i64 b] ⟨.nil, 0⟩).fresh (sgA)).cut
    (.ite (.yes (.yes (.yes (.yes (.all))))) (.no (.ite (.no (.ite (.all) (.ite (.yes (.ite (.all) (.ite (.yes (.yes (.yes (.yes (.yes (.all)))))) (.no (.no (.ite (.yes (.no (.ite (.all) (.yes (.yes (.all)))))) (.no (.no (.no (.no (.no (.all)))))))))))) (.no (.no (.no (.ite (.yes (.yes (.yes (.yes (.yes (.all)))))) (.no (.no (.ite (.yes (.no (.ite (.all) (.yes (.yes (.all)))))) (.no (.no (.no (.no (.no (.all)))))))))))))))) (.all))))).ev = T.ev (α := CV) (
     .ite (t != (1 : Int))
      (.ret (.tuple #[.agg #[.int .i64 (0), .int .i64 (0), .pl .ints ([])], .agg #[.int .i64 (0), .int .i64 (0)], .int .i64 (12)]))
      (.ite (small l.length)
       (.ite (checkN t n l != (0 : Int))
        (.ret (.tuple #[.agg #[.int .i64 (0), .int .i64 (0), .pl .ints ([])], .agg #[.int .i64 (0), .int .i64 (0)], .int .i64 (12)]))
        (.ite (k != (1 : Int))
         (.ite (k != (2 : Int))
          (.ret (.tuple #[.agg #[.int .i64 (0), .int .i64 (0), .pl .ints ([])], .agg #[.int .i64 (0), .int .i64 (0)], .int .i64 (6)]))
          (.ite (b != (0 : Int))
           (.ret (.tuple #[.agg #[.int .i64 (0), .int .i64 (0), .pl .ints ([])], .agg #[.int .i64 (0), .int .i64 (0)], .int .i64 (2)]))
           (.ite (k == (2 : Int))
            (.ite (a != (0 : Int))
             (.ret (.tuple #[.agg #[.int .i64 (0), .int .i64 (0), .pl .ints ([])], .agg #[.int .i64 (0), .int .i64 (0)], .int .i64 (2)]))
             (.ite (k == (2 : Int))
              (.ite (decide (n = n))
               (.ret (.tuple #[.agg #[.int .i64 (1), .int .i64 (n), .pl .ints ([])], .agg #[.int .i64 (2), .int .i64 (n)], .int .i64 (0)]))
               .fail)
              .fail))
            (.ite (k == (2 : Int)) .fail
             (.ret (.tuple #[.agg #[.int .i64 (1), .int .i64 (IntKind.i64.wrap (IntKind.u64.wrap (IntKind.u64.wrap n + IntKind.u64.wrap a))), .pl .ints ([])], .agg #[.int .i64 (0), .int .i64 (0)], .int .i64 (0)]))))))
         (.ite (b != (0 : Int))
          (.ret (.tuple #[.agg #[.int .i64 (0), .int .i64 (0), .pl .ints ([])], .agg #[.int .i64 (0), .int .i64 (0)], .int .i64 (2)]))
          (.ite (k == (2 : Int))
           (.ite (a != (0 : Int))
            (.ret (.tuple #[.agg #[.int .i64 (0), .int .i64 (0), .pl .ints ([])], .agg #[.int .i64 (0), .int .i64 (0)], .int .i64 (2)]))
            (.ite (k == (2 : Int))
             (.ite (decide (n = n))
              (.ret (.tuple #[.agg #[.int .i64 (1), .int .i64 (n), .pl .ints ([])], .agg #[.int .i64 (2), .int .i64 (n)], .int .i64 (0)]))
              .fail)
             .fail))
           (.ite (k == (2 : Int)) .fail
            (.ret (.tuple #[.agg #[.int .i64 (1), .int .i64 (IntKind.i64.wrap (IntKind.u64.wrap (IntKind.u64.wrap n + IntKind.u64.wrap a))), .pl .ints ([])], .agg #[.int .i64 (0), .int .i64 (0)], .int .i64 (0)])))))))
       (.fail))) := by kernel_rfl
set_option maxRecDepth 100000 in
theorem rsetN_tree (t n : Int) (l : List Int) (k a b : Int) : ((((tden Try.prog refNE [] 30).call 0 32 [.agg #[.int .i64 t, .int .i64 n, .pl .ints l], .int .i64 k, .int .i64 a, .int .i64 b] ⟨.nil, 0⟩).fresh (sgA)).cut
    (.ite (.yes (.yes (.yes (.yes (.all))))) (.no (.ite (.no (.ite (.all) (.ite (.yes (.yes (.yes (.all)))) (.no (.ite (.all) (.ite (.yes (.yes (.yes (.yes (.yes (.all)))))) (.no (.no (.ite (.yes (.no (.ite (.all) (.ite (.ite (.ite (.yes (.ite (.yes (.yes (.yes (.all)))) (.yes (.yes (.yes (.all)))))) (.ite (.yes (.ite (.yes (.yes (.yes (.all)))) (.yes (.yes (.yes (.all)))))) (.ite (.ite (.yes (.yes (.yes (.all)))) (.yes (.yes (.yes (.all))))) (.yes (.yes (.all)))))) (.all)) (.all))))) (.no (.no (.no (.no (.ite (.ite (.ite (.yes (.ite (.yes (.yes (.yes (.all)))) (.yes (.yes (.yes (.all)))))) (.ite (.yes (.ite (.yes (.yes (.yes (.all)))) (.yes (.yes (.yes (.all)))))) (.ite (.ite (.yes (.yes (.yes (.all)))) (.yes (.yes (.yes (.all))))) (.yes (.yes (.all)))))) (.all)) (.all))))))))))))))) (.all))))).ev = T.ev (α := CV) (
     .ite (t != (2 : Int))
      (.ret (.tuple #[.agg #[.int .i64 (0), .int .i64 (0), .pl .ints ([])], .agg #[.int .i64 (0), .int .i64 (0)], .int .i64 (12)]))
      (.ite (small l.length)
       (.ite (checkN t n l != (0 : Int))
        (.ret (.tuple #[.agg #[.int .i64 (0), .int .i64 (0), .pl .ints ([])], .agg #[.int .i64 (0), .int .i64 (0)], .int .i64 (12)]))
        (.ite (decide (k < (3 : Int)))
         (.ret (.tuple #[.agg #[.int .i64 (0), .int .i64 (0), .pl .ints ([])], .agg #[.int .i64 (0), .int .i64 (0)], .int .i64 (6)]))
         (.ite (decide (k > (6 : Int)))
          (.ret (.tuple #[.agg #[.int .i64 (0), .int .i64 (0), .pl .ints ([])], .agg #[.int .i64 (0), .int .i64 (0)], .int .i64 (6)]))
          (.ite (b != (0 : Int))
           (.ret (.tuple #[.agg #[.int .i64 (0), .int .i64 (0), .pl .ints ([])], .agg #[.int .i64 (0), .int .i64 (0)], .int .i64 (2)]))
           (.ite (k == (6 : Int))
            (.ite (a != (0 : Int))
             (.ret (.tuple #[.agg #[.int .i64 (0), .int .i64 (0), .pl .ints ([])], .agg #[.int .i64 (0), .int .i64 (0)], .int .i64 (2)]))
             (.ite (Set.midB l)
              (.ite (roomB l.length (8 : Nat))
               (.ite (k == (3 : Int))
                (.ite (Set.midB l)
                 (.ite (!Set.hasN l a)
                  (.ite ((Set.withN l a).length.beq (Set.withN l a).length)
                   (.ret (.tuple #[.agg #[.int .i64 (2), .int .i64 (0), .pl .ints (Set.withN l a)], .agg #[.int .i64 (2), .int .i64 (1)], .int .i64 (0)]))
                   .fail)
                  (.ite ((Set.withN l a).length.beq (Set.withN l a).length)
                   (.ret (.tuple #[.agg #[.int .i64 (2), .int .i64 (0), .pl .ints (Set.withN l a)], .agg #[.int .i64 (2), .int .i64 (0)], .int .i64 (0)]))
                   .fail))
                 .fail)
                (.ite (k == (4 : Int))
                 (.ite (Set.midB l)
                  (.ite (Set.hasN l a)
                   (.ite ((Set.lessN l a).length.beq (Set.lessN l a).length)
                    (.ret (.tuple #[.agg #[.int .i64 (2), .int .i64 (0), .pl .ints (Set.lessN l a)], .agg #[.int .i64 (2), .int .i64 (1)], .int .i64 (0)]))
                    .fail)
                   (.ite ((Set.lessN l a).length.beq (Set.lessN l a).length)
                    (.ret (.tuple #[.agg #[.int .i64 (2), .int .i64 (0), .pl .ints (Set.lessN l a)], .agg #[.int .i64 (2), .int .i64 (0)], .int .i64 (0)]))
                    .fail))
                  .fail)
                 (.ite (k == (5 : Int))
                  (.ite (Set.hasN l a)
                   (.ite (l.length.beq l.length)
                    (.ret (.tuple #[.agg #[.int .i64 (2), .int .i64 (0), .pl .ints (l)], .agg #[.int .i64 (2), .int .i64 (1)], .int .i64 (0)]))
                    .fail)
                   (.ite (l.length.beq l.length)
                    (.ret (.tuple #[.agg #[.int .i64 (2), .int .i64 (0), .pl .ints (l)], .agg #[.int .i64 (2), .int .i64 (0)], .int .i64 (0)]))
                    .fail))
                  (.ite (decide ((↑l.length : Int) = (↑l.length : Int)))
                   (.ite (decide (l = l))
                    (.ret (.tuple #[.agg #[.int .i64 (2), .int .i64 (0), .pl .ints (l)], .agg #[.int .i64 (2), .int .i64 ((↑l.length : Int))], .int .i64 (0)]))
                    .fail)
                   .fail))))
               (.fail))
              (.fail)))
            (.ite (Set.midB l)
             (.ite (roomB l.length (8 : Nat))
              (.ite (k == (3 : Int))
               (.ite (Set.midB l)
                (.ite (!Set.hasN l a)
                 (.ite ((Set.withN l a).length.beq (Set.withN l a).length)
                  (.ret (.tuple #[.agg #[.int .i64 (2), .int .i64 (0), .pl .ints (Set.withN l a)], .agg #[.int .i64 (2), .int .i64 (1)], .int .i64 (0)]))
                  .fail)
                 (.ite ((Set.withN l a).length.beq (Set.withN l a).length)
                  (.ret (.tuple #[.agg #[.int .i64 (2), .int .i64 (0), .pl .ints (Set.withN l a)], .agg #[.int .i64 (2), .int .i64 (0)], .int .i64 (0)]))
                  .fail))
                .fail)
               (.ite (k == (4 : Int))
                (.ite (Set.midB l)
                 (.ite (Set.hasN l a)
                  (.ite ((Set.lessN l a).length.beq (Set.lessN l a).length)
                   (.ret (.tuple #[.agg #[.int .i64 (2), .int .i64 (0), .pl .ints (Set.lessN l a)], .agg #[.int .i64 (2), .int .i64 (1)], .int .i64 (0)]))
                   .fail)
                  (.ite ((Set.lessN l a).length.beq (Set.lessN l a).length)
                   (.ret (.tuple #[.agg #[.int .i64 (2), .int .i64 (0), .pl .ints (Set.lessN l a)], .agg #[.int .i64 (2), .int .i64 (0)], .int .i64 (0)]))
                   .fail))
                 .fail)
                (.ite (k == (5 : Int))
                 (.ite (Set.hasN l a)
                  (.ite (l.length.beq l.length)
                   (.ret (.tuple #[.agg #[.int .i64 (2), .int .i64 (0), .pl .ints (l)], .agg #[.int .i64 (2), .int .i64 (1)], .int .i64 (0)]))
                   .fail)
                  (.ite (l.length.beq l.length)
                   (.ret (.tuple #[.agg #[.int .i64 (2), .int .i64 (0), .pl .ints (l)], .agg #[.int .i64 (2), .int .i64 (0)], .int .i64 (0)]))
                   .fail))
                 (.ite (decide ((↑l.length : Int) = (↑l.length : Int)))
                  (.ite (decide (l = l))
                   (.ret (.tuple #[.agg #[.int .i64 (2), .int .i64 (0), .pl .ints (l)], .agg #[.int .i64 (2), .int .i64 ((↑l.length : Int))], .int .i64 (0)]))
                   .fail)
                  .fail))))
              (.fail))
             (.fail)))))))
       (.fail))) := by kernel_rfl
set_option maxRecDepth 100000 in
theorem rmapN_tree (t n : Int) (l : List Int) (k a b : Int) : ((((tden Try.prog refNE [] 30).call 0 33 [.agg #[.int .i64 t, .int .i64 n, .pl .ints l], .int .i64 k, .int .i64 a, .int .i64 b] ⟨.nil, 0⟩).fresh (sgA)).cut
    (.ite (.yes (.yes (.yes (.yes (.all))))) (.no (.ite (.no (.ite (.all) (.ite (.yes (.yes (.yes (.all)))) (.no (.ite (.all) (.ite (.yes (.ite (.all) (.ite (.ite (.ite (.yes (.ite (.yes (.yes (.yes (.all)))) (.yes (.yes (.yes (.all)))))) (.all)) (.ite (.yes (.yes (.ite (.yes (.yes (.yes (.all)))) (.yes (.yes (.yes (.all))))))) (.yes (.ite (.yes (.yes (.yes (.all)))) (.yes (.yes (.yes (.all)))))))) (.all)))) (.no (.no (.no (.ite (.ite (.ite (.yes (.ite (.yes (.yes (.yes (.all)))) (.yes (.yes (.yes (.all)))))) (.all)) (.ite (.yes (.yes (.ite (.yes (.yes (.yes (.all)))) (.yes (.yes (.yes (.all))))))) (.yes (.ite (.yes (.yes (.yes (.all)))) (.yes (.yes (.yes (.all)))))))) (.all))))))))))) (.all))))).ev = T.ev (α := CV) (
     .ite (t != (3 : Int))
      (.ret (.tuple #[.agg #[.int .i64 (0), .int .i64 (0), .pl .ints ([])], .agg #[.int .i64 (0), .int .i64 (0)], .int .i64 (12)]))
      (.ite (small l.length)
       (.ite (checkN t n l != (0 : Int))
        (.ret (.tuple #[.agg #[.int .i64 (0), .int .i64 (0), .pl .ints ([])], .agg #[.int .i64 (0), .int .i64 (0)], .int .i64 (12)]))
        (.ite (decide (k < (7 : Int)))
         (.ret (.tuple #[.agg #[.int .i64 (0), .int .i64 (0), .pl .ints ([])], .agg #[.int .i64 (0), .int .i64 (0)], .int .i64 (6)]))
         (.ite (decide (k > (9 : Int)))
          (.ret (.tuple #[.agg #[.int .i64 (0), .int .i64 (0), .pl .ints ([])], .agg #[.int .i64 (0), .int .i64 (0)], .int .i64 (6)]))
          (.ite (k != (7 : Int))
           (.ite (b != (0 : Int))
            (.ret (.tuple #[.agg #[.int .i64 (0), .int .i64 (0), .pl .ints ([])], .agg #[.int .i64 (0), .int .i64 (0)], .int .i64 (2)]))
            (.ite (roomB l.length (8 : Nat))
             (.ite (k == (7 : Int))
              (.ite (small (l.length + (4 : Nat)))
               (.ite (small l.length)
                (.ite (!(Map.findP l a).snd.fst)
                 (.ite ((Map.setP (Map.dropP l a) a b).length.beq (Map.setP (Map.dropP l a) a b).length)
                  (.ret (.tuple #[.agg #[.int .i64 (3), .int .i64 (0), .pl .ints (Map.setP (Map.dropP l a) a b)], .agg #[.int .i64 (1), .int .i64 (0)], .int .i64 (0)]))
                  .fail)
                 (.ite ((Map.setP (Map.dropP l a) a b).length.beq (Map.setP (Map.dropP l a) a b).length)
                  (.ret (.tuple #[.agg #[.int .i64 (3), .int .i64 (0), .pl .ints (Map.setP (Map.dropP l a) a b)], .agg #[.int .i64 (2), .int .i64 ((Map.findP l a).fst)], .int .i64 (0)]))
                  .fail))
                .fail)
               (.fail))
              (.ite (k == (9 : Int))
               (.ite (small l.length)
                (.ite (small l.length)
                 (.ite (!(Map.findP l a).snd.fst)
                  (.ite ((Map.dropP l a).length.beq (Map.dropP l a).length)
                   (.ret (.tuple #[.agg #[.int .i64 (3), .int .i64 (0), .pl .ints (Map.dropP l a)], .agg #[.int .i64 (1), .int .i64 (0)], .int .i64 (0)]))
                   .fail)
                  (.ite ((Map.dropP l a).length.beq (Map.dropP l a).length)
                   (.ret (.tuple #[.agg #[.int .i64 (3), .int .i64 (0), .pl .ints (Map.dropP l a)], .agg #[.int .i64 (2), .int .i64 ((Map.findP l a).fst)], .int .i64 (0)]))
                   .fail))
                 .fail)
                .fail)
               (.ite (small l.length)
                (.ite (!(Map.findP l a).snd.fst)
                 (.ite (l.length.beq l.length)
                  (.ret (.tuple #[.agg #[.int .i64 (3), .int .i64 (0), .pl .ints (l)], .agg #[.int .i64 (1), .int .i64 (0)], .int .i64 (0)]))
                  .fail)
                 (.ite (l.length.beq l.length)
                  (.ret (.tuple #[.agg #[.int .i64 (3), .int .i64 (0), .pl .ints (l)], .agg #[.int .i64 (2), .int .i64 ((Map.findP l a).fst)], .int .i64 (0)]))
                  .fail))
                .fail)))
             (.fail)))
           (.ite (roomB l.length (8 : Nat))
            (.ite (k == (7 : Int))
             (.ite (small (l.length + (4 : Nat)))
              (.ite (small l.length)
               (.ite (!(Map.findP l a).snd.fst)
                (.ite ((Map.setP (Map.dropP l a) a b).length.beq (Map.setP (Map.dropP l a) a b).length)
                 (.ret (.tuple #[.agg #[.int .i64 (3), .int .i64 (0), .pl .ints (Map.setP (Map.dropP l a) a b)], .agg #[.int .i64 (1), .int .i64 (0)], .int .i64 (0)]))
                 .fail)
                (.ite ((Map.setP (Map.dropP l a) a b).length.beq (Map.setP (Map.dropP l a) a b).length)
                 (.ret (.tuple #[.agg #[.int .i64 (3), .int .i64 (0), .pl .ints (Map.setP (Map.dropP l a) a b)], .agg #[.int .i64 (2), .int .i64 ((Map.findP l a).fst)], .int .i64 (0)]))
                 .fail))
               .fail)
              (.fail))
             (.ite (k == (9 : Int))
              (.ite (small l.length)
               (.ite (small l.length)
                (.ite (!(Map.findP l a).snd.fst)
                 (.ite ((Map.dropP l a).length.beq (Map.dropP l a).length)
                  (.ret (.tuple #[.agg #[.int .i64 (3), .int .i64 (0), .pl .ints (Map.dropP l a)], .agg #[.int .i64 (1), .int .i64 (0)], .int .i64 (0)]))
                  .fail)
                 (.ite ((Map.dropP l a).length.beq (Map.dropP l a).length)
                  (.ret (.tuple #[.agg #[.int .i64 (3), .int .i64 (0), .pl .ints (Map.dropP l a)], .agg #[.int .i64 (2), .int .i64 ((Map.findP l a).fst)], .int .i64 (0)]))
                  .fail))
                .fail)
               .fail)
              (.ite (small l.length)
               (.ite (!(Map.findP l a).snd.fst)
                (.ite (l.length.beq l.length)
                 (.ret (.tuple #[.agg #[.int .i64 (3), .int .i64 (0), .pl .ints (l)], .agg #[.int .i64 (1), .int .i64 (0)], .int .i64 (0)]))
                 .fail)
                (.ite (l.length.beq l.length)
                 (.ret (.tuple #[.agg #[.int .i64 (3), .int .i64 (0), .pl .ints (l)], .agg #[.int .i64 (2), .int .i64 ((Map.findP l a).fst)], .int .i64 (0)]))
                 .fail))
               .fail)))
            (.fail))))))
       (.fail))) := by kernel_rfl
set_option maxRecDepth 100000 in
theorem rfifN_tree (t n : Int) (l : List Int) (k a b : Int) : ((((tden Try.prog kitE [] 30).call 0 34 [.agg #[.int .i64 t, .int .i64 n, .pl .ints l], .int .i64 k, .int .i64 a, .int .i64 b] ⟨.nil, 0⟩).fresh (sgA)).cut
    (.ite (.yes (.yes (.yes (.yes (.all))))) (.no (.ite (.no (.ite (.all) (.ite (.yes (.yes (.yes (.all)))) (.no (.ite (.all) (.ite (.yes (.yes (.yes (.yes (.yes (.all)))))) (.no (.no (.ite (.yes (.no (.ite (.all) (.ite (.ite (.ite (.all) (.all)) (.ite (.yes (.yes (.all))) (.ite (.all) (.ite (.ite (.yes (.yes (.ite (.all) (.all)))) (.all)) (.all))))) (.all))))) (.no (.no (.no (.no (.ite (.ite (.ite (.all) (.all)) (.ite (.yes (.yes (.all))) (.ite (.all) (.ite (.ite (.yes (.yes (.ite (.all) (.all)))) (.all)) (.all))))) (.all))))))))))))))) (.all))))).ev = T.ev (α := CV) (
     .ite (t != (4 : Int))
      (.ret (.tuple #[.agg #[.int .i64 (0), .int .i64 (0), .pl .ints ([])], .agg #[.int .i64 (0), .int .i64 (0)], .int .i64 (12)]))
      (.ite (small l.length)
       (.ite (checkN t n l != (0 : Int))
        (.ret (.tuple #[.agg #[.int .i64 (0), .int .i64 (0), .pl .ints ([])], .agg #[.int .i64 (0), .int .i64 (0)], .int .i64 (12)]))
        (.ite (decide (k < (10 : Int)))
         (.ret (.tuple #[.agg #[.int .i64 (0), .int .i64 (0), .pl .ints ([])], .agg #[.int .i64 (0), .int .i64 (0)], .int .i64 (6)]))
         (.ite (decide (k > (12 : Int)))
          (.ret (.tuple #[.agg #[.int .i64 (0), .int .i64 (0), .pl .ints ([])], .agg #[.int .i64 (0), .int .i64 (0)], .int .i64 (6)]))
          (.ite (b != (0 : Int))
           (.ret (.tuple #[.agg #[.int .i64 (0), .int .i64 (0), .pl .ints ([])], .agg #[.int .i64 (0), .int .i64 (0)], .int .i64 (2)]))
           (.ite (k != (10 : Int))
            (.ite (a != (0 : Int))
             (.ret (.tuple #[.agg #[.int .i64 (0), .int .i64 (0), .pl .ints ([])], .agg #[.int .i64 (0), .int .i64 (0)], .int .i64 (2)]))
             (.ite (roomB l.length (8 : Nat))
              (.ite (k == (10 : Int))
               (.ite (roomB (l.length + [a].length) (8 : Nat))
                (.ret (.tuple #[.agg #[.int .i64 (4), .int .i64 (0), .pl .ints (l ++ [a])], .agg #[.int .i64 (0), .int .i64 (0)], .int .i64 (0)]))
                (.fail))
               (.ite (k == (12 : Int))
                (.ite (decide ((↑l.length : Int) = (↑l.length : Int)))
                 (.ite (decide (l = l))
                  (.ret (.tuple #[.agg #[.int .i64 (4), .int .i64 (0), .pl .ints (l)], .agg #[.int .i64 (2), .int .i64 ((↑l.length : Int))], .int .i64 (0)]))
                  .fail)
                 .fail)
                (.ite ((↑l.length : Int) == (0 : Int))
                 (.ret (.tuple #[.agg #[.int .i64 (4), .int .i64 (0), .pl .ints (l)], .agg #[.int .i64 (1), .int .i64 (0)], .int .i64 (0)]))
                 (.ite (decide ((0 : Int) ≤ (1 : Int)) && decide ((1 : Int) ≤ (↑(hi0 l.length none) : Int)))
                  (.ite (inRange (0 : Int) l.length)
                   (.ite (decide (l.getD (Int.toNat (0 : Int)) RC.ints.zero = l.getD (Int.toNat (0 : Int)) RC.ints.zero))
                    (.ite (decide (l = l))
                     (.ite (small (l.length - lo0 (some (Int.toNat (1 : Int)))))
                      (.ret (.tuple #[.agg #[.int .i64 (4), .int .i64 (0), .pl .ints (List.take (hi0 l.length none - lo0 (some (Int.toNat (1 : Int)))) (List.drop (lo0 (some (Int.toNat (1 : Int)))) l))], .agg #[.int .i64 (2), .int .i64 (l.getD (Int.toNat (0 : Int)) RC.ints.zero)], .int .i64 (0)]))
                      (.fail))
                     .fail)
                    .fail)
                   (.fail))
                  (.fail)))))
              (.fail)))
            (.ite (roomB l.length (8 : Nat))
             (.ite (k == (10 : Int))
              (.ite (roomB (l.length + [a].length) (8 : Nat))
               (.ret (.tuple #[.agg #[.int .i64 (4), .int .i64 (0), .pl .ints (l ++ [a])], .agg #[.int .i64 (0), .int .i64 (0)], .int .i64 (0)]))
               (.fail))
              (.ite (k == (12 : Int))
               (.ite (decide ((↑l.length : Int) = (↑l.length : Int)))
                (.ite (decide (l = l))
                 (.ret (.tuple #[.agg #[.int .i64 (4), .int .i64 (0), .pl .ints (l)], .agg #[.int .i64 (2), .int .i64 ((↑l.length : Int))], .int .i64 (0)]))
                 .fail)
                .fail)
               (.ite ((↑l.length : Int) == (0 : Int))
                (.ret (.tuple #[.agg #[.int .i64 (4), .int .i64 (0), .pl .ints (l)], .agg #[.int .i64 (1), .int .i64 (0)], .int .i64 (0)]))
                (.ite (decide ((0 : Int) ≤ (1 : Int)) && decide ((1 : Int) ≤ (↑(hi0 l.length none) : Int)))
                 (.ite (inRange (0 : Int) l.length)
                  (.ite (decide (l.getD (Int.toNat (0 : Int)) RC.ints.zero = l.getD (Int.toNat (0 : Int)) RC.ints.zero))
                   (.ite (decide (l = l))
                    (.ite (small (l.length - lo0 (some (Int.toNat (1 : Int)))))
                     (.ret (.tuple #[.agg #[.int .i64 (4), .int .i64 (0), .pl .ints (List.take (hi0 l.length none - lo0 (some (Int.toNat (1 : Int)))) (List.drop (lo0 (some (Int.toNat (1 : Int)))) l))], .agg #[.int .i64 (2), .int .i64 (l.getD (Int.toNat (0 : Int)) RC.ints.zero)], .int .i64 (0)]))
                     (.fail))
                    .fail)
                   .fail)
                  (.fail))
                 (.fail)))))
             (.fail)))))))
       (.fail))) := by kernel_rfl
set_option maxRecDepth 100000 in
theorem rescN_tree (t n : Int) (l : List Int) (k a b : Int) : ((((tden Try.prog kitE [] 30).call 0 35 [.agg #[.int .i64 t, .int .i64 n, .pl .ints l], .int .i64 k, .int .i64 a, .int .i64 b] ⟨.nil, 0⟩).fresh (sgA)).cut
    (.ite (.yes (.yes (.yes (.yes (.all))))) (.no (.ite (.no (.ite (.all) (.ite (.yes (.yes (.yes (.all)))) (.no (.ite (.all) (.ite (.yes (.yes (.yes (.yes (.yes (.all)))))) (.no (.no (.ite (.yes (.yes (.yes (.yes (.ite (.yes (.ite (.yes (.yes (.yes (.yes (.no (.no (.yes (.ite (.all) (.all))))))))) (.no (.no (.ite (.yes (.no (.no (.ite (.all) (.yes (.ite (.all) (.all))))))) (.no (.no (.no (.no (.yes (.all))))))))))) (.no (.no (.no (.no (.no (.ite (.yes (.no (.no (.ite (.all) (.yes (.ite (.all) (.all))))))) (.no (.no (.no (.no (.yes (.all))))))))))))))))) (.no (.ite (.yes (.ite (.yes (.ite (.yes (.yes (.yes (.yes (.no (.no (.no (.yes (.ite (.all) (.all)))))))))) (.no (.no (.ite (.yes (.no (.no (.ite (.all) (.no (.yes (.ite (.all) (.all)))))))) (.no (.no (.no (.no (.yes (.all))))))))))) (.no (.no (.no (.no (.no (.ite (.yes (.no (.no (.ite (.all) (.no (.yes (.ite (.all) (.all)))))))) (.no (.no (.no (.no (.yes (.all)))))))))))))) (.no (.no (.no (.no (.no (.ite (.yes (.no (.no (.ite (.all) (.no (.no (.all))))))) (.no (.no (.no (.no (.yes (.all))))))))))))))))))))))) (.all))))).ev = T.ev (α := CV) (
     .ite (t != (5 : Int))
      (.ret (.tuple #[.agg #[.int .i64 (0), .int .i64 (0), .pl .ints ([])], .agg #[.int .i64 (0), .int .i64 (0)], .int .i64 (12)]))
      (.ite (small l.length)
       (.ite (checkN t n l != (0 : Int))
        (.ret (.tuple #[.agg #[.int .i64 (0), .int .i64 (0), .pl .ints ([])], .agg #[.int .i64 (0), .int .i64 (0)], .int .i64 (12)]))
        (.ite (decide (k < (13 : Int)))
         (.ret (.tuple #[.agg #[.int .i64 (0), .int .i64 (0), .pl .ints ([])], .agg #[.int .i64 (0), .int .i64 (0)], .int .i64 (6)]))
         (.ite (decide (k > (15 : Int)))
          (.ret (.tuple #[.agg #[.int .i64 (0), .int .i64 (0), .pl .ints ([])], .agg #[.int .i64 (0), .int .i64 (0)], .int .i64 (6)]))
          (.ite (b != (0 : Int))
           (.ret (.tuple #[.agg #[.int .i64 (0), .int .i64 (0), .pl .ints ([])], .agg #[.int .i64 (0), .int .i64 (0)], .int .i64 (2)]))
           (.ite (k == (13 : Int))
            (.ite (decide (a ≥ (0 : Int)))
             (.ite (decide (a ≤ (4611686018427387904 : Int)))
              (.ite (k == (13 : Int))
               (.ite (decide (a ≤ IntKind.i64.wrap ((4611686018427387904 : Int) - n)))
                (.ret (.tuple #[.agg #[.int .i64 (5), .int .i64 (IntKind.i64.wrap (n + a)), .pl .ints ([])], .agg #[.int .i64 (2), .int .i64 (1)], .int .i64 (0)]))
                (.ret (.tuple #[.agg #[.int .i64 (5), .int .i64 (n), .pl .ints ([])], .agg #[.int .i64 (2), .int .i64 (0)], .int .i64 (0)])))
               .fail)
              (.ite (k == (15 : Int))
               (.ite (!a == (0 : Int))
                (.ret (.tuple #[.agg #[.int .i64 (0), .int .i64 (0), .pl .ints ([])], .agg #[.int .i64 (0), .int .i64 (0)], .int .i64 (2)]))
                (.ite (k == (13 : Int))
                 (.ite (decide (a ≤ IntKind.i64.wrap ((4611686018427387904 : Int) - n)))
                  (.ret (.tuple #[.agg #[.int .i64 (5), .int .i64 (IntKind.i64.wrap (n + a)), .pl .ints ([])], .agg #[.int .i64 (2), .int .i64 (1)], .int .i64 (0)]))
                  (.ret (.tuple #[.agg #[.int .i64 (5), .int .i64 (n), .pl .ints ([])], .agg #[.int .i64 (2), .int .i64 (0)], .int .i64 (0)])))
                 .fail))
               (.ret (.tuple #[.agg #[.int .i64 (0), .int .i64 (0), .pl .ints ([])], .agg #[.int .i64 (0), .int .i64 (0)], .int .i64 (2)]))))
             (.ite (k == (15 : Int))
              (.ite (!a == (0 : Int))
               (.ret (.tuple #[.agg #[.int .i64 (0), .int .i64 (0), .pl .ints ([])], .agg #[.int .i64 (0), .int .i64 (0)], .int .i64 (2)]))
               (.ite (k == (13 : Int))
                (.ite (decide (a ≤ IntKind.i64.wrap ((4611686018427387904 : Int) - n)))
                 (.ret (.tuple #[.agg #[.int .i64 (5), .int .i64 (IntKind.i64.wrap (n + a)), .pl .ints ([])], .agg #[.int .i64 (2), .int .i64 (1)], .int .i64 (0)]))
                 (.ret (.tuple #[.agg #[.int .i64 (5), .int .i64 (n), .pl .ints ([])], .agg #[.int .i64 (2), .int .i64 (0)], .int .i64 (0)])))
                .fail))
              (.ret (.tuple #[.agg #[.int .i64 (0), .int .i64 (0), .pl .ints ([])], .agg #[.int .i64 (0), .int .i64 (0)], .int .i64 (2)]))))
            (.ite (k == (14 : Int))
             (.ite (decide (a ≥ (0 : Int)))
              (.ite (decide (a ≤ (4611686018427387904 : Int)))
               (.ite (k == (13 : Int)) .fail
                (.ite (k == (14 : Int))
                 (.ite (decide (a ≤ n))
                  (.ret (.tuple #[.agg #[.int .i64 (5), .int .i64 (IntKind.i64.wrap (n - a)), .pl .ints ([])], .agg #[.int .i64 (2), .int .i64 (1)], .int .i64 (0)]))
                  (.ret (.tuple #[.agg #[.int .i64 (5), .int .i64 (n), .pl .ints ([])], .agg #[.int .i64 (2), .int .i64 (0)], .int .i64 (0)])))
                 .fail))
               (.ite (k == (15 : Int))
                (.ite (!a == (0 : Int))
                 (.ret (.tuple #[.agg #[.int .i64 (0), .int .i64 (0), .pl .ints ([])], .agg #[.int .i64 (0), .int .i64 (0)], .int .i64 (2)]))
                 (.ite (k == (13 : Int)) .fail
                  (.ite (k == (14 : Int))
                   (.ite (decide (a ≤ n))
                    (.ret (.tuple #[.agg #[.int .i64 (5), .int .i64 (IntKind.i64.wrap (n - a)), .pl .ints ([])], .agg #[.int .i64 (2), .int .i64 (1)], .int .i64 (0)]))
                    (.ret (.tuple #[.agg #[.int .i64 (5), .int .i64 (n), .pl .ints ([])], .agg #[.int .i64 (2), .int .i64 (0)], .int .i64 (0)])))
                   .fail)))
                (.ret (.tuple #[.agg #[.int .i64 (0), .int .i64 (0), .pl .ints ([])], .agg #[.int .i64 (0), .int .i64 (0)], .int .i64 (2)]))))
              (.ite (k == (15 : Int))
               (.ite (!a == (0 : Int))
                (.ret (.tuple #[.agg #[.int .i64 (0), .int .i64 (0), .pl .ints ([])], .agg #[.int .i64 (0), .int .i64 (0)], .int .i64 (2)]))
                (.ite (k == (13 : Int)) .fail
                 (.ite (k == (14 : Int))
                  (.ite (decide (a ≤ n))
                   (.ret (.tuple #[.agg #[.int .i64 (5), .int .i64 (IntKind.i64.wrap (n - a)), .pl .ints ([])], .agg #[.int .i64 (2), .int .i64 (1)], .int .i64 (0)]))
                   (.ret (.tuple #[.agg #[.int .i64 (5), .int .i64 (n), .pl .ints ([])], .agg #[.int .i64 (2), .int .i64 (0)], .int .i64 (0)])))
                  .fail)))
               (.ret (.tuple #[.agg #[.int .i64 (0), .int .i64 (0), .pl .ints ([])], .agg #[.int .i64 (0), .int .i64 (0)], .int .i64 (2)]))))
             (.ite (k == (15 : Int))
              (.ite (!a == (0 : Int))
               (.ret (.tuple #[.agg #[.int .i64 (0), .int .i64 (0), .pl .ints ([])], .agg #[.int .i64 (0), .int .i64 (0)], .int .i64 (2)]))
               (.ite (k == (13 : Int)) .fail
                (.ite (k == (14 : Int)) .fail
                 (.ret (.tuple #[.agg #[.int .i64 (5), .int .i64 (n), .pl .ints ([])], .agg #[.int .i64 (2), .int .i64 (n)], .int .i64 (0)])))))
              (.ret (.tuple #[.agg #[.int .i64 (0), .int .i64 (0), .pl .ints ([])], .agg #[.int .i64 (0), .int .i64 (0)], .int .i64 (2)])))))))))
       (.fail))) := by kernel_rfl

/- MchU -/
namespace Ctr
set_option maxHeartbeats 8000000 in
theorem rctrN_at (t n : Int) (l : List Int) (k a b : Int) (hs : small l.length = true) (ha : w64 a) (hb : w64 b) :
    FreshAt Try.prog 31 [.agg #[.int .i64 t, .int .i64 n, .pl .ints l], .int .i64 k, .int .i64 a, .int .i64 b] (ctrA t n l k a b).cv := by
  refine freshAtS plainN mixedN kitE_ok noL (k := 30) (rctrN_tree t n l k a b) ?_
  simp only [sat_ite, sat_ret, sat_fail, hs, or_zero ha hb, decide_eq_true_eq, decide_eq_false_iff_not, beq_iff_eq, bne_iff_ne, ne_eq, beq_eq_false_iff_ne, bne_eq_false_iff_eq, Bool.not_eq_true', Bool.not_eq_false', true_implies, Bool.true_eq_false, false_implies, and_true, true_and, implies_true, reduceCtorEq, eq_self, not_true_eq_false]
  simp only [ctrA, ne_eq]
  generalize checkN t n l = c at *
  repeat' (first | apply And.intro | intro _)
  all_goals first
    | omega
    | ((repeat' split) <;> first | exact ⟨rfl⟩ | omega)

theorem rctrN_fn : FreshFn Try.prog 31 (sigExt [sgS] ctrApplyG) :=
  freshFn_mk (bodied_ex (by kernel_rfl)) fun args d h => by
    unfold ctrApplyG at h
    split at h
    · obtain ⟨hc, h1⟩ := ev_when h
      cases ev_ret h1
      simp only [Bool.and_eq_true, inI64_iff] at hc
      exact rctrN_at _ _ _ _ _ _ hc.1 hc.2.1 hc.2.2
    · exact (ev_fail h).elim
end Ctr

namespace Set
set_option maxHeartbeats 8000000 in
theorem rsetN_at (t n : Int) (l : List Int) (k a b : Int) (hm : midB l = true) :
    FreshAt Try.prog 32 [.agg #[.int .i64 t, .int .i64 n, .pl .ints l], .int .i64 k, .int .i64 a, .int .i64 b] (setA t n l k a b).cv := by
  refine freshAtS plainN mixedN refNE_ok noL (k := 30) (rsetN_tree t n l k a b) ?_
  have hs : small l.length = true := mid_small hm
  have hr0 := roomB_small hs (b := 8) (by decide)
  by_cases hk : 3 ≤ k ∧ k ≤ 6
  · simp only [setA]
    generalize checkN t n l = c at *
    obtain rfl | rfl | rfl | rfl : k = 3 ∨ k = 4 ∨ k = 5 ∨ k = 6 := by omega
    all_goals
      cases hh : hasN l a <;>
      · simp only [sat_ite, sat_ret, sat_fail, hs, hm, hr0, hh, Nat.beq_refl, Bool.and_self, decide_eq_true_eq, decide_eq_false_iff_not, beq_iff_eq, bne_iff_ne, ne_eq, beq_eq_false_iff_ne, bne_eq_false_iff_eq, Bool.not_eq_true', Bool.not_eq_false', true_implies, Bool.true_eq_false, Bool.false_eq_true, false_implies, and_true, true_and, implies_true, reduceCtorEq, eq_self, not_true_eq_false]
        repeat' (first | apply And.intro | intro _)
        all_goals first
          | omega
          | ((repeat' split) <;> first | exact ⟨rfl⟩ | omega | (simp_all; done) | (simp_all; omega))
  · simp only [setA]
    generalize checkN t n l = c at *
    simp only [sat_ite, sat_ret, sat_fail, hs, hm, hr0, Nat.beq_refl, Bool.and_self, decide_eq_true_eq, decide_eq_false_iff_not, beq_iff_eq, bne_iff_ne, ne_eq, beq_eq_false_iff_ne, bne_eq_false_iff_eq, Bool.not_eq_true', Bool.not_eq_false', true_implies, Bool.true_eq_false, Bool.false_eq_true, false_implies, and_true, true_and, implies_true, reduceCtorEq, eq_self, not_true_eq_false]
    repeat' (first | apply And.intro | intro _)
    all_goals first
      | omega
      | ((repeat' split) <;> first | exact ⟨rfl⟩ | omega | (simp_all; done) | (simp_all; omega))

theorem rsetN_fn : FreshFn Try.prog 32 (sigExt [sgS] setG) :=
  freshFn_mk (bodied_ex (by kernel_rfl)) fun args d h => by
    unfold setG at h
    split at h
    · obtain ⟨hc, h1⟩ := ev_when h
      cases ev_ret h1
      exact rsetN_at _ _ _ _ _ _ hc
    · exact (ev_fail h).elim

end Set

namespace Map
set_option maxHeartbeats 8000000 in
theorem rmapN_at (t n : Int) (l : List Int) (k a b : Int) (hs4 : small (l.length + 4) = true) :
    FreshAt Try.prog 33 [.agg #[.int .i64 t, .int .i64 n, .pl .ints l], .int .i64 k, .int .i64 a, .int .i64 b] (mapA t n l k a b).cv := by
  refine freshAtS plainN mixedN refNE_ok noL (k := 30) (rmapN_tree t n l k a b) ?_
  have hs : small l.length = true := small_le hs4 (by omega)
  have hr0 := roomB_small hs (b := 8) (by decide)
  simp only [mapA, hadP, ne_eq]
  generalize checkN t n l = c at *
  generalize hf : (findP l a).2.1 = f at *
  by_cases hk : 7 ≤ k ∧ k ≤ 9
  · obtain rfl | rfl | rfl : k = 7 ∨ k = 8 ∨ k = 9 := by omega
    all_goals
      simp only [sat_ite, sat_ret, sat_fail, hs, hs4, hr0, Nat.beq_refl, decide_eq_true_eq, decide_eq_false_iff_not, beq_iff_eq, bne_iff_ne, ne_eq, beq_eq_false_iff_ne, bne_eq_false_iff_eq, Bool.not_eq_true', Bool.not_eq_false', true_implies, Bool.true_eq_false, Bool.false_eq_true, false_implies, and_true, true_and, implies_true, reduceCtorEq, eq_self, not_true_eq_false]
      repeat' (first | apply And.intro | intro _)
      all_goals first
        | omega
        | ((repeat' split) <;> first | exact ⟨rfl⟩ | omega | (simp_all; done) | (simp_all; omega))
  · simp only [sat_ite, sat_ret, sat_fail, hs, hs4, hr0, Nat.beq_refl, decide_eq_true_eq, decide_eq_false_iff_not, beq_iff_eq, bne_iff_ne, ne_eq, beq_eq_false_iff_ne, bne_eq_false_iff_eq, Bool.not_eq_true', Bool.not_eq_false', true_implies, Bool.true_eq_false, Bool.false_eq_true, false_implies, and_true, true_and, implies_true, reduceCtorEq, eq_self, not_true_eq_false]
    repeat' (first | apply And.intro | intro _)
    all_goals first
      | omega
      | ((repeat' split) <;> first | exact ⟨rfl⟩ | omega | (simp_all; done) | (simp_all; omega))

theorem rmapN_fn : FreshFn Try.prog 33 (sigExt [sgS] mapG) :=
  freshFn_mk (bodied_ex (by kernel_rfl)) fun args d h => by
    unfold mapG at h
    split at h
    · obtain ⟨hc, h1⟩ := ev_when h
      cases ev_ret h1
      exact rmapN_at _ _ _ _ _ _ hc
    · exact (ev_fail h).elim

end Map

namespace Fif
set_option maxHeartbeats 8000000 in
theorem rfifN_at (t n : Int) (l : List Int) (k a b : Int) (hs : small l.length = true) (hs2 : small (l.length + 1) = true) :
    FreshAt Try.prog 34 [.agg #[.int .i64 t, .int .i64 n, .pl .ints l], .int .i64 k, .int .i64 a, .int .i64 b] (fifoA t n l k a b).cv := by
  refine freshAtS plainN mixedN kitE_ok noL (k := 30) (rfifN_tree t n l k a b) ?_
  have hr := small_succ hs2
  have hr0 := roomB_small hs (b := 8) (by decide)
  have hle : ∀ (x : Int) (q : List Int), inRange 0 (x :: q).length = true := fun x q => by rw [inRange_iff]; exact ⟨Int.le_refl _, by simp⟩
  simp only [fifoA, ne_eq]
  generalize checkN t n l = c at *
  cases l with
  | nil =>
    simp only [sat_ite, sat_ret, sat_fail, hs, hr, hr0, List.length_nil, List.length_singleton, Nat.zero_add, decide_eq_true_eq, decide_eq_false_iff_not, beq_iff_eq, bne_iff_ne, ne_eq, beq_eq_false_iff_ne, bne_eq_false_iff_eq, Bool.not_eq_true', Bool.not_eq_false', true_implies, Bool.true_eq_false, false_implies, and_true, true_and, implies_true, reduceCtorEq, eq_self, not_true_eq_false, Int.natCast_zero]
    repeat' (first | apply And.intro | intro _)
    all_goals first
      | omega
      | ((repeat' split) <;> first | exact ⟨rfl⟩ | omega | (simp_all; done) | (simp_all; omega))
  | cons x q =>
    have e1 : List.take (hi0 (x :: q).length none - lo0 (some (Int.toNat 1))) (List.drop (lo0 (some (Int.toNat 1))) (x :: q)) = q := by simp [hi0, lo0]
    have e2 : (decide ((0 : Int) ≤ 1) && decide ((1 : Int) ≤ ((hi0 (x :: q).length none : Nat) : Int))) = true := by
      rw [Bool.and_eq_true]; exact ⟨by decide, by rw [decide_eq_true_eq]; show (1 : Int) ≤ ((q.length + 1 : Nat) : Int); omega⟩
    have e4 : (x :: q).getD (Int.toNat 0) RC.ints.zero = x := rfl
    have e5 : ¬ (((x :: q).length : Nat) : Int) = 0 := by simp; omega
    have e6 : small ((x :: q).length - lo0 (some (Int.toNat 1))) = true := by rw [small_iff] at hs ⊢; omega
    simp only [e6, sat_ite, sat_ret, sat_fail, hs, hr, hr0, hle, e1, e2, e4, e5, List.length_singleton, decide_eq_true_eq, decide_eq_false_iff_not, beq_iff_eq, bne_iff_ne, ne_eq, beq_eq_false_iff_ne, bne_eq_false_iff_eq, Bool.not_eq_true', Bool.not_eq_false', true_implies, Bool.true_eq_false, false_implies, and_true, true_and, implies_true, reduceCtorEq, eq_self, not_true_eq_false, not_false_eq_true]
    repeat' (first | apply And.intro | intro _)
    all_goals first
      | omega
      | ((repeat' split) <;> first | exact ⟨rfl⟩ | omega | (simp_all; done) | (simp_all; omega))

theorem rfifN_fn : FreshFn Try.prog 34 (sigExt [sgS] fifoG) :=
  freshFn_mk (bodied_ex (by kernel_rfl)) fun args d h => by
    unfold fifoG at h
    split at h
    · obtain ⟨hc, h1⟩ := ev_when h
      cases ev_ret h1
      simp only [Bool.and_eq_true] at hc
      exact rfifN_at _ _ _ _ _ _ hc.1 hc.2
    · exact (ev_fail h).elim

end Fif

namespace Esc
set_option maxHeartbeats 8000000 in
theorem rescN_at (t n : Int) (l : List Int) (k a b : Int) (hs : small l.length = true) :
    FreshAt Try.prog 35 [.agg #[.int .i64 t, .int .i64 n, .pl .ints l], .int .i64 k, .int .i64 a, .int .i64 b] (escA t n l k a b).cv := by
  refine freshAtS plainN mixedN kitE_ok noL (k := 30) (rescN_tree t n l k a b) ?_
  have hn : t = 5 → checkN t n l = 0 → 0 ≤ n ∧ n ≤ 4611686018427387904 := fun h1 h2 => (check5.1 (by rw [← h1]; exact h2)).2
  simp only [sat_ite, sat_ret, sat_fail, hs, decide_eq_true_eq, decide_eq_false_iff_not, beq_iff_eq, bne_iff_ne, beq_eq_false_iff_ne, bne_eq_false_iff_eq, Bool.not_eq_true', Bool.not_eq_false', true_implies, Bool.true_eq_false, false_implies, and_true, true_and, implies_true, reduceCtorEq, eq_self, not_true_eq_false]
  have hcap : cap62 = 4611686018427387904 := rfl
  simp only [escA]
  generalize checkN t n l = c at *
  repeat' (first | apply And.intro | intro _)
  all_goals first
    | omega
    | (simp (disch := omega) only [wrap64, wrapU64] at *; omega)
    | ((repeat' split) <;> first | exact ⟨rfl⟩ | omega | (simp (disch := omega) only [wrap64, wrapU64] at *; first | exact ⟨rfl⟩ | omega))

theorem rescN_fn : FreshFn Try.prog 35 (sigExt [sgS] escApplyG) :=
  freshFn_mk (bodied_ex (by kernel_rfl)) fun args d h => by
    unfold escApplyG at h
    split at h
    · obtain ⟨hc, h1⟩ := ev_when h
      cases ev_ret h1
      exact rescN_at _ _ _ _ _ _ hc
    · exact (ev_fail h).elim
end Esc

def rfreE : List (Nat × ExtFn) := [(31, freshExt (sigExt [sgS] Ctr.ctrApplyG)), (32, freshExt (sigExt [sgS] Set.setG)), (33, freshExt (sigExt [sgS] Map.mapG)), (34, freshExt (sigExt [sgS] Fif.fifoG)), (35, freshExt (sigExt [sgS] Esc.escApplyG))]
theorem rfreE_ok (N : Nat) : ExtsOk Try.prog N rfreE :=
  extsOk_cons (extOk_fresh Ctr.rctrN_fn) (extsOk_cons (extOk_fresh Set.rsetN_fn) (extsOk_cons (extOk_fresh Map.rmapN_fn) (extsOk_cons (extOk_fresh Fif.rfifN_fn) (extsOk_cons (extOk_fresh Esc.rescN_fn) extsOk_nil))))

/- MchV -/
set_option maxRecDepth 100000 in
theorem rmachN_tree (t n : Int) (l : List Int) (k a b : Int) : ((((tden Try.prog rfreE [] 30).call 0 11 [.agg #[.int .i64 t, .int .i64 n, .pl .ints l], .int .i64 k, .int .i64 a, .int .i64 b] ⟨.nil, 0⟩).fresh (sgA)).cut
    (.ite (.ite (.all) (.all)) (.ite (.ite (.all) (.all)) (.ite (.ite (.all) (.all)) (.ite (.ite (.all) (.all)) (.ite (.ite (.all) (.all)) (.all))))))).ev = T.ev (α := CV) (
     .ite (t == (1 : Int))
      (.ite (small l.length && (Ctr.inI64 a && Ctr.inI64 b))
       (.ret (.tuple #[.agg #[.int .i64 ((Ctr.ctrA t n l k a b).s.type), .int .i64 ((Ctr.ctrA t n l k a b).s.n), .pl .ints ((Ctr.ctrA t n l k a b).s.l)], .agg #[.int .i64 ((Ctr.ctrA t n l k a b).r.kind), .int .i64 ((Ctr.ctrA t n l k a b).r.n)], .int .i64 ((Ctr.ctrA t n l k a b).e)]))
       (.fail))
      (.ite (t == (2 : Int))
       (.ite (Set.midB l)
        (.ret (.tuple #[.agg #[.int .i64 ((Set.setA t n l k a b).s.type), .int .i64 ((Set.setA t n l k a b).s.n), .pl .ints ((Set.setA t n l k a b).s.l)], .agg #[.int .i64 ((Set.setA t n l k a b).r.kind), .int .i64 ((Set.setA t n l k a b).r.n)], .int .i64 ((Set.setA t n l k a b).e)]))
        (.fail))
       (.ite (t == (3 : Int))
        (.ite (small (l.length + (4 : Nat)))
         (.ret (.tuple #[.agg #[.int .i64 ((Map.mapA t n l k a b).s.type), .int .i64 ((Map.mapA t n l k a b).s.n), .pl .ints ((Map.mapA t n l k a b).s.l)], .agg #[.int .i64 ((Map.mapA t n l k a b).r.kind), .int .i64 ((Map.mapA t n l k a b).r.n)], .int .i64 ((Map.mapA t n l k a b).e)]))
         (.fail))
        (.ite (t == (4 : Int))
         (.ite (small l.length && small (l.length + (1 : Nat)))
          (.ret (.tuple #[.agg #[.int .i64 ((Fif.fifoA t n l k a b).s.type), .int .i64 ((Fif.fifoA t n l k a b).s.n), .pl .ints ((Fif.fifoA t n l k a b).s.l)], .agg #[.int .i64 ((Fif.fifoA t n l k a b).r.kind), .int .i64 ((Fif.fifoA t n l k a b).r.n)], .int .i64 ((Fif.fifoA t n l k a b).e)]))
          (.fail))
         (.ite (t == (5 : Int))
          (.ite (small l.length)
           (.ret (.tuple #[.agg #[.int .i64 ((Esc.escA t n l k a b).s.type), .int .i64 ((Esc.escA t n l k a b).s.n), .pl .ints ((Esc.escA t n l k a b).s.l)], .agg #[.int .i64 ((Esc.escA t n l k a b).r.kind), .int .i64 ((Esc.escA t n l k a b).r.n)], .int .i64 ((Esc.escA t n l k a b).e)]))
           (.fail))
          (.ret (.tuple #[.agg #[.int .i64 (0), .int .i64 (0), .pl .ints ([])], .agg #[.int .i64 (0), .int .i64 (0)], .int .i64 (8)]))))))) := by kernel_rfl

/- MchW -/
theorem rmachN_at (t n : Int) (l : List Int) (k a b : Int) (hm : machB l a b = true) :
    FreshAt Try.prog 11 [.agg #[.int .i64 t, .int .i64 n, .pl .ints l], .int .i64 k, .int .i64 a, .int .i64 b] (machA t n l k a b).cv := by
  refine freshAtS plainN mixedN rfreE_ok noL (k := 30) (rmachN_tree t n l k a b) ?_
  obtain ⟨h1, h2, h3, h4, h5, h6⟩ := machB_iff hm
  by_cases ht : 1 ≤ t ∧ t ≤ 5
  · obtain rfl | rfl | rfl | rfl | rfl : t = 1 ∨ t = 2 ∨ t = 3 ∨ t = 4 ∨ t = 5 := by omega
    all_goals
      simp only [sat_ite, sat_ret, sat_fail, h1, h2, h3, h4, h5, h6, machA, Bool.and_self, decide_eq_true_eq, decide_eq_false_iff_not, beq_iff_eq, beq_eq_false_iff_ne, ne_eq, true_implies, Bool.true_eq_false, Bool.false_eq_true, false_implies, and_true, true_and, implies_true, reduceCtorEq, eq_self, not_true_eq_false]
      repeat' (first | apply And.intro | intro _)
      all_goals first
        | omega
        | exact ⟨rfl⟩
  · have e : machA t n l k a b = bad 8 := by
      unfold machA
      rw [if_neg (by omega), if_neg (by omega), if_neg (by omega), if_neg (by omega), if_neg (by omega)]
    rw [e]
    simp only [sat_ite, sat_ret, sat_fail, h1, h2, h3, h4, h5, h6, Bool.and_self, decide_eq_true_eq, decide_eq_false_iff_not, beq_iff_eq, beq_eq_false_iff_ne, ne_eq, true_implies, Bool.true_eq_false, Bool.false_eq_true, false_implies, and_true, true_and, implies_true, reduceCtorEq, eq_self, not_true_eq_false]
    repeat' (first | apply And.intro | intro _)
    all_goals first
      | omega
      | exact ⟨rfl⟩
theorem rmachN_fn : FreshFn Try.prog 11 (sigExt [sgS] machG) :=
  freshFn_mk (bodied_ex (by kernel_rfl)) fun args d h => by
    unfold machG at h
    split at h
    · obtain ⟨hc, h1⟩ := ev_when h
      cases ev_ret h1
      exact rmachN_at _ _ _ _ _ _ hc
    · exact (ev_fail h).elim

def machRE : List (Nat × ExtFn) := [(10, freshExt (sigExt [sgS] machG)), (11, freshExt (sigExt [sgS] machG))]
theorem machRE_ok (N : Nat) : ExtsOk Try.prog N machRE := extsOk_cons (extOk_fresh machN_fn) (extsOk_cons (extOk_fresh rmachN_fn) extsOk_nil)

/- MchX -/
set_option maxRecDepth 100000 in
theorem legN_tree (t n : Int) (l : List Int) (k a b rk rn : Int) : ((((tden Try.prog machRE [] 30).call 0 12 [.agg #[.int .i64 t, .int .i64 n, .pl .ints l], .agg #[.int .i64 k, .int .i64 a, .int .i64 b, .int .i64 rk, .int .i64 rn]] ⟨.nil, 0⟩).fresh (sgA)).cut
    (.ite (.ite (.yes (.yes (.yes (.yes (.yes (.yes (.yes (.all)))))))) (.no (.no (.no (.no (.all)))))) (.all))).ev = T.ev (α := CV) (
     .ite (machB l a b)
      (.ite ((machA t n l k a b).e == (0 : Int))
       (.ite (decide (rk = rk))
        (.ite (decide (rn = rn))
         (.ite (decide ((machA t n l k a b).r.kind = (machA t n l k a b).r.kind))
          (.ite (decide ((machA t n l k a b).r.n = (machA t n l k a b).r.n))
           (.ret (.tuple #[.agg #[.int .i64 ((machA t n l k a b).s.type), .int .i64 ((machA t n l k a b).s.n), .pl .ints ((machA t n l k a b).s.l)], .bool ((machA t n l k a b).r.kind == rk && ((machA t n l k a b).r.n == rn && true)), .int .i64 ((machA t n l k a b).e)]))
           .fail)
          .fail)
         .fail)
        .fail)
       (.ret (.tuple #[.agg #[.int .i64 ((machA t n l k a b).s.type), .int .i64 ((machA t n l k a b).s.n), .pl .ints ((machA t n l k a b).s.l)], .bool false, .int .i64 ((machA t n l k a b).e)])))
      (.fail)) := by kernel_rfl
set_option maxRecDepth 100000 in
theorem rlegN_tree (t n : Int) (l : List Int) (k a b rk rn : Int) : ((((tden Try.prog machRE [] 30).call 0 13 [.agg #[.int .i64 t, .int .i64 n, .pl .ints l], .agg #[.int .i64 k, .int .i64 a, .int .i64 b, .int .i64 rk, .int .i64 rn]] ⟨.nil, 0⟩).fresh (sgA)).cut
    (.ite (.ite (.all) (.yes (.yes (.yes (.yes (.all)))))) (.all))).ev = T.ev (α := CV) (
     .ite (machB l a b)
      (.ite ((machA t n l k a b).e != (0 : Int))
       (.ret (.tuple #[.agg #[.int .i64 (0), .int .i64 (0), .pl .ints ([])], .bool false, .int .i64 ((machA t n l k a b).e)]))
       (.ite (decide (rk = rk))
        (.ite (decide (rn = rn))
         (.ite (decide ((machA t n l k a b).r.kind = (machA t n l k a b).r.kind))
          (.ite (decide ((machA t n l k a b).r.n = (machA t n l k a b).r.n))
           (.ret (.tuple #[.agg #[.int .i64 ((machA t n l k a b).s.type), .int .i64 ((machA t n l k a b).s.n), .pl .ints ((machA t n l k a b).s.l)], .bool ((machA t n l k a b).r.kind == rk && ((machA t n l k a b).r.n == rn && true)), .int .i64 (0)]))
           .fail)
          .fail)
         .fail)
        .fail))
      (.fail)) := by kernel_rfl

/- MchY -/
theorem legN_fn : FreshFn Try.prog 12 (sigExt [sgS] legG) :=
  freshFn_mk (bodied_ex (by kernel_rfl)) fun args d h => by
    unfold legG at h
    split at h
    · rename_i t n l k a b rk rn
      obtain ⟨hc, h1⟩ := ev_when h
      cases ev_ret h1
      refine freshAtS plainN mixedN machRE_ok noL (k := 30) (legN_tree t n l k a b rk rn) ?_
      simp only [legV, legB]
      generalize machA t n l k a b = x at *
      by_cases he : x.e = 0
      · simp only [sat_ite, sat_ret, sat_fail, hc, he, beq_self_eq_true, decide_true, Bool.and_true, Bool.true_and, true_implies, Bool.true_eq_false, false_implies, and_true, true_and]
        exact ⟨rfl⟩
      · have he' : (x.e == 0) = false := by rw [beq_eq_false_iff_ne]; exact he
        simp only [sat_ite, sat_ret, sat_fail, hc, he', Bool.false_and, true_implies, Bool.true_eq_false, Bool.false_eq_true, false_implies, and_true, true_and]
        exact ⟨rfl⟩
    · exact (ev_fail h).elim
theorem rlegN_fn : FreshFn Try.prog 13 (sigExt [sgS] legG) :=
  freshFn_mk (bodied_ex (by kernel_rfl)) fun args d h => by
    unfold legG at h
    split at h
    · rename_i t n l k a b rk rn
      obtain ⟨hc, h1⟩ := ev_when h
      cases ev_ret h1
      refine freshAtS plainN mixedN machRE_ok noL (k := 30) (rlegN_tree t n l k a b rk rn) ?_
      have hb := mach_bad t n l k a b
      simp only [legV, legB]
      generalize machA t n l k a b = x at *
      by_cases he : x.e = 0
      · have he' : (x.e != 0) = false := by rw [bne_eq_false_iff_eq]; exact he
        simp only [sat_ite, sat_ret, sat_fail, hc, he', he, bne_self_eq_false, beq_self_eq_true, decide_true, Bool.and_true, Bool.true_and, true_implies, Bool.true_eq_false, Bool.false_eq_true, false_implies, and_true, true_and]
        exact ⟨rfl⟩
      · have he' : (x.e != 0) = true := by rw [bne_iff_ne]; exact he
        have he2 : (x.e == 0) = false := by rw [beq_eq_false_iff_ne]; exact he
        obtain ⟨b1, b2⟩ := hb he
        simp only [sat_ite, sat_ret, sat_fail, hc, he', he2, b1, b2, Bool.false_and, true_implies, Bool.true_eq_false, Bool.false_eq_true, false_implies, and_true, true_and]
        exact ⟨rfl⟩
    · exact (ev_fail h).elim


def legNE : List (Nat × ExtFn) := [(12, freshExt (sigExt [sgS] legG)), (13, freshExt (sigExt [sgS] legG))] ++ machRE
theorem legNE_ok (N : Nat) : ExtsOk Try.prog N legNE := exts_append (E := [(12, freshExt (sigExt [sgS] legG)), (13, freshExt (sigExt [sgS] legG))]) (extsOk_cons (extOk_fresh legN_fn) (extsOk_cons (extOk_fresh rlegN_fn) extsOk_nil)) (machRE_ok N)

end Go.Proofs.YtcomfanipljolaaD
