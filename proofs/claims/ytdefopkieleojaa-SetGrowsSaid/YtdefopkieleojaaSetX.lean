/-
  Chapter 07: SetGrows' second loop: rounds.
-/
import Derived.Test.YtdefopkieleojaaSetW
set_option linter.unusedVariables false
set_option linter.unusedSimpArgs false
namespace Go.Proofs.YtdefopkieleojaaD
open Go Go.RowKit

/- List (RC.den .ints), Bool, Bool, Int, Int, Int, List (RC.den .ints), Int, Int, List (RC.den .ints), Int, Int, Int, Int -/
def gbOut0 : NSt := ⟨[.pl .ints [], .junk, .bool false, .bool false, .pointer (some ⟨8, 0, none⟩), .pointer (some ⟨9, 0, none⟩), .int .i64 (0), .junk, .junk, .junk, .junk, .junk, .junk, .junk, .junk, .junk, .junk, .junk, .junk, .junk, .junk, .junk, .junk, .junk, .junk, .junk, .junk, .junk, .junk, .junk, .junk, .junk, .junk, .junk, .junk, .junk, .junk, .junk, .junk, .junk, .junk, .junk, .junk, .junk, .junk, .junk, .junk, .junk, .junk, .junk, .junk, .junk, .junk, .junk, .junk, .junk, .junk, .junk, .junk, .junk, .junk, .junk, .junk, .junk, .junk, .junk, .junk, .junk, .junk, .junk, .junk, .junk, .junk, .junk, .junk, .junk, .junk, .junk, .junk, .junk, .junk, .junk, .junk, .junk, .junk, .junk, .junk, .junk, .junk, .junk, .junk, .junk, .junk, .junk, .junk, .junk, .junk, .junk, .junk, .junk, .junk, .junk, .junk, .junk, .junk, .junk, .junk, .junk, .junk, .junk, .junk, .junk, .junk, .junk, .junk, .junk, .junk, .junk, .junk, .junk, .junk, .junk, .junk, .junk, .junk, .junk, .junk, .junk, .junk, .junk, .junk, .junk, .junk, .junk, .junk, .junk, .junk], [], [(8, .cells [.int .i64 (0), .int .i64 (0), .pl .ints []] 1 0), (9, .cells [.int .i64 (0), .int .i64 (0), .pl .ints []] 1 0), (13, .cells [.int .i64 (0), .int .i64 (0), .slice none (0) (0)] 1 0), (17, .cells [.int .i64 (0), .int .i64 (0), .slice none (0) (0)] 1 0)], 23⟩
set_option maxRecDepth 100000 in
theorem gb_round (k : Nat) (l : List Int) (b ok : Bool) (f i t n : Int) (s : List Int) (t2 n2 : Int) (s2 : List Int) (t3 n3 t4 n4 : Int) : ((rounds Try.prog lawE [] 30 gbId 23 none gbSk (k + 1) [.l .ints l, .b b, .b ok, .i f, .i i, .i t, .i n, .l .ints s, .i t2, .i n2, .l .ints s2, .i t3, .i n3, .i t4, .i n4]).cut
    (.ite (.ite (.ite (.ite (.yes (.yes (.yes (.yes (.yes (.yes (.yes (.yes (.yes (.yes (.yes (.yes (.yes (.yes (.yes (.yes (.yes (.yes (.yes (.yes (.all))))))))))))))))))))) (.no (.no (.no (.no (.no (.no (.ite (.yes (.yes (.yes (.yes (.yes (.yes (.yes (.yes (.yes (.yes (.yes (.all)))))))))))) (.no (.no (.no (.ite (.no (.no (.no (.no (.yes (.no (.no (.ite (.all) (.all))))))))) (.all))))))))))))) (.all)) (.all)) (.all))).ev = T.ev (
     .ite (decide (i < (↑l.length : Int)))
      (.ite (inRange i l.length)
       (.ite (midB s && riseB s)
        (.ite (!hasN s (l.getD i.toNat RC.ints.zero))
         (outAt .ret gbOut0 [.l .ints (l), .b false, .b (ok), .i (f), .i (t), .i (n), .l .ints (s), .i (t2), .i (n2), .l .ints (s2), .i (t3), .i (n3), .i (t4), .i (n4)])
         (.ite (decide ((↑(cntN s (l.getD i.toNat RC.ints.zero)) : Int) ≥ (↑s.length : Int)))
          (outAt .ret gbOut0 [.l .ints (l), .b false, .b (ok), .i (f), .i (t), .i (n), .l .ints (s), .i (t2), .i (n2), .l .ints (s2), .i (t3), .i (n3), .i (t4), .i (n4)])
          (.ite (inRange (↑(cntN s (l.getD i.toNat RC.ints.zero)) : Int) s.length)
           (.ite (inRange i l.length)
            (.ite (s.getD (↑(cntN s (l.getD i.toNat RC.ints.zero)) : Int).toNat RC.ints.zero != l.getD i.toNat RC.ints.zero)
             (outAt .ret gbOut0 [.l .ints (l), .b false, .b (ok), .i (f), .i (t), .i (n), .l .ints (s), .i (t2), .i (n2), .l .ints (s2), .i (t3), .i (n3), .i (t4), .i (n4)])
             (rounds Try.prog lawE [] 30 gbId 23 none gbSk k [.l .ints (l), .b (b), .b (ok), .i (f), .i (IntKind.i64.wrap (i + (1 : Int))), .i (t), .i (n), .l .ints (s), .i (t2), .i (n2), .l .ints (s2), .i (t3), .i (n3), .i (t4), .i (n4)]))
            .fail)
           (.fail))))
        (.fail))
       (.fail))
      (outAt (.exit 2) gbOut0 [.l .ints (l), .b (b), .b (ok), .i (f), .i (t), .i (n), .l .ints (s), .i (t2), .i (n2), .l .ints (s2), .i (t3), .i (n3), .i (t4), .i (n4)])) := by kernel_rfl

end Go.Proofs.YtdefopkieleojaaD
