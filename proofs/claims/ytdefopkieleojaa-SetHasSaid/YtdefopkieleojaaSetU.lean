/-
  Chapter 07: SetGrows' first loop: rounds.
-/
import Derived.Test.YtdefopkieleojaaSetT
set_option linter.unusedVariables false
set_option linter.unusedSimpArgs false
namespace Go.Proofs.YtdefopkieleojaaD
open Go Go.RowKit

/- List (RC.den .ints), Bool, Bool, Int, Int, Int, List (RC.den .ints), Int, Int, List (RC.den .ints), Int, Int, Int, Int -/
def gaOut0 : NSt := ⟨[.pl .ints [], .junk, .bool false, .bool false, .pointer (some ⟨8, 0, none⟩), .pointer (some ⟨9, 0, none⟩), .int .i64 (0), .junk, .junk, .junk, .junk, .junk, .junk, .junk, .junk, .junk, .junk, .junk, .junk, .junk, .junk, .junk, .junk, .junk, .junk, .junk, .junk, .junk, .junk, .junk, .junk, .junk, .junk, .junk, .junk, .junk, .junk, .junk, .junk, .junk, .junk, .junk, .junk, .junk, .junk, .junk, .junk, .junk, .junk, .junk, .junk, .junk, .junk, .junk, .junk, .junk, .junk, .junk, .junk, .junk, .junk, .junk, .junk, .junk, .junk, .junk, .junk, .junk, .junk, .junk, .junk, .junk, .junk, .junk, .junk, .junk, .junk, .junk, .junk, .junk, .junk, .junk, .junk, .junk, .junk, .junk, .junk, .junk, .junk, .junk, .junk, .junk, .junk, .junk, .junk, .junk, .junk, .junk, .junk, .junk, .junk, .junk, .junk, .junk, .junk, .junk, .junk, .junk, .junk, .junk, .junk, .junk, .junk, .junk, .junk, .junk, .junk, .junk, .junk, .junk, .junk, .junk, .junk, .junk, .junk, .junk, .junk, .junk, .junk, .junk, .junk, .junk, .junk, .junk, .junk, .junk, .junk], [], [(8, .cells [.int .i64 (0), .int .i64 (0), .pl .ints []] 1 0), (9, .cells [.int .i64 (0), .int .i64 (0), .pl .ints []] 1 0), (13, .cells [.int .i64 (0), .int .i64 (0), .slice none (0) (0)] 1 0), (17, .cells [.int .i64 (0), .int .i64 (0), .slice none (0) (0)] 1 0)], 22⟩
set_option maxRecDepth 100000 in
theorem ga_round (k : Nat) (l : List Int) (b ok : Bool) (f i t n : Int) (s : List Int) (t2 n2 : Int) (s2 : List Int) (t3 n3 t4 n4 : Int) : ((rounds Try.prog lawE [] 30 gaId 22 none gaSk (k + 1) [.l .ints l, .b b, .b ok, .i f, .i i, .i t, .i n, .l .ints s, .i t2, .i n2, .l .ints s2, .i t3, .i n3, .i t4, .i n4]).cut
    (.ite (.ite (.ite (.yes (.yes (.ite (.ite (.yes (.yes (.ite (.yes (.yes (.yes (.yes (.yes (.yes (.yes (.yes (.yes (.yes (.yes (.all)))))))))))) (.no (.ite (.yes (.yes (.yes (.yes (.yes (.yes (.yes (.yes (.all))))))))) (.no (.no (.ite (.yes (.yes (.yes (.yes (.all))))) (.no (.no (.ite (.all) (.all)))))))))))) (.all)) (.all)))) (.all)) (.all)) (.all))).ev = T.ev (
     .ite (decide (i < (↑l.length : Int)))
      (.ite (inRange i l.length)
       (.ite (midB s)
        (.ite (inRange (IntKind.i64.wrap (IntKind.i64.wrap ((↑l.length : Int) - (1 : Int)) - i)) l.length)
         (.ite (midB s2)
          (.ite ((setA t n s (3 : Int) (l.getD i.toNat RC.ints.zero) (0 : Int)).e != (0 : Int))
           (outAt .ret gaOut0 [.l .ints (l), .b false, .b (ok), .i (f), .i (t), .i (n), .l .ints (s), .i (t2), .i (n2), .l .ints (s2), .i (t3), .i (n3), .i (t4), .i (n4)])
           (.ite ((setA t2 n2 s2 (3 : Int) (l.getD (IntKind.i64.wrap (IntKind.i64.wrap ((↑l.length : Int) - (1 : Int)) - i)).toNat RC.ints.zero) (0 : Int)).e != (0 : Int))
            (outAt .ret gaOut0 [.l .ints (l), .b false, .b (ok), .i (f), .i (t), .i (n), .l .ints (s), .i (t2), .i (n2), .l .ints (s2), .i (t3), .i (n3), .i (t4), .i (n4)])
            (.ite (decide ((setA t n s (3 : Int) (l.getD i.toNat RC.ints.zero) (0 : Int)).r.n < (0 : Int)))
             (outAt .ret gaOut0 [.l .ints (l), .b false, .b (ok), .i (f), .i (t), .i (n), .l .ints (s), .i (t2), .i (n2), .l .ints (s2), .i (t3), .i (n3), .i (t4), .i (n4)])
             (.ite (decide ((setA t n s (3 : Int) (l.getD i.toNat RC.ints.zero) (0 : Int)).r.n > (1 : Int)))
              (outAt .ret gaOut0 [.l .ints (l), .b false, .b (ok), .i (f), .i (t), .i (n), .l .ints (s), .i (t2), .i (n2), .l .ints (s2), .i (t3), .i (n3), .i (t4), .i (n4)])
              (rounds Try.prog lawE [] 30 gaId 22 none gaSk k [.l .ints (l), .b (b), .b (ok), .i (IntKind.i64.wrap (f + (setA t n s (3 : Int) (l.getD i.toNat RC.ints.zero) (0 : Int)).r.n)), .i (IntKind.i64.wrap (i + (1 : Int))), .i ((setA t n s (3 : Int) (l.getD i.toNat RC.ints.zero) (0 : Int)).s.type), .i ((setA t n s (3 : Int) (l.getD i.toNat RC.ints.zero) (0 : Int)).s.n), .l .ints ((setA t n s (3 : Int) (l.getD i.toNat RC.ints.zero) (0 : Int)).s.l), .i ((setA t2 n2 s2 (3 : Int) (l.getD (IntKind.i64.wrap (IntKind.i64.wrap ((↑l.length : Int) - (1 : Int)) - i)).toNat RC.ints.zero) (0 : Int)).s.type), .i ((setA t2 n2 s2 (3 : Int) (l.getD (IntKind.i64.wrap (IntKind.i64.wrap ((↑l.length : Int) - (1 : Int)) - i)).toNat RC.ints.zero) (0 : Int)).s.n), .l .ints ((setA t2 n2 s2 (3 : Int) (l.getD (IntKind.i64.wrap (IntKind.i64.wrap ((↑l.length : Int) - (1 : Int)) - i)).toNat RC.ints.zero) (0 : Int)).s.l), .i (t3), .i (n3), .i (t4), .i (n4)])))))
          (.fail))
         (.fail))
        (.fail))
       (.fail))
      (outAt (.exit 0) gaOut0 [.l .ints (l), .b (b), .b (ok), .i (f), .i (t), .i (n), .l .ints (s), .i (t2), .i (n2), .l .ints (s2), .i (t3), .i (n3), .i (t4), .i (n4)])) := by kernel_rfl

end Go.Proofs.YtdefopkieleojaaD
