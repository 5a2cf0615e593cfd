/-
  Escrow: the law on ranges, on open arguments.
-/
import Derived.Test.YtjbbhccoamhbgaaEscC
set_option linter.unusedVariables false
set_option linter.unusedSimpArgs false
namespace Go.Proofs.YtjbbhccoamhbgaaD
open Go Go.RowKit

set_option maxRecDepth 100000 in
theorem ranges_tree (k a r n : Int) : (((tden Try.prog [(14, plainExt rangeG), (15, plainExt rangeG), (16, plainExt roomG), (17, plainExt roomG), (9, plainExt trueG)] 30).call 0 4 [.int .i64 k, .int .i64 a, .int .i64 r, .int .i64 n] ⟨.nil, 0⟩).val.cut
    (.ite (.yes (.yes (.ite (.yes (.yes (.ite (.yes (.yes (.yes (.yes (.ite (.all) (.no (.all))))))) (.no (.no (.no (.no (.no (.no (.no (.all))))))))))) (.no (.no (.no (.no (.no (.no (.no (.no (.no (.no (.no (.all))))))))))))))) (.no (.no (.no (.no (.no (.no (.no (.no (.no (.no (.no (.no (.no (.no (.no (.all)))))))))))))))))).ev = T.ev (α := Value) (
     .ite ((rangeT k a r).fst == (rangeT k a r).fst)
      (.ite ((rangeT k a r).snd.fst == (rangeT k a r).snd.fst)
       (.ite ((rangeT k a r).snd.snd == (rangeT k a r).snd.snd)
        (.ite (roomF n == roomF n)
         (.ret (.bool true))
         (.ret (.bool false)))
        (.ret (.bool false)))
       (.ret (.bool false)))
      (.ret (.bool false))) := by kernel_rfl

theorem ranges_plain (k a r n : Int) : Plain Try.prog 4 [.int .i64 k, .int .i64 a, .int .i64 r, .int .i64 n] (.bool true) := by
  refine plain_of plain mixed (fun N => extsOk_cons (extsOk_cons (extsOk_cons (extsOk_cons (extsOk_cons extsOk_nil awake_plain) rroom_plain) room_plain) rrange_plain) range_plain) (k := 30) rfl rfl (cut_ev _ _ ((ranges_tree k a r n).trans ?_))
  simp [T.ev]

end Go.Proofs.YtjbbhccoamhbgaaD
