/-
  Chapter 11: the law MachineRuns, to all data.
-/
import Derived.Test.YtcomfanipljolaaMchRun
set_option linter.unusedVariables false
set_option linter.unusedSimpArgs false
namespace Go.Proofs.YtcomfanipljolaaD
open Go Go.RowKit

/- MchR1 -/
/- base 82 round none: Bool, List (RC.den .rets), List (RC.den .rets), Bool, Int, Int, Int, List (RC.den .ints), Int, Int, List (RC.den .ints), Int, Int, List (RC.den .ints), Int, Int, List (RC.den .ints): [.b false, .l .rets (retsD (retsA (DState.mk t n l) ops)), .l .rets (retsD (retsA (DState.mk t n l) ops)), .b ((↑(retsD (retsA (DState.mk t n l) ops)).length : Int) == (↑(retsD (retsA (DState.mk t n l) ops)).length : Int)), .i (nat_lit 0), .i (t), .i (n), .l .ints (l), .i (t), .i (n), .l .ints (l), .i ((runA (DState.mk t n l) ops).s.type), .i ((runA (DState.mk t n l) ops).s.n), .l .ints ((runA (DState.mk t n l) ops).s.l), .i ((runA (DState.mk t n l) ops).s.type), .i ((runA (DState.mk t n l) ops).s.n), .l .ints ((runA (DState.mk t n l) ops).s.l)] -/
def mrSk : NSt := ⟨[.junk, .junk, .pointer (some ⟨0, 0, none⟩), .junk, .bool false, .pointer (some ⟨13, 0, none⟩), .pointer (some ⟨22, 0, none⟩), .junk, .junk, .junk, .junk, .junk, .pl .rets [], .junk, .pl .rets [], .junk, .bool false, .int .i64 (0), .junk, .junk, .junk, .junk, .junk, .junk, .junk, .junk, .junk, .junk, .junk, .junk, .junk, .junk, .junk, .junk, .junk, .junk, .junk, .junk, .junk, .junk, .junk, .junk, .junk, .junk, .junk, .junk, .junk, .junk, .junk, .junk, .junk, .junk, .junk, .junk, .junk, .junk, .junk, .junk, .junk, .junk, .junk, .junk, .junk, .junk, .junk, .junk, .junk, .junk, .junk, .junk, .junk, .junk, .junk, .junk, .junk, .junk, .junk, .junk, .junk, .junk, .junk, .junk, .junk, .junk, .junk, .junk, .junk, .junk, .junk, .junk, .junk, .junk, .junk, .junk, .junk, .junk, .junk, .junk, .junk, .junk, .junk, .junk, .junk, .junk, .junk, .junk, .junk, .junk, .junk, .junk], [], [(0, .cells [.int .i64 (0), .int .i64 (0), .pl .ints []] 1 0), (13, .cells [.int .i64 (0), .int .i64 (0), .pl .ints []] 1 0), (22, .cells [.int .i64 (0), .int .i64 (0), .row 26 1 (0)] 1 0), (26, .rows .ints []), (34, .cells [.int .i64 (0), .int .i64 (0), .row 38 1 (0)] 1 0), (38, .rows .ints [])], 82⟩
def mrId : LoopId := ⟨4, [0, 1, 0, 1, 1, 1, 1, 1, 1, 1, 1], []⟩

/- MchR2 -/
/- Bool, Bool, Int, Int, List (RC.den .ints), Int, Int, List (RC.den .ints), Int, Int, List (RC.den .ints), Int, Int, List (RC.den .ints) -/
def mrOut0 : NSt := ⟨[.junk, .junk, .pointer (some ⟨0, 0, none⟩), .junk, .bool false, .pointer (some ⟨13, 0, none⟩), .pointer (some ⟨22, 0, none⟩), .junk, .junk, .junk, .junk, .junk, .junk, .junk, .junk, .junk, .bool false, .junk, .junk, .junk, .junk, .junk, .junk, .junk, .junk, .junk, .junk, .junk, .junk, .junk, .junk, .junk, .junk, .junk, .junk, .junk, .junk, .junk, .junk, .junk, .junk, .junk, .junk, .junk, .junk, .junk, .junk, .junk, .junk, .junk, .junk, .junk, .junk, .junk, .junk, .junk, .junk, .junk, .junk, .junk, .junk, .junk, .junk, .junk, .junk, .junk, .junk, .junk, .junk, .junk, .junk, .junk, .junk, .junk, .junk, .junk, .junk, .junk, .junk, .junk, .junk, .junk, .junk, .junk, .junk, .junk, .junk, .junk, .junk, .junk, .junk, .junk, .junk, .junk, .junk, .junk, .junk, .junk, .junk, .junk, .junk, .junk, .junk, .junk, .junk, .junk, .junk, .junk, .junk, .junk], [], [(0, .cells [.int .i64 (0), .int .i64 (0), .pl .ints []] 1 0), (13, .cells [.int .i64 (0), .int .i64 (0), .pl .ints []] 1 0), (22, .cells [.int .i64 (0), .int .i64 (0), .row 26 1 (0)] 1 0), (26, .rows .ints []), (34, .cells [.int .i64 (0), .int .i64 (0), .row 38 1 (0)] 1 0), (38, .rows .ints [])], 82⟩
set_option maxRecDepth 100000 in
theorem mr_round (k : Nat) (b1 same : Bool) (a b : List DRet) (i t n : Int) (l : List Int) (t2 n2 : Int) (l2 : List Int) (tx nx : Int) (lx : List Int) (ty ny : Int) (ly : List Int) : ((rounds Try.prog [] [] 30 mrId 82 none mrSk (k + 1) [.b b1, .l .rets a, .l .rets b, .b same, .i i, .i t, .i n, .l .ints l, .i t2, .i n2, .l .ints l2, .i tx, .i nx, .l .ints lx, .i ty, .i ny, .l .ints ly]).cut
    (.ite (.yes (.yes (.yes (.ite (.ite (.ite (.all) (.all)) (.all)) (.all))))) (.no (.no (.no (.no (.no (.all)))))))).ev = T.ev (
     .ite (same)
      (.ite (decide (i < (↑a.length : Int)))
       (.ite (inRange i a.length)
        (.ite (inRange i b.length)
         (rounds Try.prog [] [] 30 mrId 82 none mrSk k [.b (b1), .l .rets (a), .l .rets (b), .b ((a.getD i.toNat RC.rets.zero).kind == (b.getD i.toNat RC.rets.zero).kind && ((a.getD i.toNat RC.rets.zero).n == (b.getD i.toNat RC.rets.zero).n && true)), .i (IntKind.i64.wrap (i + (1 : Int))), .i (t), .i (n), .l .ints (l), .i (t2), .i (n2), .l .ints (l2), .i (tx), .i (nx), .l .ints (lx), .i (ty), .i (ny), .l .ints (ly)])
         (.fail))
        (.fail))
       (outAt (.exit 0) mrOut0 [.b (b1), .b (same), .i (t), .i (n), .l .ints (l), .i (t2), .i (n2), .l .ints (l2), .i (tx), .i (nx), .l .ints (lx), .i (ty), .i (ny), .l .ints (ly)]))
      (outAt (.exit 0) mrOut0 [.b (b1), .b (same), .i (t), .i (n), .l .ints (l), .i (t2), .i (n2), .l .ints (l2), .i (tx), .i (nx), .l .ints (lx), .i (ty), .i (ny), .l .ints (ly)])) := by kernel_rfl

/- MchR3 -/
theorem mr_rounds (b1 : Bool) (a : List DRet) (ha : a.length ≤ 1000000000) (t n : Int) (l : List Int) (t2 n2 : Int) (l2 : List Int) (tx nx : Int) (lx : List Int) (ty ny : Int) (ly : List Int) (x : CEx × NSt) (hx : (outAt (.exit 0) mrOut0 [.b b1, .b true, .i t, .i n, .l .ints l, .i t2, .i n2, .l .ints l2, .i tx, .i nx, .l .ints lx, .i ty, .i ny, .l .ints ly]).ev = some x) : ∀ (d i : Nat), i + d = a.length →
    ∃ k, (rounds Try.prog [] [] 30 mrId 82 none mrSk k [.b b1, .l .rets a, .l .rets a, .b true, .i i, .i t, .i n, .l .ints l, .i t2, .i n2, .l .ints l2, .i tx, .i nx, .l .ints lx, .i ty, .i ny, .l .ints ly]).ev = some x
  | 0, i, h => ⟨1, by
    refine cut_ev _ _ ((mr_round 0 b1 true a a i t n l t2 n2 l2 tx nx lx ty ny ly).trans ?_)
    simpa [T.ev_ite, show ¬ ((i : Int) < ↑a.length) by omega] using hx⟩
  | d + 1, i, h => by
    obtain ⟨k, ih⟩ := mr_rounds b1 a ha t n l t2 n2 l2 tx nx lx ty ny ly x hx d (i + 1) (by omega)
    refine ⟨k + 1, cut_ev _ _ ((mr_round k b1 true a a i t n l t2 n2 l2 tx nx lx ty ny ly).trans ?_)⟩
    have hi : decide ((i : Int) < ↑a.length) = true := by rw [decide_eq_true_eq]; omega
    have hr1 : inRange (i : Int) a.length = true := by rw [inRange_iff]; omega
    have wi : IntKind.i64.wrap ((i : Int) + 1) = ((i + 1 : Nat) : Int) := by rw [wrap64 (by omega) (by omega)]; omega
    simp only [T.ev_ite, hi, hr1, wi, beq_self_eq_true, Bool.and_self, if_true]
    exact ih
def mrG : List Leaf → T (CEx × NSt)
  | [.b b1, .l .rets a, .l .rets b, .b same, .i i, .i t, .i n, .l .ints l, .i t2, .i n2, .l .ints l2, .i tx, .i nx, .l .ints lx, .i ty, .i ny, .l .ints ly] =>
    T.when (decide (a = b) && (i == 0 && small a.length)) (outAt (.exit 0) mrOut0 [.b b1, .b same, .i t, .i n, .l .ints l, .i t2, .i n2, .l .ints l2, .i tx, .i nx, .l .ints lx, .i ty, .i ny, .l .ints ly])
  | _ => .fail
theorem mr_shape : ShapeOk Try.prog [] [] mrId ⟨82, none, mrSk, mrG⟩ := by
  refine shapeOk_mk fun ls r h => ?_
  unfold mrG at h
  split at h
  · rename_i b1 a b same i t n l t2 n2 l2 tx nx lx ty ny ly
    obtain ⟨hc, h1⟩ := ev_when h
    simp only [Bool.and_eq_true, beq_iff_eq, decide_eq_true_eq, small_iff] at hc
    obtain ⟨rfl, rfl, hs⟩ := hc
    cases same with
    | true =>
      obtain ⟨k, hk⟩ := mr_rounds b1 a hs t n l t2 n2 l2 tx nx lx ty ny ly r h1 a.length 0 (by omega)
      exact ⟨30, k, hk⟩
    | false =>
      refine ⟨30, 1, cut_ev _ _ ((mr_round 0 b1 false a a 0 t n l t2 n2 l2 tx nx lx ty ny ly).trans ?_)⟩
      simpa [T.ev_ite] using h1
  · exact (ev_fail h).elim
def mrL : List (Nat × List Nat × LoopFn) := [(4, [0, 1, 0, 1, 1, 1, 1, 1, 1, 1, 1], loopExt mrId [⟨82, none, mrSk, mrG⟩])]
theorem mrL_ok (N : Nat) : LoopsOk Try.prog N mrL :=
  loopsOk_cons (loopExt_ok plainN mixedN (fun _ => extsOk_nil) (fun _ => loopsOk_nil) (all1 mr_shape all0) N) loopsOk_nil

/- MchR4 -/
set_option maxRecDepth 100000 in
theorem runs_tree (t n : Int) (l : List Int) (ops : List DOp) : (((tden Try.prog lawN2 mrL 30).call 0 4 [.agg #[.int .i64 t, .int .i64 n, .pl .ints l], .pl .ops ops] ⟨.nil, 0⟩).pure.cut
    (.ite (.yes (.yes (.yes (.yes (.all))))) (.no (.no (.ite (.all) (.ite (.ite (.yes (.yes (.yes (.ite (.ite (.yes (.yes (.yes (.yes (.yes (.yes (.yes (.yes (.yes (.yes (.yes (.yes (.yes (.ite (.yes (.yes (.yes (.yes (.yes (.ite (.all) (.no (.all)))))))) (.all))))))))))))))) (.no (.no (.no (.no (.no (.no (.no (.no (.no (.no (.no (.no (.no (.no (.no (.no (.no (.ite (.yes (.no (.no (.no (.no (.no (.no (.all)))))))) (.all)))))))))))))))))))) (.all))))) (.all)) (.all))))))).ev = T.ev (α := CV) (
     .ite (decide ((↑l.length : Int) > (60 : Int)))
      (.ret (.bool true))
      (.ite (decide ((↑ops.length : Int) > (30 : Int)))
       (.ret (.bool true))
       (.ite (small l.length)
        (.ite (runB l ops)
         (.ite (runB l ops)
          (.ite (runB l ops)
           (.ite (runB l ops)
            (.ite (small (runA (DState.mk t n l) ops).s.l.length)
             (.ite ((runA (DState.mk t n l) ops).s.type == (runA (DState.mk t n l) ops).s.type && (runA (DState.mk t n l) ops).s.n == (runA (DState.mk t n l) ops).s.n && (runA (DState.mk t n l) ops).s.l == (runA (DState.mk t n l) ops).s.l)
              (.ite ((runA (DState.mk t n l) ops).n == (runA (DState.mk t n l) ops).n)
               (.ite ((runA (DState.mk t n l) ops).e == (runA (DState.mk t n l) ops).e)
                (.ite ((retsA (DState.mk t n l) ops).e == (retsA (DState.mk t n l) ops).e)
                 (.ite (decide (retsD (retsA (DState.mk t n l) ops) = retsD (retsA (DState.mk t n l) ops)) && ((0 : Int) == (0 : Int) && small (retsD (retsA (DState.mk t n l) ops)).length))
                  (.ite (small (runA (DState.mk t n l) ops).s.l.length)
                   (.ite ((↑(retsD (retsA (DState.mk t n l) ops)).length : Int) == (↑(retsD (retsA (DState.mk t n l) ops)).length : Int))
                    (.ite (small l.length)
                     (.ite (t == t && n == n && l == l)
                      (.ret (.bool true))
                      (.ret (.bool false)))
                     .fail)
                    .fail)
                   .fail)
                  (.fail))
                 .fail)
                .fail)
               .fail)
              (.ite (decide (retsD (retsA (DState.mk t n l) ops) = retsD (retsA (DState.mk t n l) ops)) && ((0 : Int) == (0 : Int) && small (retsD (retsA (DState.mk t n l) ops)).length))
               (.ite (small (runA (DState.mk t n l) ops).s.l.length)
                (.ret (.bool false))
                .fail)
               (.fail)))
             (.fail))
            .fail)
           .fail)
          .fail)
         (.fail))
        (.fail)))) := by kernel_rfl

/- MchR5 -/
theorem Lf.ops {x : CV} (h : (Ar.one (.row .ops)).is x) : ∃ l : List DOp, x = .pl .ops l ∧ ∀ o ∈ l, wfOp o := by
  obtain ⟨l, rfl, h1⟩ := h
  exact ⟨l, rfl, h1⟩
theorem opsB_wf {l : List DOp} (h : ∀ o ∈ l, wfOp o) : opsB l = true := by
  rw [opsB, List.all_eq_true]
  intro o ho
  obtain ⟨_, h1, h2, _⟩ := h o ho
  rw [opB, inI64_w h1, inI64_w h2]; rfl
theorem runA_len (s : DState) (ops : List DOp) : (runA s ops).s.l.length ≤ s.l.length + 2 * ops.length := by
  induction ops generalizing s with
  | nil => exact Nat.le_refl _
  | cons o r ih =>
    rw [runA_cons]
    have h1 := mach_len s.type s.n s.l o.kind o.a o.b
    have h2 := ih (stepA s o).s
    have h3 : (stepA s o).s.l.length ≤ s.l.length + 2 := h1
    split
    · show s.l.length ≤ _; omega
    · split
      · show s.l.length ≤ _; omega
      · show (runA (stepA s o).s r).s.l.length ≤ _
        simp only [List.length_cons]; omega
theorem retsA_len (s : DState) (ops : List DOp) : (retsA s ops).l.length ≤ ops.length := by
  induction ops generalizing s with
  | nil => exact Nat.le_refl _
  | cons o r ih =>
    rw [retsA_cons]
    split
    · exact Nat.zero_le _
    · have := ih (stepA s o).s
      simp only [List.length_cons]; omega
theorem retsD_len (x : Rets) : (retsD x).length ≤ x.l.length := by unfold retsD; split <;> simp

set_option maxHeartbeats 4000000 in
theorem runs_all (xs : List CV) (h : ArsAll [.agg [i6, i6, .row .ints], .one (.row .ops)] xs) : PureAt Try.prog 4 xs (.bool true) := by
  obtain ⟨_, _, rfl, h1, h2⟩ := h.cons_inv; obtain ⟨t, n, l, rfl, _⟩ := Ar.state h1
  obtain ⟨_, _, rfl, h3, h4⟩ := h2.cons_inv; obtain ⟨ops, rfl, wo⟩ := Lf.ops h3
  cases h4.nil_inv
  refine pureAt0 plainN mixedN lawN2_ok mrL_ok (k := 30) ((runs_tree t n l ops).trans ?_) rfl
  clear h h1 h2 h3 h4
  by_cases hl : l.length ≤ 60
  · by_cases ho : ops.length ≤ 30
    · have hs : small l.length = true := by rw [small_iff]; omega
      have hd : ¬ (60 : Int) < l.length := by omega
      have hd2 : ¬ (30 : Int) < ops.length := by omega
      have hr : runB l ops = true := by rw [runB, opsB_wf wo, Bool.true_and, Nat.ble_eq]; omega
      have h1 := runA_len ⟨t, n, l⟩ ops
      have h2 := retsA_len ⟨t, n, l⟩ ops
      have h3 := retsD_len (retsA ⟨t, n, l⟩ ops)
      have s1 : small (runA ⟨t, n, l⟩ ops).s.l.length = true := by rw [small_iff]; simp only [] at h1; omega
      have s2 : small (retsD (retsA ⟨t, n, l⟩ ops)).length = true := by rw [small_iff]; omega
      simp [T.ev_ite, T.ev_ret, hs, hd, hd2, hr, s1, s2]
    · simp [T.ev_ite, T.ev_ret, show (30 : Int) < ops.length by omega]
  · simp [T.ev_ite, T.ev_ret, show (60 : Int) < l.length by omega]

end Go.Proofs.YtcomfanipljolaaD
