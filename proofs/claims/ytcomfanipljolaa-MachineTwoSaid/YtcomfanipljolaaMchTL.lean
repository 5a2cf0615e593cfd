/-
  Chapter 11: the law MachineTwo, to all data.
-/
import Derived.Test.YtcomfanipljolaaMchRL
set_option linter.unusedVariables false
set_option linter.unusedSimpArgs false
namespace Go.Proofs.YtcomfanipljolaaD
open Go Go.RowKit

/- MchS1 -/
set_option maxRecDepth 100000 in
theorem retsN_tree (t n : Int) (l : List Int) (ops : List DOp) : ((((tden Try.prog mchE retL 30).call 0 20 [.agg #[.int .i64 t, .int .i64 n, .pl .ints l], .pl .ops ops] ⟨.nil, 0⟩).fresh (sgR)).cut
    (.ite (.ite (.yes (.all)) (.yes (.all))) (.all))).ev = T.ev (α := CV) (
     .ite ((↑ops.length : Int) == (↑ops.length : Int) && ((0 : Int) == (0 : Int) && ((0 : Int) == (0 : Int) && (t == t && (n == n && (decide (l = l) && (decide (ops = ops) && (opsB ops && (l.length + (2 : Nat) * ops.length).ble (1000000 : Nat)))))))))
      (.ite ((retsA (DState.mk t n l) ops).e != (0 : Int))
       (.ret (.tuple #[.pl .rets ([]), .int .i64 ((retsA (DState.mk t n l) ops).e)]))
       (.ret (.tuple #[.pl .rets ([] ++ (retsA (DState.mk t n l) ops).l), .int .i64 (0)])))
      (.fail)) := by kernel_rfl

/- MchS2 -/
theorem retsN_fn : FreshFn Try.prog 20 (sigExt [sgS, .l .ops] retsG) :=
  freshFn_mk (bodied_ex (by kernel_rfl)) fun args d h => by
    unfold retsG at h
    split at h
    · rename_i t n l ops
      obtain ⟨hc, h1⟩ := ev_when h
      cases ev_ret h1
      refine freshAtS plainN mixedN mchE_ok retL_ok (k := 30) (retsN_tree t n l ops) ?_
      obtain ⟨h2, _, h3, h4⟩ := runB_inv hc
      by_cases e : (retsA ⟨t, n, l⟩ ops).e = 0
      · simp only [sat_ite, sat_ret, sat_fail, h2, h3, h4, e, retsD, beq_self_eq_true, bne_self_eq_false, decide_true, Bool.and_self, true_implies, Bool.true_eq_false, Bool.false_eq_true, false_implies, and_true, true_and, if_true, List.nil_append]
        exact ⟨rfl⟩
      · have e' : ((retsA ⟨t, n, l⟩ ops).e != 0) = true := by rw [bne_iff_ne]; exact e
        simp only [sat_ite, sat_ret, sat_fail, h2, h3, h4, e', retsD, if_neg e, beq_self_eq_true, decide_true, Bool.and_self, true_implies, Bool.true_eq_false, false_implies, and_true, true_and]
        exact ⟨rfl⟩
    · exact (ev_fail h).elim

def lawN3 : List (Nat × ExtFn) := (20, freshExt (sigExt [sgS, .l .ops] retsG)) :: (runNE ++ lawE)
theorem lawN3_ok (N : Nat) : ExtsOk Try.prog N lawN3 := extsOk_cons (extOk_fresh retsN_fn) (exts_append (runNE_ok N) (lawE_ok N))

/- MchT1 -/
/- base 20 round none: List (RC.den .ints), Int, Bool, Bool, Int, Int, Int, List (RC.den .ints), List (RC.den .ops): [.l .ints (q), .i (c), .b false, .b true, .i (nat_lit 0), .i (t), .i (n), .l .ints (l), .l .ops ([])] -/
def taSk : NSt := ⟨[.junk, .pl .ints [], .int .i64 (0), .pointer (some ⟨0, 0, none⟩), .junk, .junk, .bool false, .bool false, .row 20 5 (0), .int .i64 (0), .junk, .junk, .junk, .junk, .junk, .junk, .junk, .junk, .junk, .junk, .junk, .junk, .junk, .junk, .junk, .junk, .junk, .junk, .junk, .junk, .junk, .junk, .junk, .junk, .junk, .junk, .junk, .junk, .junk, .junk, .junk, .junk, .junk, .junk, .junk, .junk, .junk, .junk, .junk, .junk, .junk, .junk, .junk, .junk, .junk, .junk, .junk, .junk, .junk, .junk, .junk, .junk, .junk, .junk, .junk, .junk, .junk, .junk, .junk, .junk, .junk, .junk, .junk, .junk, .junk, .junk, .junk, .junk, .junk, .junk, .junk, .junk, .junk, .junk, .junk, .junk, .junk, .junk, .junk, .junk, .junk, .junk, .junk, .junk, .junk, .junk, .junk, .junk, .junk, .junk, .junk, .junk, .junk, .junk, .junk, .junk, .junk, .junk, .junk, .junk, .junk, .junk, .junk, .junk, .junk, .junk, .junk, .junk, .junk, .junk, .junk, .junk, .junk, .junk, .junk, .junk, .junk, .junk, .junk, .junk, .junk, .junk, .junk, .junk, .junk, .junk, .junk, .junk, .junk, .junk, .junk, .junk, .junk, .junk, .junk, .junk, .junk, .junk, .junk, .junk, .junk, .junk, .junk, .junk, .junk, .junk, .junk, .junk, .junk, .junk, .junk], [], [(0, .cells [.int .i64 (0), .int .i64 (0), .pl .ints []] 1 0), (20, .rows .ops [])], 21⟩

/- MchT2 -/
def taId : LoopId := ⟨7, [0, 1, 0, 1, 1, 1, 1], [(8, .ops)]⟩
/- Int, Bool, Bool, Int, Int, List (RC.den .ints), List (RC.den .ops) -/
def taOut0 : NSt := ⟨[.junk, .junk, .int .i64 (0), .pointer (some ⟨0, 0, none⟩), .junk, .junk, .bool false, .bool false, .row 20 5 (0), .junk, .junk, .junk, .junk, .junk, .junk, .junk, .junk, .junk, .junk, .junk, .junk, .junk, .junk, .junk, .junk, .junk, .junk, .junk, .junk, .junk, .junk, .junk, .junk, .junk, .junk, .junk, .junk, .junk, .junk, .junk, .junk, .junk, .junk, .junk, .junk, .junk, .junk, .junk, .junk, .junk, .junk, .junk, .junk, .junk, .junk, .junk, .junk, .junk, .junk, .junk, .junk, .junk, .junk, .junk, .junk, .junk, .junk, .junk, .junk, .junk, .junk, .junk, .junk, .junk, .junk, .junk, .junk, .junk, .junk, .junk, .junk, .junk, .junk, .junk, .junk, .junk, .junk, .junk, .junk, .junk, .junk, .junk, .junk, .junk, .junk, .junk, .junk, .junk, .junk, .junk, .junk, .junk, .junk, .junk, .junk, .junk, .junk, .junk, .junk, .junk, .junk, .junk, .junk, .junk, .junk, .junk, .junk, .junk, .junk, .junk, .junk, .junk, .junk, .junk, .junk, .junk, .junk, .junk, .junk, .junk, .junk, .junk, .junk, .junk, .junk, .junk, .junk, .junk, .junk, .junk, .junk, .junk, .junk, .junk, .junk, .junk, .junk, .junk, .junk, .junk, .junk, .junk, .junk, .junk, .junk, .junk, .junk, .junk, .junk, .junk, .junk], [], [(0, .cells [.int .i64 (0), .int .i64 (0), .pl .ints []] 1 0), (20, .rows .ops [])], 21⟩
set_option maxRecDepth 100000 in
theorem ta_round (k : Nat) (q : List Int) (c : Int) (b ok : Bool) (i t n : Int) (l : List Int) (out : List DOp) : (rounds Try.prog lawE [] 30 taId 20 none taSk (k + 1) [.l .ints q, .i c, .b b, .b ok, .i i, .i t, .i n, .l .ints l, .l .ops out]).ev = T.ev (
     .ite (decide (IntKind.i64.wrap (i + (2 : Int)) < (↑q.length : Int)))
      (.ite (inRange i q.length)
       (.ite (inRange (IntKind.i64.wrap (i + (1 : Int))) q.length)
        (.ite (inRange (IntKind.i64.wrap (i + (2 : Int))) q.length)
         (.ite (Ctr.inI64 (q.getD i.toNat RC.ints.zero) && Ctr.inI64 (q.getD (IntKind.i64.wrap (i + (1 : Int))).toNat RC.ints.zero))
          (.ite (roomB (out.length + [DOp.mk (mayK t (q.getD i.toNat RC.ints.zero)) (mayX t (q.getD i.toNat RC.ints.zero) (q.getD (IntKind.i64.wrap (i + (1 : Int))).toNat RC.ints.zero) (q.getD (IntKind.i64.wrap (i + (2 : Int))).toNat RC.ints.zero)) (mayY t (q.getD i.toNat RC.ints.zero) (q.getD (IntKind.i64.wrap (i + (2 : Int))).toNat RC.ints.zero)) (DRet.mk (0 : Int) (0 : Int))].length) (40 : Nat))
           (rounds Try.prog lawE [] 30 taId 20 none taSk k [.l .ints (q), .i (c), .b (b), .b (ok), .i (IntKind.i64.wrap (i + (3 : Int))), .i (t), .i (n), .l .ints (l), .l .ops (out ++ [DOp.mk (mayK t (q.getD i.toNat RC.ints.zero)) (mayX t (q.getD i.toNat RC.ints.zero) (q.getD (IntKind.i64.wrap (i + (1 : Int))).toNat RC.ints.zero) (q.getD (IntKind.i64.wrap (i + (2 : Int))).toNat RC.ints.zero)) (mayY t (q.getD i.toNat RC.ints.zero) (q.getD (IntKind.i64.wrap (i + (2 : Int))).toNat RC.ints.zero)) (DRet.mk (0 : Int) (0 : Int))])])
           (.fail))
          (.fail))
         (.fail))
        (.fail))
       (.fail))
      (outAt (.exit 0) taOut0 [.i (c), .b (b), .b (ok), .i (t), .i (n), .l .ints (l), .l .ops (out)])) := by kernel_rfl

/- MchT3 -/
/-- Operations by numbers, three each. -/
def opsOf (t : Int) : List Int → List DOp
  | w :: a :: b :: r => ⟨mayK t w, mayX t w a b, mayY t w b, 0, 0⟩ :: opsOf t r
  | _ => []
theorem opsOf_short (t : Int) : ∀ (l : List Int), l.length < 3 → opsOf t l = []
  | [], _ => rfl
  | [_], _ => rfl
  | [_, _], _ => rfl
  | _ :: _ :: _ :: _, h => by simp at h; omega
theorem opsOf_len (t : Int) : ∀ (d : Nat) (l : List Int), l.length ≤ d → 3 * (opsOf t l).length ≤ l.length
  | 0, l, h => by rw [opsOf_short t l (by omega)]; simp
  | d + 1, [], h => by simp [opsOf]
  | d + 1, [_], h => by simp [opsOf]
  | d + 1, [_, _], h => by simp [opsOf]
  | d + 1, w :: a :: b :: r, h => by
    have := opsOf_len t d r (by simp at h; omega)
    simp only [opsOf, List.length_cons]; omega
def intsB (q : List Int) : Bool := q.all Ctr.inI64
theorem intsB_get {q : List Int} (h : intsB q = true) {i : Nat} (hi : i < q.length) : Ctr.inI64 (q.getD i RC.ints.zero) = true := by
  rw [intsB, List.all_eq_true] at h
  refine h _ ?_
  rw [List.getD_eq_getElem?_getD, List.getElem?_eq_getElem hi]; exact List.getElem_mem _
theorem room40 {n : Nat} (h : n ≤ 10000000) : roomB n 40 = true := by rw [roomB_iff]; omega

theorem ta_rounds (q : List Int) (hq : intsB q = true) (hs : q.length ≤ 1000000) (c : Int) (b ok : Bool) (t n : Int) (l : List Int) (x : CEx × NSt) : ∀ (d i : Nat), q.length ≤ i + d → i ≤ q.length → ∀ (out : List DOp), out.length ≤ i →
    (outAt (.exit 0) taOut0 [.i c, .b b, .b ok, .i t, .i n, .l .ints l, .l .ops (out ++ opsOf t (q.drop i))]).ev = some x →
    ∃ k, (rounds Try.prog lawE [] 30 taId 20 none taSk k [.l .ints q, .i c, .b b, .b ok, .i i, .i t, .i n, .l .ints l, .l .ops out]).ev = some x
  | 0, i, h, hi, out, ho, hx => by
    refine ⟨1, ?_⟩
    have w2 : IntKind.i64.wrap ((i : Int) + 2) = ((i + 2 : Nat) : Int) := by rw [wrap64 (by omega) (by omega)]; omega
    rw [ta_round, T.ev_ite, w2, show decide (((i + 2 : Nat) : Int) < ↑q.length) = false by simp; omega]
    rw [opsOf_short t (q.drop i) (by simp; omega)] at hx
    simpa using hx
  | d + 1, i, h, hi, out, ho, hx => by
    have w1 : IntKind.i64.wrap ((i : Int) + 1) = ((i + 1 : Nat) : Int) := by rw [wrap64 (by omega) (by omega)]; omega
    have w2 : IntKind.i64.wrap ((i : Int) + 2) = ((i + 2 : Nat) : Int) := by rw [wrap64 (by omega) (by omega)]; omega
    have w3 : IntKind.i64.wrap ((i : Int) + 3) = ((i + 3 : Nat) : Int) := by rw [wrap64 (by omega) (by omega)]; omega
    by_cases h2 : i + 2 < q.length
    · rw [getD_cons (l := q) (i := i) (by omega) RC.ints.zero, getD_cons (l := q) (i := i + 1) (by omega) RC.ints.zero, getD_cons (l := q) (i := i + 2) (by omega) RC.ints.zero] at hx
      simp only [opsOf] at hx
      obtain ⟨k, ih⟩ := ta_rounds q hq hs c b ok t n l x d (i + 3) (by omega) (by omega) (out ++ [DOp.mk (mayK t (q.getD i RC.ints.zero)) (mayX t (q.getD i RC.ints.zero) (q.getD (i + 1) RC.ints.zero) (q.getD (i + 2) RC.ints.zero)) (mayY t (q.getD i RC.ints.zero) (q.getD (i + 2) RC.ints.zero)) ⟨0, 0⟩]) (by simp; omega) (by
        rw [List.append_assoc]; exact hx)
      refine ⟨k + 1, ?_⟩
      have h0 : decide (((i + 2 : Nat) : Int) < ↑q.length) = true := by rw [decide_eq_true_eq]; omega
      have r0 : inRange (i : Int) q.length = true := by rw [inRange_iff]; omega
      have r1 : inRange ((i + 1 : Nat) : Int) q.length = true := by rw [inRange_iff]; omega
      have r2 : inRange ((i + 2 : Nat) : Int) q.length = true := by rw [inRange_iff]; omega
      have i0 := intsB_get hq (i := i) (by omega)
      have i1 := intsB_get hq (i := i + 1) (by omega)
      rw [ta_round]
      simp only [w1, w2, w3, Int.toNat_natCast]
      have hrm : ∀ o : DOp, roomB (out.length + [o].length) 40 = true := fun o => room40 (by simp; omega)
      simp only [T.ev_ite, h0, r0, r1, r2, i0, i1, hrm, Bool.and_self, if_true]
      exact ih
    · refine ⟨1, ?_⟩
      rw [ta_round, T.ev_ite, w2, show decide (((i + 2 : Nat) : Int) < ↑q.length) = false by simp; omega]
      rw [opsOf_short t (q.drop i) (by simp; omega)] at hx
      simpa using hx
def taG : List Leaf → T (CEx × NSt)
  | [.l .ints q, .i c, .b b, .b ok, .i i, .i t, .i n, .l .ints l, .l .ops []] => T.when (i == 0 && (intsB q && Nat.ble q.length 1000000)) (outAt (.exit 0) taOut0 [.i c, .b b, .b ok, .i t, .i n, .l .ints l, .l .ops (opsOf t q)])
  | _ => .fail
theorem ta_shape : ShapeOk Try.prog lawE [] taId ⟨20, none, taSk, taG⟩ := by
  refine shapeOk_mk fun ls r h => ?_
  unfold taG at h
  split at h
  · rename_i q c b ok i t n l
    obtain ⟨hc, h1⟩ := ev_when h
    simp only [Bool.and_eq_true, beq_iff_eq, Nat.ble_eq] at hc
    obtain ⟨rfl, hq, hs⟩ := hc
    obtain ⟨k, hk⟩ := ta_rounds q hq hs c b ok t n l r q.length 0 (by omega) (by omega) [] (by simp) (by simpa using h1)
    exact ⟨30, k, hk⟩
  · exact (ev_fail h).elim
def taL : List (Nat × List Nat × LoopFn) := [(7, [0, 1, 0, 1, 1, 1, 1], loopExt taId [⟨20, none, taSk, taG⟩])]
theorem taL_ok (N : Nat) : LoopsOk Try.prog N taL :=
  loopsOk_cons (loopExt_ok plainN mixedN lawE_ok (fun _ => loopsOk_nil) (all1 ta_shape all0) N) loopsOk_nil

/- MchT4 -/
/- base 40 round none: Int, Bool, Bool, Int, Int, Int, List (RC.den .ints), List (RC.den .ops), List (RC.den .rets): [.i (c), .b false, .b true, .i (nat_lit 0), .i (t), .i (n), .l .ints (l), .l .ops (opsOf t q), .l .rets (retsD (retsA (DState.mk t n l) (opsOf t q)))] -/
def tbSk : NSt := ⟨[.junk, .junk, .int .i64 (0), .pointer (some ⟨0, 0, none⟩), .junk, .junk, .bool false, .bool false, .row 20 5 (0), .junk, .row 29 2 (0), .junk, .int .i64 (0), .junk, .junk, .junk, .junk, .junk, .junk, .junk, .junk, .junk, .junk, .junk, .junk, .junk, .junk, .junk, .junk, .junk, .junk, .junk, .junk, .junk, .junk, .junk, .junk, .junk, .junk, .junk, .junk, .junk, .junk, .junk, .junk, .junk, .junk, .junk, .junk, .junk, .junk, .junk, .junk, .junk, .junk, .junk, .junk, .junk, .junk, .junk, .junk, .junk, .junk, .junk, .junk, .junk, .junk, .junk, .junk, .junk, .junk, .junk, .junk, .junk, .junk, .junk, .junk, .junk, .junk, .junk, .junk, .junk, .junk, .junk, .junk, .junk, .junk, .junk, .junk, .junk, .junk, .junk, .junk, .junk, .junk, .junk, .junk, .junk, .junk, .junk, .junk, .junk, .junk, .junk, .junk, .junk, .junk, .junk, .junk, .junk, .junk, .junk, .junk, .junk, .junk, .junk, .junk, .junk, .junk, .junk, .junk, .junk, .junk, .junk, .junk, .junk, .junk, .junk, .junk, .junk, .junk, .junk, .junk, .junk, .junk, .junk, .junk, .junk, .junk, .junk, .junk, .junk, .junk, .junk, .junk, .junk, .junk, .junk, .junk, .junk, .junk, .junk, .junk, .junk, .junk, .junk, .junk, .junk, .junk, .junk, .junk], [], [(0, .cells [.int .i64 (0), .int .i64 (0), .pl .ints []] 1 0), (20, .rows .ops []), (29, .rows .rets [])], 40⟩

/- MchT5 -/
def tbId : LoopId := ⟨7, [0, 1, 0, 1, 1, 1, 1, 1, 1, 1], []⟩
/- Int, Bool, Bool, Int, Int, List (RC.den .ints), List (RC.den .ops), List (RC.den .rets) -/
def tbOut0 : NSt := ⟨[.junk, .junk, .int .i64 (0), .pointer (some ⟨0, 0, none⟩), .junk, .junk, .bool false, .bool false, .row 20 5 (0), .junk, .junk, .junk, .junk, .junk, .junk, .junk, .junk, .junk, .junk, .junk, .junk, .junk, .junk, .junk, .junk, .junk, .junk, .junk, .junk, .junk, .junk, .junk, .junk, .junk, .junk, .junk, .junk, .junk, .junk, .junk, .junk, .junk, .junk, .junk, .junk, .junk, .junk, .junk, .junk, .junk, .junk, .junk, .junk, .junk, .junk, .junk, .junk, .junk, .junk, .junk, .junk, .junk, .junk, .junk, .junk, .junk, .junk, .junk, .junk, .junk, .junk, .junk, .junk, .junk, .junk, .junk, .junk, .junk, .junk, .junk, .junk, .junk, .junk, .junk, .junk, .junk, .junk, .junk, .junk, .junk, .junk, .junk, .junk, .junk, .junk, .junk, .junk, .junk, .junk, .junk, .junk, .junk, .junk, .junk, .junk, .junk, .junk, .junk, .junk, .junk, .junk, .junk, .junk, .junk, .junk, .junk, .junk, .junk, .junk, .junk, .junk, .junk, .junk, .junk, .junk, .junk, .junk, .junk, .junk, .junk, .junk, .junk, .junk, .junk, .junk, .junk, .junk, .junk, .junk, .junk, .junk, .junk, .junk, .junk, .junk, .junk, .junk, .junk, .junk, .junk, .junk, .junk, .junk, .junk, .junk, .junk, .junk, .junk, .junk, .junk, .junk], [], [(0, .cells [.int .i64 (0), .int .i64 (0), .pl .ints []] 1 0), (20, .rows .ops []), (29, .rows .rets [])], 40⟩
set_option maxRecDepth 100000 in
theorem tb_round (k : Nat) (c : Int) (b ok : Bool) (i t n : Int) (l : List Int) (ops : List DOp) (r : List DRet) : (rounds Try.prog [] [] 30 tbId 40 none tbSk (k + 1) [.i c, .b b, .b ok, .i i, .i t, .i n, .l .ints l, .l .ops ops, .l .rets r]).ev = T.ev (
     .ite (decide (i < (↑ops.length : Int)))
      (.ite (inRange i r.length)
       (.ite (i.toNat.blt r.length)
        (.ite (inRange i ops.length)
         (.ite (i.toNat.blt ops.length)
          (rounds Try.prog [] [] 30 tbId 40 none tbSk k [.i (c), .b (b), .b (ok), .i (IntKind.i64.wrap (i + (1 : Int))), .i (t), .i (n), .l .ints (l), .l .ops (ops.set i.toNat (DOp.mk (ops.getD i.toNat RC.ops.zero).kind (ops.getD i.toNat RC.ops.zero).a (ops.getD i.toNat RC.ops.zero).b (DRet.mk (r.getD i.toNat RC.rets.zero).kind (r.getD i.toNat RC.rets.zero).n))), .l .rets (r)])
          (.fail))
         (.fail))
        (.fail))
       (.fail))
      (outAt (.exit 2) tbOut0 [.i (c), .b (b), .b (ok), .i (t), .i (n), .l .ints (l), .l .ops (ops), .l .rets (r)])) := by kernel_rfl

/- MchT6 -/
/-- Operations with what they returned. -/
def told : List DOp → List DRet → List DOp
  | o :: ops, r :: rs => ⟨o.kind, o.a, o.b, r⟩ :: told ops rs
  | _, _ => []
theorem told_len : ∀ (ops : List DOp) (r : List DRet), ops.length = r.length → (told ops r).length = ops.length
  | [], [], _ => rfl
  | o :: ops, r :: rs, h => by simp only [told, List.length_cons]; rw [told_len ops rs (by simpa using h)]
theorem told_B : ∀ (ops : List DOp) (r : List DRet), opsB ops = true → opsB (told ops r) = true
  | [], _, _ => rfl
  | o :: ops, [], _ => rfl
  | o :: ops, r :: rs, h => by
    simp only [opsB, List.all_cons, Bool.and_eq_true, told] at h ⊢
    exact ⟨h.1, told_B ops rs h.2⟩

theorem tb_rounds (c : Int) (b ok : Bool) (t n : Int) (l : List Int) (r : List DRet) (x : CEx × NSt) : ∀ (d i : Nat) (ops : List DOp), ops.length ≤ 1000000 → ops.length = r.length → i + d = ops.length →
    (outAt (.exit 2) tbOut0 [.i c, .b b, .b ok, .i t, .i n, .l .ints l, .l .ops (ops.take i ++ told (ops.drop i) (r.drop i)), .l .rets r]).ev = some x →
    ∃ k, (rounds Try.prog [] [] 30 tbId 40 none tbSk k [.i c, .b b, .b ok, .i i, .i t, .i n, .l .ints l, .l .ops ops, .l .rets r]).ev = some x
  | 0, i, ops, hs, hl, h, hx => by
    refine ⟨1, ?_⟩
    rw [tb_round, T.ev_ite, show decide ((i : Int) < ↑ops.length) = false by simp; omega]
    rw [List.drop_eq_nil_of_le (by omega), List.take_of_length_le (by omega)] at hx
    simpa [told] using hx
  | d + 1, i, ops, hs, hl, h, hx => by
    have hi : decide ((i : Int) < ↑ops.length) = true := by rw [decide_eq_true_eq]; omega
    have r1 : inRange (i : Int) ops.length = true := by rw [inRange_iff]; omega
    have r2 : inRange (i : Int) r.length = true := by rw [inRange_iff]; omega
    have b1 : i.blt ops.length = true := by rw [Nat.blt_eq]; omega
    have b2 : i.blt r.length = true := by rw [Nat.blt_eq]; omega
    have wi : IntKind.i64.wrap ((i : Int) + 1) = ((i + 1 : Nat) : Int) := by rw [wrap64 (by omega) (by omega)]; omega
    obtain ⟨k, ih⟩ := tb_rounds c b ok t n l r x d (i + 1) (ops.set i (DOp.mk (ops.getD i RC.ops.zero).kind (ops.getD i RC.ops.zero).a (ops.getD i RC.ops.zero).b (DRet.mk (r.getD i RC.rets.zero).kind (r.getD i RC.rets.zero).n))) (by simpa using hs) (by simpa using hl) (by simp; omega) (by
      rw [List.drop_set_of_lt (by omega), List.take_succ_eq_append_getElem (by simp; omega), List.take_set_of_le (Nat.le_refl i), List.getElem_set_self, List.append_assoc]
      rw [getD_cons (l := ops) (i := i) (by omega) RC.ops.zero, getD_cons (l := r) (i := i) (by omega) RC.rets.zero] at hx
      exact hx)
    refine ⟨k + 1, ?_⟩
    rw [tb_round]
    simp only [T.ev_ite, hi, r1, r2, Int.toNat_natCast, b1, b2, wi, if_true]
    exact ih
def tbG : List Leaf → T (CEx × NSt)
  | [.i c, .b b, .b ok, .i i, .i t, .i n, .l .ints l, .l .ops ops, .l .rets r] => T.when (i == 0 && (ops.length == r.length && Nat.ble ops.length 1000000)) (outAt (.exit 2) tbOut0 [.i c, .b b, .b ok, .i t, .i n, .l .ints l, .l .ops (told ops r), .l .rets r])
  | _ => .fail
theorem tb_shape : ShapeOk Try.prog [] [] tbId ⟨40, none, tbSk, tbG⟩ := by
  refine shapeOk_mk fun ls r h => ?_
  unfold tbG at h
  split at h
  · rename_i c b ok i t n l ops rs
    obtain ⟨hc, h1⟩ := ev_when h
    simp only [Bool.and_eq_true, beq_iff_eq, Nat.ble_eq] at hc
    obtain ⟨rfl, hq, hs⟩ := hc
    obtain ⟨k, hk⟩ := tb_rounds c b ok t n l rs r ops.length 0 ops hs hq (by omega) (by simpa using h1)
    exact ⟨30, k, hk⟩
  · exact (ev_fail h).elim
def tbL : List (Nat × List Nat × LoopFn) := (7, [0, 1, 0, 1, 1, 1, 1, 1, 1, 1], loopExt tbId [⟨40, none, tbSk, tbG⟩]) :: taL
theorem tbL_ok (N : Nat) : LoopsOk Try.prog N tbL :=
  loopsOk_cons (loopExt_ok plainN mixedN (fun _ => extsOk_nil) (fun _ => loopsOk_nil) (all1 tb_shape all0) N) (taL_ok N)

/- MchT7 -/
set_option maxRecDepth 100000 in
theorem two_tree (t n : Int) (l q : List Int) (c : Int) : (((tden Try.prog lawN3 tbL 30).call 0 7 [.agg #[.int .i64 t, .int .i64 n, .pl .ints l], .pl .ints q, .int .i64 c] ⟨.nil, 0⟩).pure.cut
    (.ite (.yes (.yes (.yes (.yes (.yes (.yes (.yes (.yes (.all))))))))) (.no (.no (.ite (.yes (.yes (.yes (.yes (.all))))) (.no (.ite (.no (.ite (.all) (.ite (.ite (.ite (.yes (.yes (.yes (.yes (.yes (.yes (.all))))))) (.no (.no (.no (.no (.ite (.all) (.ite (.ite (.ite (.ite (.ite (.yes (.ite (.ite (.yes (.yes (.yes (.ite (.yes (.ite (.yes (.ite (.yes (.yes (.yes (.ite (.yes (.yes (.ite (.yes (.yes (.yes (.yes (.yes (.ite (.yes (.yes (.ite (.all) (.all)))) (.no (.no (.no (.all)))))))))) (.no (.no (.no (.no (.no (.no (.no (.no (.no (.no (.all)))))))))))))) (.no (.no (.no (.no (.no (.no (.no (.no (.no (.no (.no (.no (.no (.no (.all))))))))))))))))))) (.no (.no (.no (.no (.no (.no (.no (.no (.no (.no (.no (.no (.no (.no (.no (.no (.no (.no (.no (.all)))))))))))))))))))))) (.no (.no (.no (.no (.no (.no (.no (.no (.no (.no (.no (.no (.no (.no (.no (.no (.no (.no (.no (.no (.no (.no (.all))))))))))))))))))))))))) (.no (.no (.no (.no (.no (.no (.no (.no (.no (.no (.no (.no (.no (.no (.no (.no (.no (.no (.no (.no (.no (.no (.no (.no (.no (.all)))))))))))))))))))))))))))))) (.all)) (.all))) (.all)) (.all)) (.all)) (.all)) (.all)))))))) (.all)) (.all)))) (.all)))))))).ev = T.ev (α := CV) (
     .ite (decide ((↑l.length : Int) > (40 : Int)))
      (.ret (.bool true))
      (.ite (decide ((↑q.length : Int) > (60 : Int)))
       (.ret (.bool true))
       (.ite (small l.length)
        (.ite (checkN t n l != (0 : Int))
         (.ret (.bool true))
         (.ite ((0 : Int) == (0 : Int) && (intsB q && q.length.ble (1000000 : Nat)))
          (.ite (runB l (opsOf t q))
           (.ite ((retsA (DState.mk t n l) (opsOf t q)).e != (0 : Int))
            (.ret (.bool false))
            (.ite ((↑(retsD (retsA (DState.mk t n l) (opsOf t q))).length : Int) != (↑(opsOf t q).length : Int))
             (.ret (.bool false))
             (.ite ((0 : Int) == (0 : Int) && ((opsOf t q).length == (retsD (retsA (DState.mk t n l) (opsOf t q))).length && (opsOf t q).length.ble (1000000 : Nat)))
              (.ite (decide ((-9223372036854775808 : Int) ≤ c) && decide (c ≤ (9223372036854775807 : Int)) && decide (IntKind.i64.wrap ((↑(told (opsOf t q) (retsD (retsA (DState.mk t n l) (opsOf t q)))).length : Int) + (1 : Int)) ≤ (9223372036854775807 : Int)))
               (.ite (runB l (told (opsOf t q) (retsD (retsA (DState.mk t n l) (opsOf t q)))))
                (.ite (decide ((0 : Int) ≤ pick c (IntKind.i64.wrap ((↑(told (opsOf t q) (retsD (retsA (DState.mk t n l) (opsOf t q)))).length : Int) + (1 : Int)))) && decide (pick c (IntKind.i64.wrap ((↑(told (opsOf t q) (retsD (retsA (DState.mk t n l) (opsOf t q)))).length : Int) + (1 : Int))) ≤ (↑(told (opsOf t q) (retsD (retsA (DState.mk t n l) (opsOf t q)))).length : Int)))
                 (.ite (runB l (List.take (hi0 (told (opsOf t q) (retsD (retsA (DState.mk t n l) (opsOf t q)))).length (some (pick c (IntKind.i64.wrap ((↑(told (opsOf t q) (retsD (retsA (DState.mk t n l) (opsOf t q)))).length : Int) + (1 : Int)))).toNat) - lo0 none) (List.drop (lo0 none) (told (opsOf t q) (retsD (retsA (DState.mk t n l) (opsOf t q)))))))
                  (.ite (decide ((0 : Int) ≤ pick c (IntKind.i64.wrap ((↑(told (opsOf t q) (retsD (retsA (DState.mk t n l) (opsOf t q)))).length : Int) + (1 : Int)))) && decide (pick c (IntKind.i64.wrap ((↑(told (opsOf t q) (retsD (retsA (DState.mk t n l) (opsOf t q)))).length : Int) + (1 : Int))) ≤ (↑(hi0 (told (opsOf t q) (retsD (retsA (DState.mk t n l) (opsOf t q)))).length none) : Int)))
                   (.ite (runB (runA (DState.mk t n l) (List.take (hi0 (told (opsOf t q) (retsD (retsA (DState.mk t n l) (opsOf t q)))).length (some (pick c (IntKind.i64.wrap ((↑(told (opsOf t q) (retsD (retsA (DState.mk t n l) (opsOf t q)))).length : Int) + (1 : Int)))).toNat) - lo0 none) (List.drop (lo0 none) (told (opsOf t q) (retsD (retsA (DState.mk t n l) (opsOf t q))))))).s.l (List.take (hi0 (told (opsOf t q) (retsD (retsA (DState.mk t n l) (opsOf t q)))).length none - lo0 (some (pick c (IntKind.i64.wrap ((↑(told (opsOf t q) (retsD (retsA (DState.mk t n l) (opsOf t q)))).length : Int) + (1 : Int)))).toNat)) (List.drop (lo0 (some (pick c (IntKind.i64.wrap ((↑(told (opsOf t q) (retsD (retsA (DState.mk t n l) (opsOf t q)))).length : Int) + (1 : Int)))).toNat)) (told (opsOf t q) (retsD (retsA (DState.mk t n l) (opsOf t q)))))))
                    (.ite ((runA (DState.mk t n l) (told (opsOf t q) (retsD (retsA (DState.mk t n l) (opsOf t q))))).e == (0 : Int))
                     (.ite ((runA (DState.mk t n l) (List.take (hi0 (told (opsOf t q) (retsD (retsA (DState.mk t n l) (opsOf t q)))).length (some (pick c (IntKind.i64.wrap ((↑(told (opsOf t q) (retsD (retsA (DState.mk t n l) (opsOf t q)))).length : Int) + (1 : Int)))).toNat) - lo0 none) (List.drop (lo0 none) (told (opsOf t q) (retsD (retsA (DState.mk t n l) (opsOf t q))))))).e == (0 : Int))
                      (.ite ((runA (DState.mk (runA (DState.mk t n l) (List.take (hi0 (told (opsOf t q) (retsD (retsA (DState.mk t n l) (opsOf t q)))).length (some (pick c (IntKind.i64.wrap ((↑(told (opsOf t q) (retsD (retsA (DState.mk t n l) (opsOf t q)))).length : Int) + (1 : Int)))).toNat) - lo0 none) (List.drop (lo0 none) (told (opsOf t q) (retsD (retsA (DState.mk t n l) (opsOf t q))))))).s.type (runA (DState.mk t n l) (List.take (hi0 (told (opsOf t q) (retsD (retsA (DState.mk t n l) (opsOf t q)))).length (some (pick c (IntKind.i64.wrap ((↑(told (opsOf t q) (retsD (retsA (DState.mk t n l) (opsOf t q)))).length : Int) + (1 : Int)))).toNat) - lo0 none) (List.drop (lo0 none) (told (opsOf t q) (retsD (retsA (DState.mk t n l) (opsOf t q))))))).s.n (runA (DState.mk t n l) (List.take (hi0 (told (opsOf t q) (retsD (retsA (DState.mk t n l) (opsOf t q)))).length (some (pick c (IntKind.i64.wrap ((↑(told (opsOf t q) (retsD (retsA (DState.mk t n l) (opsOf t q)))).length : Int) + (1 : Int)))).toNat) - lo0 none) (List.drop (lo0 none) (told (opsOf t q) (retsD (retsA (DState.mk t n l) (opsOf t q))))))).s.l) (List.take (hi0 (told (opsOf t q) (retsD (retsA (DState.mk t n l) (opsOf t q)))).length none - lo0 (some (pick c (IntKind.i64.wrap ((↑(told (opsOf t q) (retsD (retsA (DState.mk t n l) (opsOf t q)))).length : Int) + (1 : Int)))).toNat)) (List.drop (lo0 (some (pick c (IntKind.i64.wrap ((↑(told (opsOf t q) (retsD (retsA (DState.mk t n l) (opsOf t q)))).length : Int) + (1 : Int)))).toNat)) (told (opsOf t q) (retsD (retsA (DState.mk t n l) (opsOf t q))))))).e == (0 : Int))
                       (.ite ((runA (DState.mk t n l) (told (opsOf t q) (retsD (retsA (DState.mk t n l) (opsOf t q))))).n == (↑(told (opsOf t q) (retsD (retsA (DState.mk t n l) (opsOf t q)))).length : Int))
                        (.ite ((runA (DState.mk t n l) (List.take (hi0 (told (opsOf t q) (retsD (retsA (DState.mk t n l) (opsOf t q)))).length (some (pick c (IntKind.i64.wrap ((↑(told (opsOf t q) (retsD (retsA (DState.mk t n l) (opsOf t q)))).length : Int) + (1 : Int)))).toNat) - lo0 none) (List.drop (lo0 none) (told (opsOf t q) (retsD (retsA (DState.mk t n l) (opsOf t q))))))).n == pick c (IntKind.i64.wrap ((↑(told (opsOf t q) (retsD (retsA (DState.mk t n l) (opsOf t q)))).length : Int) + (1 : Int))))
                         (.ite ((runA (DState.mk (runA (DState.mk t n l) (List.take (hi0 (told (opsOf t q) (retsD (retsA (DState.mk t n l) (opsOf t q)))).length (some (pick c (IntKind.i64.wrap ((↑(told (opsOf t q) (retsD (retsA (DState.mk t n l) (opsOf t q)))).length : Int) + (1 : Int)))).toNat) - lo0 none) (List.drop (lo0 none) (told (opsOf t q) (retsD (retsA (DState.mk t n l) (opsOf t q))))))).s.type (runA (DState.mk t n l) (List.take (hi0 (told (opsOf t q) (retsD (retsA (DState.mk t n l) (opsOf t q)))).length (some (pick c (IntKind.i64.wrap ((↑(told (opsOf t q) (retsD (retsA (DState.mk t n l) (opsOf t q)))).length : Int) + (1 : Int)))).toNat) - lo0 none) (List.drop (lo0 none) (told (opsOf t q) (retsD (retsA (DState.mk t n l) (opsOf t q))))))).s.n (runA (DState.mk t n l) (List.take (hi0 (told (opsOf t q) (retsD (retsA (DState.mk t n l) (opsOf t q)))).length (some (pick c (IntKind.i64.wrap ((↑(told (opsOf t q) (retsD (retsA (DState.mk t n l) (opsOf t q)))).length : Int) + (1 : Int)))).toNat) - lo0 none) (List.drop (lo0 none) (told (opsOf t q) (retsD (retsA (DState.mk t n l) (opsOf t q))))))).s.l) (List.take (hi0 (told (opsOf t q) (retsD (retsA (DState.mk t n l) (opsOf t q)))).length none - lo0 (some (pick c (IntKind.i64.wrap ((↑(told (opsOf t q) (retsD (retsA (DState.mk t n l) (opsOf t q)))).length : Int) + (1 : Int)))).toNat)) (List.drop (lo0 (some (pick c (IntKind.i64.wrap ((↑(told (opsOf t q) (retsD (retsA (DState.mk t n l) (opsOf t q)))).length : Int) + (1 : Int)))).toNat)) (told (opsOf t q) (retsD (retsA (DState.mk t n l) (opsOf t q))))))).n == IntKind.i64.wrap ((↑(told (opsOf t q) (retsD (retsA (DState.mk t n l) (opsOf t q)))).length : Int) - pick c (IntKind.i64.wrap ((↑(told (opsOf t q) (retsD (retsA (DState.mk t n l) (opsOf t q)))).length : Int) + (1 : Int)))))
                          (.ite (small (runA (DState.mk t n l) (told (opsOf t q) (retsD (retsA (DState.mk t n l) (opsOf t q))))).s.l.length)
                           (.ret (.bool ((runA (DState.mk t n l) (told (opsOf t q) (retsD (retsA (DState.mk t n l) (opsOf t q))))).s.type == (runA (DState.mk (runA (DState.mk t n l) (List.take (hi0 (told (opsOf t q) (retsD (retsA (DState.mk t n l) (opsOf t q)))).length (some (pick c (IntKind.i64.wrap ((↑(told (opsOf t q) (retsD (retsA (DState.mk t n l) (opsOf t q)))).length : Int) + (1 : Int)))).toNat) - lo0 none) (List.drop (lo0 none) (told (opsOf t q) (retsD (retsA (DState.mk t n l) (opsOf t q))))))).s.type (runA (DState.mk t n l) (List.take (hi0 (told (opsOf t q) (retsD (retsA (DState.mk t n l) (opsOf t q)))).length (some (pick c (IntKind.i64.wrap ((↑(told (opsOf t q) (retsD (retsA (DState.mk t n l) (opsOf t q)))).length : Int) + (1 : Int)))).toNat) - lo0 none) (List.drop (lo0 none) (told (opsOf t q) (retsD (retsA (DState.mk t n l) (opsOf t q))))))).s.n (runA (DState.mk t n l) (List.take (hi0 (told (opsOf t q) (retsD (retsA (DState.mk t n l) (opsOf t q)))).length (some (pick c (IntKind.i64.wrap ((↑(told (opsOf t q) (retsD (retsA (DState.mk t n l) (opsOf t q)))).length : Int) + (1 : Int)))).toNat) - lo0 none) (List.drop (lo0 none) (told (opsOf t q) (retsD (retsA (DState.mk t n l) (opsOf t q))))))).s.l) (List.take (hi0 (told (opsOf t q) (retsD (retsA (DState.mk t n l) (opsOf t q)))).length none - lo0 (some (pick c (IntKind.i64.wrap ((↑(told (opsOf t q) (retsD (retsA (DState.mk t n l) (opsOf t q)))).length : Int) + (1 : Int)))).toNat)) (List.drop (lo0 (some (pick c (IntKind.i64.wrap ((↑(told (opsOf t q) (retsD (retsA (DState.mk t n l) (opsOf t q)))).length : Int) + (1 : Int)))).toNat)) (told (opsOf t q) (retsD (retsA (DState.mk t n l) (opsOf t q))))))).s.type && (runA (DState.mk t n l) (told (opsOf t q) (retsD (retsA (DState.mk t n l) (opsOf t q))))).s.n == (runA (DState.mk (runA (DState.mk t n l) (List.take (hi0 (told (opsOf t q) (retsD (retsA (DState.mk t n l) (opsOf t q)))).length (some (pick c (IntKind.i64.wrap ((↑(told (opsOf t q) (retsD (retsA (DState.mk t n l) (opsOf t q)))).length : Int) + (1 : Int)))).toNat) - lo0 none) (List.drop (lo0 none) (told (opsOf t q) (retsD (retsA (DState.mk t n l) (opsOf t q))))))).s.type (runA (DState.mk t n l) (List.take (hi0 (told (opsOf t q) (retsD (retsA (DState.mk t n l) (opsOf t q)))).length (some (pick c (IntKind.i64.wrap ((↑(told (opsOf t q) (retsD (retsA (DState.mk t n l) (opsOf t q)))).length : Int) + (1 : Int)))).toNat) - lo0 none) (List.drop (lo0 none) (told (opsOf t q) (retsD (retsA (DState.mk t n l) (opsOf t q))))))).s.n (runA (DState.mk t n l) (List.take (hi0 (told (opsOf t q) (retsD (retsA (DState.mk t n l) (opsOf t q)))).length (some (pick c (IntKind.i64.wrap ((↑(told (opsOf t q) (retsD (retsA (DState.mk t n l) (opsOf t q)))).length : Int) + (1 : Int)))).toNat) - lo0 none) (List.drop (lo0 none) (told (opsOf t q) (retsD (retsA (DState.mk t n l) (opsOf t q))))))).s.l) (List.take (hi0 (told (opsOf t q) (retsD (retsA (DState.mk t n l) (opsOf t q)))).length none - lo0 (some (pick c (IntKind.i64.wrap ((↑(told (opsOf t q) (retsD (retsA (DState.mk t n l) (opsOf t q)))).length : Int) + (1 : Int)))).toNat)) (List.drop (lo0 (some (pick c (IntKind.i64.wrap ((↑(told (opsOf t q) (retsD (retsA (DState.mk t n l) (opsOf t q)))).length : Int) + (1 : Int)))).toNat)) (told (opsOf t q) (retsD (retsA (DState.mk t n l) (opsOf t q))))))).s.n && (runA (DState.mk t n l) (told (opsOf t q) (retsD (retsA (DState.mk t n l) (opsOf t q))))).s.l == (runA (DState.mk (runA (DState.mk t n l) (List.take (hi0 (told (opsOf t q) (retsD (retsA (DState.mk t n l) (opsOf t q)))).length (some (pick c (IntKind.i64.wrap ((↑(told (opsOf t q) (retsD (retsA (DState.mk t n l) (opsOf t q)))).length : Int) + (1 : Int)))).toNat) - lo0 none) (List.drop (lo0 none) (told (opsOf t q) (retsD (retsA (DState.mk t n l) (opsOf t q))))))).s.type (runA (DState.mk t n l) (List.take (hi0 (told (opsOf t q) (retsD (retsA (DState.mk t n l) (opsOf t q)))).length (some (pick c (IntKind.i64.wrap ((↑(told (opsOf t q) (retsD (retsA (DState.mk t n l) (opsOf t q)))).length : Int) + (1 : Int)))).toNat) - lo0 none) (List.drop (lo0 none) (told (opsOf t q) (retsD (retsA (DState.mk t n l) (opsOf t q))))))).s.n (runA (DState.mk t n l) (List.take (hi0 (told (opsOf t q) (retsD (retsA (DState.mk t n l) (opsOf t q)))).length (some (pick c (IntKind.i64.wrap ((↑(told (opsOf t q) (retsD (retsA (DState.mk t n l) (opsOf t q)))).length : Int) + (1 : Int)))).toNat) - lo0 none) (List.drop (lo0 none) (told (opsOf t q) (retsD (retsA (DState.mk t n l) (opsOf t q))))))).s.l) (List.take (hi0 (told (opsOf t q) (retsD (retsA (DState.mk t n l) (opsOf t q)))).length none - lo0 (some (pick c (IntKind.i64.wrap ((↑(told (opsOf t q) (retsD (retsA (DState.mk t n l) (opsOf t q)))).length : Int) + (1 : Int)))).toNat)) (List.drop (lo0 (some (pick c (IntKind.i64.wrap ((↑(told (opsOf t q) (retsD (retsA (DState.mk t n l) (opsOf t q)))).length : Int) + (1 : Int)))).toNat)) (told (opsOf t q) (retsD (retsA (DState.mk t n l) (opsOf t q))))))).s.l)))
                           (.fail))
                          (.ret (.bool false)))
                         (.ret (.bool false)))
                        (.ret (.bool false)))
                       (.ret (.bool false)))
                      (.ret (.bool false)))
                     (.ret (.bool false)))
                    (.fail))
                   (.fail))
                  (.fail))
                 (.fail))
                (.fail))
               (.fail))
              (.fail))))
           (.fail))
          (.fail)))
        (.fail)))) := by kernel_rfl

/- MchT8 -/
theorem rets_ok {t : Int} : ∀ (ops : List DOp), (∀ o ∈ ops, mopOk t o.kind o.a o.b) → ∀ (s : DState), s.type = t → checkN s.type s.n s.l = 0 → (retsA s ops).e = 0 ∧ (retsA s ops).l.length = ops.length
  | [], _, s, _, _ => ⟨rfl, rfl⟩
  | o :: r, ho, s, ht, hc => by
    rw [ht] at hc
    obtain ⟨e1, e2, e3, _⟩ := mach_total hc (ho o (by simp))
    have hst : stepA s o = machA t s.n s.l o.kind o.a o.b := by rw [stepA, ht]
    have ih := rets_ok r (fun x hx => ho x (by simp [hx])) (stepA s o).s (by rw [hst]; exact e2) (by rw [hst, e2]; exact e3)
    rw [retsA_cons, if_neg (by rw [hst]; simpa using e1)]
    exact ⟨ih.1, by simp [ih.2]⟩
theorem run_told : ∀ (ops : List DOp) (s : DState), (retsA s ops).e = 0 → runA s (told ops (retsA s ops).l) = ⟨(retsA s ops).s, ops.length, 0⟩
  | [], s, _ => rfl
  | o :: r, s, h => by
    rw [retsA_cons] at h ⊢
    split at h
    · rename_i h1; exact absurd h h1
    · rename_i h1
      rw [if_neg h1]
      have ih := run_told r (stepA s o).s h
      simp only [told]
      rw [runA_cons]
      have hst : stepA s ⟨o.kind, o.a, o.b, (stepA s o).r⟩ = stepA s o := rfl
      rw [hst, if_neg h1, if_neg (by simp), ih]
      simp
theorem run_append : ∀ (xs ys : List DOp) (s : DState), (runA s (xs ++ ys)).e = 0 → (runA s xs).e = 0 ∧ (runA (runA s xs).s ys).e = 0 ∧ runA s (xs ++ ys) = ⟨(runA (runA s xs).s ys).s, (runA s xs).n + (runA (runA s xs).s ys).n, 0⟩
  | [], ys, s, h => by
    rw [List.nil_append] at h ⊢
    refine ⟨rfl, h, ?_⟩
    show runA s ys = ⟨(runA s ys).s, 0 + (runA s ys).n, 0⟩
    rw [Int.zero_add, ← h]
  | o :: xs, ys, s, h => by
    rw [List.cons_append, runA_cons] at h ⊢
    split at h
    · rename_i h1; exact absurd h h1
    · rename_i h1
      rw [if_neg h1]
      split at h
      · cases h
      · rename_i h2
        rw [if_neg h2, runA_cons, if_neg h1, if_neg h2]
        obtain ⟨q1, q2, q3⟩ := run_append xs ys (stepA s o).s h
        refine ⟨q1, q2, ?_⟩
        simp only [q3]
        congr 1
        omega
theorem opsOf_ok {t : Int} (ht : 1 ≤ t ∧ t ≤ 5) : ∀ (d : Nat) (q : List Int), q.length ≤ d → ∀ o ∈ opsOf t q, mopOk t o.kind o.a o.b
  | 0, q, h, o, ho => by rw [opsOf_short t q (by omega)] at ho; cases ho
  | d + 1, [], h, o, ho => by cases ho
  | d + 1, [_], h, o, ho => by cases ho
  | d + 1, [_, _], h, o, ho => by cases ho
  | d + 1, w :: a :: b :: r, h, o, ho => by
    simp only [opsOf, List.mem_cons] at ho
    rcases ho with rfl | ho
    · exact may_ok t w a b ht
    · exact opsOf_ok ht d r (by simp at h; omega) o ho
theorem opsOf_B {t : Int} : ∀ (d : Nat) (q : List Int), q.length ≤ d → (∀ y ∈ q, w64 y) → opsB (opsOf t q) = true
  | 0, q, h, hq => by rw [opsOf_short t q (by omega)]; rfl
  | d + 1, [], h, hq => rfl
  | d + 1, [_], h, hq => rfl
  | d + 1, [_, _], h, hq => rfl
  | d + 1, w :: a :: b :: r, h, hq => by
    have ih := opsOf_B (t := t) d r (by simp at h; omega) (fun y hy => hq y (by simp [hy]))
    simp only [opsOf, opsB, List.all_cons, Bool.and_eq_true]
    refine ⟨?_, ih⟩
    rw [opB, inI64_w (mayX_w (hq a (by simp))), inI64_w (mayY_w (hq b (by simp)))]; rfl
theorem ints_wf {q : List Int} (h : ∀ y ∈ q, w64 y) : intsB q = true := by
  rw [intsB, List.all_eq_true]; exact fun y hy => inI64_w (h y hy)
theorem opsB_take {l : List DOp} (h : opsB l = true) (n : Nat) : opsB (l.take n) = true := by
  rw [opsB, List.all_eq_true] at h ⊢; exact fun o ho => h o (List.mem_of_mem_take ho)
theorem opsB_drop {l : List DOp} (h : opsB l = true) (n : Nat) : opsB (l.drop n) = true := by
  rw [opsB, List.all_eq_true] at h ⊢; exact fun o ho => h o (List.mem_of_mem_drop ho)
theorem Lf.ints {x : CV} (h : (Ar.one (.row .ints)).is x) : ∃ l : List Int, x = .pl .ints l ∧ wfInts l := by
  obtain ⟨l, rfl, h1⟩ := h
  exact ⟨l, rfl, h1⟩

set_option maxHeartbeats 4000000 in
theorem two_all (xs : List CV) (h : ArsAll [.agg [i6, i6, .row .ints], .one (.row .ints), .one i6] xs) : PureAt Try.prog 7 xs (.bool true) := by
  obtain ⟨_, _, rfl, h1, h2⟩ := h.cons_inv; obtain ⟨t, n, l, rfl, _⟩ := Ar.state h1
  obtain ⟨_, _, rfl, h3, h4⟩ := h2.cons_inv; obtain ⟨q, rfl, wq⟩ := Lf.ints h3
  obtain ⟨_, _, rfl, h5, h6⟩ := h4.cons_inv; obtain ⟨c, rfl, wc⟩ := Lf.int64 h5
  cases h6.nil_inv
  refine pureAt0 plainN mixedN lawN3_ok tbL_ok (k := 30) ((two_tree t n l q c).trans ?_) rfl
  clear h h1 h2 h3 h4 h5 h6
  by_cases hl : l.length ≤ 40
  · by_cases hq : q.length ≤ 60
    · have hs : small l.length = true := by rw [small_iff]; omega
      have hd : ¬ (40 : Int) < l.length := by omega
      have hd2 : ¬ (60 : Int) < q.length := by omega
      by_cases hc : checkN t n l = 0
      · have ht := check_type hc
        have hok := opsOf_ok ht q.length q (Nat.le_refl _)
        have hB := opsOf_B (t := t) q.length q (Nat.le_refl _) wq
        have hlen := opsOf_len t q.length q (Nat.le_refl _)
        have hiq := ints_wf wq
        have hbq : q.length.ble 1000000 = true := by rw [Nat.ble_eq]; omega
        generalize opsOf t q = ops at *
        obtain ⟨e1, e2⟩ := rets_ok ops hok ⟨t, n, l⟩ rfl hc
        have e3 : retsD (retsA ⟨t, n, l⟩ ops) = (retsA ⟨t, n, l⟩ ops).l := by rw [retsD, if_pos e1]
        have e4 := run_told ops ⟨t, n, l⟩ e1
        have e5 := told_len ops (retsA ⟨t, n, l⟩ ops).l e2.symm
        have e6 := told_B ops (retsA ⟨t, n, l⟩ ops).l hB
        have hr1 : runB l ops = true := by rw [runB, hB, Bool.true_and, Nat.ble_eq]; omega
        have hle := runA_len ⟨t, n, l⟩ (told ops (retsA ⟨t, n, l⟩ ops).l)
        simp only [T.ev_ite, T.ev_ret, hs, hd, hd2, hc, hiq, hbq, e1, e3, hr1, e2, bne_self_eq_false, beq_self_eq_true, decide_false, Bool.and_self, if_true, Bool.false_eq_true, if_false]
        generalize told ops (retsA ⟨t, n, l⟩ ops).l = m at *
        have b1 : ops.length.ble 1000000 = true := by rw [Nat.ble_eq]; omega
        have w1 : IntKind.i64.wrap ((m.length : Int) + 1) = ((m.length + 1 : Nat) : Int) := by rw [wrap64 (by omega) (by omega)]; omega
        have hp := pick_range c (n := ((m.length + 1 : Nat) : Int)) (by omega)
        obtain ⟨p, hp2⟩ : ∃ p : Nat, pick c ((m.length + 1 : Nat) : Int) = p := ⟨(pick c ((m.length + 1 : Nat) : Int)).toNat, by omega⟩
        rw [w1, hp2]
        rw [hp2] at hp
        have hpl : p ≤ m.length := by omega
        have c1 : decide ((-9223372036854775808 : Int) ≤ c) = true := by rw [decide_eq_true_eq]; exact wc.1
        have c2 : decide (c ≤ (9223372036854775807 : Int)) = true := by rw [decide_eq_true_eq]; exact wc.2
        have c3 : decide (((m.length + 1 : Nat) : Int) ≤ 9223372036854775807) = true := by rw [decide_eq_true_eq]; omega
        have c4 : decide ((0 : Int) ≤ (p : Int)) = true := by rw [decide_eq_true_eq]; omega
        have c5 : decide ((p : Int) ≤ (m.length : Int)) = true := by rw [decide_eq_true_eq]; omega
        have t1 : List.take (hi0 m.length (some ((p : Int)).toNat) - lo0 none) (List.drop (lo0 none) m) = m.take p := by simp [hi0, lo0]
        have t2 : List.take (hi0 m.length none - lo0 (some ((p : Int)).toNat)) (List.drop (lo0 (some ((p : Int)).toNat)) m) = m.drop p := by
          simp only [hi0, lo0, Int.toNat_natCast]
          exact List.take_of_length_le (by simp)
        have hap : m.take p ++ m.drop p = m := List.take_append_drop p m
        have hz : (runA ⟨t, n, l⟩ (m.take p ++ m.drop p)).e = 0 := by rw [hap, e4]
        obtain ⟨z1, z2, z3⟩ := run_append (m.take p) (m.drop p) ⟨t, n, l⟩ hz
        rw [hap] at z3
        have n1 := runA_all z1
        have n2 := runA_all z2
        have r1 : runB l m = true := by rw [runB, e6, Bool.true_and, Nat.ble_eq]; omega
        have r2 : runB l (m.take p) = true := by rw [runB, opsB_take e6, Bool.true_and, Nat.ble_eq, List.length_take]; omega
        have hle2 := runA_len ⟨t, n, l⟩ (m.take p)
        rw [List.length_take] at hle2 n1
        rw [List.length_drop] at n2
        simp only [] at hle2 hle
        have r3 : runB (runA ⟨t, n, l⟩ (m.take p)).s.l (m.drop p) = true := by rw [runB, opsB_drop e6, Bool.true_and, Nat.ble_eq, List.length_drop]; omega
        have s1 : small (runA ⟨t, n, l⟩ m).s.l.length = true := by rw [small_iff]; omega
        have w2 : IntKind.i64.wrap ((m.length : Int) - (p : Int)) = (m.length : Int) - (p : Int) := wrap64 (by omega) (by omega)
        have n3 : (runA ⟨t, n, l⟩ m).n = m.length := by rw [e4, e5]
        have n4 : (runA ⟨t, n, l⟩ m).e = 0 := by rw [e4]
        have n1' : (runA ⟨t, n, l⟩ (m.take p)).n = (p : Int) := by rw [n1]; omega
        have n2' : (runA (runA ⟨t, n, l⟩ (m.take p)).s (m.drop p)).n = (m.length : Int) - (p : Int) := by rw [n2]; omega
        have s3 : (runA ⟨t, n, l⟩ m).s = (runA (runA ⟨t, n, l⟩ (m.take p)).s (m.drop p)).s := by rw [z3]
        simp only [t1, t2, c1, c2, c3, c4, c5, b1, r1, r2, r3, hi0, lo0, w2, n4, z1, z2, n1', n2', n3, s1, Bool.and_self, beq_self_eq_true, if_true]
        rw [s3]
        have t3 : List.take (m.length - p) (List.drop p m) = m.drop p := List.take_of_length_le (by simp)
        have eta : ∀ s : DState, DState.mk s.type s.n s.l = s := fun _ => rfl
        simp [t3, eta, r2, r3, hpl, z1, z2, n1', n2']
      · simp [T.ev_ite, T.ev_ret, hs, hd, hd2, hc]
    · simp [T.ev_ite, T.ev_ret, show (60 : Int) < q.length by omega]
  · simp [T.ev_ite, T.ev_ret, show (40 : Int) < l.length by omega]

end Go.Proofs.YtcomfanipljolaaD
