/-
  Chapter 11: contracts of Legal and may.
-/
import Derived.Test.YtcomfanipljolaaMchE
set_option linter.unusedVariables false
set_option linter.unusedSimpArgs false
namespace Go.Proofs.YtcomfanipljolaaD
open Go Go.RowKit

def legB (x : Ans) (rk rn : Int) : Bool := x.e == 0 && (x.r.kind == rk && x.r.n == rn)
def legV (x : Ans) (rk rn : Int) : CV := .tuple #[.agg #[.int .i64 x.s.type, .int .i64 x.s.n, .pl .ints x.s.l], .bool (legB x rk rn), .int .i64 x.e]
def legG : List CV → T CV
  | [.agg ⟨[.int .i64 t, .int .i64 n, .pl .ints l]⟩, .agg ⟨[.int .i64 k, .int .i64 a, .int .i64 b, .int .i64 rk, .int .i64 rn]⟩] => T.when (machB l a b) (.ret (legV (machA t n l k a b) rk rn))
  | _ => .fail
theorem legal_fn : PureFn Try.prog 12 (sigExt [sgS] legG) :=
  pureFn_mk (bodied_ex (by kernel_rfl)) fun args d h => by
    unfold legG at h
    split at h
    · rename_i t n l k a b rk rn
      obtain ⟨hc, h1⟩ := ev_when h
      cases ev_ret h1
      refine pureAtS plainN mixedN mchE_ok noL (k := 30) sgA (mLegal_tree t n l k a b rk rn) ?_
      simp only [legV, legB]
      generalize machA t n l k a b = x at *
      by_cases he : x.e = 0
      · simp only [sat_ite, sat_ret, sat_fail, hc, he, beq_self_eq_true, decide_true, Bool.and_true, Bool.true_and, true_implies, Bool.true_eq_false, false_implies, and_true, true_and]
        exact ⟨rfl, rfl⟩
      · have he' : (x.e == 0) = false := by rw [beq_eq_false_iff_ne]; exact he
        simp only [sat_ite, sat_ret, sat_fail, hc, he', Bool.false_and, true_implies, Bool.true_eq_false, Bool.false_eq_true, false_implies, and_true, true_and]
        exact ⟨rfl, rfl⟩
    · exact (ev_fail h).elim
theorem rlegal_fn : PureFn Try.prog 13 (sigExt [sgS] legG) :=
  pureFn_mk (bodied_ex (by kernel_rfl)) fun args d h => by
    unfold legG at h
    split at h
    · rename_i t n l k a b rk rn
      obtain ⟨hc, h1⟩ := ev_when h
      cases ev_ret h1
      refine pureAtS plainN mixedN mchE_ok noL (k := 30) sgA (rmLegal_tree t n l k a b rk rn) ?_
      have hb := mach_bad t n l k a b
      simp only [legV, legB]
      generalize machA t n l k a b = x at *
      by_cases he : x.e = 0
      · have he' : (x.e != 0) = false := by rw [bne_eq_false_iff_eq]; exact he
        simp only [sat_ite, sat_ret, sat_fail, hc, he', he, bne_self_eq_false, beq_self_eq_true, decide_true, Bool.and_true, Bool.true_and, true_implies, Bool.true_eq_false, Bool.false_eq_true, false_implies, and_true, true_and]
        exact ⟨rfl, rfl⟩
      · have he' : (x.e != 0) = true := by rw [bne_iff_ne]; exact he
        have he2 : (x.e == 0) = false := by rw [beq_eq_false_iff_ne]; exact he
        obtain ⟨b1, b2⟩ := hb he
        simp only [sat_ite, sat_ret, sat_fail, hc, he', he2, b1, b2, Bool.false_and, true_implies, Bool.true_eq_false, Bool.false_eq_true, false_implies, and_true, true_and]
        exact ⟨rfl, rfl⟩
    · exact (ev_fail h).elim

theorem wc1 : IntKind.i64.wrap 1 = 1 := by decide
theorem wc2 : IntKind.i64.wrap 2 = 2 := by decide
theorem wc3 : IntKind.i64.wrap 3 = 3 := by decide
theorem wc4 : IntKind.i64.wrap 4 = 4 := by decide
theorem wc5 : IntKind.i64.wrap 5 = 5 := by decide
theorem wc6 : IntKind.i64.wrap 6 = 6 := by decide
theorem wc7 : IntKind.i64.wrap 7 = 7 := by decide
theorem wc8 : IntKind.i64.wrap 8 = 8 := by decide
theorem wc9 : IntKind.i64.wrap 9 = 9 := by decide
theorem wc10 : IntKind.i64.wrap 10 = 10 := by decide
theorem wc11 : IntKind.i64.wrap 11 = 11 := by decide
theorem wc12 : IntKind.i64.wrap 12 = 12 := by decide
theorem wc13 : IntKind.i64.wrap 13 = 13 := by decide
theorem wc14 : IntKind.i64.wrap 14 = 14 := by decide
theorem wc15 : IntKind.i64.wrap 15 = 15 := by decide
def lowBit (b : Int) : Int := ((BitVec.ofInt IntKind.i64.bits b &&& BitVec.ofInt IntKind.i64.bits (1 : Int)).toNat : Int)
theorem lowBit_range (b : Int) : 0 ≤ lowBit b ∧ lowBit b ≤ 1 := by
  unfold lowBit
  rw [BitVec.toNat_and]
  have h1 : (BitVec.ofInt IntKind.i64.bits (1 : Int)).toNat = 1 := by decide
  rw [h1, Nat.and_one_is_mod]
  omega
def firstA (t : Int) : Int × Int := if t = 2 then (3, 4) else if t = 3 then (7, 3) else if t = 4 then (10, 3) else if t = 5 then (13, 3) else (1, 2)
def mayK (t w : Int) : Int := (firstA t).1 + pick w (firstA t).2
def mayX (t w a b : Int) : Int := if mayK t w = 2 ∨ mayK t w = 6 ∨ mayK t w = 11 ∨ mayK t w = 12 ∨ mayK t w = 15 then 0 else if t = 5 then pick a 4611686018427387904 + lowBit b else a
def mayY (t w b : Int) : Int := if mayK t w = 7 then b else 0
def mayG : List CV → T CV
  | [.int .i64 t, .int .i64 w, .int .i64 a, .int .i64 b] => T.when (Ctr.inI64 w && Ctr.inI64 a) (.ret (.agg #[.int .i64 (mayK t w), .int .i64 (mayX t w a b), .int .i64 (mayY t w b), .int .i64 0, .int .i64 0]))
  | _ => .fail
set_option maxHeartbeats 4000000 in
theorem may_fn : PureFn Try.prog 26 mayG :=
  ⟨bodied_ex (by kernel_rfl), fun args d h => by
    unfold mayG at h
    split at h
    · rename_i t w a b
      obtain ⟨hc, h1⟩ := ev_when h
      cases ev_ret h1
      simp only [Bool.and_eq_true, Ctr.inI64, decide_eq_true_eq] at hc
      obtain ⟨⟨c1, c2⟩, c3, c4⟩ := hc
      refine pureAt0 plainN mixedN pickE_ok noL (k := 30) ((may_tree t w a b).trans ?_) rfl
      have p4 := pick_range w (n := 4) (by omega)
      have p3 := pick_range w (n := 3) (by omega)
      have p2 := pick_range w (n := 2) (by omega)
      have pc := pick_range a (n := 4611686018427387904) (by omega)
      have hb := lowBit_range b
      have hw1 : IntKind.i64.wrap (↑(BitVec.ofInt IntKind.i64.bits b &&& BitVec.ofInt IntKind.i64.bits (1 : Int)).toNat : Int) = lowBit b := wrap64 (show _ ≤ lowBit b by omega) (show lowBit b ≤ _ by omega)
      have hw2 : IntKind.i64.wrap (pick a 4611686018427387904 + lowBit b) = pick a 4611686018427387904 + lowBit b := wrap64 (by omega) (by omega)
      rw [hw1, hw2]
      by_cases h2 : t = 2
      · subst h2
        obtain hp | hp | hp | hp : pick w 4 = 0 ∨ pick w 4 = 1 ∨ pick w 4 = 2 ∨ pick w 4 = 3 := by omega
        all_goals simp [T.ev_ite, T.ev_ret, mayX, mayY, mayK, firstA, hp, c1, c2, c3, c4, wc1, wc2, wc3, wc4, wc5, wc6, wc7, wc8, wc9, wc10, wc11, wc12, wc13, wc14, wc15]
      · by_cases h3 : t = 3
        · subst h3
          obtain hp | hp | hp : pick w 3 = 0 ∨ pick w 3 = 1 ∨ pick w 3 = 2 := by omega
          all_goals simp [T.ev_ite, T.ev_ret, mayX, mayY, mayK, firstA, hp, c1, c2, c3, c4, wc1, wc2, wc3, wc4, wc5, wc6, wc7, wc8, wc9, wc10, wc11, wc12, wc13, wc14, wc15]
        · by_cases h4 : t = 4
          · subst h4
            obtain hp | hp | hp : pick w 3 = 0 ∨ pick w 3 = 1 ∨ pick w 3 = 2 := by omega
            all_goals simp [T.ev_ite, T.ev_ret, mayX, mayY, mayK, firstA, hp, c1, c2, c3, c4, wc1, wc2, wc3, wc4, wc5, wc6, wc7, wc8, wc9, wc10, wc11, wc12, wc13, wc14, wc15]
          · by_cases h5 : t = 5
            · subst h5
              obtain hp | hp | hp : pick w 3 = 0 ∨ pick w 3 = 1 ∨ pick w 3 = 2 := by omega
              all_goals simp [T.ev_ite, T.ev_ret, mayX, mayY, mayK, firstA, hp, c1, c2, c3, c4, wc1, wc2, wc3, wc4, wc5, wc6, wc7, wc8, wc9, wc10, wc11, wc12, wc13, wc14, wc15]
            · obtain hp | hp : pick w 2 = 0 ∨ pick w 2 = 1 := by omega
              all_goals simp [T.ev_ite, T.ev_ret, mayX, mayY, mayK, firstA, h2, h3, h4, h5, hp, c1, c2, c3, c4, wc1, wc2, wc3, wc4, wc5, wc6, wc7, wc8, wc9, wc10, wc11, wc12, wc13, wc14, wc15]
    · exact (ev_fail h).elim⟩
def opE : List (Nat × ExtFn) := [(12, pureExt (sigExt [sgS] legG)), (13, pureExt (sigExt [sgS] legG)), (26, pureExt mayG)] ++ (mchE ++ (pickE ++ kitE))
theorem opE_ok (N : Nat) : ExtsOk Try.prog N opE :=
  extsOk_cons (extOk_pure legal_fn) (extsOk_cons (extOk_pure rlegal_fn) (extsOk_cons (extOk_pure may_fn) (exts_append (E := mchE) (E' := pickE ++ kitE) (mchE_ok N) (exts_append (E := pickE) (E' := kitE) (pickE_ok N) (kitE_ok N)))))

end Go.Proofs.YtcomfanipljolaaD
