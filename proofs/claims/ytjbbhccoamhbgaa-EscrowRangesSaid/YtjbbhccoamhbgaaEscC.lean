/-
  Escrow: ranges and room: the program and the document answer alike.
-/
import Derived.Test.YtjbbhccoamhbgaaEscB
set_option linter.unusedVariables false
set_option linter.unusedSimpArgs false
namespace Go.Proofs.YtjbbhccoamhbgaaD
open Go Go.RowKit

/-- Of which accounts an operation returns a number. -/
def rangeT (k a r : Int) : Int × Int × Bool :=
  if mayF k a = false then (0, 0, false)
  else if k = 15 then (if 0 ≤ r ∧ r ≤ 4611686018427387904 then (r, r, true) else (0, 0, false))
  else if r ≠ 0 ∧ r ≠ 1 then (0, 0, false)
  else if k = 13 ∧ r = 1 then (0, 4611686018427387904 - a, true)
  else if r = 1 then (a, 4611686018427387904, true)
  else if a = 0 then (0, 0, false)
  else if k = 13 then (4611686018427387904 - a + 1, 4611686018427387904, true)
  else (0, a - 1, true)

def rangeG : List Value → T Value
  | [.int .i64 k, .int .i64 a, .int .i64 r] => .ret (.tuple #[.int .i64 (rangeT k a r).1, .int .i64 (rangeT k a r).2.1, .bool (rangeT k a r).2.2])
  | _ => .fail

theorem wrap_id {n : Int} (h : -9223372036854775808 ≤ n) (h' : n ≤ 9223372036854775807) : IntKind.i64.wrap n = n := by
  rw [IntKind.wrap_i64]; omega

theorem wz1 : IntKind.i64.wrap 4611686018427387904 = 4611686018427387904 := wrap_id (by decide) (by decide)
theorem wz2 : IntKind.i64.wrap 4611686018427387905 = 4611686018427387905 := wrap_id (by decide) (by decide)
theorem wz3 : IntKind.i64.wrap (-1) = -1 := wrap_id (by decide) (by decide)

theorem mayF_cases {k a : Int} (h : mayF k a = true) : (k = 13 ∧ 0 ≤ a ∧ a ≤ 4611686018427387904) ∨ (k = 14 ∧ 0 ≤ a ∧ a ≤ 4611686018427387904) ∨ (k = 15 ∧ a = 0) := by
  simp only [mayF, Bool.or_eq_true, Bool.and_eq_true, decide_eq_true_eq, beq_iff_eq] at h
  omega

theorem range_ev (k a r : Int) : (((tden Try.prog [(25, plainExt mayG)] 30).call 0 14 [.int .i64 k, .int .i64 a, .int .i64 r] ⟨.nil, 0⟩).val).ev =
    some (.tuple #[.int .i64 (rangeT k a r).1, .int .i64 (rangeT k a r).2.1, .bool (rangeT k a r).2.2]) := by
  refine cut_ev _ _ ((range_tree k a r).trans ?_)
  cases hm : mayF k a with
  | false =>
    have hr : rangeT k a r = (0, 0, false) := by simp [rangeT, hm]
    rw [hr]
    by_cases h15 : k = 15
    · subst h15; simp [T.ev, hm]
    · have e15 : (k == 15) = false := by simpa using h15
      by_cases h13 : k = 13
      · subst h13
        by_cases h0 : r = 0
        · subst h0; simp [T.ev, hm]
        · by_cases h1 : r = 1
          · subst h1; simp [T.ev, hm]
          · have e0 : (r != 0) = true := by simpa using h0
            have e1 : (r != 1) = true := by simpa using h1
            simp [T.ev, hm, e0, e1]
      · have e13 : (k == 13) = false := by simpa using h13
        by_cases h0 : r = 0
        · subst h0; simp [T.ev, hm, e15, e13]
        · by_cases h1 : r = 1
          · subst h1; simp [T.ev, hm, e15, e13]
          · have e0 : (r != 0) = true := by simpa using h0
            have e1 : (r != 1) = true := by simpa using h1
            simp [T.ev, hm, e0, e1, e15, e13]
  | true =>
    rcases mayF_cases hm with ⟨rfl, h0, h1⟩ | ⟨rfl, h0, h1⟩ | ⟨rfl, rfl⟩
    · have w1 : IntKind.i64.wrap (4611686018427387904 - a) = 4611686018427387904 - a := wrap_id (by omega) (by omega)
      have w2 : IntKind.i64.wrap (4611686018427387904 - a + 1) = 4611686018427387904 - a + 1 := wrap_id (by omega) (by omega)
      by_cases r0 : r = 0
      · subst r0
        by_cases ha : a = 0
        · subst ha; simp [T.ev, hm, rangeT, wz1, wz2]
        · have c1 : ¬ (4611686018427387904 - a + 1 < 0) := by omega
          have c2 : ¬ (4611686018427387904 < 4611686018427387904 - a + 1) := by omega
          simp [T.ev, hm, rangeT, w1, w2, ha, c1, c2]
      · by_cases r1 : r = 1
        · subst r1
          have c1 : ¬ (4611686018427387904 - a < 0) := by omega
          have c2 : ¬ (4611686018427387904 < 4611686018427387904 - a) := by omega
          simp [T.ev, hm, rangeT, w1, c1, c2]
        · have e0 : (r != 0) = true := by simpa using r0
          have e1 : (r != 1) = true := by simpa using r1
          simp [T.ev, hm, rangeT, e0, e1, r0, r1]
    · have w1 : IntKind.i64.wrap (a - 1) = a - 1 := wrap_id (by omega) (by omega)
      by_cases r0 : r = 0
      · subst r0
        by_cases ha : a = 0
        · subst ha; simp [T.ev, hm, rangeT, wz3]
        · have c1 : ¬ (a - 1 < 0) := by omega
          have c2 : ¬ (4611686018427387904 < a - 1) := by omega
          simp [T.ev, hm, rangeT, w1, ha, c1, c2]
      · by_cases r1 : r = 1
        · subst r1
          have c1 : ¬ (a < 0) := by omega
          have c2 : ¬ (4611686018427387904 < a) := by omega
          simp [T.ev, hm, rangeT, c1, c2]
        · have e0 : (r != 0) = true := by simpa using r0
          have e1 : (r != 1) = true := by simpa using r1
          simp [T.ev, hm, rangeT, e0, e1, r0, r1]
    · by_cases r0 : r < 0
      · have : ¬ (0 ≤ r ∧ r ≤ 4611686018427387904) := by omega
        simp [T.ev, hm, rangeT, r0, this]
      · by_cases r1 : 4611686018427387904 < r
        · have : ¬ (0 ≤ r ∧ r ≤ 4611686018427387904) := by omega
          simp [T.ev, hm, rangeT, r0, r1, this]
        · have : 0 ≤ r ∧ r ≤ 4611686018427387904 := by omega
          simp [T.ev, hm, rangeT, r0, r1, this]

theorem rmay_plain : PlainAll Try.prog 29 rmayG := by
  refine ⟨⟨_, _, Try.func29, rfl⟩, fun args v h => ?_⟩
  unfold rmayG at h
  split at h
  · rename_i a b
    simp only [T.ev, Option.some.injEq] at h
    subst h
    refine plain_of plain mixed (fun _ => extsOk_nil) (k := 30) rfl rfl (cut_ev _ _ ((rmay_tree a b).trans ?_))
    simp only [T.ev, mayF]
    by_cases h1 : a = 13
    · subst h1; by_cases h2 : 0 ≤ b <;> by_cases h3 : b ≤ 4611686018427387904 <;> simp [h2, h3]
    · have e1 : (a == 13) = false := by simpa using h1
      by_cases h4 : a = 14
      · subst h4; by_cases h2 : 0 ≤ b <;> by_cases h3 : b ≤ 4611686018427387904 <;> simp [h2, h3]
      · have e4 : (a == 14) = false := by simpa using h4
        by_cases h5 : a = 15
        · subst h5; simp
        · have e5 : (a == 15) = false := by simpa using h5
          simp [e1, e4, e5]
  · simp [T.ev] at h

theorem rrange_ev (k a r : Int) : (((tden Try.prog [(29, plainExt rmayG)] 30).call 0 15 [.int .i64 k, .int .i64 a, .int .i64 r] ⟨.nil, 0⟩).val).ev =
    some (.tuple #[.int .i64 (rangeT k a r).1, .int .i64 (rangeT k a r).2.1, .bool (rangeT k a r).2.2]) := by
  refine cut_ev _ _ ((rrange_tree k a r).trans ?_)
  cases hm : mayF k a with
  | false =>
    have hr : rangeT k a r = (0, 0, false) := by simp [rangeT, hm]
    rw [hr]
    simp [T.ev, hm]
  | true =>
    rcases mayF_cases hm with ⟨rfl, h0, h1⟩ | ⟨rfl, h0, h1⟩ | ⟨rfl, rfl⟩
    · have w1 : IntKind.i64.wrap (4611686018427387904 - a) = 4611686018427387904 - a := wrap_id (by omega) (by omega)
      have w2 : IntKind.i64.wrap (4611686018427387904 - a + 1) = 4611686018427387904 - a + 1 := wrap_id (by omega) (by omega)
      by_cases r0 : r = 0
      · subst r0
        by_cases ha : a = 0
        · subst ha; simp [T.ev, hm, rangeT]
        · have e : (a == 0) = false := by simpa using ha
          simp [T.ev, hm, rangeT, w1, w2, ha, e]
      · by_cases r1 : r = 1
        · subst r1; simp [T.ev, hm, rangeT, w1]
        · have e0 : (r != 0) = true := by simpa using r0
          have e1 : (r != 1) = true := by simpa using r1
          simp [T.ev, hm, rangeT, e0, e1, r0, r1]
    · have w1 : IntKind.i64.wrap (a - 1) = a - 1 := wrap_id (by omega) (by omega)
      by_cases r0 : r = 0
      · subst r0
        by_cases ha : a = 0
        · subst ha; simp [T.ev, hm, rangeT]
        · have e : (a == 0) = false := by simpa using ha
          simp [T.ev, hm, rangeT, w1, ha, e]
      · by_cases r1 : r = 1
        · subst r1; simp [T.ev, hm, rangeT]
        · have e0 : (r != 0) = true := by simpa using r0
          have e1 : (r != 1) = true := by simpa using r1
          simp [T.ev, hm, rangeT, e0, e1, r0, r1]
    · by_cases r0 : 0 ≤ r
      · by_cases r1 : r ≤ 4611686018427387904
        · have : 0 ≤ r ∧ r ≤ 4611686018427387904 := by omega
          simp [T.ev, hm, rangeT, r0, r1, this]
        · have : ¬ (0 ≤ r ∧ r ≤ 4611686018427387904) := by omega
          have r2 : 4611686018427387904 < r := by omega
          simp [T.ev, hm, rangeT, r0, r1, r2, this]
      · have : ¬ (0 ≤ r ∧ r ≤ 4611686018427387904) := by omega
        simp [T.ev, hm, rangeT, r0, this]

theorem range_plain : PlainAll Try.prog 14 rangeG := by
  refine ⟨⟨_, _, Try.func14, rfl⟩, fun args v h => ?_⟩
  unfold rangeG at h
  split at h
  · rename_i k a r
    simp only [T.ev, Option.some.injEq] at h
    subst h
    exact plain_of plain mixed (fun N => extsOk_cons extsOk_nil may_plain) (k := 30) rfl rfl (range_ev k a r)
  · simp [T.ev] at h

theorem rrange_plain : PlainAll Try.prog 15 rangeG := by
  refine ⟨⟨_, _, Try.func15, rfl⟩, fun args v h => ?_⟩
  unfold rangeG at h
  split at h
  · rename_i k a r
    simp only [T.ev, Option.some.injEq] at h
    subst h
    exact plain_of plain mixed (fun N => extsOk_cons extsOk_nil rmay_plain) (k := 30) rfl rfl (rrange_ev k a r)
  · simp [T.ev] at h

def roomF (n : Int) : Int := if 0 ≤ n ∧ n ≤ 4611686018427387904 then 4611686018427387904 - n else 0
def roomG : List Value → T Value
  | [.int .i64 n] => .ret (.int .i64 (roomF n))
  | _ => .fail

theorem room_plain : PlainAll Try.prog 16 roomG := by
  refine ⟨⟨_, _, Try.func16, rfl⟩, fun args v h => ?_⟩
  unfold roomG at h
  split at h
  · rename_i n
    simp only [T.ev, Option.some.injEq] at h
    subst h
    refine plain_of plain mixed (fun _ => extsOk_nil) (k := 30) rfl rfl (cut_ev _ _ ((room_tree n).trans ?_))
    by_cases h1 : 0 ≤ n
    · by_cases h2 : n ≤ 4611686018427387904
      · have w : IntKind.i64.wrap (4611686018427387904 - n) = 4611686018427387904 - n := wrap_id (by omega) (by omega)
        have c1 : ¬ n < 0 := by omega
        have c2 : ¬ 4611686018427387904 < n := by omega
        simp [T.ev, roomF, h1, h2, w, c1, c2]
      · have c1 : ¬ n < 0 := by omega
        have c2 : 4611686018427387904 < n := by omega
        simp [T.ev, roomF, h1, h2, c1, c2]
    · have c1 : n < 0 := by omega
      simp [T.ev, roomF, h1, c1]
  · simp [T.ev] at h

theorem rroom_plain : PlainAll Try.prog 17 roomG := by
  refine ⟨⟨_, _, Try.func17, rfl⟩, fun args v h => ?_⟩
  unfold roomG at h
  split at h
  · rename_i n
    simp only [T.ev, Option.some.injEq] at h
    subst h
    refine plain_of plain mixed (fun _ => extsOk_nil) (k := 30) rfl rfl (cut_ev _ _ ((rroom_tree n).trans ?_))
    by_cases h1 : 0 ≤ n
    · by_cases h2 : n ≤ 4611686018427387904
      · have w : IntKind.i64.wrap (4611686018427387904 - n) = 4611686018427387904 - n := wrap_id (by omega) (by omega)
        simp [T.ev, roomF, h1, h2, w]
      · have c2 : 4611686018427387904 < n := by omega
        simp [T.ev, roomF, h1, h2, c2]
    · simp [T.ev, roomF, h1]
  · simp [T.ev] at h

def trueG : List Value → T Value
  | [] => .ret (.bool true)
  | _ => .fail

set_option maxRecDepth 100000 in
theorem awake_run : (((tden Try.prog [] 200).call 0 9 [] ⟨.nil, 0⟩).val).ev = some (.bool true) := by kernel_rfl

theorem awake_plain : PlainAll Try.prog 9 trueG := by
  refine ⟨⟨_, _, Try.func9, rfl⟩, fun args v h => ?_⟩
  unfold trueG at h
  split at h
  · simp only [T.ev, Option.some.injEq] at h
    subst h
    exact plain_of plain mixed (fun _ => extsOk_nil) (k := 200) rfl rfl awake_run
  · simp [T.ev] at h

end Go.Proofs.YtjbbhccoamhbgaaD
