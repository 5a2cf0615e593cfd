/-
  A law's arguments as data: operations, acts, states, transactions, cases.
-/
import Derived.Test.YtecidokjhplbgaaGreatDoorClose
set_option linter.unusedVariables false
set_option linter.unusedSimpArgs false
namespace Go.Proofs.YtecidokjhplbgaaGreatDoorD
open Go Go.RowKit

theorem ArG.state {x : CV} (h : (Ar.agg [i6, i6, .row .ints]).is x) : ∃ (t n : Int) (l : List Int), x = .agg #[.int .i64 t, .int .i64 n, .pl .ints l] ∧ w64 t ∧ w64 n ∧ wfInts l := by
  obtain ⟨xs, rfl, h⟩ := h
  obtain ⟨a, _, rfl, ha, h⟩ := h.int; obtain ⟨b, _, rfl, hb, h⟩ := h.int; obtain ⟨c, _, rfl, hc, h⟩ := h.row; cases h.nil_inv
  exact ⟨a, b, c, rfl, ha, hb, hc⟩
theorem ArG.op {x : CV} (h : (Ar.agg [i6, i6, i6, i6, i6]).is x) : ∃ (k a b r n : Int), x = .agg #[.int .i64 k, .int .i64 a, .int .i64 b, .int .i64 r, .int .i64 n] ∧ w64 k ∧ w64 a ∧ w64 b ∧ w64 r ∧ w64 n := by
  obtain ⟨xs, rfl, h⟩ := h
  obtain ⟨a, _, rfl, ha, h⟩ := h.int; obtain ⟨b, _, rfl, hb, h⟩ := h.int; obtain ⟨c, _, rfl, hc, h⟩ := h.int; obtain ⟨d, _, rfl, hd, h⟩ := h.int; obtain ⟨e, _, rfl, he, h⟩ := h.int; cases h.nil_inv
  exact ⟨a, b, c, d, e, rfl, ha, hb, hc, hd, he⟩
theorem ArG.act {x : CV} (h : (Ar.agg [i6, i6, i6, i6, i6, i6]).is x) : ∃ (o k a b r n : Int), x = .agg #[.int .i64 o, .int .i64 k, .int .i64 a, .int .i64 b, .int .i64 r, .int .i64 n] ∧ w64 o ∧ w64 k ∧ w64 a ∧ w64 b ∧ w64 r ∧ w64 n := by
  obtain ⟨xs, rfl, h⟩ := h
  obtain ⟨o, _, rfl, ho, h⟩ := h.int; obtain ⟨a, _, rfl, ha, h⟩ := h.int; obtain ⟨b, _, rfl, hb, h⟩ := h.int; obtain ⟨c, _, rfl, hc, h⟩ := h.int; obtain ⟨d, _, rfl, hd, h⟩ := h.int; obtain ⟨e, _, rfl, he, h⟩ := h.int; cases h.nil_inv
  exact ⟨o, a, b, c, d, e, rfl, ho, ha, hb, hc, hd, he⟩
theorem ArG.trans {x : CV} (h : (Ar.agg [.str, i6, i6, .row .acts, .row .ints]).is x) : ∃ (nm : ByteArray) (bg cm : Int) (ac : List DAct) (l : List Int), x = .agg #[.string nm, .int .i64 bg, .int .i64 cm, .pl .acts ac, .pl .ints l] ∧ nm.size ≤ maxLen ∧ w64 bg ∧ w64 cm ∧ (∀ y ∈ ac, RC.acts.wf y) ∧ wfInts l := by
  obtain ⟨xs, rfl, h⟩ := h
  obtain ⟨s, _, rfl, hs, h⟩ := h.str; obtain ⟨a, _, rfl, ha, h⟩ := h.int; obtain ⟨b, _, rfl, hb, h⟩ := h.int; obtain ⟨c, _, rfl, hc, h⟩ := h.row; obtain ⟨d, _, rfl, hd, h⟩ := h.row; cases h.nil_inv
  exact ⟨s, a, b, c, d, rfl, hs, ha, hb, hc, hd⟩
theorem ArG.case {x : CV} (h : (Ar.agg [.row .strs, .row .states, .row .trans]).is x) : ∃ (ns : List ByteArray) (f : List DState) (ts : List DTrans), x = .agg #[.pl .strs ns, .pl .states f, .pl .trans ts] ∧ (∀ y ∈ ns, RC.strs.wf y) ∧ (∀ y ∈ f, RC.states.wf y) ∧ (∀ y ∈ ts, RC.trans.wf y) := by
  obtain ⟨xs, rfl, h⟩ := h
  obtain ⟨a, _, rfl, ha, h⟩ := h.row; obtain ⟨b, _, rfl, hb, h⟩ := h.row; obtain ⟨c, _, rfl, hc, h⟩ := h.row; cases h.nil_inv
  exact ⟨a, b, c, rfl, ha, hb, hc⟩
theorem ArG.ints {x : CV} (h : (Ar.one (.row .ints)).is x) : ∃ l : List Int, x = .pl .ints l ∧ wfInts l := h
theorem ArG.int {x : CV} (h : (Ar.one i6).is x) : ∃ n : Int, x = .int .i64 n ∧ w64 n := h
theorem ArG.bool {x : CV} (h : (Ar.one .bool).is x) : ∃ b : Bool, x = .bool b := h

end Go.Proofs.YtecidokjhplbgaaGreatDoorD
