/-
  strconv.ParseInt at base 10, 64 bits, of a text that is a number: the kit's contract as a contract of data.
-/
import Derived.Test.YtecidokjhplbgaaGreatDoorStA
import Derived.Shelf.Strconv.ParseIntPublic10
set_option linter.unusedVariables false
set_option linter.unusedSimpArgs false
namespace Go.Proofs.YtecidokjhplbgaaGreatDoorD
open Go Go.RowKit Go.Shelf

def parseG : List CV → T CV
  | [.string s, .int .i64 b, .int .i64 z] => bif b == 10 && z == 64 then (match Lib.parseIntB 64 s.data.toList with
    | .ok v => T.when (Nat.ble s.size 1000000000) (.ret (.tuple #[.int .i64 v, .nilIface]))
    | _ => .fail) else .fail
  | _ => .fail

variable {P : Program} {ρ : Ren}

theorem parse_fn (L : LaysC.n174 P ρ) (hf : ∃ fn c, P.funcs[ρ.f 174]? = some fn ∧ fn.body = some c) : PureFn P (ρ.f 174) parseG :=
  ⟨hf, fun args d h => by
    unfold parseG at h
    split at h
    · rename_i s b z
      cases hbz : (b == 10 && z == 64) with
      | false => rw [hbz] at h; exact (ev_fail h).elim
      | true =>
        rw [hbz] at h
        simp only [Bool.and_eq_true, beq_iff_eq] at hbz
        obtain ⟨rfl, rfl⟩ := hbz
        simp only [cond_true] at h
        split at h
        · rename_i v hv
          obtain ⟨hc, h1⟩ := ev_when h
          cases ev_ret h1
          rw [nble, decide_eq_true_eq] at hc
          intro im w args' him hl
          obtain ⟨y1, r1, hr1, hy1, hr⟩ := hl.cons_inv
          obtain ⟨y2, r2, rfl, hy2, hr2⟩ := hr.cons_inv
          obtain ⟨y3, r3, rfl, hy3, hr3⟩ := hr2.cons_inv
          have := hr3.nil_inv; subst this
          cases hy1; cases hy2; cases hy3
          have hargs : args' = #[.string s, .int .i64 10, .int .i64 64] := Array.toList_inj.1 (by rw [hr1])
          subst hargs
          refine (Any.strconv_ParseInt_10_at64_ok L s (by omega) v hv w).mono ?_
          rintro e w' ⟨rfl, hw⟩
          have hb : Below w.heap.size w w' := by
            rcases hw with rfl | ⟨t, rfl⟩
            · exact Below.refl _ _
            · exact Lib.bytesWorld_below _ _ _
          have hL : LRel (immOf im) [CV.int .i64 v, CV.nilIface] [Value.int .i64 v, Value.nilIface] := LRel.cons (.int _ _) (LRel.cons .nilIface (LRel.nil _))
          exact ⟨im, _, rfl, fun B k v hv => ⟨by rw [hb.cell (him B k v hv).2]; exact (him B k v hv).1, Nat.lt_of_lt_of_le (him B k v hv).2 hb.size⟩, fun _ _ _ h => h, fun _ _ _ _ h => h,
            VRel.tuple hL.len hL.at_, hb⟩
        · exact (ev_fail h).elim
    · exact (ev_fail h).elim⟩

end Go.Proofs.YtecidokjhplbgaaGreatDoorD
