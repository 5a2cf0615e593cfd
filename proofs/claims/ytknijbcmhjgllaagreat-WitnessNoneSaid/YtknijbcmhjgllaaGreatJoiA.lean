/-
  strings.Join: the kit's contract as a contract of data.
-/
import Derived.Test.YtknijbcmhjgllaaGreatStA
import Derived.Shelf.Strings.OnBuilder
set_option linter.unusedVariables false
set_option linter.unusedSimpArgs false
namespace Go.Proofs.YtknijbcmhjgllaaGreatD
open Go Go.RowKit Go.Shelf

def joinB (l : List ByteArray) (sep : ByteArray) : ByteArray := ⟨(Lib.join (l.map (·.data.toList)) sep.data.toList).toArray⟩
def joinG : List CV → T CV
  | [.pl .strs l, .string sep] => T.when (Nat.ble l.length 1000000000 && Nat.ble (joinB l sep).size 1000000000) (.ret (.string (joinB l sep)))
  | _ => .fail

variable {P : Program} {ρ : Ren}

theorem strs_vals {i : Inj} {l : List ByteArray} {ys : List Value} (hl : LRel i (RC.strs.all l) ys) : ys = l.map Value.string := by
  induction l generalizing ys with
  | nil => exact hl.nil_inv
  | cons x r ih =>
    obtain ⟨y, t, rfl, hy, ht⟩ := LRel.cons_inv (i := i) (x := CV.string x) (xs := RC.strs.all r) hl
    cases hy
    rw [ih ht]; rfl

theorem join_fn (L : Lays.n156 P ρ) (X : Builder.Extra P ρ) (hf : ∃ fn c, P.funcs[ρ.f 156]? = some fn ∧ fn.body = some c) : PureFn P (ρ.f 156) joinG :=
  ⟨hf, fun args d h => by
    unfold joinG at h
    split at h
    · rename_i l sep
      obtain ⟨hc, h1⟩ := ev_when h
      cases ev_ret h1
      simp only [Bool.and_eq_true, nble, decide_eq_true_eq] at hc
      intro im w args' him hl
      obtain ⟨y1, r1, hr1, hy1, hr⟩ := hl.cons_inv
      obtain ⟨y2, r2, rfl, hy2, hr2⟩ := hr.cons_inv
      have := hr2.nil_inv; subst this
      have hargs : args' = #[y1, y2] := Array.toList_inj.1 (by rw [hr1])
      subst hargs
      cases hy2
      have fin : ∀ {e : Ending} {w' : World}, e = .returned (.string (joinB l sep)) → Below w.heap.size w w' → ∃ (im' : Imm) (v' : Value), e = .returned v' ∧ ImmOk im' w' ∧ (∀ B k v, im B k = some v → im' B k = some v) ∧ (∀ B k v, B < w.heap.size → im' B k = some v → im B k = some v) ∧
          VRel (immOf im') (.string (joinB l sep)) v' ∧ Below w.heap.size w w' := fun he hb =>
        ⟨im, _, he, fun B k v hv => ⟨by rw [hb.cell (him B k v hv).2]; exact (him B k v hv).1, Nat.lt_of_lt_of_le (him B k v hv).2 hb.size⟩, fun _ _ _ h => h, fun _ _ _ _ h => h, .string _, hb⟩
      have none_ : ∀ (a : Option Addr) (c : Nat), l = [] → Calls P (ρ.f 156) #[.slice a 0 c, .string sep] w fun e w' => ∃ (im' : Imm) (v' : Value), e = .returned v' ∧ ImmOk im' w' ∧ (∀ B k v, im B k = some v → im' B k = some v) ∧ (∀ B k v, B < w.heap.size → im' B k = some v → im B k = some v) ∧
          VRel (immOf im') (.string (joinB l sep)) v' ∧ Below w.heap.size w w' := fun a c h0 => by
        refine (Any.strings_Join_none L X a c sep w).mono ?_
        rintro e w' ⟨rfl, rfl⟩
        refine fin ?_ (Below.refl _ _)
        subst h0; rfl
      rcases hy1.pl_inv with ⟨B, o, c, ys, a', rfl, hly, himm, hlc, ha⟩ | ⟨h0, a, c, rfl⟩
      · have hys := strs_vals hly
        subst hys
        by_cases h0 : l = []
        · have hl0 : l.length = 0 := by rw [h0]; rfl
          rw [hl0]
          exact none_ _ _ h0
        · have hpos : 0 < l.length := List.length_pos_iff.2 h0
          have := ha (by omega); subst this
          have hcell : ∀ (j : Nat) x, l[j]? = some x → im B (o + j) = some (.string x) := fun j x hj => himm j _ (by rw [List.getElem?_map, hj]; rfl)
          have hB : B < w.heap.size := by
            have := hcell 0 _ (List.getElem?_eq_getElem hpos)
            exact (him _ _ _ this).2
          refine (Any.strings_Join L X B o c l sep w (fun j x hj => (him _ _ _ (hcell j x hj)).1) hB (by omega) hlc (by
            have e : (joinB l sep).size = (Lib.join (l.map (·.data.toList)) sep.data.toList).length := by simp [joinB, ByteArray.size]
            exact Nat.le_trans (Nat.le_of_eq e.symm) (Nat.le_trans hc.2 (by decide)))).mono ?_
          rintro e w' ⟨he, hb⟩
          exact fin he hb
      · exact none_ _ _ h0
    · exact (ev_fail h).elim⟩

end Go.Proofs.YtknijbcmhjgllaaGreatD
