/-
  From a reference run to a call of the model, and to a row's answer.
-/
import Derived.Test.YtjbbhccoamhbgaaSound4
import Derived.ProofKit
import Derived.OpenShut
import Derived.KernelRfl
set_option linter.unusedVariables false
set_option linter.unusedSimpArgs false
namespace Go.Proofs.YtjbbhccoamhbgaaD
open Go Go.RowKit

variable {P : Program}

theorem post_of_below {H : Type} {enc : TypeId × Value → H} {f : Func} {s : ChangeSpec} {apart fresh handsOn : Bool} {W W' : World} {args : Array Value} {v : Value} {ds gs : List (DataW H)} {before pa pv : List MemPlace}
    (hW : DataW.Whole enc P f.params.toList s.vars apart W args.toList ds gs before)
    (hres : ∀ (b : Nat) (sp : Nat → Bool) (hd : Bool), DataW.TrodAll enc P W' b sp hd f.resultTypes.toList (v.resultList f.resultTypes.size) (s.fn H (ds ++ gs)).results [])
    (hargs : ∀ sp : Nat → Bool, (∀ p ∈ before, sp p.block = true) → DataW.TrodAll enc P W' 0 sp true f.params.toList args.toList (s.fn H (ds ++ gs)).args pa)
    (hvars : ∀ sp : Nat → Bool, (∀ p ∈ before, sp p.block = true) → DataW.TrodVars enc P W' sp s.vars (s.fn H (ds ++ gs)).vars pv)
    (h : Below W.heap.size W W') : s.post enc P f apart fresh handsOn false W args v W' := by
  have hold : ∀ p ∈ before, (fun b => decide (b < W.heap.size)) p.block = true := fun p hp => by simpa using hW.lt p hp
  exact ⟨ds, gs, before, [], pa, pv, hW, hres _ _ _, hargs _ hold, hvars _ hold, h.frame _, fun h => by cases h⟩

theorem rel_nil (w : World) : SRel w.heap.size (fun _ => none) ⟨.nil, 0⟩ w :=
  ⟨⟨fun b o g h _ => (by simp [Tr.get] at h), fun b b' o o' g g' _ h _ _ _ _ _ => (by simp [Tr.get] at h), fun b g h => (by cases h), Nat.le_refl _⟩, fun _ _ => rfl⟩

/-- A call without arguments. -/
theorem calls_nil (hP : plainNames P = true) (hM : P.follows .mixedOrders = true) {E : List (Nat × ExtFn)} (hE : ∀ N, ExtsOk P N E) {k f : Nat} {v : Value} {s : CSt} (e : (den P E k).call 0 f [] ⟨.nil, 0⟩ = some (v, s)) (hv : flat v = true) (w : World) :
    Calls P f #[] w fun e w' => e = .returned v ∧ Below w.heap.size w w' := by
  obtain ⟨_, h⟩ := (den_sound (N := w.heap.size) hP hM (hE _) k).call 0 f [] _ v s e
  have h1 := h (fun _ => none) w #[] (rel_nil w) (.nil _)
  have h2 : CallsIn Fence.wide 0 P f #[] w fun e w' => e = .returned v ∧ Below w.heap.size w w' := by
    refine CallsIn.mono (F := Fence.wide) h1 ?_
    rintro e w' ⟨i', v', rfl, hvr, haf⟩
    rw [← hvr.flat_eq hv]
    exact ⟨rfl, Step.below (rel_nil w).rel haf.step⟩
  exact callsIn_wide.1 h2

def trueOf (x : Option (Value × CSt)) : Bool :=
  match x with
  | some (.bool b, _) => b
  | _ => false
theorem trueOf_some {x : Option (Value × CSt)} (h : trueOf x = true) : ∃ s, x = some (.bool true, s) := by
  unfold trueOf at h
  split at h
  · rename_i b s; subst h; exact ⟨s, rfl⟩
  · cases h

theorem calls_true (hP : plainNames P = true) (hM : P.follows .mixedOrders = true) {E : List (Nat × ExtFn)} (hE : ∀ N, ExtsOk P N E) {k f : Nat} (e : trueOf ((den P E k).call 0 f [] ⟨.nil, 0⟩) = true) (w : World) :
    Calls P f #[] w fun e w' => e = .returned (.bool true) ∧ Below w.heap.size w w' := by
  obtain ⟨s, h⟩ := trueOf_some e
  exact calls_nil hP hM hE h rfl w

end Go.Proofs.YtjbbhccoamhbgaaD
