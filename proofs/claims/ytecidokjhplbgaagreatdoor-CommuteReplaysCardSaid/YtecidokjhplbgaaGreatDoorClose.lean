/-
  From what a law answers to data, to its row.
-/
import Derived.Test.YtecidokjhplbgaaGreatDoorOpen
import Derived.WalkKit
set_option linter.unusedVariables false
set_option linter.unusedSimpArgs false
namespace Go.Proofs.YtecidokjhplbgaaGreatDoorD
open Go Go.RowKit Go.ChangeShapes

inductive Ar where
  | one (l : Lf)
  | agg (ls : List Lf)
def Ar.is : Ar → CV → Prop
  | .one l, x => l.is x
  | .agg ls, x => ∃ xs : List CV, x = .agg xs.toArray ∧ IsAll ls xs
inductive ArsAll : List Ar → List CV → Prop
  | nil : ArsAll [] []
  | cons {a : Ar} {x : CV} {as : List Ar} {xs : List CV} (h : a.is x) (h' : ArsAll as xs) : ArsAll (a :: as) (x :: xs)
theorem ArsAll.nil_inv {xs : List CV} (h : ArsAll [] xs) : xs = [] := by cases h; rfl
theorem ArsAll.cons_inv {a : Ar} {as : List Ar} {xs : List CV} (h : ArsAll (a :: as) xs) : ∃ x ys, xs = x :: ys ∧ a.is x ∧ ArsAll as ys := by
  cases h with
  | cons h h' => exact ⟨_, _, rfl, h, h'⟩

def arOk (P : Program) (t : TypeId) : Ar → Bool
  | .one l => (match P.underlying t with
    | some (.struct _) => false
    | some (.array _ _) => false
    | _ => true) && lfsOk P 20 t [l]
  | .agg ls => match P.underlying t with
    | some (.struct _) => lfsOk P 20 t ls
    | _ => false
def arsOk (P : Program) : List TypeId → List Ar → Bool
  | [], [] => true
  | t :: ts, a :: as => arOk P t a && P.readableRec t && decide (t < P.types.size) && arsOk P ts as
  | _, _ => false

section
variable {H : Type} {enc : TypeId × Value → H} {P : Program} {W W' : World}

theorem one_cells {r : Reach} {base : Nat} {t : TypeId} {l : Lf} {v : Value} (h : arOk P t (.one l) = true) (hv : Value.okWide P W r base t v) : v.cells.toList = [v] := by
  simp only [arOk, Bool.and_eq_true] at h
  obtain ⟨h1, h2⟩ := h
  unfold lfsOk at h2
  split at h2
  · rename_i ht; simp only [Value.okWide, ht, Cell.okWide] at hv; cases v <;> simp_all [Cell.ok, Value.cells]
  · rename_i ht; simp only [Value.okWide, ht, Cell.okWide] at hv; cases v <;> simp_all [Cell.ok, Value.cells]
  · rename_i ht; simp only [Value.okWide, ht, Cell.okWide] at hv; cases v <;> simp_all [Cell.ok, Value.cells]
  · rename_i ht; simp only [Value.okWide, ht, Cell.okWide] at hv; cases v <;> simp_all [Cell.ok, Value.cells]
  · rename_i ht; simp [ht] at h1
  · cases h2

theorem open_arg {r : Reach} {base : Nat} {t : TypeId} {a : Ar} {v : Value} {d : DataW H} {ps : List MemPlace} (h : arOk P t a = true) (hv : Value.okWide P W r base t v) (hd : DataW.Trod enc P W 0 (fun _ => true) true t v d ps) :
    ∃ x, a.is x ∧ VRel (immOf (immAll W)) x v := by
  obtain ⟨fuel, hd⟩ := hd
  cases a with
  | one l =>
    rw [one_cells h hv] at hd
    simp only [arOk, Bool.and_eq_true] at h
    obtain ⟨xs, h1, h2⟩ := open_lfs 20 t [l] fuel _ _ h.2 hd
    obtain ⟨x, ys, rfl, h3, h4⟩ := h1.cons_inv
    exact ⟨x, h3, h2.head⟩
  | agg ls =>
    simp only [arOk] at h
    split at h
    · rename_i ht
      simp only [Value.okWide, ht] at hv
      obtain ⟨cs, rfl, _, _⟩ := hv
      obtain ⟨xs, h1, h2⟩ := open_lfs 20 t ls fuel _ _ h hd
      exact ⟨.agg xs.toArray, ⟨xs, rfl, h1⟩, VRel.agg' (bs := cs.toList) h2⟩
    · cases h

theorem open_args {base : Nat} : ∀ {ts : List TypeId} {as : List Ar} {vs : List Value} {ds : List (DataW H)} {ps : List MemPlace}, arsOk P ts as = true →
    (∀ (j : Nat) t v, ts[j]? = some t → vs[j]? = some v → Value.okWide P W .any base t v) → DataW.TrodAll enc P W 0 (fun _ => true) true ts vs ds ps →
    ds.length = as.length ∧ ∃ xs, ArsAll as xs ∧ LRel (immOf (immAll W)) xs vs
  | [], [], [], [], _, _, _, _ => ⟨rfl, [], .nil, .nil _⟩
  | t :: ts, a :: as, vs, ds, ps, h, hv, hd => by
    obtain ⟨v, vs', d, ds', p, q, rfl, rfl, rfl, h1, h2⟩ := trodAll_cons hd
    simp only [arsOk, Bool.and_eq_true] at h
    obtain ⟨x, h3, h4⟩ := open_arg h.1.1.1 (hv 0 t v rfl rfl) h1
    obtain ⟨h5, xs, h6, h7⟩ := open_args h.2 (fun j t' v' ht hv' => hv (j + 1) t' v' (by simpa using ht) (by simpa using hv')) h2
    exact ⟨by simp [h5], x :: xs, .cons h3 h6, .cons h4 h7⟩
  | [], _ :: _, _, _, _, h, _, _ => by simp [arsOk] at h
  | _ :: _, [], _, _, _, h, _, _ => by simp [arsOk] at h
  | [], [], _ :: _, _, _, _, _, hd => by simp [DataW.TrodAll] at hd
  | [], [], [], _ :: _, _, _, _, hd => by simp [DataW.TrodAll] at hd

theorem args_after (hl : laidOutB P = true) : ∀ {ts : List TypeId} {as : List Ar} {vs : List Value} {ds : List (DataW H)} {ps : List MemPlace}, arsOk P ts as = true → Below W.heap.size W W' →
    DataW.TrodAll enc P W 0 (fun _ => true) true ts vs ds ps → (∀ x ∈ ps, x.block < W.heap.size) → DataW.TrodAll enc P W' 0 (fun b => decide (b < W.heap.size)) true ts vs ds ps
  | [], [], [], [], _, _, _, hd, _ => hd
  | t :: ts, a :: as, vs, ds, ps, h, hb, hd, hlt => by
    obtain ⟨v, vs', d, ds', p, q, rfl, rfl, rfl, h1, h2⟩ := trodAll_cons hd
    simp only [arsOk, Bool.and_eq_true, decide_eq_true_eq] at h
    exact ⟨p, q, Below.trod hl h.1.1.2 h.1.2 h1 hb (fun x hx => hlt x (by simp [hx])), args_after hl h.2 hb h2 (fun x hx => hlt x (by simp [hx])), rfl⟩
  | [], _ :: _, _, _, _, h, _, _, _ => by simp [arsOk] at h
  | _ :: _, [], _, _, _, h, _, _, _ => by simp [arsOk] at h
  | [], [], _ :: _, _, _, _, _, hd, _ => by simp [DataW.TrodAll] at hd
  | [], [], [], _ :: _, _, _, _, hd, _ => by simp [DataW.TrodAll] at hd

theorem law_row (hl : laidOutB P = true) {F : FuncId} {f : Func} {s : ChangeSpec} {apart fresh handsOn : Bool} {ars : List Ar} (hts : arsOk P f.params.toList ars = true) (hvars : s.vars = [])
    (hfn : ∀ ds : List (DataW H), ds.length = ars.length → (s.fn H ds).results = [.lit (.bool true)] ∧ (s.fn H ds).args = ds ∧ (s.fn H ds).vars = [])
    (hres : ∀ (W' : World) (b : Nat) (sp : Nat → Bool) (hd : Bool), DataW.TrodAll enc P W' b sp hd f.resultTypes.toList ((Value.bool true).resultList f.resultTypes.size) [.lit (.bool true)] [])
    (hlaw : ∀ xs, ArsAll ars xs → PureAt P F xs (.bool true))
    {args : Array Value} {ds gs : List (DataW H)} {before : List MemPlace} {base : Nat}
    (hval : ∀ (j : Nat) t v, f.params[j]? = some t → args[j]? = some v → Value.okWide P W .any base t v)
    (hW : DataW.Whole enc P f.params.toList s.vars apart W args.toList ds gs before) :
    Calls P F args W fun e W' => ∃ v, e = .returned v ∧ s.post enc P f apart fresh handsOn false W args v W' := by
  have hlt := hW.lt
  have hW' := hW
  obtain ⟨p, q, hA, hV, rfl, _, _⟩ := hW'
  rw [hvars] at hV
  obtain ⟨rfl, rfl⟩ := trodVars_none hV
  obtain ⟨h1, xs, h2, h3⟩ := open_args (base := base) hts (fun j t v ht hv => hval j t v (by simpa using ht) (by simpa using hv)) hA
  obtain ⟨h4, h5, h6⟩ := hfn ds h1
  refine ((hlaw xs h2) (immAll W) W args (immAll_ok W) h3).mono ?_
  rintro e W' ⟨im', v', rfl, _, _, _, hv', hb⟩
  have hv2 : v' = .bool true := by cases hv'; rfl
  subst hv2
  refine ⟨_, rfl, ds, [], p ++ [], [], p, [], hW, ?_, ?_, ?_, hb.frame _, fun h => by cases h⟩
  · rw [List.append_nil, h4]; exact hres _ _ _ _
  · rw [List.append_nil, h5]; exact args_after hl hts hb hA fun x hx => hlt x (by simp [hx])
  · rw [List.append_nil, h6, hvars]; rfl

end
end Go.Proofs.YtecidokjhplbgaaGreatDoorD
