/-
  How the reference run's values and heap lie in the model's world: by an injection of its blocks; first laws.
-/
import Derived.Test.YtjbbhccoamhbgaaDen
import Derived.Laws.IdiomCopy
import Derived.Deep.MidRow
set_option linter.unusedVariables false
set_option linter.unusedSimpArgs false
namespace Go.Proofs.YtjbbhccoamhbgaaD
open Go Go.RowKit

/-! ### The tree -/
theorem nbeq (a b : Nat) : Nat.beq a b = decide (a = b) := by
  rw [Bool.eq_iff_iff]; simp
theorem nble (a b : Nat) : Nat.ble a b = decide (a ≤ b) := by
  rw [Bool.eq_iff_iff]; simp

theorem Tr.get_setAux_eq {α : Type} (x : Option α) : ∀ (k n : Nat) (t : Tr α), n < k → (Tr.setAux x k t n).get n = x
  | 0, n, t, h => absurd h (by omega)
  | k + 1, n, t, h => by
    by_cases h0 : n = 0
    · subst h0; cases t <;> simp [Tr.setAux, Tr.get, nbeq]
    · by_cases h1 : n % 2 = 1
      · have ih := fun t => Tr.get_setAux_eq x k (n / 2) t (by omega)
        cases t <;> simp [Tr.setAux, Tr.get, nbeq, h0, h1, ih]
      · have ih := fun t => Tr.get_setAux_eq x k (n / 2 - 1) t (by omega)
        cases t <;> simp [Tr.setAux, Tr.get, nbeq, h0, h1, ih]

theorem Tr.get_setAux_ne {α : Type} (x : Option α) : ∀ (k n m : Nat) (t : Tr α), m ≠ n → (Tr.setAux x k t n).get m = t.get m
  | 0, n, m, t, h => rfl
  | k + 1, n, m, t, h => by
    by_cases h0 : n = 0
    · subst h0; cases t <;> simp [Tr.setAux, Tr.get, nbeq, h]
    · by_cases h1 : n % 2 = 1
      · by_cases g0 : m = 0
        · subst g0; cases t <;> simp [Tr.setAux, Tr.get, nbeq, h0, h1]
        · by_cases g1 : m % 2 = 1
          · have ih := fun t => Tr.get_setAux_ne x k (n / 2) (m / 2) t (by omega)
            cases t <;> simp [Tr.setAux, Tr.get, nbeq, h0, h1, g0, g1, ih]
          · cases t <;> simp [Tr.setAux, Tr.get, nbeq, h0, h1, g0, g1]
      · by_cases g0 : m = 0
        · subst g0; cases t <;> simp [Tr.setAux, Tr.get, nbeq, h0, h1]
        · by_cases g1 : m % 2 = 1
          · cases t <;> simp [Tr.setAux, Tr.get, nbeq, h0, h1, g0, g1]
          · have ih := fun t => Tr.get_setAux_ne x k (n / 2 - 1) (m / 2 - 1) t (by omega)
            cases t <;> simp [Tr.setAux, Tr.get, nbeq, h0, h1, g0, g1, ih]

theorem Tr.get_set_eq {α : Type} (t : Tr α) (n : Nat) (x : α) : (t.set n x).get n = some x := Tr.get_setAux_eq _ _ _ _ (Nat.lt_succ_self _)
theorem Tr.get_set_ne {α : Type} (t : Tr α) {n m : Nat} (x : α) (h : m ≠ n) : (t.set n x).get m = t.get m := Tr.get_setAux_ne _ _ _ _ _ h
theorem Tr.get_set {α : Type} (t : Tr α) (n m : Nat) (x : α) : (t.set n x).get m = if m = n then some x else t.get m := by
  split
  · rename_i h; subst h; exact Tr.get_set_eq _ _ _
  · rename_i h; exact Tr.get_set_ne _ _ h

/-! ### Values -/
structure Img where
  B : Nat
  off : Nat
  total : Nat
  grown : Bool
  size : Nat
  esz : Nat

abbrev Inj := Nat → Option Img
def Inj.le (i j : Inj) : Prop := ∀ b g, i b = some g → j b = some g
theorem Inj.le_refl (i : Inj) : i.le i := fun _ _ h => h
theorem Inj.le_trans {i j k : Inj} (h : i.le j) (h' : j.le k) : i.le k := fun b g hb => h' b g (h b g hb)

def CapOk (g : Img) (o cap cap' : Nat) : Prop :=
  cap' = cap ∨ (g.grown = true ∧ o + cap * g.esz = g.size ∧ cap ≤ cap' ∧ o + cap' * g.esz ≤ g.total ∧ cap' ≤ 9223372036854775807)

inductive VRel (i : Inj) : Value → Value → Prop
  | bool (b : Bool) : VRel i (.bool b) (.bool b)
  | int (k : IntKind) (n : Int) : VRel i (.int k n) (.int k n)
  | float (k : FloatKind) (n : Nat) : VRel i (.float k n) (.float k n)
  | complex (k : FloatKind) (a b : Nat) : VRel i (.complex k a b) (.complex k a b)
  | string (s : ByteArray) : VRel i (.string s) (.string s)
  | nilFunc : VRel i .nilFunc .nilFunc
  | nilIface : VRel i .nilIface .nilIface
  | nilPtr : VRel i (.pointer none) (.pointer none)
  | nilMap : VRel i (.map none) (.map none)
  | ptr {b o : Nat} {g : Img} (h : i b = some g) : VRel i (.pointer (some ⟨b, o, none⟩)) (.pointer (some ⟨g.B, g.off + o, none⟩))
  | nilSlice : VRel i (.slice none 0 0) (.slice none 0 0)
  | slice {b o len cap cap' : Nat} {g : Img} {a' : Addr} (h : i b = some g) (hc : CapOk g o cap cap') (ha : cap' ≠ 0 → a' = ⟨g.B, g.off + o, none⟩) (hl : len ≤ cap) :
      VRel i (.slice (some ⟨b, o, none⟩) len cap) (.slice (some a') len cap')
  | map {r : Nat} {g : Img} (h : i r = some g) : VRel i (.map (some r)) (.map (some g.B))
  | func {f : FuncId} {as bs cs ds : List Value} (h1 : as.length = bs.length) (h2 : ∀ (k : Nat) (x y : Value), as[k]? = some x → bs[k]? = some y → VRel i x y)
      (h3 : cs.length = ds.length) (h4 : ∀ (k : Nat) (x y : Value), cs[k]? = some x → ds[k]? = some y → VRel i x y) :
      VRel i (.func (.func f) as.toArray cs.toArray) (.func (.func f) bs.toArray ds.toArray)
  | yield {l : Nat} {g : Img} (h : i l = some g) : VRel i (.func (.yield l) #[] #[]) (.func (.yield g.B) #[] #[])
  | iface {t : TypeId} {x y : Value} (h : VRel i x y) : VRel i (.iface t x) (.iface t y)
  | agg {as bs : List Value} (h1 : as.length = bs.length) (h2 : ∀ (k : Nat) (x y : Value), as[k]? = some x → bs[k]? = some y → VRel i x y) : VRel i (.agg as.toArray) (.agg bs.toArray)
  | tuple {as bs : List Value} (h1 : as.length = bs.length) (h2 : ∀ (k : Nat) (x y : Value), as[k]? = some x → bs[k]? = some y → VRel i x y) : VRel i (.tuple as.toArray) (.tuple bs.toArray)

/-- Lists of values, place by place. -/
structure LRel (i : Inj) (as bs : List Value) : Prop where
  len : as.length = bs.length
  at_ : ∀ (k : Nat) (x y : Value), as[k]? = some x → bs[k]? = some y → VRel i x y

theorem VRel.mono {i j : Inj} (h : i.le j) {x y : Value} (hv : VRel i x y) : VRel j x y := by
  induction hv with
  | bool b => exact .bool b
  | int k n => exact .int k n
  | float k n => exact .float k n
  | complex k a b => exact .complex k a b
  | string s => exact .string s
  | nilFunc => exact .nilFunc
  | nilIface => exact .nilIface
  | nilPtr => exact .nilPtr
  | nilMap => exact .nilMap
  | ptr hb => exact .ptr (h _ _ hb)
  | nilSlice => exact .nilSlice
  | slice hb hc ha hl => exact .slice (h _ _ hb) hc ha hl
  | map hb => exact .map (h _ _ hb)
  | func h1 h2 h3 h4 i2 i4 => exact .func h1 i2 h3 i4
  | yield hb => exact .yield (h _ _ hb)
  | iface _ ih => exact .iface ih
  | agg h1 _ ih => exact .agg h1 ih
  | tuple h1 _ ih => exact .tuple h1 ih

theorem LRel.mono {i j : Inj} (h : i.le j) {xs ys : List Value} (hv : LRel i xs ys) : LRel j xs ys := ⟨hv.len, fun k x y hx hy => (hv.at_ k x y hx hy).mono h⟩
theorem LRel.nil (i : Inj) : LRel i [] [] := ⟨rfl, fun k x y hx => by simp at hx⟩
theorem LRel.cons {i : Inj} {x y : Value} {xs ys : List Value} (h : VRel i x y) (h' : LRel i xs ys) : LRel i (x :: xs) (y :: ys) :=
  ⟨by simp [h'.len], fun k a b ha hb => by cases k with | zero => simp at ha hb; subst ha; subst hb; exact h | succ k => simp at ha hb; exact h'.at_ k a b ha hb⟩
theorem LRel.head {i : Inj} {x y : Value} {xs ys : List Value} (h : LRel i (x :: xs) (y :: ys)) : VRel i x y := h.at_ 0 x y rfl rfl
theorem LRel.tail {i : Inj} {x y : Value} {xs ys : List Value} (h : LRel i (x :: xs) (y :: ys)) : LRel i xs ys :=
  ⟨by have := h.len; simpa using this, fun k a b ha hb => h.at_ (k + 1) a b (by simpa using ha) (by simpa using hb)⟩
theorem LRel.cons_inv {i : Inj} {x : Value} {xs ys : List Value} (h : LRel i (x :: xs) ys) : ∃ y ys', ys = y :: ys' ∧ VRel i x y ∧ LRel i xs ys' := by
  cases ys with
  | nil => have := h.len; simp at this
  | cons y ys' => exact ⟨y, ys', rfl, h.head, h.tail⟩
theorem LRel.nil_inv {i : Inj} {ys : List Value} (h : LRel i [] ys) : ys = [] := by
  have := h.len; cases ys <;> simp_all
theorem LRel.append {i : Inj} {as bs cs ds : List Value} (h : LRel i as bs) (h' : LRel i cs ds) : LRel i (as ++ cs) (bs ++ ds) := by
  induction as generalizing bs with
  | nil => have := h.nil_inv; subst this; simpa using h'
  | cons a as ih => obtain ⟨b, bs', rfl, hv, ht⟩ := h.cons_inv; exact .cons hv (ih ht)
theorem LRel.get {i : Inj} {as bs : List Value} (h : LRel i as bs) {k : Nat} {x : Value} (hx : as[k]? = some x) : ∃ y, bs[k]? = some y ∧ VRel i x y := by
  have hk : k < as.length := (List.getElem?_eq_some_iff.1 hx).1
  have hk' : k < bs.length := by rw [← h.len]; exact hk
  exact ⟨bs[k], List.getElem?_eq_getElem hk', h.at_ k x _ hx (List.getElem?_eq_getElem hk')⟩
theorem LRel.set {i : Inj} {as bs : List Value} (h : LRel i as bs) (k : Nat) {x y : Value} (hv : VRel i x y) : LRel i (as.set k x) (bs.set k y) := by
  refine ⟨by simp [h.len], fun j a b ha hb => ?_⟩
  rw [List.getElem?_set] at ha hb
  by_cases e : k = j
  · subst e
    by_cases hk : k < as.length
    · have hk' : k < bs.length := by rw [← h.len]; exact hk
      simp [hk] at ha; simp [hk'] at hb; subst ha; subst hb; exact hv
    · simp [hk] at ha
  · simp [e] at ha hb; exact h.at_ j a b ha hb
theorem LRel.drop {i : Inj} {as bs : List Value} (h : LRel i as bs) (n : Nat) : LRel i (as.drop n) (bs.drop n) :=
  ⟨by simp [h.len], fun k a b ha hb => h.at_ (n + k) a b (by simpa [List.getElem?_drop] using ha) (by simpa [List.getElem?_drop] using hb)⟩
theorem LRel.take {i : Inj} {as bs : List Value} (h : LRel i as bs) (n : Nat) : LRel i (as.take n) (bs.take n) :=
  ⟨by simp [h.len], fun k a b ha hb => by
    rw [List.getElem?_take] at ha hb
    by_cases e : k < n
    · simp [e] at ha hb; exact h.at_ k a b ha hb
    · simp [e] at ha⟩
theorem LRel.setR {i : Inj} : ∀ {xs ys as bs : List Value} (o : Nat), LRel i as bs → LRel i xs ys → LRel i (Go.Proofs.YtjbbhccoamhbgaaD.setR as o xs) (Go.Proofs.YtjbbhccoamhbgaaD.setR bs o ys)
  | [], ys, as, bs, o, h, hx => by have := hx.nil_inv; subst this; exact h
  | x :: xs, ys, as, bs, o, h, hx => by
    obtain ⟨y, ys', rfl, hv, ht⟩ := hx.cons_inv
    exact LRel.setR (o + 1) (h.set o hv) ht

theorem VRel.undef (i : Inj) : VRel i undef undef := .tuple (as := []) (bs := []) rfl (fun k x y hx => by simp at hx)

theorem VRel.agg' {i : Inj} {as bs : List Value} (h : LRel i as bs) : VRel i (.agg as.toArray) (.agg bs.toArray) := .agg h.len h.at_
theorem VRel.tuple' {i : Inj} {as bs : List Value} (h : LRel i as bs) : VRel i (.tuple as.toArray) (.tuple bs.toArray) := .tuple h.len h.at_
theorem VRel.agg_inv {i : Inj} {as : Array Value} {y : Value} (h : VRel i (.agg as) y) : ∃ bs, y = .agg bs ∧ LRel i as.toList bs.toList := by
  cases h with | agg h1 h2 => exact ⟨_, rfl, ⟨by simpa using h1, by simpa using h2⟩⟩
theorem VRel.tuple_inv {i : Inj} {as : Array Value} {y : Value} (h : VRel i (.tuple as) y) : ∃ bs, y = .tuple bs ∧ LRel i as.toList bs.toList := by
  cases h with | tuple h1 h2 => exact ⟨_, rfl, ⟨by simpa using h1, by simpa using h2⟩⟩
theorem VRel.cells {i : Inj} {x y : Value} (h : VRel i x y) : LRel i x.cells.toList y.cells.toList := by
  cases h with
  | agg h1 h2 => exact ⟨by simpa [Value.cells] using h1, by simpa [Value.cells] using h2⟩
  | _ => (first
    | (refine LRel.cons ?_ (LRel.nil i); first | exact .bool _ | exact .int _ _ | exact .float _ _ | exact .complex _ _ _ | exact .string _ | exact .nilFunc | exact .nilIface | exact .nilPtr | exact .nilMap | exact .ptr ‹_› | exact .nilSlice | exact .slice ‹_› ‹_› ‹_› ‹_› | exact .map ‹_› | exact .func ‹_› ‹_› ‹_› ‹_› | exact .yield ‹_› | exact .iface ‹_› | exact .tuple ‹_› ‹_›))
theorem cellOk_rel {i : Inj} {x y : Value} (h : VRel i x y) (hx : cellOk x = true) : cellOk y = true := by
  cases h <;> first | rfl | simp [cellOk] at hx

theorem flatA_eq (cs : Array Value) : flatA cs = flatL cs.toList := by cases cs; simp [flatA]
theorem flatL_mem : ∀ {l : List Value} {k : Nat} {x : Value}, flatL l = true → l[k]? = some x → flat x = true
  | [], k, x, _, h => by simp at h
  | a :: l, 0, x, hf, h => by simp at h; subst h; simp [flatL] at hf; exact hf.1
  | a :: l, k + 1, x, hf, h => by simp [flatL] at hf; exact flatL_mem hf.2 (by simpa using h)

theorem VRel.flat_eq {i : Inj} {x y : Value} (h : VRel i x y) : flat x = true → x = y := by
  have key : ∀ {as bs : List Value}, as.length = bs.length → (∀ (k : Nat) (x y : Value), as[k]? = some x → bs[k]? = some y → flat x = true → x = y) → flatL as = true → as = bs := by
    intro as bs h1 h2 hf
    apply List.ext_getElem? 
    intro k
    by_cases hk : k < as.length
    · have hk' : k < bs.length := by omega
      rw [List.getElem?_eq_getElem hk, List.getElem?_eq_getElem hk']
      exact congrArg some (h2 k _ _ (List.getElem?_eq_getElem hk) (List.getElem?_eq_getElem hk') (flatL_mem hf (List.getElem?_eq_getElem hk)))
    · rw [List.getElem?_eq_none (by omega), List.getElem?_eq_none (by omega)]
  induction h with
  | iface _ ih => intro hf; rw [ih (by simpa [flat] using hf)]
  | agg h1 _ ih => intro hf; rw [key h1 ih (by simpa [flat, flatA_eq] using hf)]
  | tuple h1 _ ih => intro hf; rw [key h1 ih (by simpa [flat, flatA_eq] using hf)]
  | _ => intro hf; first | rfl | simp [flat] at hf

theorem VRel.of_flat (i : Inj) : ∀ (x : Value), flat x = true → VRel i x x := by
  have main : ∀ (n : Nat) (x : Value), SizeOf.sizeOf x < n → flat x = true → VRel i x x := by
    intro n
    induction n with
    | zero => intro x h; omega
    | succ n ih =>
      intro x hs hf
      have lst : ∀ (l : List Value), SizeOf.sizeOf l < n → flatL l = true → ∀ (k : Nat) (a b : Value), l[k]? = some a → l[k]? = some b → VRel i a b := by
        intro l hl hfl k a b ha hb
        rw [ha] at hb; cases hb
        have hm : a ∈ l := List.mem_of_getElem? ha
        have := List.sizeOf_lt_of_mem hm
        exact ih a (by omega) (flatL_mem hfl ha)
      cases x with
      | bool b => exact .bool b
      | int k n => exact .int k n
      | float k n => exact .float k n
      | complex k a b => exact .complex k a b
      | string s => exact .string s
      | nilFunc => exact .nilFunc
      | nilIface => exact .nilIface
      | pointer a => cases a with
        | none => exact .nilPtr
        | some a => simp [flat] at hf
      | map a => cases a with
        | none => exact .nilMap
        | some a => simp [flat] at hf
      | slice a l c =>
        cases a with
        | some a => simp [flat] at hf
        | none => cases l <;> cases c <;> first | exact .nilSlice | simp [flat] at hf
      | iface t v => exact .iface (ih v (by simp at hs; omega) (by simpa [flat] using hf))
      | agg cs => cases cs with | mk l => exact .agg rfl (lst l (by simp at hs; omega) (by simpa [flat, flatA] using hf))
      | tuple cs => cases cs with | mk l => exact .tuple rfl (lst l (by simp at hs; omega) (by simpa [flat, flatA] using hf))
      | func f a b => simp [flat] at hf
      | chan c => simp [flat] at hf
  intro x hf
  exact main (SizeOf.sizeOf x + 1) x (by omega) hf

/-! ### What asks nothing of the world -/
theorem still_run {α : Type} {P : Program} : ∀ (s : Sem α) {v : α}, still P s = some v → ∀ w, s.run P w = .ok v w
  | .pure a, v, h, w => by simp [still] at h; subst h; rfl
  | .program k, v, h, w => by simp only [still] at h; exact still_run (k P) h w
  | .mark m k, v, h, w => by simp only [still] at h; exact still_run k h w

end Go.Proofs.YtjbbhccoamhbgaaD
