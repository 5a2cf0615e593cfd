/-
  How the reference run's values and heap lie in the model's world: by an injection of its blocks; first laws.
-/
import Derived.Test.YtecidokjhplbgaaGreatDoorRun
import Derived.Laws.IdiomCopy
import Derived.Deep.MidRow
set_option linter.unusedVariables false
set_option linter.unusedSimpArgs false
namespace Go.Proofs.YtecidokjhplbgaaGreatDoorD
open Go Go.RowKit

theorem nbeq (a b : Nat) : Nat.beq a b = decide (a = b) := by
  rw [Bool.eq_iff_iff]; simp
theorem nble (a b : Nat) : Nat.ble a b = decide (a ≤ b) := by
  rw [Bool.eq_iff_iff]; simp

theorem Tr.get_setAux_eq {α : Type} (x : Option α) : ∀ (k n : Nat) (t : Tr α), n < k → (Tr.setAux x k t n).get n = x
  | 0, n, t, h => absurd h (by omega)
  | k + 1, n, t, h => by
    by_cases h0 : n = 0
    · subst h0; cases t <;> simp [Tr.setAux, Tr.get, nbeq]
    · by_cases h1 : n % 2 = 1
      · have ih := fun t => Tr.get_setAux_eq x k (n / 2) t (by omega)
        cases t <;> simp [Tr.setAux, Tr.get, nbeq, h0, h1, ih]
      · have ih := fun t => Tr.get_setAux_eq x k (n / 2 - 1) t (by omega)
        cases t <;> simp [Tr.setAux, Tr.get, nbeq, h0, h1, ih]

theorem Tr.get_setAux_ne {α : Type} (x : Option α) : ∀ (k n m : Nat) (t : Tr α), m ≠ n → (Tr.setAux x k t n).get m = t.get m
  | 0, n, m, t, h => rfl
  | k + 1, n, m, t, h => by
    by_cases h0 : n = 0
    · subst h0; cases t <;> simp [Tr.setAux, Tr.get, nbeq, h]
    · by_cases h1 : n % 2 = 1
      · by_cases g0 : m = 0
        · subst g0; cases t <;> simp [Tr.setAux, Tr.get, nbeq, h0, h1]
        · by_cases g1 : m % 2 = 1
          · have ih := fun t => Tr.get_setAux_ne x k (n / 2) (m / 2) t (by omega)
            cases t <;> simp [Tr.setAux, Tr.get, nbeq, h0, h1, g0, g1, ih]
          · cases t <;> simp [Tr.setAux, Tr.get, nbeq, h0, h1, g0, g1]
      · by_cases g0 : m = 0
        · subst g0; cases t <;> simp [Tr.setAux, Tr.get, nbeq, h0, h1]
        · by_cases g1 : m % 2 = 1
          · cases t <;> simp [Tr.setAux, Tr.get, nbeq, h0, h1, g0, g1]
          · have ih := fun t => Tr.get_setAux_ne x k (n / 2 - 1) (m / 2 - 1) t (by omega)
            cases t <;> simp [Tr.setAux, Tr.get, nbeq, h0, h1, g0, g1, ih]

theorem Tr.get_set_eq {α : Type} (t : Tr α) (n : Nat) (x : α) : (t.set n x).get n = some x := Tr.get_setAux_eq _ _ _ _ (Nat.lt_succ_self _)
theorem Tr.get_set_ne {α : Type} (t : Tr α) {n m : Nat} (x : α) (h : m ≠ n) : (t.set n x).get m = t.get m := Tr.get_setAux_ne _ _ _ _ _ h
theorem Tr.get_set {α : Type} (t : Tr α) (n m : Nat) (x : α) : (t.set n x).get m = if m = n then some x else t.get m := by
  split
  · rename_i h; subst h; exact Tr.get_set_eq _ _ _
  · rename_i h; exact Tr.get_set_ne _ _ h

structure Img where
  B : Nat
  off : Nat
  total : Nat
  grown : Bool
  size : Nat
  esz : Nat

structure Inj where
  blk : Nat → Option Img
  imm : Nat → Nat → Option Value
  void : Nat → Bool
  old : Nat → Nat → Option Value
instance : CoeFun Inj (fun _ => Nat → Option Img) := ⟨Inj.blk⟩
structure Inj.le (i j : Inj) : Prop where
  blk : ∀ b g, i b = some g → j b = some g
  imm : ∀ B k v, i.imm B k = some v → j.imm B k = some v
  void : ∀ b, i.void b = true → j.void b = true
  old : j.old = i.old
theorem Inj.le_refl (i : Inj) : i.le i := ⟨fun _ _ h => h, fun _ _ _ h => h, fun _ h => h, rfl⟩
theorem Inj.le_trans {i j k : Inj} (h : i.le j) (h' : j.le k) : i.le k := ⟨fun b g hb => h'.blk b g (h.blk b g hb), fun B n v hv => h'.imm B n v (h.imm B n v hv), fun b hb => h'.void b (h.void b hb), h'.old.trans h.old⟩

def CapOk (g : Img) (o cap cap' : Nat) : Prop :=
  cap' = cap ∨ (g.grown = true ∧ o + cap * g.esz = g.size ∧ cap ≤ cap' ∧ o + cap' * g.esz ≤ g.total ∧ cap' ≤ 9223372036854775807)

inductive VRel (i : Inj) : CV → Value → Prop
  | bool (b : Bool) : VRel i (.bool b) (.bool b)
  | int (k : IntKind) (n : Int) : VRel i (.int k n) (.int k n)
  | string (s : ByteArray) : VRel i (.string s) (.string s)
  | nilFunc : VRel i .nilFunc .nilFunc
  | nilIface : VRel i .nilIface .nilIface
  | nilPtr : VRel i (.pointer none) (.pointer none)
  | nilMap : VRel i (.map none) (.map none)
  | ptr {b o : Nat} {g : Img} (h : i b = some g) : VRel i (.pointer (some ⟨b, o, none⟩)) (.pointer (some ⟨g.B, g.off + o, none⟩))
  | nilSlice : VRel i (.slice none 0 0) (.slice none 0 0)
  | slice {b o len cap cap' : Nat} {g : Img} {a' : Addr} (h : i b = some g) (hc : CapOk g o cap cap') (ha : cap' ≠ 0 → a' = ⟨g.B, g.off + o, none⟩) (hl : len ≤ cap) :
      VRel i (.slice (some ⟨b, o, none⟩) len cap) (.slice (some a') len cap')
  | map {r : Nat} {g : Img} (h : i r = some g) : VRel i (.map (some r)) (.map (some g.B))
  | func {f : FuncId} {as cs : List CV} {bs ds : List Value} (h1 : as.length = bs.length) (h2 : ∀ (k : Nat) (x : CV) (y : Value), as[k]? = some x → bs[k]? = some y → VRel i x y)
      (h3 : cs.length = ds.length) (h4 : ∀ (k : Nat) (x : CV) (y : Value), cs[k]? = some x → ds[k]? = some y → VRel i x y) :
      VRel i (.func (.func f) as.toArray cs.toArray) (.func (.func f) bs.toArray ds.toArray)
  | yield {l : Nat} {g : Img} (h : i l = some g) : VRel i (.func (.yield l) #[] #[]) (.func (.yield g.B) #[] #[])
  | iface {t : TypeId} {x : CV} {y : Value} (h : VRel i x y) : VRel i (.iface t x) (.iface t y)
  | agg {as : List CV} {bs : List Value} (h1 : as.length = bs.length) (h2 : ∀ (k : Nat) (x : CV) (y : Value), as[k]? = some x → bs[k]? = some y → VRel i x y) : VRel i (.agg as.toArray) (.agg bs.toArray)
  | tuple {as : List CV} {bs : List Value} (h1 : as.length = bs.length) (h2 : ∀ (k : Nat) (x : CV) (y : Value), as[k]? = some x → bs[k]? = some y → VRel i x y) : VRel i (.tuple as.toArray) (.tuple bs.toArray)
  | junk (v : Value) : VRel i .junk v
  | pl {r : RC} {l : List r.den} {B o c : Nat} {ys : List Value} {a' : Addr} (h1 : ys.length = (r.all l).length) (h2 : ∀ (k : Nat) (y : Value), ys[k]? = some y → i.imm B (o + k) = some y)
      (h3 : ∀ (k : Nat) (x : CV) (y : Value), (r.all l)[k]? = some x → ys[k]? = some y → VRel i x y) (hc : l.length ≤ c) (ha : c ≠ 0 → a' = ⟨B, o, none⟩) : VRel i (.pl r l) (.slice (some a') l.length c)
  | plNil {r : RC} {c : Nat} {a : Option Addr} (h : a = none → c = 0 := by simp) : VRel i (.pl r []) (.slice a 0 c)
  | kptr {cs : List CV} {B o : Nat} {ys : List Value} (h1 : ys.length = cs.length) (h2 : ∀ (k : Nat) (y : Value), ys[k]? = some y → i.imm B (o + k) = some y)
      (h3 : ∀ (k : Nat) (x : CV) (y : Value), cs[k]? = some x → ys[k]? = some y → VRel i x y) : VRel i (.kptr cs) (.pointer (some ⟨B, o, none⟩))
  | rptr {b z k j : Nat} {g : Img} (h : i b = some g) (hz : g.esz = z) : VRel i (.rptr b z k j) (.pointer (some ⟨g.B, g.off + (k * z + j), none⟩))
  | row {b z n cap' : Nat} {g : Img} {a' : Addr} (h : i b = some g) (hz : g.esz = z) (hs : n * z = g.size) (hc : CapOk g 0 n cap') (ha : cap' ≠ 0 → a' = ⟨g.B, g.off, none⟩) : VRel i (.row b z n) (.slice (some a') n cap')
  | rowVoid {b z : Nat} {a : Option Addr} (h : i.void b = true) : VRel i (.row b z 0) (.slice a 0 0)
  | win {b z s n c cap' : Nat} {g : Img} {a' : Addr} (h : i b = some g) (hz : g.esz = z) (hc : CapOk g (s * z) c cap') (ha : cap' ≠ 0 → a' = ⟨g.B, g.off + s * z, none⟩) (hl : n ≤ c) (hle : (s + c) * z ≤ g.size) : VRel i (.win b z s n c) (.slice (some a') n cap')
  | winVoid {b z s : Nat} {a : Option Addr} : VRel i (.win b z s 0 0) (.slice a 0 0)
  | empty {a : Option Addr} : VRel i .empty (.slice a 0 0)
  | nnil {a : Addr} {c : Nat} : VRel i .nnil (.slice (some a) 0 c)

structure LRel (i : Inj) (as : List CV) (bs : List Value) : Prop where
  len : as.length = bs.length
  at_ : ∀ (k : Nat) (x : CV) (y : Value), as[k]? = some x → bs[k]? = some y → VRel i x y

theorem VRel.mono {i j : Inj} (h : i.le j) {x : CV} {y : Value} (hv : VRel i x y) : VRel j x y := by
  induction hv with
  | bool b => exact .bool b
  | int k n => exact .int k n
  | string s => exact .string s
  | nilFunc => exact .nilFunc
  | nilIface => exact .nilIface
  | nilPtr => exact .nilPtr
  | nilMap => exact .nilMap
  | ptr hb => exact .ptr (h.blk _ _ hb)
  | nilSlice => exact .nilSlice
  | slice hb hc ha hl => exact .slice (h.blk _ _ hb) hc ha hl
  | map hb => exact .map (h.blk _ _ hb)
  | func h1 h2 h3 h4 i2 i4 => exact .func h1 i2 h3 i4
  | yield hb => exact .yield (h.blk _ _ hb)
  | iface _ ih => exact .iface ih
  | agg h1 _ ih => exact .agg h1 ih
  | tuple h1 _ ih => exact .tuple h1 ih
  | junk v => exact .junk v
  | pl h1 h2 _ hc ha ih => exact .pl h1 (fun k y hy => h.imm _ _ _ (h2 k y hy)) ih hc ha
  | plNil h => exact .plNil h
  | kptr h1 h2 _ ih => exact .kptr h1 (fun k y hy => h.imm _ _ _ (h2 k y hy)) ih
  | rptr hb hz => exact .rptr (h.blk _ _ hb) hz
  | row hb hz hs hc ha => exact .row (h.blk _ _ hb) hz hs hc ha
  | rowVoid hv => exact .rowVoid (h.void _ hv)
  | win hb hz hc ha hl hle => exact .win (h.blk _ _ hb) hz hc ha hl hle
  | winVoid => exact .winVoid
  | empty => exact .empty
  | nnil => exact .nnil

theorem LRel.mono {i j : Inj} (h : i.le j) {xs : List CV} {ys : List Value} (hv : LRel i xs ys) : LRel j xs ys := ⟨hv.len, fun k x y hx hy => (hv.at_ k x y hx hy).mono h⟩
theorem LRel.nil (i : Inj) : LRel i [] [] := ⟨rfl, fun k x y hx => by simp at hx⟩
theorem LRel.cons {i : Inj} {x : CV} {y : Value} {xs : List CV} {ys : List Value} (h : VRel i x y) (h' : LRel i xs ys) : LRel i (x :: xs) (y :: ys) :=
  ⟨by simp [h'.len], fun k a b ha hb => by cases k with | zero => simp at ha hb; subst ha; subst hb; exact h | succ k => simp at ha hb; exact h'.at_ k a b ha hb⟩
theorem LRel.head {i : Inj} {x : CV} {y : Value} {xs : List CV} {ys : List Value} (h : LRel i (x :: xs) (y :: ys)) : VRel i x y := h.at_ 0 x y rfl rfl
theorem LRel.tail {i : Inj} {x : CV} {y : Value} {xs : List CV} {ys : List Value} (h : LRel i (x :: xs) (y :: ys)) : LRel i xs ys :=
  ⟨by have := h.len; simpa using this, fun k a b ha hb => h.at_ (k + 1) a b (by simpa using ha) (by simpa using hb)⟩
theorem LRel.cons_inv {i : Inj} {x : CV} {xs : List CV} {ys : List Value} (h : LRel i (x :: xs) ys) : ∃ y ys', ys = y :: ys' ∧ VRel i x y ∧ LRel i xs ys' := by
  cases ys with
  | nil => have := h.len; simp at this
  | cons y ys' => exact ⟨y, ys', rfl, h.head, h.tail⟩
theorem LRel.nil_inv {i : Inj} {ys : List Value} (h : LRel i [] ys) : ys = [] := by
  have := h.len; cases ys <;> simp_all
theorem LRel.append {i : Inj} {as cs : List CV} {bs ds : List Value} (h : LRel i as bs) (h' : LRel i cs ds) : LRel i (as ++ cs) (bs ++ ds) := by
  induction as generalizing bs with
  | nil => have := h.nil_inv; subst this; simpa using h'
  | cons a as ih => obtain ⟨b, bs', rfl, hv, ht⟩ := h.cons_inv; exact .cons hv (ih ht)
theorem LRel.get {i : Inj} {as : List CV} {bs : List Value} (h : LRel i as bs) {k : Nat} {x : CV} (hx : as[k]? = some x) : ∃ y, bs[k]? = some y ∧ VRel i x y := by
  have hk : k < as.length := (List.getElem?_eq_some_iff.1 hx).1
  have hk' : k < bs.length := by rw [← h.len]; exact hk
  exact ⟨bs[k], List.getElem?_eq_getElem hk', h.at_ k x _ hx (List.getElem?_eq_getElem hk')⟩
theorem LRel.set {i : Inj} {as : List CV} {bs : List Value} (h : LRel i as bs) (k : Nat) {x : CV} {y : Value} (hv : VRel i x y) : LRel i (as.set k x) (bs.set k y) := by
  refine ⟨by simp [h.len], fun j a b ha hb => ?_⟩
  rw [List.getElem?_set] at ha hb
  by_cases e : k = j
  · subst e
    by_cases hk : k < as.length
    · have hk' : k < bs.length := by rw [← h.len]; exact hk
      simp [hk] at ha; simp [hk'] at hb; subst ha; subst hb; exact hv
    · simp [hk] at ha
  · simp [e] at ha hb; exact h.at_ j a b ha hb
theorem LRel.drop {i : Inj} {as : List CV} {bs : List Value} (h : LRel i as bs) (n : Nat) : LRel i (as.drop n) (bs.drop n) :=
  ⟨by simp [h.len], fun k a b ha hb => h.at_ (n + k) a b (by simpa [List.getElem?_drop] using ha) (by simpa [List.getElem?_drop] using hb)⟩
theorem LRel.take {i : Inj} {as : List CV} {bs : List Value} (h : LRel i as bs) (n : Nat) : LRel i (as.take n) (bs.take n) :=
  ⟨by simp [h.len], fun k a b ha hb => by
    rw [List.getElem?_take] at ha hb
    by_cases e : k < n
    · simp [e] at ha hb; exact h.at_ k a b ha hb
    · simp [e] at ha⟩
def setV : List Value → Nat → List Value → List Value
  | vs, _, [] => vs
  | vs, o, x :: r => setV (vs.set o x) (o + 1) r
theorem LRel.setR {i : Inj} : ∀ {xs as : List CV} {ys bs : List Value} (o : Nat), LRel i as bs → LRel i xs ys → LRel i (Go.Proofs.YtecidokjhplbgaaGreatDoorD.setR as o xs) (setV bs o ys)
  | [], as, ys, bs, o, h, hx => by have := hx.nil_inv; subst this; exact h
  | x :: xs, as, ys, bs, o, h, hx => by
    obtain ⟨y, ys', rfl, hv, ht⟩ := hx.cons_inv
    exact LRel.setR (o + 1) (h.set o hv) ht

theorem VRel.undef (i : Inj) : VRel i cundef Go.undef := .tuple (as := []) (bs := []) rfl (fun k x y hx => by simp at hx)

theorem VRel.agg' {i : Inj} {as : List CV} {bs : List Value} (h : LRel i as bs) : VRel i (.agg as.toArray) (.agg bs.toArray) := .agg h.len h.at_
theorem VRel.tuple' {i : Inj} {as : List CV} {bs : List Value} (h : LRel i as bs) : VRel i (.tuple as.toArray) (.tuple bs.toArray) := .tuple h.len h.at_
theorem VRel.agg_inv {i : Inj} {as : Array CV} {y : Value} (h : VRel i (.agg as) y) : ∃ bs, y = .agg bs ∧ LRel i as.toList bs.toList := by
  cases h with | agg h1 h2 => exact ⟨_, rfl, ⟨by simpa using h1, by simpa using h2⟩⟩
theorem VRel.tuple_inv {i : Inj} {as : Array CV} {y : Value} (h : VRel i (.tuple as) y) : ∃ bs, y = .tuple bs ∧ LRel i as.toList bs.toList := by
  cases h with | tuple h1 h2 => exact ⟨_, rfl, ⟨by simpa using h1, by simpa using h2⟩⟩
theorem VRel.cells {i : Inj} {x : CV} {y : Value} (h : VRel i x y) (hx : x ≠ .junk) : LRel i x.cells.toList y.cells.toList := by
  cases h with
  | agg h1 h2 => exact ⟨by simpa [Value.cells, CV.cells] using h1, by simpa [Value.cells, CV.cells] using h2⟩
  | junk v => exact absurd rfl hx
  | _ => (first
    | (refine LRel.cons ?_ (LRel.nil i); first | exact .bool _ | exact .int _ _ | exact .string _ | exact .nilFunc | exact .nilIface | exact .nilPtr | exact .nilMap | exact .ptr ‹_› | exact .nilSlice | exact .slice ‹_› ‹_› ‹_› ‹_› | exact .map ‹_› | exact .func ‹_› ‹_› ‹_› ‹_› | exact .yield ‹_› | exact .iface ‹_› | exact .tuple ‹_› ‹_› | exact .pl ‹_› ‹_› ‹_› ‹_› ‹_› | exact .plNil ‹_› | exact .kptr ‹_› ‹_› ‹_› | exact .rptr ‹_› ‹_› | exact .row ‹_› ‹_› ‹_› ‹_› ‹_› | exact .rowVoid ‹_› | exact .win ‹_› ‹_› ‹_› ‹_› ‹_› ‹_› | exact .winVoid | exact .empty | exact .nnil))

def vcellOk : Value → Bool
  | .agg _ => false
  | .tuple _ => false
  | _ => true
theorem cellOk_rel {i : Inj} {x : CV} {y : Value} (h : VRel i x y) (hx : cellOk x = true) : vcellOk y = true := by
  cases h <;> first | rfl | simp [cellOk] at hx

theorem flatA_eq (cs : Array CV) : flatA cs = flatL cs.toList := by cases cs; simp [flatA]
theorem flatL_mem : ∀ {l : List CV} {k : Nat} {x : CV}, flatL l = true → l[k]? = some x → flat x = true
  | [], k, x, _, h => by simp at h
  | a :: l, 0, x, hf, h => by simp at h; subst h; simp [flatL] at hf; exact hf.1
  | a :: l, k + 1, x, hf, h => by simp [flatL] at hf; exact flatL_mem hf.2 (by simpa using h)
theorem toVL_eq : ∀ (l : List CV), toVL l = l.map CV.toV
  | [] => rfl
  | x :: l => by simp only [toVL, List.map_cons, toVL_eq l]
theorem toVA_eq (cs : Array CV) : toVA cs = (cs.toList.map CV.toV).toArray := by cases cs; simp [toVA, toVL_eq]
theorem VRel.flat_eq {i : Inj} {x : CV} {y : Value} (h : VRel i x y) : flat x = true → y = x.toV := by
  have key : ∀ {as : List CV} {bs : List Value}, as.length = bs.length → (∀ (k : Nat) (x : CV) (y : Value), as[k]? = some x → bs[k]? = some y → flat x = true → y = x.toV) → flatL as = true → bs = toVL as := by
    intro as bs h1 h2 hf
    rw [toVL_eq]
    apply List.ext_getElem?
    intro k
    rw [List.getElem?_map]
    by_cases hk : k < as.length
    · have hk' : k < bs.length := by omega
      rw [List.getElem?_eq_getElem hk, List.getElem?_eq_getElem hk']
      exact congrArg some (h2 k _ _ (List.getElem?_eq_getElem hk) (List.getElem?_eq_getElem hk') (flatL_mem hf (List.getElem?_eq_getElem hk)))
    · rw [List.getElem?_eq_none (by omega), List.getElem?_eq_none (by omega)]; rfl
  induction h with
  | iface _ ih => intro hf; rw [ih (by simpa [flat] using hf)]; rfl
  | agg h1 _ ih => intro hf; rw [key h1 ih (by simpa [flat, flatA_eq] using hf)]; simp [CV.toV, toVA]
  | tuple h1 _ ih => intro hf; rw [key h1 ih (by simpa [flat, flatA_eq] using hf)]; simp [CV.toV, toVA]
  | _ => intro hf; first | rfl | simp [flat] at hf

theorem VRel.of_flat (i : Inj) : ∀ (x : CV), flat x = true → VRel i x x.toV := by
  have main : ∀ (n : Nat) (x : CV), SizeOf.sizeOf x < n → flat x = true → VRel i x x.toV := by
    intro n
    induction n with
    | zero => intro x h; omega
    | succ n ih =>
      intro x hs hf
      have lst : ∀ (l : List CV), SizeOf.sizeOf l < n → flatL l = true → ∀ (k : Nat) (a : CV) (b : Value), l[k]? = some a → (toVL l)[k]? = some b → VRel i a b := by
        intro l hl hfl k a b ha hb
        rw [toVL_eq, List.getElem?_map, ha] at hb; cases hb
        have hm : a ∈ l := List.mem_of_getElem? ha
        have := List.sizeOf_lt_of_mem hm
        exact ih a (by omega) (flatL_mem hfl ha)
      cases x with
      | bool b => exact .bool b
      | int k n => exact .int k n
      | string s => exact .string s
      | nilFunc => exact .nilFunc
      | nilIface => exact .nilIface
      | pointer a => cases a with
        | none => exact .nilPtr
        | some a => simp [flat] at hf
      | map a => cases a with
        | none => exact .nilMap
        | some a => simp [flat] at hf
      | slice a l c =>
        cases a with
        | some a => simp [flat] at hf
        | none => cases l <;> cases c <;> first | exact .nilSlice | simp [flat] at hf
      | iface t v => exact .iface (ih v (by simp at hs; omega) (by simpa [flat] using hf))
      | agg cs => cases cs with | mk l => exact .agg (by simp [toVL_eq]) (lst l (by simp at hs; omega) (by simpa [flat, flatA] using hf))
      | tuple cs => cases cs with | mk l => exact .tuple (by simp [toVL_eq]) (lst l (by simp at hs; omega) (by simpa [flat, flatA] using hf))
      | _ => simp [flat] at hf
  intro x hf
  exact main (SizeOf.sizeOf x + 1) x (by omega) hf

theorem toV_ofV : ∀ (v : Value), vflat v = true → (CV.ofV v).toV = v ∧ flat (CV.ofV v) = true := by
  have main : ∀ (n : Nat) (v : Value), SizeOf.sizeOf v < n → vflat v = true → (CV.ofV v).toV = v ∧ flat (CV.ofV v) = true := by
    intro n
    induction n with
    | zero => intro x h; omega
    | succ n ih =>
      intro v hs hf
      have lst : ∀ (l : List Value), SizeOf.sizeOf l < n → vflatL l = true → toVL (ofVL l) = l ∧ flatL (ofVL l) = true := by
        intro l
        induction l with
        | nil => intro _ _; exact ⟨rfl, rfl⟩
        | cons a l ihl =>
          intro hl hfl
          simp only [vflatL, Bool.and_eq_true] at hfl
          simp at hl
          have h1 := ih a (by omega) hfl.1
          have h2 := ihl (by omega) hfl.2
          simp only [ofVL, toVL, flatL, h1.1, h1.2, h2.1, h2.2, Bool.and_self, and_self]
      cases v with
      | bool b => exact ⟨rfl, rfl⟩
      | int k n => exact ⟨rfl, rfl⟩
      | string s => exact ⟨rfl, rfl⟩
      | nilFunc => exact ⟨rfl, rfl⟩
      | nilIface => exact ⟨rfl, rfl⟩
      | pointer a => cases a with
        | none => exact ⟨rfl, rfl⟩
        | some a => simp [vflat] at hf
      | map a => cases a with
        | none => exact ⟨rfl, rfl⟩
        | some a => simp [vflat] at hf
      | slice a l c =>
        cases a with
        | some a => simp [vflat] at hf
        | none => cases l <;> cases c <;> first | exact ⟨rfl, rfl⟩ | simp [vflat] at hf
      | iface t v =>
        have h1 := ih v (by simp at hs; omega) (by simpa [vflat] using hf)
        exact ⟨by simp only [CV.ofV, CV.toV, h1.1], by simp only [CV.ofV, flat, h1.2]⟩
      | agg cs => cases cs with | mk l =>
        have h1 := lst l (by simp at hs; omega) (by simpa [vflat, vflatA] using hf)
        exact ⟨by simp only [CV.ofV, CV.toV, ofVA, toVA, h1.1], by simp only [CV.ofV, flat, ofVA, flatA, h1.2]⟩
      | tuple cs => cases cs with | mk l =>
        have h1 := lst l (by simp at hs; omega) (by simpa [vflat, vflatA] using hf)
        exact ⟨by simp only [CV.ofV, CV.toV, ofVA, toVA, h1.1], by simp only [CV.ofV, flat, ofVA, flatA, h1.2]⟩
      | _ => simp [vflat] at hf
  intro v hf
  exact main (SizeOf.sizeOf v + 1) v (by omega) hf
theorem VRel.of_vflat (i : Inj) (v : Value) (hf : vflat v = true) : VRel i (.ofV v) v := by
  have h := toV_ofV v hf
  have := VRel.of_flat i _ h.2
  rwa [h.1] at this

theorem still_run {α : Type} {P : Program} : ∀ (s : Sem α) {v : α}, still P s = some v → ∀ w, s.run P w = .ok v w
  | .pure a, v, h, w => by simp [still] at h; subst h; rfl
  | .program k, v, h, w => by simp only [still] at h; exact still_run (k P) h w
  | .mark m k, v, h, w => by simp only [still] at h; exact still_run k h w

end Go.Proofs.YtecidokjhplbgaaGreatDoorD
