/-
  What a law's arguments are, as data: read by the row's own reading.
-/
import Derived.Test.YtecidokjhplbgaaGreatDoorTac
import Derived.Deep.Slices
import Derived.Carry
import Derived.OpenShut
set_option linter.unusedVariables false
set_option linter.unusedSimpArgs false
namespace Go.Proofs.YtecidokjhplbgaaGreatDoorD
open Go Go.RowKit Go.ChangeShapes

inductive Lf where
  | int (k : IntKind)
  | bool
  | str
  | row (r : RC)
deriving DecidableEq

def i6 : Lf := .int .i64
def RC.lfs : RC → List Lf
  | .ints => [i6]
  | .bytes => [.int .u8]
  | .bools => [.bool]
  | .strs => [.str]
  | .rets => [i6, i6]
  | .ops => [i6, i6, i6, i6, i6]
  | .states => [i6, i6, .row .ints]
  | .acts => [i6, i6, i6, i6, i6, i6]
  | .trans => [.str, i6, i6, .row .acts, .row .ints]
  | .edges => [i6, i6]
  | .steps => [i6, i6, i6, i6, i6, i6, i6, i6, i6, i6, .row .ints, i6, i6, .row .ints]
  | .needs => [i6, .bool, .bool, i6, i6, .row .ints, .row .ints, i6, i6]
  | .intss => [.row .ints]
  | .opss => [.row .ops]

def w64 (n : Int) : Prop := -9223372036854775808 ≤ n ∧ n ≤ 9223372036854775807
def wfInts (l : List Int) : Prop := ∀ y ∈ l, w64 y
def wfRet (x : DRet) : Prop := w64 x.kind ∧ w64 x.n
def wfOp (x : DOp) : Prop := w64 x.kind ∧ w64 x.a ∧ w64 x.b ∧ wfRet x.ret
def wfState (x : DState) : Prop := w64 x.type ∧ w64 x.n ∧ wfInts x.l
def wfAct (x : DAct) : Prop := w64 x.object ∧ wfOp x.op
def wfTrans (x : DTrans) : Prop := x.name.size ≤ maxLen ∧ w64 x.first ∧ w64 x.commit ∧ (∀ y ∈ x.acts, wfAct y) ∧ wfInts x.at_
def wfEdge (x : DEdge) : Prop := w64 x.from_ ∧ w64 x.to
def wfStep (x : DStep) : Prop := w64 x.trans ∧ w64 x.object ∧ w64 x.at_ ∧ wfOp x.op ∧ wfState x.ahead ∧ wfState x.behind
def wfNeed (x : DNeed) : Prop := w64 x.type ∧ w64 x.from_ ∧ w64 x.to ∧ wfInts x.in_ ∧ wfInts x.out ∧ w64 x.least ∧ w64 x.size
def RC.wf : (r : RC) → r.den → Prop
  | .ints, x => w64 x
  | .bytes, _ => True
  | .bools, _ => True
  | .strs, s => s.size ≤ maxLen
  | .rets, x => wfRet x
  | .ops, x => wfOp x
  | .states, x => wfState x
  | .acts, x => wfAct x
  | .trans, x => wfTrans x
  | .edges, x => wfEdge x
  | .steps, x => wfStep x
  | .needs, x => wfNeed x
  | .intss, x => wfInts x
  | .opss, x => ∀ y ∈ x, wfOp y

def Lf.is : Lf → CV → Prop
  | .int k, x => ∃ n, x = .int k n ∧ k.min ≤ n ∧ n ≤ k.max
  | .bool, x => ∃ b, x = .bool b
  | .str, x => ∃ s, x = .string s ∧ s.size ≤ maxLen
  | .row r, x => ∃ l : List r.den, x = .pl r l ∧ ∀ y ∈ l, r.wf y
inductive IsAll : List Lf → List CV → Prop
  | nil : IsAll [] []
  | cons {l : Lf} {x : CV} {ls : List Lf} {xs : List CV} (h : l.is x) (h' : IsAll ls xs) : IsAll (l :: ls) (x :: xs)
theorem IsAll.nil_inv {xs : List CV} (h : IsAll [] xs) : xs = [] := by cases h; rfl
theorem IsAll.cons_inv {l : Lf} {ls : List Lf} {xs : List CV} (h : IsAll (l :: ls) xs) : ∃ x ys, xs = x :: ys ∧ l.is x ∧ IsAll ls ys := by
  cases h with
  | cons h h' => exact ⟨_, _, rfl, h, h'⟩
theorem IsAll.append : ∀ {ls ms : List Lf} {xs ys : List CV}, IsAll ls xs → IsAll ms ys → IsAll (ls ++ ms) (xs ++ ys)
  | _, _, _, _, .nil, h => h
  | _, _, _, _, .cons h h', h2 => .cons h (h'.append h2)
theorem IsAll.len : ∀ {ls : List Lf} {xs : List CV}, IsAll ls xs → xs.length = ls.length
  | _, _, .nil => rfl
  | _, _, .cons _ h' => by simp [h'.len]
theorem IsAll.int {ls : List Lf} {xs : List CV} (h : IsAll (i6 :: ls) xs) : ∃ n ys, xs = .int .i64 n :: ys ∧ w64 n ∧ IsAll ls ys := by
  obtain ⟨x, ys, rfl, ⟨n, rfl, h1, h2⟩, h3⟩ := h.cons_inv
  exact ⟨n, ys, rfl, ⟨h1, h2⟩, h3⟩
theorem IsAll.u8 {ls : List Lf} {xs : List CV} (h : IsAll (.int .u8 :: ls) xs) : ∃ n ys, xs = .int .u8 n :: ys ∧ 0 ≤ n ∧ n < 256 ∧ IsAll ls ys := by
  obtain ⟨x, ys, rfl, ⟨n, rfl, h1, h2⟩, h3⟩ := h.cons_inv
  have e1 : IntKind.u8.min = 0 := rfl
  have e2 : IntKind.u8.max = 255 := rfl
  exact ⟨n, ys, rfl, by omega, by omega, h3⟩
theorem IsAll.boo {ls : List Lf} {xs : List CV} (h : IsAll (Lf.bool :: ls) xs) : ∃ (b : Bool) (ys : List CV), xs = CV.bool b :: ys ∧ True ∧ IsAll ls ys := by
  obtain ⟨x, ys, rfl, ⟨n, rfl⟩, h3⟩ := h.cons_inv
  exact ⟨n, ys, rfl, trivial, h3⟩
theorem IsAll.str {ls : List Lf} {xs : List CV} (h : IsAll (.str :: ls) xs) : ∃ s ys, xs = .string s :: ys ∧ s.size ≤ maxLen ∧ IsAll ls ys := by
  obtain ⟨x, ys, rfl, ⟨n, rfl, h1⟩, h3⟩ := h.cons_inv
  exact ⟨n, ys, rfl, h1, h3⟩
theorem IsAll.row {r : RC} {ls : List Lf} {xs : List CV} (h : IsAll (.row r :: ls) xs) : ∃ (l : List r.den) (ys : List CV), xs = .pl r l :: ys ∧ (∀ y ∈ l, r.wf y) ∧ IsAll ls ys := by
  obtain ⟨x, ys, rfl, ⟨n, rfl, h1⟩, h3⟩ := h.cons_inv
  exact ⟨n, ys, rfl, h1, h3⟩

theorem elem_of (r : RC) {xs : List CV} (h : IsAll r.lfs xs) : ∃ y : r.den, xs = r.cells y ∧ r.wf y := by
  cases r
  case ints => obtain ⟨a, _, rfl, ha, h⟩ := h.int; cases h.nil_inv; exact ⟨a, rfl, ha⟩
  case bytes =>
    obtain ⟨a, _, rfl, h1, h2, h⟩ := h.u8; cases h.nil_inv
    refine ⟨UInt8.ofNat a.toNat, ?_, trivial⟩
    simp only [RC.cells, UInt8.toNat_ofNat']
    rw [show ((a.toNat % 2 ^ 8 : Nat) : Int) = a by omega]
  case bools => obtain ⟨a, _, rfl, _, h⟩ := h.boo; cases h.nil_inv; exact ⟨a, rfl, trivial⟩
  case strs => obtain ⟨a, _, rfl, h1, h⟩ := h.str; cases h.nil_inv; exact ⟨a, rfl, h1⟩
  case rets => obtain ⟨a, _, rfl, ha, h⟩ := h.int; obtain ⟨b, _, rfl, hb, h⟩ := h.int; cases h.nil_inv; exact ⟨⟨a, b⟩, rfl, ha, hb⟩
  case edges => obtain ⟨a, _, rfl, ha, h⟩ := h.int; obtain ⟨b, _, rfl, hb, h⟩ := h.int; cases h.nil_inv; exact ⟨⟨a, b⟩, rfl, ha, hb⟩
  case ops =>
    obtain ⟨a, _, rfl, ha, h⟩ := h.int; obtain ⟨b, _, rfl, hb, h⟩ := h.int; obtain ⟨c, _, rfl, hc, h⟩ := h.int; obtain ⟨d, _, rfl, hd, h⟩ := h.int; obtain ⟨e, _, rfl, he, h⟩ := h.int; cases h.nil_inv
    exact ⟨⟨a, b, c, d, e⟩, rfl, ha, hb, hc, hd, he⟩
  case states =>
    obtain ⟨a, _, rfl, ha, h⟩ := h.int; obtain ⟨b, _, rfl, hb, h⟩ := h.int; obtain ⟨c, _, rfl, hc, h⟩ := h.row; cases h.nil_inv
    exact ⟨⟨a, b, c⟩, rfl, ha, hb, hc⟩
  case acts =>
    obtain ⟨o, _, rfl, ho, h⟩ := h.int; obtain ⟨a, _, rfl, ha, h⟩ := h.int; obtain ⟨b, _, rfl, hb, h⟩ := h.int; obtain ⟨c, _, rfl, hc, h⟩ := h.int; obtain ⟨d, _, rfl, hd, h⟩ := h.int; obtain ⟨e, _, rfl, he, h⟩ := h.int; cases h.nil_inv
    exact ⟨⟨o, a, b, c, d, e⟩, rfl, ho, ha, hb, hc, hd, he⟩
  case trans =>
    obtain ⟨s, _, rfl, hs, h⟩ := h.str; obtain ⟨a, _, rfl, ha, h⟩ := h.int; obtain ⟨b, _, rfl, hb, h⟩ := h.int; obtain ⟨c, _, rfl, hc, h⟩ := h.row; obtain ⟨d, _, rfl, hd, h⟩ := h.row; cases h.nil_inv
    exact ⟨⟨s, a, b, c, d⟩, rfl, hs, ha, hb, hc, hd⟩
  case steps =>
    obtain ⟨a1, _, rfl, h1, h⟩ := h.int; obtain ⟨a2, _, rfl, h2, h⟩ := h.int; obtain ⟨a3, _, rfl, h3, h⟩ := h.int; obtain ⟨a4, _, rfl, h4, h⟩ := h.int; obtain ⟨a5, _, rfl, h5, h⟩ := h.int
    obtain ⟨a6, _, rfl, h6, h⟩ := h.int; obtain ⟨a7, _, rfl, h7, h⟩ := h.int; obtain ⟨a8, _, rfl, h8, h⟩ := h.int; obtain ⟨a9, _, rfl, h9, h⟩ := h.int; obtain ⟨b1, _, rfl, k1, h⟩ := h.int
    obtain ⟨l1, _, rfl, m1, h⟩ := h.row; obtain ⟨b2, _, rfl, k2, h⟩ := h.int; obtain ⟨b3, _, rfl, k3, h⟩ := h.int; obtain ⟨l2, _, rfl, m2, h⟩ := h.row; cases h.nil_inv
    exact ⟨⟨a1, a2, a3, ⟨a4, a5, a6, a7, a8⟩, ⟨a9, b1, l1⟩, ⟨b2, b3, l2⟩⟩, rfl, h1, h2, h3, ⟨h4, h5, h6, h7, h8⟩, ⟨h9, k1, m1⟩, k2, k3, m2⟩
  case needs =>
    obtain ⟨a1, _, rfl, h1, h⟩ := h.int; obtain ⟨a2, _, rfl, _, h⟩ := h.boo; obtain ⟨a3, _, rfl, _, h⟩ := h.boo; obtain ⟨a4, _, rfl, h4, h⟩ := h.int; obtain ⟨a5, _, rfl, h5, h⟩ := h.int
    obtain ⟨l1, _, rfl, m1, h⟩ := h.row; obtain ⟨l2, _, rfl, m2, h⟩ := h.row; obtain ⟨b2, _, rfl, k2, h⟩ := h.int; obtain ⟨b3, _, rfl, k3, h⟩ := h.int; cases h.nil_inv
    exact ⟨⟨a1, a2, a3, a4, a5, l1, l2, b2, b3⟩, rfl, h1, h4, h5, m1, m2, k2, k3⟩
  case intss => obtain ⟨c, _, rfl, hc, h⟩ := h.row; cases h.nil_inv; exact ⟨c, rfl, hc⟩
  case opss => obtain ⟨c, _, rfl, hc, h⟩ := h.row; cases h.nil_inv; exact ⟨c, rfl, hc⟩

def fieldsOk (P : Program) (ok : TypeId → List Lf → Bool) : List Field → Nat → List Lf → Bool
  | [], _, ls => ls.isEmpty
  | f :: fs, o, ls => Nat.beq f.offset o && ok f.type (ls.take (P.cellsOf f.type)) && Nat.beq (ls.take (P.cellsOf f.type)).length (P.cellsOf f.type) && fieldsOk P ok fs (o + P.cellsOf f.type) (ls.drop (P.cellsOf f.type))
def lfsOk (P : Program) : Nat → TypeId → List Lf → Bool
  | 0, _, _ => false
  | n + 1, t, ls => match P.underlying t, ls with
    | some .bool, [.bool] => true
    | some (.int k), [.int k'] => decide (k = k')
    | some .string, [.str] => true
    | some (.slice e), [.row r] => lfsOk P n e r.lfs && Nat.beq (P.cellsOf e) r.z
    | some (.struct fs), ls => Nat.beq ls.length (P.cellsOf t) && fieldsOk P (lfsOk P n) fs.toList 0 ls
    | _, _ => false

section
variable {H : Type} {enc : TypeId × Value → H} {P : Program} {w : World}

theorem lrel_range {I : Inj} {F : Nat → List CV} {G : Nat → List Value} : ∀ {n : Nat}, (∀ i, i < n → LRel I (F i) (G i)) → LRel I ((List.range n).flatMap F) ((List.range n).flatMap G)
  | 0, _ => .nil _
  | n + 1, h => by
    rw [List.range_succ, List.flatMap_append, List.flatMap_append]
    refine (lrel_range fun i hi => h i (by omega)).append ?_
    simpa using h n (by omega)
theorem len_range {z : Nat} {G : Nat → List Value} : ∀ {n : Nat}, (∀ i, i < n → (G i).length = z) → ((List.range n).flatMap G).length = n * z
  | 0, _ => by simp
  | n + 1, h => by
    rw [List.range_succ, List.flatMap_append, List.length_append, len_range fun i hi => h i (by omega), Nat.add_mul]
    simpa using h n (by omega)
theorem imm_range {im : Nat → Option Value} {z : Nat} {G : Nat → List Value} : ∀ {n : Nat}, (∀ i, i < n → (G i).length = z) → (∀ i, i < n → ∀ (j : Nat) (v : Value), (G i)[j]? = some v → im (i * z + j) = some v) →
    ∀ (k : Nat) (v : Value), ((List.range n).flatMap G)[k]? = some v → im k = some v
  | 0, _, _, k, v, hv => by simp at hv
  | n + 1, hl, h, k, v, hv => by
    rw [List.range_succ, List.flatMap_append, List.getElem?_append, len_range fun i hi => hl i (by omega)] at hv
    split at hv
    · exact imm_range (fun i hi => hl i (by omega)) (fun i hi => h i (by omega)) k v hv
    · have := h n (by omega) (k - n * z) v (by simpa using hv)
      rwa [show n * z + (k - n * z) = k by omega] at this

theorem all_range {r : RC} (Y : Nat → r.den) (n : Nat) : r.all ((List.range n).map Y) = (List.range n).flatMap fun i => r.cells (Y i) := by
  simp [RC.all, List.flatMap_map]

theorem cell_spot {a : Addr} {v : Value} (h : w.cell? a = some v) : a.spot = none := by
  unfold World.cell? at h
  split at h
  · cases hs : a.spot with
    | none => rfl
    | some x => simp [hs] at h
  · cases h
theorem cell_lt {a : Addr} {v : Value} (h : w.cell? a = some v) : a.block < w.heap.size := by
  unfold World.cell? at h
  split at h
  · rename_i h1; exact (Array.getElem?_eq_some_iff.1 h1).1
  · cases h


theorem addr_add {a : Addr} (h : a.spot = none) (n : Nat) : a.add n = ⟨a.block, a.off + n, none⟩ := by
  cases a
  simp only at h
  subst h
  unfold Addr.add
  by_cases e : n = 0
  · subst e; rfl
  · rw [if_neg e]

theorem open_lfs : ∀ (n : Nat) (t : TypeId) (ls : List Lf) (fuel : Nat) (cs : List Value) (x : DataW H × List MemPlace), lfsOk P n t ls = true → DataW.trod enc P w 0 (fun _ => true) true fuel t cs = some x →
    ∃ xs, IsAll ls xs ∧ LRel (immOf (immAll w)) xs cs := by
  intro n
  induction n with
  | zero => intro t ls fuel cs x h; simp [lfsOk] at h
  | succ n ih =>
    intro t ls fuel cs x h hx
    unfold lfsOk at h
    split at h
    · rename_i ht
      obtain ⟨b, rfl, _⟩ := DataW.trod_bool ht hx
      exact ⟨[.bool b], .cons ⟨b, rfl⟩ .nil, .cons (.bool b) (.nil _)⟩
    · rename_i k k' ht
      obtain ⟨m, rfl, _, hw⟩ := DataW.trod_int ht hx
      have : k = k' := of_decide_eq_true h
      subst this
      simp only [Lit.wf, Bool.and_eq_true, decide_eq_true_eq] at hw
      exact ⟨[.int k m], .cons ⟨m, rfl, hw.1, hw.2⟩ .nil, .cons (.int k m) (.nil _)⟩
    · rename_i ht
      obtain ⟨s, rfl, _, hw⟩ := DataW.trod_string ht hx
      exact ⟨[.string s], .cons ⟨s, rfl, hw⟩ .nil, .cons (.string s) (.nil _)⟩
    · rename_i e r ht
      simp only [Bool.and_eq_true, nbeq, decide_eq_true_eq] at h
      obtain ⟨he, hz⟩ := h
      rcases Go.Deep.open_slice ht hx with ⟨rfl, _⟩ | ⟨a, len, c0, cap, fu, D, Pl, rfl, _, hl, hm, rfl, _, hel⟩
      · exact ⟨[.pl r []], .cons ⟨[], rfl, by simp⟩ .nil, .cons .plNil (.nil _)⟩
      · have h1 : ∀ i, i < cap → ∃ (q : List Value × r.den), q.1.length = r.z ∧ (∀ j, j < r.z → w.cell? ((a.add (i * r.z)).add j) = q.1[j]?) ∧ LRel (immOf (immAll w)) (r.cells q.2) q.1 ∧ r.wf q.2 := by
          intro i hi
          obtain ⟨cs', h2, h3⟩ := hel i hi
          rw [hz] at h2
          obtain ⟨_, h4, h5⟩ := World.cells?_some h2
          obtain ⟨xs, h6, h7⟩ := ih e r.lfs fu cs' _ he h3
          obtain ⟨y, rfl, h8⟩ := elem_of r h6
          exact ⟨(cs', y), h4, h5, h7, h8⟩
        have hz0 := r.z_pos
        have hsp : cap ≠ 0 → a.spot = none ∧ a.block < w.heap.size := by
          intro hc
          obtain ⟨q, h2, h3, _⟩ := h1 0 (by omega)
          have h4 := h3 0 hz0
          obtain ⟨v, hv⟩ : ∃ v, q.1[0]? = some v := ⟨q.1[0], by rw [List.getElem?_eq_getElem (by omega)]⟩
          rw [hv] at h4
          have h5 : w.cell? a = some v := by simpa [Addr.add] using h4
          exact ⟨cell_spot h5, cell_lt h5⟩
        haveI : Inhabited (List Value × r.den) := ⟨([], r.zero)⟩
        obtain ⟨Q, hQ⟩ := Go.Deep.choose_lt h1
        have hQl : ∀ i, i < len → i < cap := fun i hi => Nat.lt_of_lt_of_le hi hl
        refine ⟨[.pl r ((List.range len).map fun i => (Q i).2)], .cons ⟨_, rfl, ?_⟩ .nil, .cons ?_ (.nil _)⟩
        · intro y hy
          obtain ⟨i, hi, rfl⟩ := List.mem_map.1 hy
          exact (hQ i (hQl i (List.mem_range.1 hi))).2.2.2
        · have hlen : ((List.range len).flatMap fun i => (Q i).1).length = len * r.z := len_range (z := r.z) fun i hi => (hQ i (hQl i hi)).1
          have hrel : LRel (immOf (immAll w)) (r.all ((List.range len).map fun i => (Q i).2)) ((List.range len).flatMap fun i => (Q i).1) := by
            rw [all_range]
            exact lrel_range fun i hi => (hQ i (hQl i hi)).2.2.1
          have key : VRel (immOf (immAll w)) (.pl r ((List.range len).map fun i => (Q i).2)) (.slice (some a) ((List.range len).map fun i => (Q i).2).length cap) := by
            refine .pl (B := a.block) (o := a.off) (ys := (List.range len).flatMap fun i => (Q i).1) (by rw [hrel.len]) ?_ hrel.at_ (by simpa using hl) ?_
            · refine imm_range (im := fun k => (immOf (immAll w)).imm a.block (a.off + k)) (z := r.z) (fun i hi => (hQ i (hQl i hi)).1) fun i hi j v hv => ?_
              have hlt : j < r.z := by
                have := (List.getElem?_eq_some_iff.1 hv).1
                rw [(hQ i (hQl i hi)).1] at this
                exact this
              obtain ⟨s1, s2⟩ := hsp (by have := hQl i hi; omega)
              have h9 := (hQ i (hQl i hi)).2.1 j hlt
              rw [addr_add s1, hv] at h9
              rw [addr_add rfl] at h9
              show (if a.block < w.heap.size then w.cell? ⟨a.block, a.off + (i * r.z + j), none⟩ else none) = some v
              rw [if_pos s2, ← h9, Nat.add_assoc]
            · intro hc
              obtain ⟨s1, _⟩ := hsp hc
              cases a; simp only at s1; subst s1; rfl
          simpa using key
    · rename_i fs ht
      obtain ⟨ys, fu, _, _, h2, h3, h4⟩ := DataW.trod_struct ht hx
      have key : ∀ (l : List Field) (k o : Nat) (ls : List Lf), fs.toList.drop k = l → fieldsOk P (lfsOk P n) l o ls = true → o ≤ cs.length → ∃ xs, IsAll ls xs ∧ LRel (immOf (immAll w)) xs ((cs.drop o).take ls.length) := by
        intro l
        induction l with
        | nil =>
          intro k o ls _ h5 _
          simp only [fieldsOk, List.isEmpty_iff] at h5
          subst h5
          exact ⟨[], .nil, by simpa using LRel.nil _⟩
        | cons f l ihl =>
          intro k o ls hk h5 ho
          simp only [fieldsOk, Bool.and_eq_true, nbeq, decide_eq_true_eq] at h5
          obtain ⟨⟨⟨h6, h7⟩, h8⟩, h9⟩ := h5
          have hf : fs[k]? = some f := by
            have : (fs.toList.drop k)[0]? = some f := by rw [hk]; rfl
            simpa using this
          have h10 := h4 k f hf
          have h11 : k < ys.length := by rw [h3]; exact (Array.getElem?_eq_some_iff.1 hf).1
          rw [List.getElem?_eq_getElem h11] at h10
          obtain ⟨xs, q1, q2⟩ := ih f.type _ fu _ _ h7 h10
          rw [h6] at q2
          have hlen : P.cellsOf f.type ≤ ls.length := by rw [List.length_take] at h8; omega
          have hx1 : xs.length = P.cellsOf f.type := by rw [q1.len, h8]
          have hlen2 : o + P.cellsOf f.type ≤ cs.length := by
            have := q2.len
            rw [hx1, List.length_take, List.length_drop] at this
            omega
          obtain ⟨xs2, q3, q4⟩ := ihl (k + 1) (o + P.cellsOf f.type) (ls.drop (P.cellsOf f.type)) (by rw [← List.drop_drop, hk]; rfl) h9 hlen2
          refine ⟨xs ++ xs2, ?_, ?_⟩
          · have := q1.append q3
            rwa [List.take_append_drop] at this
          · have := q2.append q4
            rw [List.length_drop, ← List.drop_drop] at this
            rwa [← List.take_add, show P.cellsOf f.type + (ls.length - P.cellsOf f.type) = ls.length by omega] at this
      simp only [Bool.and_eq_true, nbeq, decide_eq_true_eq] at h
      obtain ⟨xs, q1, q2⟩ := key fs.toList 0 0 _ (by simp) h.2 (Nat.zero_le _)
      refine ⟨xs, q1, ?_⟩
      rwa [h.1, ← h2, List.drop_zero, List.take_length] at q2
    · cases h

end
end Go.Proofs.YtecidokjhplbgaaGreatDoorD
