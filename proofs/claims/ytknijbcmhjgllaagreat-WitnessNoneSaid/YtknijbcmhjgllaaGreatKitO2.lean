/-
  Lists written over: what the loop comes to; the functions' trees.
-/
import Derived.Test.YtknijbcmhjgllaaGreatKitO1
set_option linter.unusedVariables false
set_option linter.unusedSimpArgs false
namespace Go.Proofs.YtknijbcmhjgllaaGreatD
open Go Go.RowKit

/-- A list, so many numbers of it from a place on written over. -/
def overAt (l : List Int) (i : Nat) : Nat → List Int
  | 0 => l
  | d + 1 => overAt (l.set i (-77)) (i + 1) d
theorem overAt_length : ∀ (d : Nat) (l : List Int) (i : Nat), (overAt l i d).length = l.length
  | 0, l, i => rfl
  | d + 1, l, i => by rw [overAt, overAt_length d, List.length_set]

theorem or_rounds (r : CEx × NSt) : ∀ (d i : Nat) (l : List Int), l.length ≤ 1000000000 → i + d = l.length → (outAt (.exit 0) orOut0 [.l .ints (overAt l i d)]).ev = some r →
    ∃ k, (rounds Tryz.prog [] [] 30 ovId 2 none orSk k [.i i, .l .ints l]).ev = some r
  | 0, i, l, hs, h, hr => by
    refine ⟨1, ?_⟩
    rw [or_round, T.ev_ite, show decide ((i : Int) < ↑l.length) = false by simp; omega]
    exact hr
  | d + 1, i, l, hs, h, hr => by
    obtain ⟨k, ih⟩ := or_rounds r d (i + 1) (l.set i (-77)) (by rw [List.length_set]; exact hs) (by rw [List.length_set]; omega) hr
    refine ⟨k + 1, ?_⟩
    have h1 : (i : Int) < ↑l.length := by omega
    have h2 : inRange (i : Int) l.length = true := by rw [inRange_iff]; omega
    have h3 : i.blt l.length = true := by rw [Nat.blt_eq]; omega
    rw [or_round]
    simp only [T.ev_ite, h1, h2, h3, decide_true, if_true, Int.toNat_natCast]
    rw [wrap64 (by omega) (by omega), show ((i : Int) + 1) = ((i + 1 : Nat) : Int) by omega]
    exact ih
theorem ow_rounds (s n c : Nat) (hn : n ≤ 1000000000) (r : CEx × NSt) : ∀ (d i : Nat) (l : List Int), s + n ≤ l.length → i + d = n → (outAt (.exit 0) owOut0 [.l .ints (overAt l (s + i) d)]).ev = some r →
    ∃ k, (rounds Tryz.prog [] [] 30 ovId 2 none owSk k [.n s, .n n, .n c, .i i, .l .ints l]).ev = some r
  | 0, i, l, hs, h, hr => by
    refine ⟨1, ?_⟩
    rw [ow_round, T.ev_ite, show decide ((i : Int) < ↑n) = false by simp; omega]
    exact hr
  | d + 1, i, l, hs, h, hr => by
    obtain ⟨k, ih⟩ := ow_rounds s n c hn r d (i + 1) (l.set (s + i) (-77)) (by rw [List.length_set]; exact hs) (by omega) hr
    refine ⟨k + 1, ?_⟩
    have h1 : (i : Int) < ↑n := by omega
    have h2 : inRange (i : Int) n = true := by rw [inRange_iff]; omega
    have h3 : (s + i).blt l.length = true := by rw [Nat.blt_eq]; omega
    rw [ow_round]
    simp only [T.ev_ite, h1, h2, h3, decide_true, if_true, Int.toNat_natCast]
    rw [wrap64 (by omega) (by omega), show ((i : Int) + 1) = ((i + 1 : Nat) : Int) by omega]
    exact ih

def orG : List Leaf → T (CEx × NSt)
  | [.i i, .l .ints l] => T.when (i == 0 && small l.length) (outAt (.exit 0) orOut0 [.l .ints (overAt l 0 l.length)])
  | _ => .fail
def owG : List Leaf → T (CEx × NSt)
  | [.n s, .n n, .n c, .i i, .l .ints l] => T.when (i == 0 && small n && Nat.ble (s + n) l.length) (outAt (.exit 0) owOut0 [.l .ints (overAt l s n)])
  | _ => .fail
def onG : List Leaf → T (CEx × NSt)
  | [.i i] => T.when (i == 0) (outAt (.exit 0) onOut0 [])
  | _ => .fail
def oeG : List Leaf → T (CEx × NSt)
  | [.i i] => T.when (i == 0) (outAt (.exit 0) oeOut0 [])
  | _ => .fail
theorem or_shape : ShapeOk Tryz.prog [] [] ovId ⟨2, none, orSk, orG⟩ := by
  refine shapeOk_mk fun ls r h => ?_
  unfold orG at h
  split at h
  · rename_i i l
    obtain ⟨hc, h1⟩ := ev_when h
    simp only [Bool.and_eq_true, beq_iff_eq, small_iff] at hc
    obtain ⟨rfl, hs⟩ := hc
    obtain ⟨k, hk⟩ := or_rounds r l.length 0 l hs (by omega) h1
    exact ⟨30, k, hk⟩
  · exact (ev_fail h).elim
theorem ow_shape : ShapeOk Tryz.prog [] [] ovId ⟨2, none, owSk, owG⟩ := by
  refine shapeOk_mk fun ls r h => ?_
  unfold owG at h
  split at h
  · rename_i s n c i l
    obtain ⟨hc, h1⟩ := ev_when h
    simp only [Bool.and_eq_true, beq_iff_eq, small_iff, Nat.ble_eq] at hc
    obtain ⟨⟨rfl, hs⟩, hle⟩ := hc
    obtain ⟨k, hk⟩ := ow_rounds s n c hs r n 0 l hle (by omega) h1
    exact ⟨30, k, hk⟩
  · exact (ev_fail h).elim
theorem on_shape : ShapeOk Tryz.prog [] [] ovId ⟨1, none, onSk, onG⟩ := by
  refine shapeOk_mk fun ls r h => ?_
  unfold onG at h
  split at h
  · obtain ⟨hc, h1⟩ := ev_when h
    simp only [beq_iff_eq] at hc
    subst hc
    exact ⟨30, 1, (on_round 0 0).trans h1⟩
  · exact (ev_fail h).elim
theorem oe_shape : ShapeOk Tryz.prog [] [] ovId ⟨1, none, oeSk, oeG⟩ := by
  refine shapeOk_mk fun ls r h => ?_
  unfold oeG at h
  split at h
  · obtain ⟨hc, h1⟩ := ev_when h
    simp only [beq_iff_eq] at hc
    subst hc
    exact ⟨30, 1, (oe_round 0 0).trans h1⟩
  · exact (ev_fail h).elim
def ovL : List (Nat × List Nat × LoopFn) := [(55, [0, 1], loopExt ovId [⟨2, none, orSk, orG⟩, ⟨2, none, owSk, owG⟩, ⟨1, none, onSk, onG⟩, ⟨1, none, oeSk, oeG⟩])]
theorem ovL_ok (N : Nat) : LoopsOk Tryz.prog N ovL :=
  loopsOk_cons (loopExt_ok plainN mixedN (fun _ => extsOk_nil) (fun _ => loopsOk_nil) (all1 or_shape (all1 ow_shape (all1 on_shape (all1 oe_shape all0)))) N) loopsOk_nil

end Go.Proofs.YtknijbcmhjgllaaGreatD
