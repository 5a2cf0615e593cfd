/-
  Chapter 16: a transaction's replay: contract
-/
import Derived.Test.YtecidokjhplbgaaGreatDoorKitQ
import Derived.Test.YtecidokjhplbgaaGreatDoorChMch
import Derived.Test.YtecidokjhplbgaaGreatDoorCwH
import Derived.Test.YtecidokjhplbgaaGreatDoorFrzA
set_option linter.unusedVariables false
set_option linter.unusedSimpArgs false
namespace Go.Proofs.YtecidokjhplbgaaGreatDoorD
open Go Go.RowKit

def cloneS0 : NSt := ⟨[.row 0 3 (0)], [], [(0, .rows .states [])], 1⟩
set_option maxRecDepth 100000 in
theorem cloneS_nil : ((stRunV Tryz.prog [] [] [(0, .states)] 30 90 ⟨[.slice none 0 0], [], [], 0⟩).cut
    (.yes (.all))).ev = T.ev (α := NSt) (
     stAt cloneS0 [.l .states ([])]) := by kernel_rfl
def cloneSB0 : NSt := ⟨[.row 0 3 (0)], [], [(0, .rows .states [])], 1⟩
set_option maxRecDepth 100000 in
theorem cloneS_nn : ((stRunV Tryz.prog [] [] [] 30 90 ⟨[.nnil], [], [], 0⟩).cut
    (.no (.yes (.all)))).ev = T.ev (α := NSt) (
     stAt cloneSB0 [.l .states ([])]) := by kernel_rfl
def cloneSC0 : NSt := ⟨[.row 0 3 (0)], [], [(0, .rows .states [])], 1⟩
set_option maxRecDepth 100000 in
theorem cloneS_pl (l : List DState) : ((stRunV Tryz.prog [] [] [] 30 90 ⟨[.pl .states l], [], [], 0⟩).cut
    (.ite (.no (.ite (.all) (.all))) (.all))).ev = T.ev (α := NSt) (
     .ite (!l.isEmpty)
      (.ite (roomB l.length (40 : Nat))
       (stAt cloneSC0 [.l .states (l)])
       (.fail))
      (.fail)) := by kernel_rfl
def cloneSG : NSt → T NSt
  | ⟨[.pl .states l], [], [], 0⟩ => T.when (small l.length) (.ret ⟨[.row 0 3 0], [], [(0, .rows .states l)], 1⟩)
  | _ => .fail
theorem cloneS_fn : StFn Tryz.prog 90 cloneSG :=
  ⟨bodied_ex (by kernel_rfl), fun n0 n h => by
    unfold cloneSG at h
    split at h
    · rename_i l
      obtain ⟨hc, h1⟩ := ev_when h
      cases ev_ret h1
      refine ⟨Nat.zero_le _, ?_⟩
      cases l with
      | nil => exact .nil2 (st_cut plainN mixedN noE noL (cloneS_nil.trans rfl)).2 (st_cut plainN mixedN noE noL (cloneS_nn.trans rfl)).2
      | cons x l =>
        refine (st_cut plainN mixedN noE noL ((cloneS_pl (x :: l)).trans ?_)).2
        have hr := roomB_small hc (b := 40) (by decide)
        rw [T.ev_ite, T.ev_ite, hr]; rfl
    · exact (ev_fail h).elim⟩
def clsE : List (Nat × ExtFn) := [(90, stExt cloneSG), (69, stExt cloneG)]
theorem clsE_ok (N : Nat) : ExtsOk Tryz.prog N clsE := extsOk_cons (extOk_st cloneS_fn) (extsOk_cons (extOk_st clone_fn) extsOk_nil)

def oqSk : NSt := ⟨[.junk, .junk, .slice none (0) (0), .row 4 3 (0), .junk, .junk, .junk, .junk, .int .i64 (0), .int .i64 (0), .junk, .junk, .junk, .junk, .junk, .junk, .junk, .junk, .junk, .junk, .junk, .junk, .junk, .junk], [], [(4, .rows .states [])], 8⟩
def oqId : LoopId := ⟨72, [0, 1, 0, 1, 1], []⟩

def oqOut0 : NSt := ⟨[.junk, .junk, .slice none (0) (0), .row 4 3 (0), .junk, .junk, .junk, .junk, .junk, .junk, .junk, .junk, .junk, .junk, .junk, .junk, .junk, .junk, .junk, .junk, .junk, .junk, .junk, .junk], [], [(4, .rows .states [])], 8⟩
set_option maxRecDepth 100000 in
theorem oq_round (k : Nat) (m i : Int) (S : List DState) : ((rounds Tryz.prog clsE [] 30 oqId 8 none oqSk (k + 1) [.i m, .i i, .l .states S]).cut
    (.ite (.ite (.ite (.ite (.yes (.yes (.all))) (.all)) (.all)) (.all)) (.all))).ev = T.ev (
     .ite (decide (i < m))
      (.ite (inRange i S.length)
       (.ite (i.toNat.blt S.length)
        (.ite (small (S.getD i.toNat RC.states.zero).l.length)
         (.ite (inRange i S.length)
          (.ite (i.toNat.blt S.length)
           (rounds Tryz.prog clsE [] 30 oqId 8 none oqSk k [.i (m), .i (IntKind.i64.wrap (i + (1 : Int))), .l .states (S.set i.toNat (DState.mk (S.getD i.toNat RC.states.zero).type (S.getD i.toNat RC.states.zero).n (S.getD i.toNat RC.states.zero).l))])
           .fail)
          .fail)
         (.fail))
        (.fail))
       (.fail))
      (outAt (.exit 0) oqOut0 [.l .states (S)])) := by kernel_rfl

theorem set_self {α : Type} (l : List α) (i : Nat) (z : α) (h : i < l.length) : l.set i (l.getD i z) = l := by
  apply List.ext_getElem?
  intro k
  rw [List.getElem?_set]
  split
  · rename_i hk
    subst hk
    simp [h, List.getD]
  · rfl
theorem all_at2 {α : Type} {p : α → Bool} {l : List α} (h : l.all p = true) {i : Nat} (hi : i < l.length) (z : α) : p (l.getD i z) = true := by
  rw [List.all_eq_true] at h
  rw [List.getD, List.getElem?_eq_getElem hi]
  exact h _ (List.getElem_mem hi)
def smallS (S : List DState) : Bool := S.all fun s => small s.l.length
theorem oq_rounds (S : List DState) (hS : smallS S = true) (hs : S.length ≤ 1000000000) (r : CEx × NSt) : ∀ (d i : Nat), i + d = S.length →
    (outAt (.exit 0) oqOut0 [.l .states S]).ev = some r →
    ∃ k, (rounds Tryz.prog clsE [] 30 oqId 8 none oqSk k [.i S.length, .i i, .l .states S]).ev = some r
  | 0, i, h, hr => ⟨1, by
    refine cut_ev _ _ ((oq_round _ _ _ _).trans ?_)
    rw [T.ev_ite, show decide ((i : Int) < (S.length : Int)) = false by simp; omega]
    exact hr⟩
  | d + 1, i, h, hr => by
    have h1 : (i : Int) < (S.length : Int) := by omega
    have wi : IntKind.i64.wrap ((i : Int) + 1) = ((i + 1 : Nat) : Int) := (wrap64 (by omega) (by omega)).trans (by omega)
    have h3 : inRange (i : Int) S.length = true := by rw [inRange_iff]; omega
    have h4 : i.blt S.length = true := by rw [Nat.blt_eq]; omega
    have h5 := all_at2 hS (i := i) (by omega) RC.states.zero
    have he : S.set i (DState.mk (S.getD i RC.states.zero).type (S.getD i RC.states.zero).n (S.getD i RC.states.zero).l) = S := set_self S i RC.states.zero (by omega)
    obtain ⟨k, ih⟩ := oq_rounds S hS hs r d (i + 1) (by omega) hr
    refine ⟨k + 1, cut_ev _ _ ((oq_round _ _ _ _).trans ?_)⟩
    simp only [T.ev_ite, wi, h1, h3, h4, h5, he, decide_true, if_true, Int.toNat_natCast]
    exact ih
def oqG : List Leaf → T (CEx × NSt)
  | [.i m, .i i, .l .states S] => T.when (i == 0 && m == (S.length : Int) && small S.length && smallS S) (outAt (.exit 0) oqOut0 [.l .states S])
  | _ => .fail
theorem oq_shape : ShapeOk Tryz.prog clsE [] oqId ⟨8, none, oqSk, oqG⟩ := by
  refine shapeOk_mk fun ls r h => ?_
  unfold oqG at h
  split at h
  · rename_i m i S
    obtain ⟨hc, h1⟩ := ev_when h
    simp only [Bool.and_eq_true, beq_iff_eq, small_iff] at hc
    obtain ⟨⟨⟨rfl, rfl⟩, hs⟩, hS⟩ := hc
    obtain ⟨k, hk⟩ := oq_rounds S hS hs r S.length 0 (by omega) h1
    exact ⟨30, k, hk⟩
  · exact (ev_fail h).elim
def oqL : List (Nat × List Nat × LoopFn) := [(72, [0, 1, 0, 1, 1], loopExt oqId [⟨8, none, oqSk, oqG⟩])]
theorem oqL_ok (N : Nat) : LoopsOk Tryz.prog N oqL := loopsOk_cons (loopExt_ok plainN mixedN clsE_ok (fun _ => loopsOk_nil) (all1 oq_shape all0) N) loopsOk_nil

def oqEnd0 : NSt := ⟨[.row 0 3 (0)], [], [(0, .rows .states [])], 1⟩
set_option maxRecDepth 100000 in
theorem own_tree (S : List DState) : ((stRunV Tryz.prog clsE oqL [] 30 72 ⟨[.pl .states S], [], [], 0⟩).cut
    (.ite (.ite (.all) (.all)) (.all))).ev = T.ev (α := NSt) (
     .ite (small S.length)
      (.ite ((0 : Int) == (0 : Int) && (↑S.length : Int) == (↑S.length : Int) && small S.length && smallS S)
       (stAt oqEnd0 [.l .states (S)])
       (.fail))
      (.fail)) := by kernel_rfl
def ownG : NSt → T NSt
  | ⟨[.pl .states S], [], [], 0⟩ => T.when (small S.length && smallS S) (.ret ⟨[.row 0 3 0], [], [(0, .rows .states S)], 1⟩)
  | _ => .fail
theorem own_fn : StFn Tryz.prog 72 ownG :=
  ⟨bodied_ex (by kernel_rfl), fun n0 n h => by
    unfold ownG at h
    split at h
    · rename_i S
      obtain ⟨hc, h1⟩ := ev_when h
      cases ev_ret h1
      rw [Bool.and_eq_true] at hc
      refine ⟨Nat.zero_le _, (st_cut plainN mixedN clsE_ok oqL_ok ((own_tree S).trans ?_)).2⟩
      simp only [T.ev_ite, hc.1, hc.2, beq_self_eq_true, Bool.and_self, if_true]
      rfl
    · exact (ev_fail h).elim⟩

def repE : List (Nat × ExtFn) := (72, stExt ownG) :: legNE
theorem repE_ok (N : Nat) : ExtsOk Tryz.prog N repE := extsOk_cons (extOk_st own_fn) (legNE_ok N)

def raS0 : NSt := ⟨[.func (.yield 41) #[] #[], .junk, .pointer (some ⟨16, 0, none⟩), .junk, .junk, .int .i64 (0), .junk, .junk, .slice (some ⟨7, 0, none⟩) (1) (1), .int .i64 (0), .int .i64 (0), .junk, .junk, .junk, .junk, .junk, .junk, .junk, .pl .acts [], .int .i64 (0), .int .i64 (0), .junk, .junk, .junk, .junk, .junk, .junk, .junk, .junk, .junk, .junk], [], [(0, .cells [.string ⟨#[]⟩, .int .i64 (0), .int .i64 (0), .pl .acts [], .pl .ints []] 1 0), (6, .cells [.string ⟨#[]⟩, .int .i64 (0), .int .i64 (0), .pl .acts [], .pl .ints []] 5 0), (7, .cells [.int .i64 (0)] 1 0), (16, .cells [.slice (some ⟨6, 0, none⟩) (1) (1)] 1 0), (17, .cells [.slice (some ⟨7, 0, none⟩) (1) (1)] 1 0), (27, .rows .states []), (36, .cells [.row 27 3 (0)] 1 0), (37, .cells [.int .i64 (0)] 1 0), (38, .cells [.int .i64 (0)] 1 0), (40, .defs), (41, .loop .ready none 73 [.junk, .junk, .pointer (some ⟨36, 0, none⟩), .junk, .pointer (some ⟨37, 0, none⟩), .pointer (some ⟨38, 0, none⟩), .junk, .junk, .junk, .junk, .junk, .junk, .tuple #[], .tuple #[], .junk, .junk, .junk, .junk, .junk, .junk, .junk, .junk, .junk, .junk, .junk, .junk, .junk, .junk, .junk, .junk, .junk, .junk, .junk, .junk, .junk, .junk, .junk, .junk, .junk, .junk, .junk, .junk, .junk, .junk, .junk, .junk, .junk, .junk, .junk, .junk, .junk, .junk] [0, 1, 0, 1, 0, 1] 40)], 56⟩

def raId0 : LoopId := ⟨74, [0, 1, 1, 0, 0, 1, 1, 0, 0, 1], []⟩

def raX0 : NSt := ⟨[.func (.yield 41) #[] #[], .junk, .pointer (some ⟨16, 0, none⟩), .junk, .junk, .junk, .junk, .junk, .slice (some ⟨7, 0, none⟩) (1) (1), .int .i64 (0), .int .i64 (0), .junk, .junk, .junk, .junk, .junk, .junk, .junk, .junk, .junk, .junk, .junk, .junk, .junk, .junk, .junk, .junk, .junk, .junk, .junk, .junk], [], [(0, .cells [.string ⟨#[]⟩, .int .i64 (0), .int .i64 (0), .pl .acts [], .pl .ints []] 1 0), (6, .cells [.string ⟨#[]⟩, .int .i64 (0), .int .i64 (0), .pl .acts [], .pl .ints []] 5 0), (7, .cells [.int .i64 (0)] 1 0), (16, .cells [.slice (some ⟨6, 0, none⟩) (1) (1)] 1 0), (17, .cells [.slice (some ⟨7, 0, none⟩) (1) (1)] 1 0), (27, .rows .states []), (36, .cells [.row 27 3 (0)] 1 0), (37, .cells [.int .i64 (0)] 1 0), (38, .cells [.int .i64 (0)] 1 0), (40, .defs), (41, .loop .done (some (.exit 0)) 73 [.junk, .junk, .pointer (some ⟨36, 0, none⟩), .junk, .pointer (some ⟨37, 0, none⟩), .pointer (some ⟨38, 0, none⟩), .junk, .junk, .junk, .junk, .junk, .junk, .tuple #[], .tuple #[], .junk, .junk, .junk, .junk, .junk, .junk, .junk, .junk, .junk, .junk, .junk, .junk, .junk, .junk, .junk, .junk, .junk, .junk, .junk, .junk, .junk, .junk, .junk, .junk, .junk, .junk, .junk, .junk, .junk, .junk, .junk, .junk, .junk, .junk, .junk, .junk, .junk, .junk] [0, 1, 0, 1, 0, 1] 40)], 56⟩
def raX1 : NSt := ⟨[.func (.yield 41) #[] #[], .junk, .pointer (some ⟨16, 0, none⟩), .junk, .junk, .junk, .junk, .junk, .slice (some ⟨7, 0, none⟩) (1) (1), .int .i64 (0), .int .i64 (0), .junk, .junk, .junk, .junk, .junk, .junk, .junk, .junk, .junk, .junk, .junk, .junk, .junk, .junk, .junk, .junk, .junk, .junk, .junk, .junk], [], [(0, .cells [.string ⟨#[]⟩, .int .i64 (0), .int .i64 (0), .pl .acts [], .pl .ints []] 1 0), (6, .cells [.string ⟨#[]⟩, .int .i64 (0), .int .i64 (0), .pl .acts [], .pl .ints []] 5 0), (7, .cells [.int .i64 (0)] 1 0), (16, .cells [.slice (some ⟨6, 0, none⟩) (1) (1)] 1 0), (17, .cells [.slice (some ⟨7, 0, none⟩) (1) (1)] 1 0), (27, .rows .states []), (36, .cells [.row 27 3 (0)] 1 0), (37, .cells [.int .i64 (0)] 1 0), (38, .cells [.int .i64 (0)] 1 0), (40, .defs), (41, .loop .ready none 73 [.junk, .junk, .pointer (some ⟨36, 0, none⟩), .junk, .pointer (some ⟨37, 0, none⟩), .pointer (some ⟨38, 0, none⟩), .junk, .junk, .junk, .junk, .junk, .junk, .tuple #[], .tuple #[], .junk, .junk, .junk, .junk, .junk, .junk, .junk, .junk, .junk, .junk, .junk, .junk, .junk, .junk, .junk, .junk, .junk, .junk, .junk, .junk, .junk, .junk, .junk, .junk, .junk, .junk, .junk, .junk, .junk, .junk, .junk, .junk, .junk, .junk, .junk, .junk, .junk, .junk] [0, 1, 0, 1, 0, 1] 40)], 56⟩
set_option maxRecDepth 100000 in
theorem ra_round0 (k : Nat) (x m0 i0 : Int) (B : List DAct) (m i : Int) (nm : ByteArray) (bg cm : Int) (A : List DAct) (l : List Int) (nm' : ByteArray) (bg' cm' : Int) (A' : List DAct) (l' : List Int) (y : Int) (S : List DState) (n e : Int) : ((rounds Tryz.prog repE [] 30 raId0 56 none raS0 (k + 1) [.i x, .i m0, .i i0, .l .acts B, .i m, .i i, .s nm, .i bg, .i cm, .l .acts A, .l .ints l, .s nm', .i bg', .i cm', .l .acts A', .l .ints l', .i y, .l .states S, .i n, .i e]).cut
    (.ite (.ite (.yes (.ite (.yes (.yes (.yes (.yes (.yes (.yes (.yes (.all)))))))) (.no (.no (.no (.no (.ite (.yes (.all)) (.ite (.ite (.ite (.yes (.ite (.yes (.all)) (.ite (.yes (.all)) (.yes (.yes (.no (.all))))))) (.all)) (.all)) (.all))))))))) (.all)) (.all))).ev = T.ev (
     .ite (decide (i < m))
      (.ite (inRange i B.length)
       (.ite (decide ((B.getD i.toNat RC.acts.zero).object < (0 : Int)))
        (outAt .ret raX0 [.i (m0), .i (i0), .s (nm), .i (bg), .i (cm), .l .acts (A), .l .ints (l), .s (nm'), .i (bg'), .i (cm'), .l .acts (A'), .l .ints (l'), .i (y), .l .states (S), .i (IntKind.i64.wrap (n + (1 : Int))), .i (3)])
        (.ite (decide ((B.getD i.toNat RC.acts.zero).object ≥ (↑S.length : Int)))
         (outAt .ret raX0 [.i (m0), .i (i0), .s (nm), .i (bg), .i (cm), .l .acts (A), .l .ints (l), .s (nm'), .i (bg'), .i (cm'), .l .acts (A'), .l .ints (l'), .i (y), .l .states (S), .i (IntKind.i64.wrap (n + (1 : Int))), .i (3)])
         (.ite (inRange (B.getD i.toNat RC.acts.zero).object S.length)
          (.ite ((B.getD i.toNat RC.acts.zero).object.toNat.blt S.length)
           (.ite (machB (S.getD (B.getD i.toNat RC.acts.zero).object.toNat RC.states.zero).l (B.getD i.toNat RC.acts.zero).op.a (B.getD i.toNat RC.acts.zero).op.b)
            (.ite ((machA (S.getD (B.getD i.toNat RC.acts.zero).object.toNat RC.states.zero).type (S.getD (B.getD i.toNat RC.acts.zero).object.toNat RC.states.zero).n (S.getD (B.getD i.toNat RC.acts.zero).object.toNat RC.states.zero).l (B.getD i.toNat RC.acts.zero).op.kind (B.getD i.toNat RC.acts.zero).op.a (B.getD i.toNat RC.acts.zero).op.b).e != (0 : Int))
             (outAt .ret raX0 [.i (m0), .i (i0), .s (nm), .i (bg), .i (cm), .l .acts (A), .l .ints (l), .s (nm'), .i (bg'), .i (cm'), .l .acts (A'), .l .ints (l'), .i (y), .l .states (S), .i (IntKind.i64.wrap (n + (1 : Int))), .i ((machA (S.getD (B.getD i.toNat RC.acts.zero).object.toNat RC.states.zero).type (S.getD (B.getD i.toNat RC.acts.zero).object.toNat RC.states.zero).n (S.getD (B.getD i.toNat RC.acts.zero).object.toNat RC.states.zero).l (B.getD i.toNat RC.acts.zero).op.kind (B.getD i.toNat RC.acts.zero).op.a (B.getD i.toNat RC.acts.zero).op.b).e)])
             (.ite (!legB (machA (S.getD (B.getD i.toNat RC.acts.zero).object.toNat RC.states.zero).type (S.getD (B.getD i.toNat RC.acts.zero).object.toNat RC.states.zero).n (S.getD (B.getD i.toNat RC.acts.zero).object.toNat RC.states.zero).l (B.getD i.toNat RC.acts.zero).op.kind (B.getD i.toNat RC.acts.zero).op.a (B.getD i.toNat RC.acts.zero).op.b) (B.getD i.toNat RC.acts.zero).op.ret.kind (B.getD i.toNat RC.acts.zero).op.ret.n)
              (outAt .ret raX0 [.i (m0), .i (i0), .s (nm), .i (bg), .i (cm), .l .acts (A), .l .ints (l), .s (nm'), .i (bg'), .i (cm'), .l .acts (A'), .l .ints (l'), .i (y), .l .states (S), .i (IntKind.i64.wrap (n + (1 : Int))), .i (9)])
              (.ite (inRange (B.getD i.toNat RC.acts.zero).object S.length)
               (.ite ((B.getD i.toNat RC.acts.zero).object.toNat.blt S.length)
                (rounds Tryz.prog repE [] 30 raId0 56 none raS0 k [.i (x), .i (m0), .i (i0), .l .acts (B), .i (m), .i (IntKind.i64.wrap (i + (1 : Int))), .s (nm), .i (bg), .i (cm), .l .acts (A), .l .ints (l), .s (nm'), .i (bg'), .i (cm'), .l .acts (A'), .l .ints (l'), .i (y), .l .states (S.set (B.getD i.toNat RC.acts.zero).object.toNat (DState.mk (machA (S.getD (B.getD i.toNat RC.acts.zero).object.toNat RC.states.zero).type (S.getD (B.getD i.toNat RC.acts.zero).object.toNat RC.states.zero).n (S.getD (B.getD i.toNat RC.acts.zero).object.toNat RC.states.zero).l (B.getD i.toNat RC.acts.zero).op.kind (B.getD i.toNat RC.acts.zero).op.a (B.getD i.toNat RC.acts.zero).op.b).s.type (machA (S.getD (B.getD i.toNat RC.acts.zero).object.toNat RC.states.zero).type (S.getD (B.getD i.toNat RC.acts.zero).object.toNat RC.states.zero).n (S.getD (B.getD i.toNat RC.acts.zero).object.toNat RC.states.zero).l (B.getD i.toNat RC.acts.zero).op.kind (B.getD i.toNat RC.acts.zero).op.a (B.getD i.toNat RC.acts.zero).op.b).s.n (machA (S.getD (B.getD i.toNat RC.acts.zero).object.toNat RC.states.zero).type (S.getD (B.getD i.toNat RC.acts.zero).object.toNat RC.states.zero).n (S.getD (B.getD i.toNat RC.acts.zero).object.toNat RC.states.zero).l (B.getD i.toNat RC.acts.zero).op.kind (B.getD i.toNat RC.acts.zero).op.a (B.getD i.toNat RC.acts.zero).op.b).s.l)), .i (IntKind.i64.wrap (n + (1 : Int))), .i (e)])
                .fail)
               .fail)))
            (.fail))
           (.fail))
          (.fail))))
       (.fail))
      (outAt (.exit 2) raX1 [.i (m0), .i (i0), .s (nm), .i (bg), .i (cm), .l .acts (A), .l .ints (l), .s (nm'), .i (bg'), .i (cm'), .l .acts (A'), .l .ints (l'), .i (y), .l .states (S), .i (n), .i (e)])) := by kernel_rfl

structure Rep where
  s : List DState
  n : Nat
  e : Int
def repA (S : List DState) : List DAct → Rep
  | [] => ⟨S, 0, 0⟩
  | a :: r =>
    if a.object < 0 ∨ (S.length : Int) ≤ a.object then ⟨S, 1, 3⟩
    else if (stepM (S.getD a.object.toNat RC.states.zero) a.op).e ≠ 0 then ⟨S, 1, (stepM (S.getD a.object.toNat RC.states.zero) a.op).e⟩
    else if (stepM (S.getD a.object.toNat RC.states.zero) a.op).r ≠ a.op.ret then ⟨S, 1, 9⟩
    else ⟨(repA (S.set a.object.toNat (stepM (S.getD a.object.toNat RC.states.zero) a.op).s) r).s, (repA (S.set a.object.toNat (stepM (S.getD a.object.toNat RC.states.zero) a.op).s) r).n + 1, (repA (S.set a.object.toNat (stepM (S.getD a.object.toNat RC.states.zero) a.op).s) r).e⟩
def lensOk (S : List DState) (d : Nat) : Bool := S.all fun s => Nat.ble (s.l.length + 2 * d) 1000000
def actsOk (A : List DAct) : Bool := A.all fun a => opB a.op
theorem lensOk_at {S : List DState} {d : Nat} (h : lensOk S d = true) {i : Nat} (hi : i < S.length) : (S.getD i RC.states.zero).l.length + 2 * d ≤ 1000000 := by
  have := all_at2 h hi RC.states.zero
  rwa [Nat.ble_eq] at this
theorem lensOk_set {S : List DState} {d : Nat} (h : lensOk S (d + 1) = true) (i : Nat) {o : DOp} (hi : i < S.length) : lensOk (S.set i (stepM (S.getD i RC.states.zero) o).s) d = true := by
  have h1 := lensOk_at h hi
  unfold lensOk at h ⊢
  rw [List.all_eq_true] at h ⊢
  intro s hs
  rcases List.mem_or_eq_of_mem_set hs with hm | rfl
  · have := h s hm
    rw [Nat.ble_eq] at this ⊢; omega
  · have := mach_len (S.getD i RC.states.zero).type (S.getD i RC.states.zero).n (S.getD i RC.states.zero).l o.kind o.a o.b
    rw [Nat.ble_eq]
    show (machA (S.getD i RC.states.zero).type (S.getD i RC.states.zero).n (S.getD i RC.states.zero).l o.kind o.a o.b).s.l.length + 2 * d ≤ 1000000
    omega
theorem ra_rounds0 (x m0 i0 : Int) (B : List DAct) (nm : ByteArray) (bg cm : Int) (A : List DAct) (l : List Int) (nm' : ByteArray) (bg' cm' : Int) (A' : List DAct) (l' : List Int) (y e : Int) (hB : actsOk B = true) (hs : B.length ≤ 1000000) (r : CEx × NSt) : ∀ (d i : Nat), i + d = B.length → ∀ (S : List DState) (n : Nat), lensOk S d = true → n + d ≤ 100000000 →
    (if (repA S (B.drop i)).e = 0 then outAt (.exit 2) raX1 [.i m0, .i i0, .s nm, .i bg, .i cm, .l .acts A, .l .ints l, .s nm', .i bg', .i cm', .l .acts A', .l .ints l', .i y, .l .states (repA S (B.drop i)).s, .i ((n + (repA S (B.drop i)).n : Nat) : Int), .i e]
      else outAt .ret raX0 [.i m0, .i i0, .s nm, .i bg, .i cm, .l .acts A, .l .ints l, .s nm', .i bg', .i cm', .l .acts A', .l .ints l', .i y, .l .states (repA S (B.drop i)).s, .i ((n + (repA S (B.drop i)).n : Nat) : Int), .i (repA S (B.drop i)).e]).ev = some r →
    ∃ k, (rounds Tryz.prog repE [] 30 raId0 56 none raS0 k [.i x, .i m0, .i i0, .l .acts B, .i B.length, .i i, .s nm, .i bg, .i cm, .l .acts A, .l .ints l, .s nm', .i bg', .i cm', .l .acts A', .l .ints l', .i y, .l .states S, .i n, .i e]).ev = some r
  | 0, i, h, S, n, hS, hn, hr => ⟨1, by
    refine cut_ev _ _ ((ra_round0 _ _ _ _ _ _ _ _ _ _ _ _ _ _ _ _ _ _ _ _ _).trans ?_)
    rw [T.ev_ite, show decide ((i : Int) < (B.length : Int)) = false by simp; omega]
    rw [List.drop_eq_nil_of_le (by omega), repA, if_pos rfl] at hr
    exact hr⟩
  | d + 1, i, h, S, n, hS, hn, hr => by
    have h1 : (i : Int) < (B.length : Int) := by omega
    have wi : IntKind.i64.wrap ((i : Int) + 1) = ((i + 1 : Nat) : Int) := (wrap64 (by omega) (by omega)).trans (by omega)
    have wn : IntKind.i64.wrap ((n : Int) + 1) = ((n + 1 : Nat) : Int) := (wrap64 (by omega) (by omega)).trans (by omega)
    have h3 : inRange (i : Int) B.length = true := by rw [inRange_iff]; omega
    have hop := all_at2 hB (i := i) (by omega) RC.acts.zero
    rw [getD_cons (l := B) (i := i) (by omega) RC.acts.zero, repA] at hr
    generalize hq : B.getD i RC.acts.zero = q at *
    have fin : ∀ e', (outAt .ret raX0 [.i m0, .i i0, .s nm, .i bg, .i cm, .l .acts A, .l .ints l, .s nm', .i bg', .i cm', .l .acts A', .l .ints l', .i y, .l .states S, .i ((n + 1 : Nat) : Int), .i e']).ev = some r → True := fun _ _ => trivial
    by_cases c1 : q.object < 0 ∨ (S.length : Int) ≤ q.object
    · rw [if_pos c1] at hr
      rw [if_neg (show ¬ ((3 : Int) = 0) by decide)] at hr
      refine ⟨1, cut_ev _ _ ((ra_round0 _ _ _ _ _ _ _ _ _ _ _ _ _ _ _ _ _ _ _ _ _).trans ?_)⟩
      rw [Int.toNat_natCast, hq]
      by_cases c2 : q.object < 0
      · simp only [T.ev_ite, h1, h3, wn, c2, decide_true, if_true]
        exact hr
      · have c3 : q.object ≥ (S.length : Int) := by omega
        simp only [T.ev_ite, h1, h3, wn, c2, c3, decide_true, decide_false, Bool.false_eq_true, if_false, if_true]
        exact hr
    · rw [if_neg c1] at hr
      have c2 : ¬ q.object < 0 := by omega
      have c3 : ¬ q.object ≥ (S.length : Int) := by omega
      have h4 : inRange q.object S.length = true := by rw [inRange_iff]; omega
      have h5 : q.object.toNat.blt S.length = true := by rw [Nat.blt_eq]; omega
      have hlt : q.object.toNat < S.length := by omega
      have h6 : machB (S.getD q.object.toNat RC.states.zero).l q.op.a q.op.b = true := machB_of (o := q.op) (by have := lensOk_at hS hlt; omega) hop
      have hM : machA (S.getD q.object.toNat RC.states.zero).type (S.getD q.object.toNat RC.states.zero).n (S.getD q.object.toNat RC.states.zero).l q.op.kind q.op.a q.op.b = stepM (S.getD q.object.toNat RC.states.zero) q.op := rfl
      by_cases c4 : (stepM (S.getD q.object.toNat RC.states.zero) q.op).e = 0
      · rw [if_neg (not_not_intro c4)] at hr
        have b4 : ((stepM (S.getD q.object.toNat RC.states.zero) q.op).e != 0) = false := by rw [c4]; rfl
        have hleg := legB_dec (stepM (S.getD q.object.toNat RC.states.zero) q.op) q.op.ret c4
        by_cases c5 : (stepM (S.getD q.object.toNat RC.states.zero) q.op).r = q.op.ret
        · rw [if_neg (not_not_intro c5)] at hr
          rw [decide_eq_true c5] at hleg
          obtain ⟨k, ih⟩ := ra_rounds0 x m0 i0 B nm bg cm A l nm' bg' cm' A' l' y e hB hs r d (i + 1) (by omega) (S.set q.object.toNat (stepM (S.getD q.object.toNat RC.states.zero) q.op).s) (n + 1) (lensOk_set hS _ hlt) (by omega) (by
            rw [← hr]
            simp only [Nat.add_assoc, Nat.add_comm 1])
          refine ⟨k + 1, cut_ev _ _ ((ra_round0 _ _ _ _ _ _ _ _ _ _ _ _ _ _ _ _ _ _ _ _ _).trans ?_)⟩
          rw [Int.toNat_natCast, hq]
          simp only [T.ev_ite, hM, h1, h3, h4, h5, h6, wn, wi, c2, c3, b4, hleg, decide_true, decide_false, Bool.not_true, Bool.false_eq_true, if_false, if_true]
          exact ih
        · rw [if_pos c5] at hr
          rw [if_neg (show ¬ ((9 : Int) = 0) by decide)] at hr
          rw [decide_eq_false c5] at hleg
          refine ⟨1, cut_ev _ _ ((ra_round0 _ _ _ _ _ _ _ _ _ _ _ _ _ _ _ _ _ _ _ _ _).trans ?_)⟩
          rw [Int.toNat_natCast, hq]
          simp only [T.ev_ite, hM, h1, h3, h4, h5, h6, wn, c2, c3, b4, hleg, decide_true, decide_false, Bool.not_false, Bool.false_eq_true, if_false, if_true]
          exact hr
      · rw [if_pos c4, if_neg c4] at hr
        have b4 : ((stepM (S.getD q.object.toNat RC.states.zero) q.op).e != 0) = true := by rw [bne_iff_ne]; exact c4
        refine ⟨1, cut_ev _ _ ((ra_round0 _ _ _ _ _ _ _ _ _ _ _ _ _ _ _ _ _ _ _ _ _).trans ?_)⟩
        rw [Int.toNat_natCast, hq]
        simp only [T.ev_ite, hM, h1, h3, h4, h5, h6, wn, c2, c3, b4, decide_true, decide_false, Bool.false_eq_true, if_false, if_true]
        exact hr
def raG0 : List Leaf → T (CEx × NSt)
  | [.i x, .i m0, .i i0, .l .acts B, .i m, .i i, .s nm, .i bg, .i cm, .l .acts A, .l .ints l, .s nm', .i bg', .i cm', .l .acts A', .l .ints l', .i y, .l .states S, .i n, .i e] =>
    T.when (i == 0 && m == (B.length : Int) && (actsOk B && Nat.ble B.length 1000000) && (lensOk S B.length && (decide (0 ≤ n) && decide (n ≤ 50000000))))
      (.ite (decide ((repA S B).e = 0)) (outAt (.exit 2) raX1 [.i m0, .i i0, .s nm, .i bg, .i cm, .l .acts A, .l .ints l, .s nm', .i bg', .i cm', .l .acts A', .l .ints l', .i y, .l .states (repA S B).s, .i (n + (repA S B).n), .i e])
        (outAt .ret raX0 [.i m0, .i i0, .s nm, .i bg, .i cm, .l .acts A, .l .ints l, .s nm', .i bg', .i cm', .l .acts A', .l .ints l', .i y, .l .states (repA S B).s, .i (n + (repA S B).n), .i (repA S B).e]))
  | _ => .fail
theorem ra_shape0 : ShapeOk Tryz.prog repE [] raId0 ⟨56, none, raS0, raG0⟩ := by
  refine shapeOk_mk fun ls r h => ?_
  unfold raG0 at h
  split at h
  · rename_i x m0 i0 B m i nm bg cm A l nm' bg' cm' A' l' y S n e
    obtain ⟨hc, h1⟩ := ev_when h
    simp only [Bool.and_eq_true, beq_iff_eq, Nat.ble_eq, decide_eq_true_eq] at hc
    obtain ⟨⟨⟨rfl, rfl⟩, hB, hs⟩, hS, hn0, hn⟩ := hc
    obtain ⟨n, rfl⟩ := Int.eq_ofNat_of_zero_le hn0
    obtain ⟨k, hk⟩ := ra_rounds0 x m0 i0 B nm bg cm A l nm' bg' cm' A' l' y e hB hs r B.length 0 (by omega) S n hS (by omega) (by
      rw [List.drop_zero]; rw [T.ev_ite] at h1
      have en : ((n + (repA S B).n : Nat) : Int) = (n : Int) + (repA S B).n := by omega
      rw [en]
      by_cases hu : (repA S B).e = 0
      · rw [if_pos hu]; rw [decide_eq_true hu] at h1; exact h1
      · rw [if_neg hu]; rw [decide_eq_false hu] at h1; exact h1)
    exact ⟨30, k, hk⟩
  · exact (ev_fail h).elim
def repL : List (Nat × List Nat × LoopFn) := [(74, [0, 1, 1, 0, 0, 1, 1, 0, 0, 1], loopExt raId0 [⟨56, none, raS0, raG0⟩])]
theorem repL_ok (N : Nat) : LoopsOk Tryz.prog N repL := loopsOk_cons (loopExt_ok plainN mixedN repE_ok (fun _ => loopsOk_nil) (all1 ra_shape0 all0) N) loopsOk_nil

set_option maxRecDepth 100000 in
theorem repT_tree (S : List DState) (nm : ByteArray) (bg cm : Int) (A : List DAct) (l : List Int) : (((tden Tryz.prog repE repL 30).call 0 27 [.pl .states S, .agg #[.string nm, .int .i64 bg, .int .i64 cm, .pl .acts A, .pl .ints l]] ⟨.nil, 0⟩).pure.cut
    (.ite (.yes (.yes (.yes (.ite (.ite (.no (.yes (.yes (.no (.all))))) (.yes (.yes (.ite (.all) (.all))))) (.all))))) (.all))).ev = T.ev (α := CV) (
     .ite (small S.length && smallS S)
      (.ite ((0 : Int) == (0 : Int) && (↑A.length : Int) == (↑A.length : Int) && (actsOk A && A.length.ble (1000000 : Nat)) && (lensOk S A.length && (decide ((0 : Int) ≤ (0 : Int)) && decide ((0 : Int) ≤ (50000000 : Int)))))
       (.ite (decide ((repA S A).e = (0 : Int)))
        (.ret (.tuple #[.pl .states ((repA S A).s), .int .i64 ((0 : Int) + (↑(repA S A).n : Int)), .int .i64 (0)]))
        (.ite (decide ((repA S A).e = (repA S A).e))
         (.ite ((repA S A).e != (0 : Int))
          (.ret (.tuple #[.slice none (0) (0), .int .i64 ((0 : Int) + (↑(repA S A).n : Int)), .int .i64 ((repA S A).e)]))
          (.ret (.tuple #[.pl .states ((repA S A).s), .int .i64 ((0 : Int) + (↑(repA S A).n : Int)), .int .i64 (0)])))
         .fail))
       (.fail))
      (.fail)) := by kernel_rfl

def repOk (S : List DState) (A : List DAct) : Bool := small S.length && smallS S && ((actsOk A && A.length.ble 1000000) && lensOk S A.length)
def repTG : List CV → T CV
  | [.pl .states S, .agg ⟨[.string nm, .int .i64 bg, .int .i64 cm, .pl .acts A, .pl .ints l]⟩] =>
    T.when (repOk S A) (.ite (decide ((repA S A).e = 0)) (.ret (.tuple #[.pl .states (repA S A).s, .int .i64 (repA S A).n, .int .i64 0])) (.ret (.tuple #[.slice none 0 0, .int .i64 (repA S A).n, .int .i64 (repA S A).e])))
  | _ => .fail
def sgTrn : Sg := .agg [.any, .any, .any, .l .acts, .l .ints]
theorem repT_fn : PureFn Tryz.prog 27 (sigExt [.l .states, sgTrn] repTG) :=
  pureFn_mk (bodied_ex (by kernel_rfl)) fun args d h => by
    unfold repTG at h
    split at h
    · rename_i S nm bg cm A l
      obtain ⟨hc, h1⟩ := ev_when h
      unfold repOk at hc
      simp only [Bool.and_eq_true] at hc
      obtain ⟨⟨h2, h3⟩, ⟨h4, h5⟩, h6⟩ := hc
      rw [T.ev_ite] at h1
      by_cases he : (repA S A).e = 0
      · rw [decide_eq_true he, if_pos rfl] at h1
        cases ev_ret h1
        refine pureAt0 plainN mixedN repE_ok repL_ok (k := 30) ((repT_tree S nm bg cm A l).trans ?_) rfl
        simp only [T.ev_ite, T.ev_ret, h2, h3, h4, h5, h6, beq_self_eq_true, Bool.and_self, decide_true, if_true, Int.zero_add, show decide ((0 : Int) ≤ 0) = true from rfl, show decide ((0 : Int) ≤ 50000000) = true from rfl]
        simp [he]
      · rw [decide_eq_false he, if_neg Bool.false_ne_true] at h1
        cases ev_ret h1
        refine pureAt0 plainN mixedN repE_ok repL_ok (k := 30) ((repT_tree S nm bg cm A l).trans ?_) rfl
        have hb : ((repA S A).e != 0) = true := by rw [bne_iff_ne]; exact he
        simp only [T.ev_ite, T.ev_ret, h2, h3, h4, h5, h6, beq_self_eq_true, Bool.and_self, decide_true, if_true, Int.zero_add, show decide ((0 : Int) ≤ 0) = true from rfl, show decide ((0 : Int) ≤ 50000000) = true from rfl]
        simp [he, hb]
    · exact (ev_fail h).elim

end Go.Proofs.YtecidokjhplbgaaGreatDoorD
