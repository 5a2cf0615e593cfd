/-
  Chapter 18: which acts and transactions commute: loops, contracts, the law
-/
import Derived.Test.YtecidokjhplbgaaGreatDoorCmvAK
import Derived.Test.YtecidokjhplbgaaGreatDoorArG
set_option linter.unusedVariables false
set_option linter.unusedSimpArgs false
namespace Go.Proofs.YtecidokjhplbgaaGreatDoorD
open Go Go.RowKit

set_option maxRecDepth 100000 in
theorem cacts_tree (o k a b rk rn o' k' a' b' rk' rn' : Int) : (((tden Tryz.prog c18E [] 30).call 0 14 [.agg #[.int .i64 o, .int .i64 k, .int .i64 a, .int .i64 b, .int .i64 rk, .int .i64 rn], .agg #[.int .i64 o', .int .i64 k', .int .i64 a', .int .i64 b', .int .i64 rk', .int .i64 rn']] ⟨.nil, 0⟩).pure.cut
    (.ite (.all) (.ite (.yes (.all)) (.no (.no (.all)))))).ev = T.ev (α := CV) (
     .ite (o != o')
      (.ret (.bool true))
      (.ite (cmIs (DOp.mk k a b (DRet.mk rk rn)) (DOp.mk k' a' b' (DRet.mk rk' rn')))
       (.ret (.bool (cmEr (DOp.mk k a b (DRet.mk rk rn)) (DOp.mk k' a' b' (DRet.mk rk' rn')) == (0 : Int))))
       (.ret (.bool false)))) := by kernel_rfl
set_option maxRecDepth 100000 in
theorem racts_tree (o k a b rk rn o' k' a' b' rk' rn' : Int) : (((tden Tryz.prog c18E [] 30).call 0 15 [.agg #[.int .i64 o, .int .i64 k, .int .i64 a, .int .i64 b, .int .i64 rk, .int .i64 rn], .agg #[.int .i64 o', .int .i64 k', .int .i64 a', .int .i64 b', .int .i64 rk', .int .i64 rn']] ⟨.nil, 0⟩).pure.cut
    (.ite (.yes (.all)) (.all))).ev = T.ev (α := CV) (
     .ite (o != o')
      (.ret (.bool true))
      (.ret (.bool (cmIs (DOp.mk k a b (DRet.mk rk rn)) (DOp.mk k' a' b' (DRet.mk rk' rn')))))) := by kernel_rfl
def ctO : NSt := ⟨[.junk, .junk, .junk, .pointer (some ⟨1, 0, none⟩), .bool false, .junk, .junk, .junk, .junk, .junk, .pl .acts [], .int .i64 (0), .int .i64 (0), .junk, .junk, .junk, .junk, .junk, .junk, .junk, .junk, .junk, .junk, .junk, .junk, .junk, .junk, .junk, .junk], [], [(0, .cells [.string ⟨#[]⟩, .int .i64 (0), .int .i64 (0), .pl .acts [], .pl .ints []] 1 0), (1, .cells [.string ⟨#[]⟩, .int .i64 (0), .int .i64 (0), .pl .acts [], .pl .ints []] 1 0)], 7⟩
def ctI : NSt := ⟨[.junk, .junk, .junk, .pointer (some ⟨1, 0, none⟩), .bool false, .junk, .pointer (some ⟨10, 0, none⟩), .junk, .junk, .junk, .pl .acts [], .int .i64 (0), .int .i64 (0), .junk, .junk, .junk, .junk, .pl .acts [], .int .i64 (0), .int .i64 (0), .junk, .junk, .junk, .junk, .junk, .junk, .junk, .junk, .junk], [], [(0, .cells [.string ⟨#[]⟩, .int .i64 (0), .int .i64 (0), .pl .acts [], .pl .ints []] 1 0), (1, .cells [.string ⟨#[]⟩, .int .i64 (0), .int .i64 (0), .pl .acts [], .pl .ints []] 1 0), (10, .cells [.int .i64 (0), .int .i64 (0), .int .i64 (0), .int .i64 (0), .int .i64 (0), .int .i64 (0)] 1 0)], 16⟩
def rtO : NSt := ⟨[.junk, .junk, .pointer (some ⟨0, 0, none⟩), .pointer (some ⟨1, 0, none⟩), .bool false, .int .i64 (0), .junk, .junk, .junk, .junk, .junk, .junk, .junk, .junk, .junk, .junk, .junk, .junk, .junk, .junk, .junk, .junk, .junk, .junk, .junk, .junk, .junk, .junk, .junk, .junk, .junk, .junk, .junk], [], [(0, .cells [.string ⟨#[]⟩, .int .i64 (0), .int .i64 (0), .pl .acts [], .pl .ints []] 1 0), (1, .cells [.string ⟨#[]⟩, .int .i64 (0), .int .i64 (0), .pl .acts [], .pl .ints []] 1 0)], 4⟩
def rtI : NSt := ⟨[.junk, .junk, .pointer (some ⟨0, 0, none⟩), .pointer (some ⟨1, 0, none⟩), .bool false, .int .i64 (0), .int .i64 (0), .junk, .junk, .junk, .junk, .junk, .junk, .junk, .junk, .junk, .junk, .junk, .junk, .junk, .junk, .junk, .junk, .junk, .junk, .junk, .junk, .junk, .junk, .junk, .junk, .junk, .junk], [], [(0, .cells [.string ⟨#[]⟩, .int .i64 (0), .int .i64 (0), .pl .acts [], .pl .ints []] 1 0), (1, .cells [.string ⟨#[]⟩, .int .i64 (0), .int .i64 (0), .pl .acts [], .pl .ints []] 1 0)], 10⟩
def stO : NSt := ⟨[.junk, .junk, .pointer (some ⟨0, 0, none⟩), .pointer (some ⟨1, 0, none⟩), .bool false, .int .i64 (0), .junk, .junk, .junk, .junk, .junk, .junk, .junk, .junk, .junk, .junk, .junk, .junk, .junk, .junk, .junk, .junk, .junk, .junk, .junk, .junk, .junk, .junk, .junk, .junk, .junk, .junk, .junk, .junk, .junk, .junk, .junk, .junk, .junk, .junk, .junk, .junk, .junk, .junk, .junk, .junk, .junk, .junk, .junk, .junk, .junk, .junk, .junk, .junk, .junk, .junk, .junk, .junk, .junk, .junk], [], [(0, .cells [.string ⟨#[]⟩, .int .i64 (0), .int .i64 (0), .pl .acts [], .pl .ints []] 1 0), (1, .cells [.string ⟨#[]⟩, .int .i64 (0), .int .i64 (0), .pl .acts [], .pl .ints []] 1 0)], 40⟩
set_option maxRecDepth 100000 in
theorem cpTrans_tree (nm : ByteArray) (bg cm : Int) (A : List DAct) (l : List Int) : (((tden Tryz.prog c18E [] 30).call 0 13 [.agg #[.string nm, .int .i64 bg, .int .i64 cm, .pl .acts A, .pl .ints l]] ⟨.nil, 0⟩).pure.cut
    (.ite (.ite (.all) (.all)) (.all))).ev = T.ev (α := CV) (
     .ite (roomB A.length (48 : Nat))
      (.ite (small l.length)
       (.ret (.agg #[.string (nm), .int .i64 (bg), .int .i64 (cm), .pl .acts (A), .pl .ints (l)]))
       (.fail))
      (.fail)) := by kernel_rfl
def ctOId : LoopId := ⟨16, [0, 1, 0, 1], []⟩
def ctIId : LoopId := ⟨16, [0, 1, 1, 0, 0, 1, 1, 0, 0, 1, 0, 1], []⟩
def rtOId : LoopId := ⟨17, [0, 1, 0, 1], []⟩
def rtIId : LoopId := ⟨17, [0, 1, 0, 0, 1, 0, 0, 1, 0, 1], []⟩
def stOId : LoopId := ⟨18, [0, 1, 0, 1, 1], []⟩

def acB (p q : DAct) : Bool := if p.object ≠ q.object then true else cmIs p.op q.op
def actsG : List CV → T CV
  | [.agg ⟨[.int .i64 o, .int .i64 k, .int .i64 a, .int .i64 b, .int .i64 rk, .int .i64 rn]⟩, .agg ⟨[.int .i64 o', .int .i64 k', .int .i64 a', .int .i64 b', .int .i64 rk', .int .i64 rn']⟩] => .ret (.bool (acB ⟨o, ⟨k, a, b, ⟨rk, rn⟩⟩⟩ ⟨o', ⟨k', a', b', ⟨rk', rn'⟩⟩⟩))
  | _ => .fail
theorem cmIs_er {p q : DOp} (h : cmIs p q = true) : cmEr p q = 0 := by
  unfold cmIs at h
  unfold cmEr
  split at h
  · cases h
  · omega
theorem cacts_fn : PureFn Tryz.prog 14 (sigExt [] actsG) :=
  pureFn_mk (bodied_ex (by kernel_rfl)) fun args d h => by
    unfold actsG at h
    split at h
    · rename_i o k a b rk rn o' k' a' b' rk' rn'
      cases ev_ret h
      refine pureAt0 plainN mixedN c18E_ok noL (k := 30) ((cacts_tree o k a b rk rn o' k' a' b' rk' rn').trans ?_) rfl
      simp only [T.ev_ite, T.ev_ret, acB]
      by_cases h1 : o = o'
      · cases hi : cmIs ⟨k, a, b, ⟨rk, rn⟩⟩ ⟨k', a', b', ⟨rk', rn'⟩⟩ with
        | true => simp [h1, hi, cmIs_er hi]
        | false => simp [h1, hi]
      · have e : (o != o') = true := by rw [bne_iff_ne]; exact h1
        simp [h1, e]
    · exact (ev_fail h).elim
theorem racts_fn : PureFn Tryz.prog 15 (sigExt [] actsG) :=
  pureFn_mk (bodied_ex (by kernel_rfl)) fun args d h => by
    unfold actsG at h
    split at h
    · rename_i o k a b rk rn o' k' a' b' rk' rn'
      cases ev_ret h
      refine pureAt0 plainN mixedN c18E_ok noL (k := 30) ((racts_tree o k a b rk rn o' k' a' b' rk' rn').trans ?_) rfl
      simp only [T.ev_ite, T.ev_ret, acB]
      by_cases h1 : o = o'
      · simp [h1]
      · have e : (o != o') = true := by rw [bne_iff_ne]; exact h1
        simp [h1, e]
    · exact (ev_fail h).elim
def ctnE : List (Nat × ExtFn) := (14, pureExt (sigExt [] actsG)) :: (15, pureExt (sigExt [] actsG)) :: c18E
theorem ctnE_ok (N : Nat) : ExtsOk Tryz.prog N ctnE := extsOk_cons (extOk_pure cacts_fn) (extsOk_cons (extOk_pure racts_fn) (c18E_ok N))

def ciOut0 : NSt := ⟨[.junk, .junk, .junk, .pointer (some ⟨1, 0, none⟩), .bool false, .junk, .junk, .junk, .junk, .junk, .pl .acts [], .int .i64 (0), .int .i64 (0), .junk, .junk, .junk, .junk, .junk, .junk, .junk, .junk, .junk, .junk, .junk, .junk, .junk, .junk, .junk, .junk], [], [(0, .cells [.string ⟨#[]⟩, .int .i64 (0), .int .i64 (0), .pl .acts [], .pl .ints []] 1 0), (1, .cells [.string ⟨#[]⟩, .int .i64 (0), .int .i64 (0), .pl .acts [], .pl .ints []] 1 0), (10, .cells [.int .i64 (0), .int .i64 (0), .int .i64 (0), .int .i64 (0), .int .i64 (0), .int .i64 (0)] 1 0)], 16⟩
set_option maxRecDepth 100000 in
theorem ci_round (k : Nat) (x : Bool) (A0 : List DAct) (m i : Int) (B0 : List DAct) (n j : Int) (nm : ByteArray) (bg cm : Int) (A : List DAct) (l : List Int) (nm' : ByteArray) (bg' cm' : Int) (B : List DAct) (l' : List Int) (o kk a b rk rn : Int) : (rounds Tryz.prog ctnE [] 30 ctIId 16 none ctI (k + 1) [.b x, .l .acts A0, .i m, .i i, .l .acts B0, .i n, .i j, .s nm, .i bg, .i cm, .l .acts A, .l .ints l, .s nm', .i bg', .i cm', .l .acts B, .l .ints l', .i o, .i kk, .i a, .i b, .i rk, .i rn]).ev = T.ev (
     .ite (decide (j < n))
      (.ite (inRange j B0.length)
       (.ite (!acB (DAct.mk o (DOp.mk kk a b (DRet.mk rk rn))) (DAct.mk (B0.getD j.toNat RC.acts.zero).object (DOp.mk (B0.getD j.toNat RC.acts.zero).op.kind (B0.getD j.toNat RC.acts.zero).op.a (B0.getD j.toNat RC.acts.zero).op.b (DRet.mk (B0.getD j.toNat RC.acts.zero).op.ret.kind (B0.getD j.toNat RC.acts.zero).op.ret.n))))
        (outAt .ret ciOut0 [.b false, .l .acts (A0), .i (m), .i (i), .s (nm), .i (bg), .i (cm), .l .acts (A), .l .ints (l), .s (nm'), .i (bg'), .i (cm'), .l .acts (B), .l .ints (l'), .i (o), .i (kk), .i (a), .i (b), .i (rk), .i (rn)])
        (rounds Tryz.prog ctnE [] 30 ctIId 16 none ctI k [.b (x), .l .acts (A0), .i (m), .i (i), .l .acts (B0), .i (n), .i (IntKind.i64.wrap (j + (1 : Int))), .s (nm), .i (bg), .i (cm), .l .acts (A), .l .ints (l), .s (nm'), .i (bg'), .i (cm'), .l .acts (B), .l .ints (l'), .i (o), .i (kk), .i (a), .i (b), .i (rk), .i (rn)]))
       (.fail))
      (outAt (.exit 2) ciOut0 [.b (x), .l .acts (A0), .i (m), .i (i), .s (nm), .i (bg), .i (cm), .l .acts (A), .l .ints (l), .s (nm'), .i (bg'), .i (cm'), .l .acts (B), .l .ints (l'), .i (o), .i (kk), .i (a), .i (b), .i (rk), .i (rn)])) := by kernel_rfl
def ri2Out0 : NSt := ⟨[.junk, .junk, .pointer (some ⟨0, 0, none⟩), .pointer (some ⟨1, 0, none⟩), .bool false, .int .i64 (0), .junk, .junk, .junk, .junk, .junk, .junk, .junk, .junk, .junk, .junk, .junk, .junk, .junk, .junk, .junk, .junk, .junk, .junk, .junk, .junk, .junk, .junk, .junk, .junk, .junk, .junk, .junk], [], [(0, .cells [.string ⟨#[]⟩, .int .i64 (0), .int .i64 (0), .pl .acts [], .pl .ints []] 1 0), (1, .cells [.string ⟨#[]⟩, .int .i64 (0), .int .i64 (0), .pl .acts [], .pl .ints []] 1 0)], 10⟩
set_option maxRecDepth 100000 in
theorem ri2_round (k : Nat) (x : Bool) (i j : Int) (nm : ByteArray) (bg cm : Int) (A : List DAct) (l : List Int) (nm' : ByteArray) (bg' cm' : Int) (B : List DAct) (l' : List Int) : (rounds Tryz.prog ctnE [] 30 rtIId 10 none rtI (k + 1) [.b x, .i i, .i j, .s nm, .i bg, .i cm, .l .acts A, .l .ints l, .s nm', .i bg', .i cm', .l .acts B, .l .ints l']).ev = T.ev (
     .ite (decide (j < (↑B.length : Int)))
      (.ite (inRange i A.length)
       (.ite (inRange j B.length)
        (.ite (!acB (DAct.mk (A.getD i.toNat RC.acts.zero).object (DOp.mk (A.getD i.toNat RC.acts.zero).op.kind (A.getD i.toNat RC.acts.zero).op.a (A.getD i.toNat RC.acts.zero).op.b (DRet.mk (A.getD i.toNat RC.acts.zero).op.ret.kind (A.getD i.toNat RC.acts.zero).op.ret.n))) (DAct.mk (B.getD j.toNat RC.acts.zero).object (DOp.mk (B.getD j.toNat RC.acts.zero).op.kind (B.getD j.toNat RC.acts.zero).op.a (B.getD j.toNat RC.acts.zero).op.b (DRet.mk (B.getD j.toNat RC.acts.zero).op.ret.kind (B.getD j.toNat RC.acts.zero).op.ret.n))))
         (outAt .ret ri2Out0 [.b false, .i (i), .s (nm), .i (bg), .i (cm), .l .acts (A), .l .ints (l), .s (nm'), .i (bg'), .i (cm'), .l .acts (B), .l .ints (l')])
         (rounds Tryz.prog ctnE [] 30 rtIId 10 none rtI k [.b (x), .i (i), .i (IntKind.i64.wrap (j + (1 : Int))), .s (nm), .i (bg), .i (cm), .l .acts (A), .l .ints (l), .s (nm'), .i (bg'), .i (cm'), .l .acts (B), .l .ints (l')]))
        (.fail))
       (.fail))
      (outAt (.exit 2) ri2Out0 [.b (x), .i (i), .s (nm), .i (bg), .i (cm), .l .acts (A), .l .ints (l), .s (nm'), .i (bg'), .i (cm'), .l .acts (B), .l .ints (l')])) := by kernel_rfl
def soOut0 : NSt := ⟨[.junk, .junk, .junk, .junk, .bool false, .junk, .junk, .junk, .junk, .junk, .junk, .junk, .junk, .junk, .junk, .junk, .junk, .junk, .junk, .junk, .junk, .junk, .junk, .junk, .junk, .junk, .junk, .junk, .junk, .junk, .junk, .junk, .junk, .junk, .junk, .junk, .junk, .junk, .junk, .junk, .junk, .junk, .junk, .junk, .junk, .junk, .junk, .junk, .junk, .junk, .junk, .junk, .junk, .junk, .junk, .junk, .junk, .junk, .junk, .junk], [], [(0, .cells [.string ⟨#[]⟩, .int .i64 (0), .int .i64 (0), .pl .acts [], .pl .ints []] 1 0), (1, .cells [.string ⟨#[]⟩, .int .i64 (0), .int .i64 (0), .pl .acts [], .pl .ints []] 1 0)], 40⟩
set_option maxRecDepth 100000 in
theorem so_round (k : Nat) (x : Bool) (i : Int) (nm : ByteArray) (bg cm : Int) (A : List DAct) (l : List Int) (nm' : ByteArray) (bg' cm' : Int) (B : List DAct) (l' : List Int) : (rounds Tryz.prog ctnE [] 30 stOId 40 none stO (k + 1) [.b x, .i i, .s nm, .i bg, .i cm, .l .acts A, .l .ints l, .s nm', .i bg', .i cm', .l .acts B, .l .ints l']).ev = T.ev (
     .ite (decide (i < (↑A.length : Int)))
      (.ite (inRange i A.length)
       (.ite (inRange i B.length)
        (.ite (!((A.getD i.toNat RC.acts.zero).object == (B.getD i.toNat RC.acts.zero).object && ((A.getD i.toNat RC.acts.zero).op.kind == (B.getD i.toNat RC.acts.zero).op.kind && ((A.getD i.toNat RC.acts.zero).op.a == (B.getD i.toNat RC.acts.zero).op.a && ((A.getD i.toNat RC.acts.zero).op.b == (B.getD i.toNat RC.acts.zero).op.b && ((A.getD i.toNat RC.acts.zero).op.ret.kind == (B.getD i.toNat RC.acts.zero).op.ret.kind && ((A.getD i.toNat RC.acts.zero).op.ret.n == (B.getD i.toNat RC.acts.zero).op.ret.n && true) && true))) && true)))
         (outAt .ret soOut0 [.b false, .s (nm), .i (bg), .i (cm), .l .acts (A), .l .ints (l), .s (nm'), .i (bg'), .i (cm'), .l .acts (B), .l .ints (l')])
         (rounds Tryz.prog ctnE [] 30 stOId 40 none stO k [.b (x), .i (IntKind.i64.wrap (i + (1 : Int))), .s (nm), .i (bg), .i (cm), .l .acts (A), .l .ints (l), .s (nm'), .i (bg'), .i (cm'), .l .acts (B), .l .ints (l')]))
        (.fail))
       (.fail))
      (outAt (.exit 0) soOut0 [.b (x), .s (nm), .i (bg), .i (cm), .l .acts (A), .l .ints (l), .s (nm'), .i (bg'), .i (cm'), .l .acts (B), .l .ints (l')])) := by kernel_rfl

def acAll (x : DAct) : List DAct → Bool
  | [] => true
  | y :: r => acB x y && acAll x r
theorem ci_rounds (x : Bool) (A0 : List DAct) (m i : Int) (B0 : List DAct) (nm : ByteArray) (bg cm : Int) (A : List DAct) (l : List Int) (nm' : ByteArray) (bg' cm' : Int) (B : List DAct) (l' : List Int) (o kk a b rk rn : Int) (hs : B0.length ≤ 1000000000) (r : CEx × NSt) : ∀ (d j : Nat), j + d = B0.length →
    (if acAll ⟨o, ⟨kk, a, b, ⟨rk, rn⟩⟩⟩ (B0.drop j) = true then outAt (.exit 2) ciOut0 [.b x, .l .acts A0, .i m, .i i, .s nm, .i bg, .i cm, .l .acts A, .l .ints l, .s nm', .i bg', .i cm', .l .acts B, .l .ints l', .i o, .i kk, .i a, .i b, .i rk, .i rn]
      else outAt .ret ciOut0 [.b false, .l .acts A0, .i m, .i i, .s nm, .i bg, .i cm, .l .acts A, .l .ints l, .s nm', .i bg', .i cm', .l .acts B, .l .ints l', .i o, .i kk, .i a, .i b, .i rk, .i rn]).ev = some r →
    ∃ k, (rounds Tryz.prog ctnE [] 30 ctIId 16 none ctI k [.b x, .l .acts A0, .i m, .i i, .l .acts B0, .i B0.length, .i j, .s nm, .i bg, .i cm, .l .acts A, .l .ints l, .s nm', .i bg', .i cm', .l .acts B, .l .ints l', .i o, .i kk, .i a, .i b, .i rk, .i rn]).ev = some r
  | 0, j, h, hr => ⟨1, by
    rw [ci_round, T.ev_ite, show decide ((j : Int) < (B0.length : Int)) = false by simp; omega]
    rw [List.drop_eq_nil_of_le (by omega), acAll, if_pos rfl] at hr
    exact hr⟩
  | d + 1, j, h, hr => by
    have h1 : (j : Int) < (B0.length : Int) := by omega
    have wi : IntKind.i64.wrap ((j : Int) + 1) = ((j + 1 : Nat) : Int) := (wrap64 (by omega) (by omega)).trans (by omega)
    have h3 : inRange (j : Int) B0.length = true := by rw [inRange_iff]; omega
    rw [getD_cons (l := B0) (i := j) (by omega) RC.acts.zero, acAll] at hr
    have eo : ∀ y : DAct, DAct.mk y.object (DOp.mk y.op.kind y.op.a y.op.b (DRet.mk y.op.ret.kind y.op.ret.n)) = y := fun y => rfl
    cases hq : acB ⟨o, ⟨kk, a, b, ⟨rk, rn⟩⟩⟩ (B0.getD j RC.acts.zero) with
    | true =>
      rw [hq, Bool.true_and] at hr
      obtain ⟨k, ih⟩ := ci_rounds x A0 m i B0 nm bg cm A l nm' bg' cm' B l' o kk a b rk rn hs r d (j + 1) (by omega) hr
      refine ⟨k + 1, ?_⟩
      rw [ci_round]
      simp only [T.ev_ite, wi, h1, h3, decide_true, if_true, Int.toNat_natCast, eo, hq, Bool.not_true, Bool.false_eq_true, if_false]
      exact ih
    | false =>
      rw [hq, Bool.false_and, if_neg Bool.false_ne_true] at hr
      refine ⟨1, ?_⟩
      rw [ci_round]
      simp only [T.ev_ite, wi, h1, h3, decide_true, if_true, Int.toNat_natCast, eo, hq, Bool.not_false]
      exact hr
def ciG : List Leaf → T (CEx × NSt)
  | [.b x, .l .acts A0, .i m, .i i, .l .acts B0, .i n, .i j, .s nm, .i bg, .i cm, .l .acts A, .l .ints l, .s nm', .i bg', .i cm', .l .acts B, .l .ints l', .i o, .i kk, .i a, .i b, .i rk, .i rn] =>
    T.when (j == 0 && n == (B0.length : Int) && small B0.length)
      (.ite (acAll ⟨o, ⟨kk, a, b, ⟨rk, rn⟩⟩⟩ B0) (outAt (.exit 2) ciOut0 [.b x, .l .acts A0, .i m, .i i, .s nm, .i bg, .i cm, .l .acts A, .l .ints l, .s nm', .i bg', .i cm', .l .acts B, .l .ints l', .i o, .i kk, .i a, .i b, .i rk, .i rn])
        (outAt .ret ciOut0 [.b false, .l .acts A0, .i m, .i i, .s nm, .i bg, .i cm, .l .acts A, .l .ints l, .s nm', .i bg', .i cm', .l .acts B, .l .ints l', .i o, .i kk, .i a, .i b, .i rk, .i rn]))
  | _ => .fail
theorem ci_shape : ShapeOk Tryz.prog ctnE [] ctIId ⟨16, none, ctI, ciG⟩ := by
  refine shapeOk_mk fun ls r h => ?_
  unfold ciG at h
  split at h
  · rename_i x A0 m i B0 n j nm bg cm A l nm' bg' cm' B l' o kk a b rk rn
    obtain ⟨hc, h1⟩ := ev_when h
    simp only [Bool.and_eq_true, beq_iff_eq, small_iff] at hc
    obtain ⟨⟨rfl, rfl⟩, hs⟩ := hc
    obtain ⟨k, hk⟩ := ci_rounds x A0 m i B0 nm bg cm A l nm' bg' cm' B l' o kk a b rk rn hs r B0.length 0 (by omega) (by
      rw [List.drop_zero]; rw [T.ev_ite] at h1; cases hu : acAll ⟨o, ⟨kk, a, b, ⟨rk, rn⟩⟩⟩ B0 <;> rw [hu] at h1 <;> exact h1)
    exact ⟨30, k, hk⟩
  · exact (ev_fail h).elim

theorem ri2_rounds (x : Bool) (i : Nat) (nm : ByteArray) (bg cm : Int) (A : List DAct) (l : List Int) (nm' : ByteArray) (bg' cm' : Int) (B : List DAct) (l' : List Int) (hi : i < A.length) (hA : A.length ≤ 1000000000) (hs : B.length ≤ 1000000000) (r : CEx × NSt) : ∀ (d j : Nat), j + d = B.length →
    (if acAll (A.getD i RC.acts.zero) (B.drop j) = true then outAt (.exit 2) ri2Out0 [.b x, .i i, .s nm, .i bg, .i cm, .l .acts A, .l .ints l, .s nm', .i bg', .i cm', .l .acts B, .l .ints l']
      else outAt .ret ri2Out0 [.b false, .i i, .s nm, .i bg, .i cm, .l .acts A, .l .ints l, .s nm', .i bg', .i cm', .l .acts B, .l .ints l']).ev = some r →
    ∃ k, (rounds Tryz.prog ctnE [] 30 rtIId 10 none rtI k [.b x, .i i, .i j, .s nm, .i bg, .i cm, .l .acts A, .l .ints l, .s nm', .i bg', .i cm', .l .acts B, .l .ints l']).ev = some r
  | 0, j, h, hr => ⟨1, by
    rw [ri2_round, T.ev_ite, show decide ((j : Int) < (B.length : Int)) = false by simp; omega]
    rw [List.drop_eq_nil_of_le (by omega), acAll, if_pos rfl] at hr
    exact hr⟩
  | d + 1, j, h, hr => by
    have h1 : (j : Int) < (B.length : Int) := by omega
    have wi : IntKind.i64.wrap ((j : Int) + 1) = ((j + 1 : Nat) : Int) := (wrap64 (by omega) (by omega)).trans (by omega)
    have h3 : inRange (j : Int) B.length = true := by rw [inRange_iff]; omega
    have h4 : inRange (i : Int) A.length = true := by rw [inRange_iff]; omega
    rw [getD_cons (l := B) (i := j) (by omega) RC.acts.zero, acAll] at hr
    have eo : ∀ y : DAct, DAct.mk y.object (DOp.mk y.op.kind y.op.a y.op.b (DRet.mk y.op.ret.kind y.op.ret.n)) = y := fun y => rfl
    cases hq : acB (A.getD i RC.acts.zero) (B.getD j RC.acts.zero) with
    | true =>
      rw [hq, Bool.true_and] at hr
      obtain ⟨k, ih⟩ := ri2_rounds x i nm bg cm A l nm' bg' cm' B l' hi hA hs r d (j + 1) (by omega) hr
      refine ⟨k + 1, ?_⟩
      rw [ri2_round]
      simp only [T.ev_ite, wi, h1, h3, h4, decide_true, if_true, Int.toNat_natCast, eo, hq, Bool.not_true, Bool.false_eq_true, if_false]
      exact ih
    | false =>
      rw [hq, Bool.false_and, if_neg Bool.false_ne_true] at hr
      refine ⟨1, ?_⟩
      rw [ri2_round]
      simp only [T.ev_ite, wi, h1, h3, h4, decide_true, if_true, Int.toNat_natCast, eo, hq, Bool.not_false]
      exact hr
def ri2G : List Leaf → T (CEx × NSt)
  | [.b x, .i i, .i j, .s nm, .i bg, .i cm, .l .acts A, .l .ints l, .s nm', .i bg', .i cm', .l .acts B, .l .ints l'] =>
    T.when (j == 0 && (inRange i A.length && small A.length) && small B.length)
      (.ite (acAll (A.getD i.toNat RC.acts.zero) B) (outAt (.exit 2) ri2Out0 [.b x, .i i, .s nm, .i bg, .i cm, .l .acts A, .l .ints l, .s nm', .i bg', .i cm', .l .acts B, .l .ints l'])
        (outAt .ret ri2Out0 [.b false, .i i, .s nm, .i bg, .i cm, .l .acts A, .l .ints l, .s nm', .i bg', .i cm', .l .acts B, .l .ints l']))
  | _ => .fail
theorem ri2_shape : ShapeOk Tryz.prog ctnE [] rtIId ⟨10, none, rtI, ri2G⟩ := by
  refine shapeOk_mk fun ls r h => ?_
  unfold ri2G at h
  split at h
  · rename_i x i j nm bg cm A l nm' bg' cm' B l'
    obtain ⟨hc, h1⟩ := ev_when h
    simp only [Bool.and_eq_true, beq_iff_eq, small_iff, inRange_iff] at hc
    obtain ⟨⟨rfl, hi, hA⟩, hs⟩ := hc
    obtain ⟨i, rfl⟩ := Int.eq_ofNat_of_zero_le hi.1
    rw [Int.toNat_natCast] at h1
    obtain ⟨k, hk⟩ := ri2_rounds x i nm bg cm A l nm' bg' cm' B l' (by omega) hA hs r B.length 0 (by omega) (by
      rw [List.drop_zero]; rw [T.ev_ite] at h1; cases hu : acAll (A.getD i RC.acts.zero) B <;> rw [hu] at h1 <;> exact h1)
    exact ⟨30, k, hk⟩
  · exact (ev_fail h).elim

theorem act_beq (x y : DAct) : (x.object == y.object && (x.op.kind == y.op.kind && (x.op.a == y.op.a && (x.op.b == y.op.b && (x.op.ret.kind == y.op.ret.kind && (x.op.ret.n == y.op.ret.n && true) && true))) && true)) = decide (x = y) := by
  obtain ⟨o, ⟨k, a, b, ⟨rk, rn⟩⟩⟩ := x
  obtain ⟨o', ⟨k', a', b', ⟨rk', rn'⟩⟩⟩ := y
  rw [Bool.eq_iff_iff]
  simp only [Bool.and_eq_true, beq_iff_eq, decide_eq_true_eq, DAct.mk.injEq, DOp.mk.injEq, DRet.mk.injEq, and_true]
theorem dec_cons {α : Type} [DecidableEq α] (x y : α) (r s : List α) : decide (x :: r = y :: s) = (decide (x = y) && decide (r = s)) := by
  rw [Bool.eq_iff_iff]; simp
theorem so_rounds (x : Bool) (nm : ByteArray) (bg cm : Int) (A : List DAct) (l : List Int) (nm' : ByteArray) (bg' cm' : Int) (B : List DAct) (l' : List Int) (hAB : A.length = B.length) (hs : A.length ≤ 1000000000) (r : CEx × NSt) : ∀ (d i : Nat), i + d = A.length →
    (if decide (A.drop i = B.drop i) = true then outAt (.exit 0) soOut0 [.b x, .s nm, .i bg, .i cm, .l .acts A, .l .ints l, .s nm', .i bg', .i cm', .l .acts B, .l .ints l']
      else outAt .ret soOut0 [.b false, .s nm, .i bg, .i cm, .l .acts A, .l .ints l, .s nm', .i bg', .i cm', .l .acts B, .l .ints l']).ev = some r →
    ∃ k, (rounds Tryz.prog ctnE [] 30 stOId 40 none stO k [.b x, .i i, .s nm, .i bg, .i cm, .l .acts A, .l .ints l, .s nm', .i bg', .i cm', .l .acts B, .l .ints l']).ev = some r
  | 0, i, h, hr => ⟨1, by
    rw [so_round, T.ev_ite, show decide ((i : Int) < (A.length : Int)) = false by simp; omega]
    rw [List.drop_eq_nil_of_le (by omega), List.drop_eq_nil_of_le (by omega), decide_eq_true rfl, if_pos rfl] at hr
    exact hr⟩
  | d + 1, i, h, hr => by
    have h1 : (i : Int) < (A.length : Int) := by omega
    have wi : IntKind.i64.wrap ((i : Int) + 1) = ((i + 1 : Nat) : Int) := (wrap64 (by omega) (by omega)).trans (by omega)
    have h3 : inRange (i : Int) A.length = true := by rw [inRange_iff]; omega
    have h4 : inRange (i : Int) B.length = true := by rw [inRange_iff]; omega
    rw [getD_cons (l := A) (i := i) (by omega) RC.acts.zero, getD_cons (l := B) (i := i) (by omega) RC.acts.zero, dec_cons] at hr
    by_cases hq : A.getD i RC.acts.zero = B.getD i RC.acts.zero
    · rw [decide_eq_true hq, Bool.true_and] at hr
      obtain ⟨k, ih⟩ := so_rounds x nm bg cm A l nm' bg' cm' B l' hAB hs r d (i + 1) (by omega) hr
      refine ⟨k + 1, ?_⟩
      rw [so_round]
      simp only [T.ev_ite, wi, h1, h3, h4, decide_true, if_true, Int.toNat_natCast, act_beq, hq, Bool.not_true, Bool.false_eq_true, if_false]
      exact ih
    · rw [decide_eq_false hq, Bool.false_and, if_neg Bool.false_ne_true] at hr
      refine ⟨1, ?_⟩
      rw [so_round]
      simp only [T.ev_ite, wi, h1, h3, h4, decide_true, if_true, Int.toNat_natCast, act_beq, hq, decide_false, Bool.not_false]
      exact hr
def soG : List Leaf → T (CEx × NSt)
  | [.b x, .i i, .s nm, .i bg, .i cm, .l .acts A, .l .ints l, .s nm', .i bg', .i cm', .l .acts B, .l .ints l'] =>
    T.when (i == 0 && Nat.beq A.length B.length && small A.length)
      (.ite (decide (A = B)) (outAt (.exit 0) soOut0 [.b x, .s nm, .i bg, .i cm, .l .acts A, .l .ints l, .s nm', .i bg', .i cm', .l .acts B, .l .ints l'])
        (outAt .ret soOut0 [.b false, .s nm, .i bg, .i cm, .l .acts A, .l .ints l, .s nm', .i bg', .i cm', .l .acts B, .l .ints l']))
  | _ => .fail
theorem so_shape : ShapeOk Tryz.prog ctnE [] stOId ⟨40, none, stO, soG⟩ := by
  refine shapeOk_mk fun ls r h => ?_
  unfold soG at h
  split at h
  · rename_i x i nm bg cm A l nm' bg' cm' B l'
    obtain ⟨hc, h1⟩ := ev_when h
    simp only [Bool.and_eq_true, beq_iff_eq, small_iff, Nat.beq_eq] at hc
    obtain ⟨⟨rfl, hAB⟩, hs⟩ := hc
    obtain ⟨k, hk⟩ := so_rounds x nm bg cm A l nm' bg' cm' B l' hAB hs r A.length 0 (by omega) (by
      rw [List.drop_zero, List.drop_zero]; rw [T.ev_ite] at h1; by_cases hu : A = B
      · rw [decide_eq_true hu] at h1 ⊢; exact h1
      · rw [decide_eq_false hu] at h1 ⊢; exact h1)
    exact ⟨30, k, hk⟩
  · exact (ev_fail h).elim
def ctnL : List (Nat × List Nat × LoopFn) := [(16, [0, 1, 1, 0, 0, 1, 1, 0, 0, 1, 0, 1], loopExt ctIId [⟨16, none, ctI, ciG⟩]), (17, [0, 1, 0, 0, 1, 0, 0, 1, 0, 1], loopExt rtIId [⟨10, none, rtI, ri2G⟩]), (18, [0, 1, 0, 1, 1], loopExt stOId [⟨40, none, stO, soG⟩])]
theorem ctnL_ok (N : Nat) : LoopsOk Tryz.prog N ctnL := loopsOk_cons (loopExt_ok plainN mixedN ctnE_ok (fun _ => loopsOk_nil) (all1 ci_shape all0) N) (loopsOk_cons (loopExt_ok plainN mixedN ctnE_ok (fun _ => loopsOk_nil) (all1 ri2_shape all0) N) (loopsOk_cons (loopExt_ok plainN mixedN ctnE_ok (fun _ => loopsOk_nil) (all1 so_shape all0) N) loopsOk_nil))

def coOut0 : NSt := ⟨[.junk, .junk, .junk, .junk, .bool false, .junk, .junk, .junk, .junk, .junk, .junk, .junk, .junk, .junk, .junk, .junk, .junk, .junk, .junk, .junk, .junk, .junk, .junk, .junk, .junk, .junk, .junk, .junk, .junk], [], [(0, .cells [.string ⟨#[]⟩, .int .i64 (0), .int .i64 (0), .pl .acts [], .pl .ints []] 1 0), (1, .cells [.string ⟨#[]⟩, .int .i64 (0), .int .i64 (0), .pl .acts [], .pl .ints []] 1 0)], 7⟩
set_option maxRecDepth 100000 in
theorem co_round (k : Nat) (x : Bool) (A0 : List DAct) (m i : Int) (nm : ByteArray) (bg cm : Int) (A : List DAct) (l : List Int) (nm' : ByteArray) (bg' cm' : Int) (B : List DAct) (l' : List Int) : (rounds Tryz.prog ctnE ctnL 30 ctOId 7 none ctO (k + 1) [.b x, .l .acts A0, .i m, .i i, .s nm, .i bg, .i cm, .l .acts A, .l .ints l, .s nm', .i bg', .i cm', .l .acts B, .l .ints l']).ev = T.ev (
     .ite (decide (i < m))
      (.ite (inRange i A0.length)
       (.ite ((0 : Int) == (0 : Int) && (↑B.length : Int) == (↑B.length : Int) && small B.length)
        (.ite (acAll (DAct.mk (A0.getD i.toNat RC.acts.zero).object (DOp.mk (A0.getD i.toNat RC.acts.zero).op.kind (A0.getD i.toNat RC.acts.zero).op.a (A0.getD i.toNat RC.acts.zero).op.b (DRet.mk (A0.getD i.toNat RC.acts.zero).op.ret.kind (A0.getD i.toNat RC.acts.zero).op.ret.n))) B)
         (rounds Tryz.prog ctnE ctnL 30 ctOId 7 none ctO k [.b (x), .l .acts (A0), .i (m), .i (IntKind.i64.wrap (i + (1 : Int))), .s (nm), .i (bg), .i (cm), .l .acts (A), .l .ints (l), .s (nm'), .i (bg'), .i (cm'), .l .acts (B), .l .ints (l')])
         (outAt .ret coOut0 [.b false, .s (nm), .i (bg), .i (cm), .l .acts (A), .l .ints (l), .s (nm'), .i (bg'), .i (cm'), .l .acts (B), .l .ints (l')]))
        (.fail))
       (.fail))
      (outAt (.exit 0) coOut0 [.b (x), .s (nm), .i (bg), .i (cm), .l .acts (A), .l .ints (l), .s (nm'), .i (bg'), .i (cm'), .l .acts (B), .l .ints (l')])) := by kernel_rfl
def roOut0 : NSt := ⟨[.junk, .junk, .junk, .junk, .bool false, .junk, .junk, .junk, .junk, .junk, .junk, .junk, .junk, .junk, .junk, .junk, .junk, .junk, .junk, .junk, .junk, .junk, .junk, .junk, .junk, .junk, .junk, .junk, .junk, .junk, .junk, .junk, .junk], [], [(0, .cells [.string ⟨#[]⟩, .int .i64 (0), .int .i64 (0), .pl .acts [], .pl .ints []] 1 0), (1, .cells [.string ⟨#[]⟩, .int .i64 (0), .int .i64 (0), .pl .acts [], .pl .ints []] 1 0)], 4⟩
set_option maxRecDepth 100000 in
theorem ro_round (k : Nat) (x : Bool) (i : Int) (nm : ByteArray) (bg cm : Int) (A : List DAct) (l : List Int) (nm' : ByteArray) (bg' cm' : Int) (B : List DAct) (l' : List Int) : (rounds Tryz.prog ctnE ctnL 30 rtOId 4 none rtO (k + 1) [.b x, .i i, .s nm, .i bg, .i cm, .l .acts A, .l .ints l, .s nm', .i bg', .i cm', .l .acts B, .l .ints l']).ev = T.ev (
     .ite (decide (i < (↑A.length : Int)))
      (.ite ((0 : Int) == (0 : Int) && (inRange i A.length && small A.length) && small B.length)
       (.ite (acAll (A.getD i.toNat RC.acts.zero) B)
        (rounds Tryz.prog ctnE ctnL 30 rtOId 4 none rtO k [.b (x), .i (IntKind.i64.wrap (i + (1 : Int))), .s (nm), .i (bg), .i (cm), .l .acts (A), .l .ints (l), .s (nm'), .i (bg'), .i (cm'), .l .acts (B), .l .ints (l')])
        (outAt .ret roOut0 [.b false, .s (nm), .i (bg), .i (cm), .l .acts (A), .l .ints (l), .s (nm'), .i (bg'), .i (cm'), .l .acts (B), .l .ints (l')]))
       (.fail))
      (outAt (.exit 0) roOut0 [.b (x), .s (nm), .i (bg), .i (cm), .l .acts (A), .l .ints (l), .s (nm'), .i (bg'), .i (cm'), .l .acts (B), .l .ints (l')])) := by kernel_rfl

def trB : List DAct → List DAct → Bool
  | [], _ => true
  | x :: r, B => acAll x B && trB r B
theorem co_rounds (x : Bool) (A0 : List DAct) (nm : ByteArray) (bg cm : Int) (A : List DAct) (l : List Int) (nm' : ByteArray) (bg' cm' : Int) (B : List DAct) (l' : List Int) (hs : A0.length ≤ 1000000000) (hB : small B.length = true) (r : CEx × NSt) : ∀ (d i : Nat), i + d = A0.length →
    (if trB (A0.drop i) B = true then outAt (.exit 0) coOut0 [.b x, .s nm, .i bg, .i cm, .l .acts A, .l .ints l, .s nm', .i bg', .i cm', .l .acts B, .l .ints l']
      else outAt .ret coOut0 [.b false, .s nm, .i bg, .i cm, .l .acts A, .l .ints l, .s nm', .i bg', .i cm', .l .acts B, .l .ints l']).ev = some r →
    ∃ k, (rounds Tryz.prog ctnE ctnL 30 ctOId 7 none ctO k [.b x, .l .acts A0, .i A0.length, .i i, .s nm, .i bg, .i cm, .l .acts A, .l .ints l, .s nm', .i bg', .i cm', .l .acts B, .l .ints l']).ev = some r
  | 0, i, h, hr => ⟨1, by
    rw [co_round, T.ev_ite, show decide ((i : Int) < (A0.length : Int)) = false by simp; omega]
    rw [List.drop_eq_nil_of_le (by omega), trB, if_pos rfl] at hr
    exact hr⟩
  | d + 1, i, h, hr => by
    have h1 : (i : Int) < (A0.length : Int) := by omega
    have wi : IntKind.i64.wrap ((i : Int) + 1) = ((i + 1 : Nat) : Int) := (wrap64 (by omega) (by omega)).trans (by omega)
    have h3 : inRange (i : Int) A0.length = true := by rw [inRange_iff]; omega
    rw [getD_cons (l := A0) (i := i) (by omega) RC.acts.zero, trB] at hr
    have eo : ∀ y : DAct, DAct.mk y.object (DOp.mk y.op.kind y.op.a y.op.b (DRet.mk y.op.ret.kind y.op.ret.n)) = y := fun y => rfl
    cases hq : acAll (A0.getD i RC.acts.zero) B with
    | true =>
      rw [hq, Bool.true_and] at hr
      obtain ⟨k, ih⟩ := co_rounds x A0 nm bg cm A l nm' bg' cm' B l' hs hB r d (i + 1) (by omega) hr
      refine ⟨k + 1, ?_⟩
      rw [co_round]
      simp only [T.ev_ite, wi, h1, h3, hB, decide_true, if_true, Int.toNat_natCast, eo, hq, beq_self_eq_true, Bool.and_self]
      exact ih
    | false =>
      rw [hq, Bool.false_and, if_neg Bool.false_ne_true] at hr
      refine ⟨1, ?_⟩
      rw [co_round]
      simp only [T.ev_ite, wi, h1, h3, hB, decide_true, if_true, Int.toNat_natCast, eo, hq, beq_self_eq_true, Bool.and_self, Bool.false_eq_true, if_false]
      exact hr
def coG : List Leaf → T (CEx × NSt)
  | [.b x, .l .acts A0, .i m, .i i, .s nm, .i bg, .i cm, .l .acts A, .l .ints l, .s nm', .i bg', .i cm', .l .acts B, .l .ints l'] =>
    T.when (i == 0 && m == (A0.length : Int) && small A0.length && small B.length)
      (.ite (trB A0 B) (outAt (.exit 0) coOut0 [.b x, .s nm, .i bg, .i cm, .l .acts A, .l .ints l, .s nm', .i bg', .i cm', .l .acts B, .l .ints l'])
        (outAt .ret coOut0 [.b false, .s nm, .i bg, .i cm, .l .acts A, .l .ints l, .s nm', .i bg', .i cm', .l .acts B, .l .ints l']))
  | _ => .fail
theorem co_shape : ShapeOk Tryz.prog ctnE ctnL ctOId ⟨7, none, ctO, coG⟩ := by
  refine shapeOk_mk fun ls r h => ?_
  unfold coG at h
  split at h
  · rename_i x A0 m i nm bg cm A l nm' bg' cm' B l'
    obtain ⟨hc, h1⟩ := ev_when h
    simp only [Bool.and_eq_true, beq_iff_eq] at hc
    obtain ⟨⟨⟨rfl, rfl⟩, hs⟩, hB⟩ := hc
    obtain ⟨k, hk⟩ := co_rounds x A0 nm bg cm A l nm' bg' cm' B l' (small_iff.1 hs) hB r A0.length 0 (by omega) (by
      rw [List.drop_zero]; rw [T.ev_ite] at h1; cases hu : trB A0 B <;> rw [hu] at h1 <;> exact h1)
    exact ⟨30, k, hk⟩
  · exact (ev_fail h).elim
theorem ro_rounds (x : Bool) (nm : ByteArray) (bg cm : Int) (A : List DAct) (l : List Int) (nm' : ByteArray) (bg' cm' : Int) (B : List DAct) (l' : List Int) (hs : small A.length = true) (hB : small B.length = true) (r : CEx × NSt) : ∀ (d i : Nat), i + d = A.length →
    (if trB (A.drop i) B = true then outAt (.exit 0) roOut0 [.b x, .s nm, .i bg, .i cm, .l .acts A, .l .ints l, .s nm', .i bg', .i cm', .l .acts B, .l .ints l']
      else outAt .ret roOut0 [.b false, .s nm, .i bg, .i cm, .l .acts A, .l .ints l, .s nm', .i bg', .i cm', .l .acts B, .l .ints l']).ev = some r →
    ∃ k, (rounds Tryz.prog ctnE ctnL 30 rtOId 4 none rtO k [.b x, .i i, .s nm, .i bg, .i cm, .l .acts A, .l .ints l, .s nm', .i bg', .i cm', .l .acts B, .l .ints l']).ev = some r
  | 0, i, h, hr => ⟨1, by
    rw [ro_round, T.ev_ite, show decide ((i : Int) < (A.length : Int)) = false by simp; omega]
    rw [List.drop_eq_nil_of_le (by omega), trB, if_pos rfl] at hr
    exact hr⟩
  | d + 1, i, h, hr => by
    have hs' := small_iff.1 hs
    have h1 : (i : Int) < (A.length : Int) := by omega
    have wi : IntKind.i64.wrap ((i : Int) + 1) = ((i + 1 : Nat) : Int) := (wrap64 (by omega) (by omega)).trans (by omega)
    have h3 : inRange (i : Int) A.length = true := by rw [inRange_iff]; omega
    rw [getD_cons (l := A) (i := i) (by omega) RC.acts.zero, trB] at hr
    cases hq : acAll (A.getD i RC.acts.zero) B with
    | true =>
      rw [hq, Bool.true_and] at hr
      obtain ⟨k, ih⟩ := ro_rounds x nm bg cm A l nm' bg' cm' B l' hs hB r d (i + 1) (by omega) hr
      refine ⟨k + 1, ?_⟩
      rw [ro_round]
      simp only [T.ev_ite, wi, h1, h3, hs, hB, decide_true, if_true, Int.toNat_natCast, hq, beq_self_eq_true, Bool.and_self]
      exact ih
    | false =>
      rw [hq, Bool.false_and, if_neg Bool.false_ne_true] at hr
      refine ⟨1, ?_⟩
      rw [ro_round]
      simp only [T.ev_ite, wi, h1, h3, hs, hB, decide_true, if_true, Int.toNat_natCast, hq, beq_self_eq_true, Bool.and_self, Bool.false_eq_true, if_false]
      exact hr
def roG : List Leaf → T (CEx × NSt)
  | [.b x, .i i, .s nm, .i bg, .i cm, .l .acts A, .l .ints l, .s nm', .i bg', .i cm', .l .acts B, .l .ints l'] =>
    T.when (i == 0 && small A.length && small B.length)
      (.ite (trB A B) (outAt (.exit 0) roOut0 [.b x, .s nm, .i bg, .i cm, .l .acts A, .l .ints l, .s nm', .i bg', .i cm', .l .acts B, .l .ints l'])
        (outAt .ret roOut0 [.b false, .s nm, .i bg, .i cm, .l .acts A, .l .ints l, .s nm', .i bg', .i cm', .l .acts B, .l .ints l']))
  | _ => .fail
theorem ro_shape : ShapeOk Tryz.prog ctnE ctnL rtOId ⟨4, none, rtO, roG⟩ := by
  refine shapeOk_mk fun ls r h => ?_
  unfold roG at h
  split at h
  · rename_i x i nm bg cm A l nm' bg' cm' B l'
    obtain ⟨hc, h1⟩ := ev_when h
    simp only [Bool.and_eq_true, beq_iff_eq] at hc
    obtain ⟨⟨rfl, hs⟩, hB⟩ := hc
    obtain ⟨k, hk⟩ := ro_rounds x nm bg cm A l nm' bg' cm' B l' hs hB r A.length 0 (by omega) (by
      rw [List.drop_zero]; rw [T.ev_ite] at h1; cases hu : trB A B <;> rw [hu] at h1 <;> exact h1)
    exact ⟨30, k, hk⟩
  · exact (ev_fail h).elim
def ctnL2 : List (Nat × List Nat × LoopFn) := (16, [0, 1, 0, 1], loopExt ctOId [⟨7, none, ctO, coG⟩]) :: (17, [0, 1, 0, 1], loopExt rtOId [⟨4, none, rtO, roG⟩]) :: ctnL
theorem ctnL2_ok (N : Nat) : LoopsOk Tryz.prog N ctnL2 := loopsOk_cons (loopExt_ok plainN mixedN ctnE_ok ctnL_ok (all1 co_shape all0) N) (loopsOk_cons (loopExt_ok plainN mixedN ctnE_ok ctnL_ok (all1 ro_shape all0) N) (ctnL_ok N))

set_option maxRecDepth 100000 in
theorem ctrans_tree (nm : ByteArray) (bg cm : Int) (A : List DAct) (l : List Int) (nm' : ByteArray) (bg' cm' : Int) (B : List DAct) (l' : List Int) : (((tden Tryz.prog ctnE ctnL2 30).call 0 16 [.agg #[.string nm, .int .i64 bg, .int .i64 cm, .pl .acts A, .pl .ints l], .agg #[.string nm', .int .i64 bg', .int .i64 cm', .pl .acts B, .pl .ints l']] ⟨.nil, 0⟩).pure.cut
    (.ite (.ite (.all) (.all)) (.all))).ev = T.ev (α := CV) (
     .ite ((0 : Int) == (0 : Int) && (↑A.length : Int) == (↑A.length : Int) && small A.length && small B.length)
      (.ite (trB A B)
       (.ret (.bool true))
       (.ret (.bool false)))
      (.fail)) := by kernel_rfl
set_option maxRecDepth 100000 in
theorem rtrans_tree (nm : ByteArray) (bg cm : Int) (A : List DAct) (l : List Int) (nm' : ByteArray) (bg' cm' : Int) (B : List DAct) (l' : List Int) : (((tden Tryz.prog ctnE ctnL2 30).call 0 17 [.agg #[.string nm, .int .i64 bg, .int .i64 cm, .pl .acts A, .pl .ints l], .agg #[.string nm', .int .i64 bg', .int .i64 cm', .pl .acts B, .pl .ints l']] ⟨.nil, 0⟩).pure.cut
    (.ite (.ite (.all) (.all)) (.all))).ev = T.ev (α := CV) (
     .ite ((0 : Int) == (0 : Int) && small A.length && small B.length)
      (.ite (trB A B)
       (.ret (.bool true))
       (.ret (.bool false)))
      (.fail)) := by kernel_rfl
set_option maxRecDepth 100000 in
theorem strans_tree (nm : ByteArray) (bg cm : Int) (A : List DAct) (l : List Int) (nm' : ByteArray) (bg' cm' : Int) (B : List DAct) (l' : List Int) : (((tden Tryz.prog ctnE ctnL2 30).call 0 18 [.agg #[.string nm, .int .i64 bg, .int .i64 cm, .pl .acts A, .pl .ints l], .agg #[.string nm', .int .i64 bg', .int .i64 cm', .pl .acts B, .pl .ints l']] ⟨.nil, 0⟩).pure.cut
    (.ite (.yes (.yes (.yes (.yes (.yes (.yes (.yes (.yes (.yes (.yes (.yes (.yes (.yes (.yes (.yes (.yes (.yes (.yes (.yes (.yes (.yes (.yes (.yes (.yes (.yes (.yes (.yes (.all)))))))))))))))))))))))))))) (.no (.no (.no (.no (.ite (.yes (.yes (.yes (.yes (.yes (.yes (.yes (.yes (.yes (.yes (.yes (.yes (.yes (.yes (.yes (.yes (.yes (.yes (.yes (.yes (.yes (.all)))))))))))))))))))))) (.no (.no (.no (.no (.ite (.yes (.yes (.yes (.yes (.yes (.yes (.yes (.yes (.yes (.yes (.yes (.yes (.yes (.yes (.yes (.all)))))))))))))))) (.no (.no (.no (.no (.no (.no (.ite (.yes (.yes (.yes (.yes (.yes (.yes (.yes (.all)))))))) (.no (.no (.no (.no (.ite (.no (.ite (.all) (.ite (.ite (.all) (.all)) (.all)))) (.all))))))))))))))))))))))))).ev = T.ev (α := CV) (
     .ite (!nm.toList == nm'.toList)
      (.ret (.bool false))
      (.ite (bg != bg')
       (.ret (.bool false))
       (.ite (cm != cm')
        (.ret (.bool false))
        (.ite ((↑A.length : Int) != (↑B.length : Int))
         (.ret (.bool false))
         (.ite (small l.length)
          (.ite (!l == l')
           (.ret (.bool false))
           (.ite ((0 : Int) == (0 : Int) && A.length.beq B.length && small A.length)
            (.ite (decide (A = B))
             (.ret (.bool true))
             (.ret (.bool false)))
            (.fail)))
          (.fail)))))) := by kernel_rfl

def sgTr : Sg := .agg [.any, .any, .any, .l .acts, .l .ints]
def ctransG : List CV → T CV
  | [.agg ⟨[.string nm, .int .i64 bg, .int .i64 cm, .pl .acts A, .pl .ints l]⟩, .agg ⟨[.string nm', .int .i64 bg', .int .i64 cm', .pl .acts B, .pl .ints l']⟩] => T.when (small A.length && small B.length) (.ret (.bool (trB A B)))
  | _ => .fail
theorem ctrans_fn : PureFn Tryz.prog 16 (sigExt [sgTr, sgTr] ctransG) :=
  pureFn_mk (bodied_ex (by kernel_rfl)) fun args d h => by
    unfold ctransG at h
    split at h
    · rename_i nm bg cm A l nm' bg' cm' B l'
      obtain ⟨hc, h1⟩ := ev_when h
      cases ev_ret h1
      rw [Bool.and_eq_true] at hc
      refine pureAt0 plainN mixedN ctnE_ok ctnL2_ok (k := 30) ((ctrans_tree nm bg cm A l nm' bg' cm' B l').trans ?_) rfl
      simp only [T.ev_ite, T.ev_ret, hc.1, hc.2, beq_self_eq_true, Bool.and_self, if_true]
      cases trB A B <;> rfl
    · exact (ev_fail h).elim
theorem rtrans_fn : PureFn Tryz.prog 17 (sigExt [sgTr, sgTr] ctransG) :=
  pureFn_mk (bodied_ex (by kernel_rfl)) fun args d h => by
    unfold ctransG at h
    split at h
    · rename_i nm bg cm A l nm' bg' cm' B l'
      obtain ⟨hc, h1⟩ := ev_when h
      cases ev_ret h1
      rw [Bool.and_eq_true] at hc
      refine pureAt0 plainN mixedN ctnE_ok ctnL2_ok (k := 30) ((rtrans_tree nm bg cm A l nm' bg' cm' B l').trans ?_) rfl
      simp only [T.ev_ite, T.ev_ret, hc.1, hc.2, beq_self_eq_true, Bool.and_self, if_true]
      cases trB A B <;> rfl
    · exact (ev_fail h).elim
def cpTransG : List CV → T CV
  | [.agg ⟨[.string nm, .int .i64 bg, .int .i64 cm, .pl .acts A, .pl .ints l]⟩] => T.when (small A.length && small l.length) (.ret (.agg #[.string nm, .int .i64 bg, .int .i64 cm, .pl .acts A, .pl .ints l]))
  | _ => .fail
theorem cpTrans_fn : PureFn Tryz.prog 13 (sigExt [sgTr] cpTransG) :=
  pureFn_mk (bodied_ex (by kernel_rfl)) fun args d h => by
    unfold cpTransG at h
    split at h
    · rename_i nm bg cm A l
      obtain ⟨hc, h1⟩ := ev_when h
      cases ev_ret h1
      rw [Bool.and_eq_true] at hc
      refine pureAt0 plainN mixedN c18E_ok noL (k := 30) ((cpTrans_tree nm bg cm A l).trans ?_) rfl
      simp only [T.ev_ite, T.ev_ret, roomB_small hc.1 (b := 48) (by decide), hc.2, if_true]
    · exact (ev_fail h).elim
def sameTransB (nm : ByteArray) (bg cm : Int) (A : List DAct) (l : List Int) (nm' : ByteArray) (bg' cm' : Int) (B : List DAct) (l' : List Int) : Bool :=
  (nm.toList == nm'.toList) && (bg == bg' && (cm == cm' && (decide (A = B) && (l == l'))))
def sameTransG : List CV → T CV
  | [.agg ⟨[.string nm, .int .i64 bg, .int .i64 cm, .pl .acts A, .pl .ints l]⟩, .agg ⟨[.string nm', .int .i64 bg', .int .i64 cm', .pl .acts B, .pl .ints l']⟩] => T.when (small A.length && small l.length) (.ret (.bool (sameTransB nm bg cm A l nm' bg' cm' B l')))
  | _ => .fail
theorem sameTrans_fn : PureFn Tryz.prog 18 (sigExt [sgTr, sgTr] sameTransG) :=
  pureFn_mk (bodied_ex (by kernel_rfl)) fun args d h => by
    unfold sameTransG at h
    split at h
    · rename_i nm bg cm A l nm' bg' cm' B l'
      obtain ⟨hc, h1⟩ := ev_when h
      cases ev_ret h1
      rw [Bool.and_eq_true] at hc
      refine pureAt0 plainN mixedN ctnE_ok ctnL2_ok (k := 30) ((strans_tree nm bg cm A l nm' bg' cm' B l').trans ?_) rfl
      simp only [T.ev_ite, T.ev_ret, hc.1, hc.2, beq_self_eq_true, Bool.and_self, Bool.true_and, Bool.and_true, if_true]
      unfold sameTransB
      cases h1 : (nm.toList == nm'.toList) with
      | false => rfl
      | true =>
        by_cases h2 : bg = bg'
        · by_cases h3 : cm = cm'
          · by_cases h4 : A.length = B.length
            · have b4 : ((A.length : Int) != (B.length : Int)) = false := by simp [h4]
              have b5 : A.length.beq B.length = true := by rw [Nat.beq_eq]; exact h4
              cases h6 : (l == l') <;> by_cases h7 : A = B <;> simp [h2, h3, b4, b5, h7]
            · have b4 : ((A.length : Int) != (B.length : Int)) = true := by rw [bne_iff_ne]; omega
              have h7 : ¬ A = B := fun e => h4 (by rw [e])
              simp [h2, h3, b4, h7]
          · have b3 : (cm != cm') = true := by rw [bne_iff_ne]; exact h3
            simp [h2, b3, h3]
        · have b2 : (bg != bg') = true := by rw [bne_iff_ne]; exact h2
          simp [b2, h2]
    · exact (ev_fail h).elim
def ctnE2 : List (Nat × ExtFn) := (16, pureExt (sigExt [sgTr, sgTr] ctransG)) :: (17, pureExt (sigExt [sgTr, sgTr] ctransG)) :: (13, pureExt (sigExt [sgTr] cpTransG)) :: (18, pureExt (sigExt [sgTr, sgTr] sameTransG)) :: ctnE
theorem ctnE2_ok (N : Nat) : ExtsOk Tryz.prog N ctnE2 := extsOk_cons (extOk_pure ctrans_fn) (extsOk_cons (extOk_pure rtrans_fn) (extsOk_cons (extOk_pure cpTrans_fn) (extsOk_cons (extOk_pure sameTrans_fn) (ctnE_ok N))))

end Go.Proofs.YtecidokjhplbgaaGreatDoorD
