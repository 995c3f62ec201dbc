/- What a law writes over what it was handed: the walk of the functions that do so. -/
import Derived.Shelf.Abstract
import Derived.RangeFuncBox
import Derived.WalkKit
import Derived.OwnWalkIn
import Derived.TacticsInMore
import Derived.LoopNIn
import Derived.LoopIn
import Derived.Test.YtklmllaggigkfaaGreatProg
import Derived.Test.YtklmllaggigkfaaGreatPX25
namespace Go.Proofs.YtklmllaggigkfaaGreat
namespace Hw
open Go Go.RowKit
attribute [local go_sem] Oper.semAt_some
set_option maxRecDepth 100000
set_option linter.unusedVariables false
set_option linter.unusedSimpArgs false
set_option maxHeartbeats 10000000
def like (u v:Value):Prop:=v = u∨(∃n m,u = .int .i64 n∧v = .int .i64 m)∨∃b c,u = .bool b∧v = .bool c
theorem like.trans {u v x:Value} (h:like u v) (k:like v x):like u x:=by
 rcases h with rfl | ⟨n,m,rfl,rfl⟩ | ⟨b,c,rfl,rfl⟩
 ·exact k
 ·rcases k with rfl | ⟨n',m',h1,rfl⟩ | ⟨b',c',h1,rfl⟩
  ·exact .inr (.inl ⟨_,_,rfl,rfl⟩)
  ·exact .inr (.inl ⟨_,_,rfl,rfl⟩)
  ·cases h1
 ·rcases k with rfl | ⟨n',m',h1,rfl⟩ | ⟨b',c',h1,rfl⟩
  ·exact .inr (.inr ⟨_,_,rfl,rfl⟩)
  ·cases h1
  ·exact .inr (.inr ⟨_,_,rfl,rfl⟩)
structure Mk (R:Nat→Prop) (w W:World):Prop where
 os:W.os = w.os
 tape:W.tape = w.tape
 output:W.output = w.output
 size:w.heap.size≤W.heap.size
 block:∀b,b < w.heap.size→¬ R b→W.heap[b]? = w.heap[b]?
 cell:∀p u,w.cell? p = some u→∃v,W.cell? p = some v∧like u v
 unf:∀(b:Nat),(∀o:Obj,w.heap[b]? = some o→Unf o)→∀o:Obj,W.heap[b]? = some o→Unf o
theorem Mk.refl (R:Nat→Prop) (w:World):Mk R w w:=⟨rfl,rfl,rfl,Nat.le_refl _,fun _ _ _=>rfl,fun p u h=>⟨u,h,.inl rfl⟩,fun b h=>h⟩
theorem Mk.trans {R:Nat→Prop} {x y z:World} (h:Mk R x y) (k:Mk R y z):Mk R x z:=⟨k.os.trans h.os,k.tape.trans h.tape,k.output.trans h.output,Nat.le_trans h.size k.size,fun b hl hb=>(k.block b (Nat.lt_of_lt_of_le hl h.size) hb).trans (h.block b hl hb),fun p u hp=>by
 obtain ⟨v,h1,h2⟩:=h.cell p u hp
 obtain ⟨v',h3,h4⟩:=k.cell p v h1
 exact ⟨v',h3,h2.trans h4⟩,fun b hb=>k.unf b (h.unf b hb)⟩
theorem setCell_other {w:World} {b o k:Nat} {v:Value} (h:k≠b):(w.setCell ⟨b,o,none⟩ v).heap[k]? = w.heap[k]?:=by
 show (w.heap.modify b _)[k]? = _
 rw [Array.getElem?_modify,if_neg (Ne.symm h)]
theorem Mk.set {R:Nat→Prop} {w:World} {b o:Nat} {u v:Value} (hR:R b) (hc:w.cell? ⟨b,o,none⟩ = some u) (hl:like u v):Mk R w (w.setCell ⟨b,o,none⟩ v) where
 os:=rfl
 tape:=rfl
 output:=rfl
 size:=Nat.le_of_eq (by show _ = (w.heap.modify b _).size; simp)
 block:=fun k _ hk=>setCell_other fun e=>hk (by rw [e]; exact hR)
 cell:=fun p x hp=>by
  by_cases e:(⟨b,o,none⟩:Addr) = p
  ·subst e
   rw [hc] at hp
   cases hp
   exact ⟨v,World.cell?_setCell_same _ _ _ hc,hl⟩
  ·exact ⟨x,(World.cell?_setCell_other _ _ _ _ e).trans hp,.inl rfl⟩
 unf:=fun k h0 x hx=>by
  have hx:(w.heap.modify b _)[k]? = some x:=hx
  rw [Array.getElem?_modify] at hx
  split at hx
  ·cases hw:w.heap[k]? with
   | none=>rw [hw] at hx; cases hx
   | some y =>
    rw [hw] at hx
    have hy:=h0 y hw
    simp only [Option.map_some,Option.some.injEq] at hx
    subst hx
    cases y with
    | cells c e r=>exact hy
    | _=>exact hy
  ·exact h0 x hx
theorem Mk.alloc {R:Nat→Prop} (w:World) {o:Obj} (ho:Unf o):Mk R w (w.alloc o) where
 os:=rfl
 tape:=rfl
 output:=rfl
 size:=by simp
 block:=fun k hk _=>Below.heap_alloc _ _ _ hk
 cell:=fun p u hp=>⟨u,by
  have hl:p.block < w.heap.size:=by
   rcases Nat.lt_or_ge p.block w.heap.size with h | h
   ·exact h
   ·unfold World.cell? at hp
    rw [Array.getElem?_eq_none h] at hp
    cases hp
  exact (World.cell?_of_block (Below.heap_alloc _ _ _ hl)).trans hp,.inl rfl⟩
 unf:=fun b h0 x hx=>by
  rcases Nat.lt_or_ge b w.heap.size with h | h
  ·exact h0 x ((Below.heap_alloc _ _ _ h).symm.trans hx)
  ·have hl:=lt_of_block hx
   have:(w.alloc o).heap.size = w.heap.size + 1:=by simp
   obtain rfl:b = w.heap.size:=by omega
   rw [World.alloc_heap_new] at hx
   cases hx
   exact ho
def UnfR (R:Nat→Prop) (w:World):Prop:=∀b,R b→∀o:Obj,w.heap[b]? = some o→Unf o
theorem UnfR.mk {R R':Nat→Prop} {w W:World} (h:UnfR R w) (k:Mk R' w W):UnfR R W:=fun b hb=>k.unf b (h b hb)
theorem UnfR.at {R:Nat→Prop} {w:World} (h:UnfR R w) {b o:Nat} (hb:R b):w.frozen? ⟨b,o,none⟩ = false:=by
 unfold World.frozen?
 cases hw:w.heap[b]? with
 | none=>simp [hw]
 | some x =>
  have:=h b hb x hw
  cases x with
  | cells c e r =>
   have:r = (0,0):=this
   subst this
   simp [hw]
  | _=>simp [hw]
def RowW (W:World) (R:Nat→Prop) (v:Value) (n z:Nat) (P:Nat→Nat→Value→Prop):Prop :=
 ∃A c,v = .slice A n c∧(n:Int)≤9223372036854775807∧(0 < n→∃b off,A = some ⟨b,off,none⟩∧R b∧∀k,k < n→∀j,j < z→∃u,W.cell? ⟨b,off + (k * z + j),none⟩ = some u∧P k j u)
theorem RowW.mk {W W':World} {R R':Nat→Prop} {v:Value} {n z:Nat} {P P':Nat→Nat→Value→Prop} (k:Mk R' W W') (hP:∀i j u x,like u x→P i j u→P' i j x) (h:RowW W R v n z P):RowW W' R v n z P':=by
 obtain ⟨A,c,rfl,h1,h2⟩:=h
 refine ⟨A,c,rfl,h1,fun h0=>?_⟩
 obtain ⟨b,off,rfl,h3,h4⟩:=h2 h0
 refine ⟨b,off,rfl,h3,fun i hi j hj=>?_⟩
 obtain ⟨u,h5,h6⟩:=h4 i hi j hj
 obtain ⟨x,h7,h8⟩:=k.cell _ _ h5
 exact ⟨x,h7,hP i j u x h8 h6⟩
def isI (u:Value):Prop:=∃m,u = .int .i64 m
def isB (u:Value):Prop:=∃b,u = .bool b
theorem isI.like {u v:Value} (h:isI u) (k:Hw.like u v):isI v:=by
 obtain ⟨m,rfl⟩:=h
 rcases k with rfl | ⟨_,m',_,rfl⟩ | ⟨_,_,h,_⟩
 ·exact ⟨m,rfl⟩
 ·exact ⟨m',rfl⟩
 ·cases h
theorem isB.like {u v:Value} (h:isB u) (k:Hw.like u v):isB v:=by
 obtain ⟨m,rfl⟩:=h
 rcases k with rfl | ⟨_,_,h,_⟩ | ⟨_,m',_,rfl⟩
 ·exact ⟨m,rfl⟩
 ·cases h
 ·exact ⟨m',rfl⟩
def IntsW (W:World) (R:Nat→Prop) (n:Nat) (v:Value):Prop:=RowW W R v n 1 fun _ _ u=>isI u
def BoolsW (W:World) (R:Nat→Prop) (n:Nat) (v:Value):Prop:=RowW W R v n 1 fun _ _ u=>isB u
def PktsW (W:World) (R:Nat→Prop) (n:Nat) (v:Value):Prop:=RowW W R v n 7 fun _ _ u=>isI u
theorem sl_like {A:Option Addr} {n c:Nat} {v:Value} (k:like (.slice A n c) v):v = .slice A n c:=by
 rcases k with rfl | ⟨_,_,h,_⟩ | ⟨_,_,h,_⟩
 ·rfl
 ·cases h
 ·cases h
theorem row_like {W W':World} {R R':Nat→Prop} {u v:Value} {n z:Nat} {P P':Nat→Nat→Value→Prop} (k:Mk R' W W') (hP:∀i j u x,like u x→P i j u→P' i j x) (h:RowW W R u n z P) (hl:like u v):RowW W' R v n z P':=by
 obtain ⟨A,c,rfl,h1,h2⟩:=id h
 rw [sl_like hl]
 exact h.mk k hP
theorem Mk.put {R:Nat→Prop} {w W:World} {b o:Nat} {y m:Int} (h:Mk R w W) (hR:R b) (hc:w.cell? ⟨b,o,none⟩ = some (.int .i64 y)):Mk R w (W.setCell ⟨b,o,none⟩ (.int .i64 m)):=by
 obtain ⟨v,h1,h2⟩:=h.cell _ _ hc
 obtain ⟨y',rfl⟩:=isI.like ⟨y,rfl⟩ h2
 exact h.trans (Mk.set hR h1 (.inr (.inl ⟨_,_,rfl,rfl⟩)))
def stN (s:St):Nat:=3 + 7 * s.sent.length + s.live.length + s.back.length + s.got.length
def stsN (l:List St):Nat→Nat
 | 0=>0
 | k + 1=>stsN l k + stN (l.getD k zSt)
def StW (W:World) (R:Nat→Prop) (s:St) (j:Nat) (u:Value):Prop:=match j with
 | 3=>PktsW W R s.sent.length u
 | 4=>BoolsW W R s.live.length u
 | 5=>BoolsW W R s.back.length u
 | 6=>IntsW W R s.got.length u
 | _=>isI u
theorem StW.mk {W W':World} {R R':Nat→Prop} (k:Mk R' W W') {s:St} {j:Nat} {u v:Value} (hl:like u v) (h:StW W R s j u):StW W' R s j v:=by
 unfold StW at h ⊢
 split at h
 ·exact row_like k (fun _ _ _ _ a b=>b.like a) h hl
 ·exact row_like k (fun _ _ _ _ a b=>b.like a) h hl
 ·exact row_like k (fun _ _ _ _ a b=>b.like a) h hl
 ·exact row_like k (fun _ _ _ _ a b=>b.like a) h hl
 ·exact h.like hl
def StsW (W:World) (R:Nat→Prop) (l:List St) (v:Value):Prop:=RowW W R v l.length 7 fun k j u=>StW W R (l.getD k zSt) j u
theorem StsW.mk {W W':World} {R R':Nat→Prop} (k:Mk R' W W') {l:List St} {v:Value} (h:StsW W R l v):StsW W' R l v:=RowW.mk k (fun _ _ _ _ a b=>b.mk k a) h
theorem stsN_le {l:List St} {a b:Nat} (h:a≤b):stsN l a≤stsN l b:=by
 induction b with
 | zero=>rw [show a = 0 by omega]; exact Nat.le_refl _
 | succ b ih =>
  rcases Nat.lt_or_ge a (b + 1) with g | g
  ·exact Nat.le_trans (ih (by omega)) (Nat.le_add_right _ _)
  ·rw [show a = b + 1 by omega]; exact Nat.le_refl _
end Hw
end Go.Proofs.YtklmllaggigkfaaGreat
