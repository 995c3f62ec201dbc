/- A pair in memory: its links, their marks, each row in a place of its own. -/
import Derived.Test.YtklmllaggigkfaaGreatPXV
import Derived.Test.YtklmllaggigkfaaGreatPJK
import Derived.Shelf.Abstract
import Derived.RangeFuncBox
import Derived.WalkKit
import Derived.OwnWalkIn
import Derived.TacticsInMore
import Derived.LoopNIn
import Derived.LoopIn
import Derived.Stop.RegionWithIn
import Derived.RegionIn
import Derived.BigRegionIn
set_option linter.unusedVariables false
set_option linter.unusedSimpArgs false
set_option maxRecDepth 100000
namespace Go.Proofs.YtklmllaggigkfaaGreat
namespace Hw
open Go Go.RowKit
def MkP (W:World) (F:Nat→Prop) (col:Nat→Pc) (i:Nat):List St→Value→Prop
 | [],v=>v = .pointer none
 | s :: r,v=>∃(m:Nat) (cs:Array Value) (e:TypeId),v = .pointer (some ⟨m,0,none⟩)∧F m∧W.heap[m]? = some (.cells cs e (0,0))∧cs.size = 8∧(∀(j:Nat) (x:Cell),(stCells true s)[j]? = some x→∃u,cs[j]? = some u∧elC (arrR W F 3) x u∧StP col i r.length s j u)∧∃u,cs[7]? = some u∧MkP W F col i r u
theorem inP_keep {W:World} {F:Nat→Prop} {col col':Nat→Pc} {p:Pc} {a:Arr} {u:Value} {d:Nat} (h:InP col p a.len u) (ha:arrR W F (d + 1) a u) (hc:∀b,F b→col' b = col b):InP col' p a.len u:=fun h0=>by
 obtain ⟨b,c,rfl,h1⟩:=h h0
 obtain ⟨A,c',e,-,-,h2⟩:=ha
 cases e
 obtain ⟨ad,e,h3,-⟩:=h2 0 h0
 cases e
 exact ⟨b,c,rfl,(hc b h3).trans h1⟩
theorem stP_keep {W:World} {F:Nat→Prop} {col col':Nat→Pc} {i n:Nat} {s:St} {j:Nat} {x:Cell} {u:Value} (hx:(stCells true s)[j]? = some x) (h1:elC (arrR W F 3) x u) (h:StP col i n s j u) (hc:∀b,F b→col' b = col b):StP col' i n s j u:=by
 match j,hx with
 | 0,_=>exact h
 | 1,_=>exact h
 | 2,_=>exact h
 | 3,hx=>cases hx; exact inP_keep (a:=.pkts s.sent) h h1 hc
 | 4,hx=>cases hx; exact inP_keep (a:=.bools s.live) h h1 hc
 | 5,hx=>cases hx; exact inP_keep (a:=.bools s.back) h h1 hc
 | 6,hx=>cases hx; exact inP_keep (a:=.ints s.got) h h1 hc
 | j + 7,hx=>cases hx
theorem elC_ext {W W':World} {F F':Nat→Prop} {x:Cell} {u:Value} {d:Nat} (h:elC (arrR W F d) x u) (hF:∀b,F b→F' b) (hb:∀b,F b→W'.heap[b]? = W.heap[b]?):elC (arrR W' F' d) x u:=elC_imp h fun y a e h'=>arrR_ext hF hb d a u h'
theorem MkP.ext {W W' : World} {F F' : Nat → Prop} {col col' : Nat → Pc} {i : Nat} (hF : ∀ b, F b → F' b) (hb : ∀ b, F b → W'.heap[b]? = W.heap[b]?) (hc : ∀ b, F b → col' b = col b) : ∀ {l : List St} {v : Value}, MkP W F col i l v → MkP W' F' col' i l v
  | [], v, h => h
  | s :: r, v, ⟨m, cs, e, h1, h2, h3, h4, h5, u, h6, h7⟩ => ⟨m, cs, e, h1, hF m h2, (hb m h2).trans h3, h4, fun j x hx => by
      obtain ⟨u, k1, k2, k3⟩ := h5 j x hx
      exact ⟨u, k1, elC_ext k2 hF hb, stP_keep hx k2 k3 hc⟩, u, h6, MkP.ext hF hb hc h7⟩
theorem MkP.mkR {W:World} {F:Nat→Prop} {col:Nat→Pc} {i:Nat}:∀{l:List St} {v:Value},MkP W F col i l v→mkR W F l 0 v
 | [],v,h=>h
 | s :: r,v,⟨m,cs,e,h1,h2,h3,h4,h5,u,h6,h7⟩=>by
  have hc:∀j,W.cell? ((⟨m,0,none⟩:Addr).add j) = cs[j]?:=fun j=>by
   rw [add_none',Nat.zero_add]
   exact cell_at h3
  refine ⟨⟨m,0,none⟩,by rw [h1,add_none'],h2,fun j x hx=>?_,u,(hc 7).trans h6,MkP.mkR h7⟩
  obtain ⟨u,k1,k2,-⟩:=h5 j x hx
  exact ⟨u,(hc j).trans k1,k2⟩
structure PairAt (W0 W:World) (p:Nat) (l o:Lk) (C:Cx) (col:Nat→Pc):Prop where
 w:C.w = W
 inv:Inv C (hpOf (prB l o))
 top:∀i,17≤i→C.ρ i = none
 pr:C.ρ 0 = some (some p,1)
 new:∀i b m,C.ρ i = some (some b,m)→W0.heap.size≤b
 frz:∀b,C.frz b→W0.heap.size≤b
 vis:∀b,¬ C.vis b
 nw:Nw W0 W
 m0:∃v,l.marks.g = some v∧MkP W C.frz col 0 l.marks.l v
 m1:∃v,o.marks.g = some v∧MkP W C.frz col 1 o.marks.l v
theorem Ext.nw {W0:World} {T:Nat→Prop} {C C':Cx} (h:Nw W0 C.w) (k:Ext T C C') (hT:∀b,T b→W0.heap.size≤b):Nw W0 C'.w :=
 Mk.of (k.os.trans h.os) (k.tape.trans h.tape) (k.output.trans h.output) (Nat.le_trans h.size k.size) (fun b hb=>(k.blk b (Nat.lt_of_lt_of_le hb h.size) fun ht=>by have:=hT b ht; omega).trans (h.block b hb fun x=>x)) fun b h0 o ho=>k.unf b o (h.unf b h0) ho
theorem nw_ext {C:Cx} {W:World} (k:Nw C.w W) (T:Nat→Prop):Ext T C ⟨W,C.frz,C.vis,C.ρ⟩ :=
 ⟨k.os,k.tape,k.output,k.size,fun b hb _=>k.block b hb fun x=>x,fun b vs e h=>⟨vs,(k.block b (lt_of_block h) fun x=>x).trans h,rfl⟩,fun b o h0 h=>k.unf b h0 o h,fun _ h=>h,fun _ h=>.inl h,rfl,fun _ _ h=>h⟩
theorem nw_inv {C:Cx} {W:World} {H:Hp} (hI:Inv C H) (k:Nw C.w W):Inv ⟨W,C.frz,C.vis,C.ρ⟩ H :=
 ⟨fun i=>OwnAt_ext (nw_ext k fun _=>False) (hI.off fun b h=>h.elim) (hI.own i) fun b n _ h=>h,hI.inj,fun b hb=>Nat.lt_of_lt_of_le (hI.frz b hb) k.size,fun b hb=>Nat.lt_of_lt_of_le (hI.vis b hb) k.size⟩
theorem PairAt.next {W0 W W':World} {p:Nat} {l o:Lk} {C:Cx} {col:Nat→Pc} (h:PairAt W0 W p l o C col) (k:Nw W W'):PairAt W0 W' p l o ⟨W',C.frz,C.vis,C.ρ⟩ col:=by
 obtain ⟨rfl,h2,h3,h4,h5,h6,h7,h8,⟨v,h9,h10⟩,⟨u,h11,h12⟩⟩:=h
 have hb:∀b,C.frz b→W'.heap[b]? = C.w.heap[b]?:=fun b hb=>k.block b (h2.frz b hb) fun x=>x
 exact ⟨rfl,nw_inv h2 k,h3,h4,h5,h6,h7,Mk.trans h8 k,⟨v,h9,h10.ext (fun _ h=>h) hb fun _ _=>rfl⟩,⟨u,h11,h12.ext (fun _ h=>h) hb fun _ _=>rfl⟩⟩
theorem marks_same {l o r:Lk} {e:Ev} (q:DoL l o e r):r.marks = l.marks:=by
 by_cases h2:e.kind = 2
 ·have:=q.know h2
  by_cases g:(1≤e.height∧e.height≤o.count)∧¬ KnwL l e.height
  ·rw [this.1 g]; rfl
  ·rw [this.2 g]
 by_cases h3:e.kind = 3
 ·obtain ⟨n,t,q⟩:=q.send h3
  exact (ls_cnt q).2
 by_cases h8:e.kind = 8
 ·obtain ⟨b,t,-,h4,h5⟩:=q.move h8
  by_cases g:t = true
  ·rw [h4 g]; rfl
  ·rw [h5 g]
 by_cases h4:4≤e.kind∧e.kind≤7
 ·obtain ⟨s,h,b,-,h5,h6⟩:=q.rely h4
  by_cases g:b = true
  ·have k:=h5 g
   have:e.kind = 4∨e.kind = 5∨e.kind = 6∨e.kind = 7:=by omega
   rcases this with h | h | h | h
   ·obtain ⟨t,q⟩:=k.get h; exact (lg_cnt q).2
   ·obtain ⟨t,q⟩:=k.tell h; exact (lt_cnt q).2
   ·obtain ⟨t,q⟩:=k.late h; exact (ll_cnt q).2
   ·obtain ⟨t,q⟩:=k.step h; exact (lst_cnt q).2
  ·rw [h6 g]
 ·rw [q.none (by omega)]
theorem marks_pair {l o r q:Lk} {e:Ev} (h:DoP l o e r q):r.marks = l.marks∧q.marks = o.marks:=by
 by_cases h1:e.chain = 1
 ·obtain ⟨g,rfl⟩:=h.one h1
  exact ⟨marks_same g,rfl⟩
 by_cases h2:e.chain = 2
 ·obtain ⟨g,rfl⟩:=h.two h2
  exact ⟨rfl,marks_same g⟩
 obtain ⟨rfl,rfl⟩:=h.none (by omega)
 exact ⟨rfl,rfl⟩
def prIds:List Nat:=[0,17,18,19,20,21,22,23,24,25,26,27,28,29,30,31,32]
theorem do_else {W0 W:World} {p:Nat} {l o:Lk} {C:Cx} {col:Nat→Pc} {e:Ev} {v:Value} (h:PairAt W0 W p l o C col) (hk:¬ e.kind = 1) (hl:LkIn l) (ho:LkIn o) (hv:∀C,fvR C (.agg (evCells e)) v) :
  CallsIn Fence.wide 9 Tryz.prog 25 #[.pointer (some ⟨p,0,none⟩),v] W fun x W'=>x = .returned (.tuple #[])∧∃r q C',DoP l o e r q∧PairAt W0 W' p r q C' col∧(∀b,C.frz b→C'.frz b):=by
 obtain ⟨rfl,h2,h3,h4,h5,h6,h7,h8,⟨v0,h9,h10⟩,⟨v1,h11,h12⟩⟩:=h
 have hpre:(Zev ((l,o,()),e,())).P:=⟨hk,hl,ho,trivial⟩
 refine (callsIn_wide.2 (Zev.good.run ((l,o,()),e,()) C [.pointer (some ⟨p,0,none⟩),v] h2 h3 ⟨⟨p,1,h4,rfl⟩,hv C,trivial⟩ fun q hq=>by cases hq; exact hpre)).mono ?_
 rintro x W' ⟨u,C',rfl,rfl,k1,k2⟩
 have q0:=(qF Zev.X _ hpre).1
 have k1:avR C' (.tup []) u:=k1
 have hu:u = .tuple #[]:=by
  obtain ⟨vs,rfl,k3,-⟩:=k1
  rw [Array.eq_empty_of_size_eq_zero k3]
 have hT:∀b,(∃i m,(hpOf (prB l o) i).live∧C.ρ i = some (some b,m))→W0.heap.size≤b:=fun b ⟨i,m,_,hr⟩=>h5 i b m hr
 have hfo:∀b,C.frz b→C'.w.heap[b]? = C.w.heap[b]?:=fun b hb=>k2.ext.blk b (h2.frz b hb) fun ⟨i,m,hl,hr⟩=>(own_out h2 hl hr).1 hb
 obtain ⟨n0,n1⟩:=marks_pair q0
 refine ⟨by rw [hu],(Zev.S ((l,o,()),e,())).1,(Zev.S ((l,o,()),e,())).2,C'.enter prIds C'.vis,q0,⟨rfl,?_,fun i hi=>?_,?_,fun i b m hr=>?_,fun b hb=>?_,fun b hb=>?_,Ext.nw h8 k2.ext hT,⟨v0,by rw [n0]; exact h9,by rw [n0]; exact h10.ext k2.ext.frz hfo fun _ _=>rfl⟩,⟨v1,by rw [n1]; exact h11,by rw [n1]; exact h12.ext k2.ext.frz hfo fun _ _=>rfl⟩⟩,k2.ext.frz⟩
 ·have hb:(prIds.all fun j=>(hpOf (Zev.c.out ((l,o,()),e,())).2 j).ids.all fun i=>memN i prIds) = true:=rfl
  exact enter_inv (ids:=prIds) k2.inv (by decide) fun j hj i hi=>memN_iff.1 (List.all_eq_true.1 (List.all_eq_true.1 hb j hj) i hi)
 ·simp only [Cx.enter]
  rw [if_neg (by show ¬ i < 17; omega)]
 ·show (if 0 < 17 then C'.ρ (nth 0 prIds) else none) = _
  exact k2.ext.rho 0 _ h4
 ·simp only [Cx.enter] at hr
  split at hr
  ·rcases k2.new _ _ hr with h | ⟨-,-,h⟩
   ·exact h5 _ _ _ h
   ·rcases h b rfl with h | h
    ·exact hT b h
    ·exact Nat.le_trans h8.size h
  ·cases hr
 ·rcases k2.ext.new b hb with h | h | h
  ·exact h6 b h
  ·exact hT b h
  ·exact Nat.le_trans h8.size h
 ·have:C'.vis b:=hb
  rw [k2.ext.vis] at this
  exact h7 b this
end Hw
end Go.Proofs.YtklmllaggigkfaaGreat
namespace Go.Proofs.YtklmllaggigkfaaGreat
namespace Hw
open Go Go.RowKit
attribute [local go_sem] Oper.semAt_some
set_option maxRecDepth 100000
set_option linter.unusedVariables false
set_option linter.unusedSimpArgs false
set_option maxHeartbeats 10000000
structure Cpy (X X':World) (s:St) (r:Value) (D:Cx) (r3 r4 r5 r6:Value):Prop where
 w:D.w = X'
 nw:Nw X X'
 r:r = .agg #[.int .i64 s.way,.int .i64 s.ver,.int .i64 s.want,r3,r4,r5,r6]
 i3:cellR D (.own 0 7 46) r3
 i4:cellR D (.own 1 1 4) r4
 i5:cellR D (.own 2 1 4) r5
 i6:cellR D (.own 3 1 3) r6
 inv:Inv D (hpOf [.arr (.pkts s.sent),.arr (.bools s.live),.arr (.bools s.back),.arr (.ints s.got)])
 new:∀i b m,D.ρ i = some (some b,m)→X.heap.size≤b
theorem copy_in {X:World} {s:St} {u3 u4 u5 u6:Value} {n:Nat} (hs:s.sm) (h3:arrR X (inW X) 4 (.pkts s.sent) u3) (h4:arrR X (inW X) 4 (.bools s.live) u4) (h5:arrR X (inW X) 4 (.bools s.back) u5) (h6:arrR X (inW X) 4 (.ints s.got) u6) :
  CallsIn Fence.wide n Tryz.prog 132 #[.agg #[.int .i64 s.way,.int .i64 s.ver,.int .i64 s.want,u3,u4,u5,u6]] X fun e X'=>∃r D r3 r4 r5 r6,e = .returned r∧Cpy X X' s r D r3 r4 r5 r6:=by
 refine (callsIn_wide.2 (vcall ZaP.good (s,()) rfl (fun p h=>by cases h; exact ⟨hs,trivial⟩) (W:=X) (vs:=[.agg #[.int .i64 s.way,.int .i64 s.ver,.int .i64 s.want,u3,u4,u5,u6]]) ⟨⟨_,rfl,rfl,fun j x hj=>?_⟩,trivial⟩)).mono ?_
 ·match j,hj with
  | 0,hj=>cases hj; exact ⟨_,rfl,rfl⟩
  | 1,hj=>cases hj; exact ⟨_,rfl,rfl⟩
  | 2,hj=>cases hj; exact ⟨_,rfl,rfl⟩
  | 3,hj=>cases hj; exact ⟨_,rfl,h3⟩
  | 4,hj=>cases hj; exact ⟨_,rfl,h4⟩
  | 5,hj=>cases hj; exact ⟨_,rfl,h5⟩
  | 6,hj=>cases hj; exact ⟨_,rfl,h6⟩
  | j + 7,hj=>cases hj
 rintro e X' ⟨v,D,rfl,rfl,h1,-,h2,h3,h4⟩
 obtain ⟨vs,rfl,k1,k2⟩:fvR D (.agg [.int s.way,.int s.ver,.int s.want,.own 0 7 46,.own 1 1 4,.own 2 1 4,.own 3 1 3]) v:=h1
 obtain ⟨_,e0,rfl⟩:=k2 0 _ rfl
 obtain ⟨_,e1,rfl⟩:=k2 1 _ rfl
 obtain ⟨_,e2,rfl⟩:=k2 2 _ rfl
 obtain ⟨r3,e3,i3⟩:=k2 3 _ rfl
 obtain ⟨r4,e4,i4⟩:=k2 4 _ rfl
 obtain ⟨r5,e5,i5⟩:=k2 5 _ rfl
 obtain ⟨r6,e6,i6⟩:=k2 6 _ rfl
 refine ⟨_,D,r3,r4,r5,r6,rfl,rfl,h2,?_,i3,i4,i5,i6,h3,h4⟩
 congr 1
 obtain ⟨l⟩:=vs
 have hl:l.length = 7:=k1
 match l,hl with
 | [a0,a1,a2,a3,a4,a5,a6],_ =>
  cases e0
  cases e1
  cases e2
  cases e3
  cases e4
  cases e5
  cases e6
  rfl
structure RecW (W W':World) (s:St) (b:Nat) (a:Option Addr) (k:Int) (X X1:World) (r:Value) (D:Cx) (r3 r4 r5 r6:Value):Prop where
 n:Nw W X1
 d:W.heap.size < X1.heap.size
 c:Cpy X1 X s r D r3 r4 r5 r6
 w:W' = ((X.alloc (.cells #[.int .i64 s.way,.int .i64 s.ver,.int .i64 s.want,r3,r4,r5,r6,.pointer a] 159)).setCell ⟨b,11,none⟩ (.pointer (some ⟨X.heap.size,0,none⟩))).setCell ⟨b,12,none⟩ (.int .i64 (k + 1))
theorem Mk.keep {R:Nat→Prop} {w W:World} {p:Addr} {u:Value} (h:Mk R w W) (hp:¬ R p.block) (hc:w.cell? p = some u):W.cell? p = some u:=by
 have hl:p.block < w.heap.size:=by
  rcases Nat.lt_or_ge p.block w.heap.size with g | g
  ·exact g
  ·unfold World.cell? at hc
   rw [Array.getElem?_eq_none g] at hc
   cases hc
 exact (World.cell?_of_block (h.block _ hl hp)).trans hc
theorem nw_drew (w:World):Nw w w.drew:=Mk.of rfl rfl rfl (Nat.le_refl _) (fun _ _=>rfl) fun _ h=>h
theorem arrR_nw {w W:World} {d:Nat} {a:Arr} {v:Value} (h:arrR w (inW w) d a v) (k:Nw w W):arrR W (inW W) d a v :=
 arrR_ext (fun b hb=>Nat.lt_of_lt_of_le hb k.size) (fun b hb=>k.block b hb fun x=>x) d a v h
theorem unfR_at {b:Nat} {W:World} {cs:Array Value} {ty:TypeId} (hb:W.heap[b]? = some (.cells cs ty (0,0))):UnfR (fun x=>x = b) W:=fun x hx=>by
 subst hx
 intro o ho
 rw [hb] at ho
 cases ho
 rfl
structure LkAt (W:World) (b:Nat) (a:Option Addr) (k:Int):Prop where
 c11:W.cell? ⟨b,11,none⟩ = some (.pointer a)
 c12:W.cell? ⟨b,12,none⟩ = some (.int .i64 k)
 f:∀o,W.frozen? ⟨b,o,none⟩ = false
 l:b < W.heap.size
 u:UnfR (fun x=>x = b) W
theorem LkAt.nw {W X:World} {b:Nat} {a:Option Addr} {k:Int} (h:LkAt W b a k) (n:Nw W X):LkAt X b a k :=
 ⟨n.keep (fun h=>h) h.c11,n.keep (fun h=>h) h.c12,fun o=>(h.u.mk n).at rfl,Nat.lt_of_lt_of_le h.l n.size,h.u.mk n⟩
theorem record_in {W:World} {s:St} {u3 u4 u5 u6:Value} {b:Nat} {k:Int} {cs:Array Value} {ty:TypeId} {a:Option Addr} (hs:s.sm) (h3:arrR W (inW W) 4 (.pkts s.sent) u3) (h4:arrR W (inW W) 4 (.bools s.live) u4) (h5:arrR W (inW W) 4 (.bools s.back) u5) (h6:arrR W (inW W) 4 (.ints s.got) u6)
  (hb:W.heap[b]? = some (.cells cs ty (0,0))) (hz:cs.size = 14) (c11:cs[11]? = some (.pointer a)) (c12:cs[12]? = some (.int .i64 k)) (hk:0≤k∧k≤1000000) :
  CallsIn Fence.wide 3 Tryz.prog 85 #[.pointer (some ⟨b,0,none⟩),.agg #[.int .i64 s.way,.int .i64 s.ver,.int .i64 s.want,u3,u4,u5,u6]] W fun e W'=>e = .returned (.tuple #[])∧∃X X1 r D r3 r4 r5 r6,RecW W W' s b a k X X1 r D r3 r4 r5 r6:=by
 refine callsIn_of_wp Tryz.func85 rfl trivial ?_ rfl
 simp only [Tryz.ntmps85,List.size_toArray,List.length_cons,List.length_nil,Nat.reduceAdd,Nat.reduceSub,Array.replicate_succ,Array.replicate_zero,List.push_toArray,List.append_toArray,List.nil_append,List.cons_append]
 have l0:LkAt W b a k:=⟨(cell_at hb).trans c11,(cell_at hb).trans c12,fun o=>(unfR_at hb).at rfl,lt_of_block hb,unfR_at hb⟩
 gi_wp2
 generalize hY:W.alloc (.cells #[.int .i64 s.way,.int .i64 s.ver,.int .i64 s.want,u3,u4,u5,u6] 75) = Y at *
 have n0:Nw W Y:=hY ▸ Mk.alloc W rfl
 have q0:W.heap.size < Y.heap.size:=hY ▸ by simp
 have r0:Y.heap[W.heap.size]? = some (.cells #[.int .i64 s.way,.int .i64 s.ver,.int .i64 s.want,u3,u4,u5,u6] 75 (0,0)):=by
  rw [← hY,World.alloc_heap_new]
 have n1:Nw W Y.drew:=n0.trans (nw_drew Y)
 have g3:=arrR_nw h3 n1
 have g4:=arrR_nw h4 n1
 have g5:=arrR_nw h5 n1
 have g6:=arrR_nw h6 n1
 have l1:=l0.nw n1
 have e11:=l1.c11
 have d0:Y.drew.cell? ⟨W.heap.size,0,none⟩ = some (.int .i64 s.way):=cell_at r0
 have d1:Y.drew.cell? ⟨W.heap.size,1,none⟩ = some (.int .i64 s.ver):=cell_at r0
 have d2:Y.drew.cell? ⟨W.heap.size,2,none⟩ = some (.int .i64 s.want):=cell_at r0
 have d3:Y.drew.cell? ⟨W.heap.size,3,none⟩ = some u3:=cell_at r0
 have d4:Y.drew.cell? ⟨W.heap.size,4,none⟩ = some u4:=cell_at r0
 have d5:Y.drew.cell? ⟨W.heap.size,5,none⟩ = some u5:=cell_at r0
 have d6:Y.drew.cell? ⟨W.heap.size,6,none⟩ = some u6:=cell_at r0
 have w1:Fence.wide.fn 132:=trivial
 clear hY h3 h4 h5 h6 hb c11 c12
 gi_region_with (gi_at_call 132; refine (copy_in hs g3 g4 g5 g6).mono ?_; rintro e X ⟨r,D,r3,r4,r5,r6,rfl,hc⟩; have hr:=hc.r; subst hr; have l2:=l1.nw hc.nw; have e2:=l2.c11; have l3:∀cs ty,LkAt (X.alloc (.cells cs ty)) b a k:=fun cs ty=>l2.nw (Mk.alloc X (show Unf (.cells cs ty) from rfl)); have e3:=fun cs ty=>(l3 cs ty).c11; have e4:=fun cs ty=>(l3 cs ty).f)
 all_goals
  have l4:=l3 #[.int .i64 s.way,.int .i64 s.ver,.int .i64 s.want,r3,r4,r5,r6,.pointer a] 159
  clear e3 e4 l3 e2
  generalize hZ:(X.alloc (.cells #[.int .i64 s.way,.int .i64 s.ver,.int .i64 s.want,r3,r4,r5,r6,.pointer a] 159)).setCell ⟨b,11,none⟩ (.pointer (some ⟨X.heap.size,0,none⟩)) = Z
  have e5:Z.cell? ⟨b,12,none⟩ = some (.int .i64 k):=by
   rw [← hZ,World.cell?_setCell_other _ _ _ _ (fun e=>by have:=congrArg Addr.off e; simp at this)]
   exact l4.c12
  have e6:∀o,Z.frozen? ⟨b,o,none⟩ = false:=fun o=>by
   rw [← hZ,World.frozen?_setCell]
   exact l4.f o
  have hZ':RecW W (Z.setCell ⟨b,12,none⟩ (.int .i64 (k + 1))) s b a k X Y.drew _ D r3 r4 r5 r6:=⟨n1,q0,hc,by rw [hZ]⟩
  clear hZ
  gi_wp2
  refine bodyPost_end (results_none rfl _ _ _) rfl ?_
  exact ⟨rfl,X,Y.drew,_,D,r3,r4,r5,r6,hZ'⟩
end Hw
end Go.Proofs.YtklmllaggigkfaaGreat
set_option linter.unusedVariables false
set_option linter.unusedSimpArgs false
set_option maxRecDepth 100000
namespace Go.Proofs.YtklmllaggigkfaaGreat
namespace Hw
open Go Go.RowKit
theorem flat_own {D:Cx} {i sz:Nat} {e:TypeId} {a:Arr} {u:Value} {F:Nat→Prop} {W:World} (ho:OwnAt D i (.arr a)) (hx:cellR D (.own i sz e) u) (hf:∀(k j:Nat) (x:Cell),((a.get k).cells true)[j]? = some x→(∃n,x = .int n)∨∃t,x = .bool t) (hF:∀b m,D.ρ i = some (some b,m)→F b∧W.heap[b]? = D.w.heap[b]?) :
  arrR W F 3 a u∧(0 < a.len→∃b c,u = .slice (some ⟨b,0,none⟩) a.len c∧D.ρ i = some (some b,a.len)):=by
 rcases ho with ⟨h0,h0'⟩ | ⟨b,vs,e',h1,h2,h3,h4,h5,h5',h6⟩
 ·rcases hx with ⟨_,rfl⟩ | ⟨b',n,c,vs',h7,_⟩
  ·exact ⟨⟨none,0,by rw [h0],by omega,by rw [h0]; decide,fun k hk=>by omega⟩,fun h=>by omega⟩
  ·rw [h0'] at h7; cases h7
 rcases hx with ⟨h7,_⟩ | ⟨b',n,c,vs',h7,rfl,h8,h9,h10⟩
 ·rw [h1] at h7; cases h7
 rw [h1] at h7
 cases h7
 refine ⟨⟨some ⟨b,0,none⟩,c,rfl,h8,h5',fun k hk=>⟨_,rfl,(hF b _ h1).1,fun j x hjx=>?_⟩⟩,fun _=>⟨b,c,rfl,h1⟩⟩
 obtain ⟨u,h11,h12⟩:=h6 k hk j x hjx
 refine ⟨u,?_,?_⟩
 ·have ha:(⟨b,0,none⟩:Addr).add (k * a.esz + j) = ⟨b,k * a.esz + j,none⟩:=by rw [add_none',Nat.zero_add]
  rw [ha]
  have h4':=(hF b _ h1).2.trans h4
  simp [World.cell?,h4',h11]
 ·rcases hf k j x hjx with ⟨n,rfl⟩ | ⟨t,rfl⟩ <;> exact h12
theorem flat_pkts (l:List Pkt):∀(k j:Nat) (x:Cell),(((Arr.pkts l).get k).cells true)[j]? = some x→(∃n,x = .int n)∨∃t,x = .bool t:=fun k j x h=>by
 have h:(pktCells (l.getD k zPkt))[j]? = some x:=h
 unfold pktCells at h
 rcases j with _ | _ | _ | _ | _ | _ | _ | j
 all_goals first
  | (simp at h; exact .inl ⟨_,h.symm⟩)
  | (simp at h)
theorem flat_ints (l:List Int):∀(k j:Nat) (x:Cell),(((Arr.ints l).get k).cells true)[j]? = some x→(∃n,x = .int n)∨∃t,x = .bool t:=fun k j x h=>by
 rcases j with _ | j
 ·cases h; exact .inl ⟨_,rfl⟩
 ·cases h
theorem flat_bools (l:List Bool):∀(k j:Nat) (x:Cell),(((Arr.bools l).get k).cells true)[j]? = some x→(∃n,x = .int n)∨∃t,x = .bool t:=fun k j x h=>by
 rcases j with _ | j
 ·cases h; exact .inr ⟨_,rfl⟩
 ·cases h
def lkCs (i:Nat) (l:Lk):List Cell:=[.own (i + 1) 1 3,.own (i + 2) 1 3,.int l.bank.locked,.int l.id,.int l.st.way,.int l.st.ver,.int l.st.want,.own (i + 3) 7 46,.own (i + 4) 1 4,.own (i + 5) 1 4,.own (i + 6) 1 3,.mk l.marks 0,.int l.count,.own (i + 7) 1 3]
def blkL (l:Lk) (v:Value):Lk:={ l with marks:=⟨l.st :: l.marks.l,some v⟩,count:=l.count + 1 }
theorem setCell_cells {w:World} {b o:Nat} {v:Value} {cs:Array Value} {e:TypeId} {f:Nat×Nat} (h:w.heap[b]? = some (.cells cs e f)):∃vs,(w.setCell ⟨b,o,none⟩ v).heap[b]? = some (.cells vs e f)∧vs.size = cs.size∧(∀j,j≠o→vs[j]? = cs[j]?)∧(o < cs.size→vs[o]? = some v):=by
 refine ⟨cs.setIfInBounds o v,?_,by simp,fun j hj=>?_,fun ho=>?_⟩
 ·show (w.heap.modify b _)[b]? = _
  rw [Array.getElem?_modify,if_pos rfl,h]
  rfl
 ·rw [Array.getElem?_setIfInBounds_ne (Ne.symm hj)]
 ·rw [Array.getElem?_setIfInBounds_self_of_lt ho]
theorem size_setCell {w:World} {a:Addr} {v:Value}:(w.setCell a v).heap.size = w.heap.size:=by
 show (w.heap.modify _ _).size = _
 simp
section
variable {W W':World} {C:Cx} {H:Hp} {i0 b idx:Nat} {x:Lk} {a:Option Addr} {X X1:World} {r:Value} {D:Cx} {r3 r4 r5 r6:Value} {col:Nat→Pc}
theorem rec_link (hI : Inv C H) (hw : C.w = W) (hH : H i0 = .raw 1 (lkCs i0 x)) (hr : C.ρ i0 = some (some b, 1)) (hg : x.marks.g = some (.pointer a)) (hm : MkP W C.frz col idx x.marks.l (.pointer a)) (R : RecW W W' x.st b a x.count X X1 r D r3 r4 r5 r6) :
    ∃ C' col' v, C'.w = W' ∧ C'.vis = C.vis ∧ C'.ρ = C.ρ ∧ Ext (fun y => y = b) C C' ∧ Inv C' (upd H i0 (.raw 1 (lkCs i0 (blkL x v)))) ∧ (∀ y, y < W.heap.size → col' y = col y) ∧ MkP W' C'.frz col' idx (x.st :: x.marks.l) v := by
  classical
  subst hw
  obtain ⟨Rn, Rd, Rc, Rw⟩ := R
  have o0 : OwnAt D 0 (.arr (.pkts x.st.sent)) := Rc.inv.own 0
  have o1 : OwnAt D 1 (.arr (.bools x.st.live)) := Rc.inv.own 1
  have o2 : OwnAt D 2 (.arr (.bools x.st.back)) := Rc.inv.own 2
  have o3 : OwnAt D 3 (.arr (.ints x.st.got)) := Rc.inv.own 3
  have hi := hI.own i0
  rw [hH] at hi
  obtain ⟨b', vs, e, h1, h2, h3, h4, h5, h6⟩ := hi
  rw [hr] at h1
  cases h1
  have hbW := lt_of_block h4
  have hDX : D.w = X := Rc.w
  have nX : Nw C.w X := Rn.trans Rc.nw
  have hXs := nX.size
  have hX1 := Rc.nw.size
  generalize hM : (.cells #[.int .i64 x.st.way, .int .i64 x.st.ver, .int .i64 x.st.want, r3, r4, r5, r6, .pointer a] 159 : Obj) = M at Rw
  have hMu : Unf M := by rw [← hM]; rfl
  have n2 : Nw C.w (X.alloc M) := nX.trans (Mk.alloc X hMu)
  have q2 : (X.alloc M).heap[b]? = some (.cells vs e (0, 0)) := (n2.block b hbW fun h => h).trans h4
  obtain ⟨vs1, q3, q4, q5, q6⟩ := setCell_cells (o := 11) (v := .pointer (some ⟨X.heap.size, 0, none⟩)) q2
  obtain ⟨vs2, q7, q8, q9, q10⟩ := setCell_cells (o := 12) (v := .int .i64 (x.count + 1)) q3
  rw [← Rw] at q7
  have hsz : vs.size = 14 := h5
  have hoth : ∀ k, k ≠ b → W'.heap[k]? = (X.alloc M).heap[k]? := fun k hk => by
    rw [Rw, setCell_other hk, setCell_other hk]
  have hWs : W'.heap.size = X.heap.size + 1 := by
    rw [Rw, size_setCell, size_setCell]
    simp
  have hnewD : ∀ i m y, D.ρ i = some (some y, m) → X1.heap.size ≤ y := fun i m y h => Rc.new i y m h
  obtain ⟨F, hF⟩ : ∃ F : Nat → Prop, F = fun y => C.frz y ∨ y = X.heap.size ∨ ∃ i m, i < 4 ∧ D.ρ i = some (some y, m) := ⟨_, rfl⟩
  have hnr : ∀ i m y, D.ρ i = some (some y, m) → y ≠ b ∧ C.w.heap.size ≤ y := fun i m y h => by
    have := hnewD i m y h
    omega
  have hlt : ∀ i m y, i < 4 → D.ρ i = some (some y, m) → y < X.heap.size := fun i m y h4 h => by
    rw [← hDX]
    match i, h4 with
    | 0, _ => exact Rc.inv.lt (i := 0) trivial h
    | 1, _ => exact Rc.inv.lt (i := 1) trivial h
    | 2, _ => exact Rc.inv.lt (i := 2) trivial h
    | 3, _ => exact Rc.inv.lt (i := 3) trivial h
  have hkeep : ∀ y, y < X.heap.size → y ≠ b → W'.heap[y]? = X.heap[y]? := fun y hy hn => by
    rw [hoth y hn, (Mk.alloc (R := fun _ => False) X hMu).block y hy fun h => h]
  have hrow : ∀ i m y, i < 4 → D.ρ i = some (some y, m) → F y ∧ W'.heap[y]? = D.w.heap[y]? := fun i m y h4 h => by
    refine ⟨by rw [hF]; exact .inr (.inr ⟨i, m, h4, h⟩), ?_⟩
    rw [hDX]
    exact hkeep y (hlt i m y h4 h) (hnr i m y h).1
  have hext : Ext (fun y => y = b) C ⟨W', F, C.vis, C.ρ⟩ := by
    refine ⟨by rw [Rw]; exact n2.os, by rw [Rw]; exact n2.tape, by rw [Rw]; exact n2.output, by show C.w.heap.size ≤ W'.heap.size; omega, fun y hy hn => ?_, fun y cs e' h => ?_, fun y o h0 h' => ?_, fun y h => by rw [hF]; exact .inl h, fun y h => ?_, rfl, fun _ _ h => h⟩
    · exact (hoth y hn).trans (n2.block y hy fun h => h)
    · by_cases hy : y = b
      · subst hy
        rw [h4] at h
        cases h
        exact ⟨vs2, q7, q8.trans q4⟩
      · exact ⟨cs, (hoth y hy).trans ((n2.block y (lt_of_block h) fun h => h).trans h), rfl⟩
    · by_cases hy : y = b
      · subst hy
        have h' : W'.heap[y]? = some o := h'
        rw [q7] at h'
        cases h'
        rfl
      · exact n2.unf y h0 o ((hoth y hy).symm.trans h')
    · rw [hF] at h
      rcases h with h | rfl | ⟨i, m, hi4, h⟩
      · exact .inl h
      · exact .inr (.inr (by omega))
      · exact .inr (.inr (hnr i m y h).2)
  have hoff : Off (fun y => y = b) C := hI.off fun y hy => ⟨i0, 1, by rw [hH]; trivial, by rw [hy]; exact hr⟩
  obtain ⟨f3, p3⟩ := flat_own (F := F) (W := W') o0 Rc.i3 (flat_pkts _) fun y m h => hrow 0 m y (by decide) h
  obtain ⟨f4, p4⟩ := flat_own (F := F) (W := W') o1 Rc.i4 (flat_bools _) fun y m h => hrow 1 m y (by decide) h
  obtain ⟨f5, p5⟩ := flat_own (F := F) (W := W') o2 Rc.i5 (flat_bools _) fun y m h => hrow 2 m y (by decide) h
  obtain ⟨f6, p6⟩ := flat_own (F := F) (W := W') o3 Rc.i6 (flat_ints _) fun y m h => hrow 3 m y (by decide) h
  obtain ⟨col', hc⟩ : ∃ col' : Nat → Pc, col' = fun y => if y < C.w.heap.size then col y else if D.ρ 0 = some (some y, x.st.sent.length) then .prow idx x.marks.l.length 3 else if D.ρ 1 = some (some y, x.st.live.length) then .prow idx x.marks.l.length 4 else if D.ρ 2 = some (some y, x.st.back.length) then .prow idx x.marks.l.length 5 else .prow idx x.marks.l.length 6 := ⟨_, rfl⟩
  have hcf : ∀ y, C.frz y → W'.heap[y]? = C.w.heap[y]? ∧ col' y = col y := fun y hy => by
    have hl := hI.frz y hy
    refine ⟨hext.blk y hl fun e => ?_, by rw [hc]; simp only [if_pos hl]⟩
    rw [e] at hy
    exact h2 hy
  have hne : ∀ i j y m n, i < 4 → j < 4 → i ≠ j → D.ρ i = some (some y, m) → ¬ D.ρ j = some (some y, n) := fun i j y m n hi hj hij h k => by
    refine hij (Rc.inv.inj i j y m n ?_ ?_ h k)
    · match i, hi with
      | 0, _ => trivial
      | 1, _ => trivial
      | 2, _ => trivial
      | 3, _ => trivial
    · match j, hj with
      | 0, _ => trivial
      | 1, _ => trivial
      | 2, _ => trivial
      | 3, _ => trivial
  have hmk : W'.heap[X.heap.size]? = some (.cells #[.int .i64 x.st.way, .int .i64 x.st.ver, .int .i64 x.st.want, r3, r4, r5, r6, .pointer a] 159 (0, 0)) := by
    rw [hoth _ (by omega), World.alloc_heap_new, hM]
  have hlo : ∀ i m y, D.ρ i = some (some y, m) → ¬ y < C.w.heap.size := fun i m y h => by have := (hnr i m y h).2; omega
  have hP : MkP W' F col' idx (x.st :: x.marks.l) (.pointer (some ⟨X.heap.size, 0, none⟩)) := by
    refine ⟨X.heap.size, _, _, rfl, by rw [hF]; exact .inr (.inl rfl), hmk, rfl, fun j y hj => ?_, .pointer a, rfl, hm.ext (fun y hy => by rw [hF]; exact .inl hy) (fun y hy => (hcf y hy).1) fun y hy => (hcf y hy).2⟩
    match j, hj with
    | 0, hj => cases hj; exact ⟨_, rfl, rfl, trivial⟩
    | 1, hj => cases hj; exact ⟨_, rfl, rfl, trivial⟩
    | 2, hj => cases hj; exact ⟨_, rfl, rfl, trivial⟩
    | 3, hj =>
      cases hj
      refine ⟨_, rfl, f3, fun h0 => ?_⟩
      obtain ⟨y, c, e1, e2⟩ := p3 h0
      exact ⟨y, c, e1, by rw [hc]; simp only [if_neg (hlo _ _ _ e2)]; exact if_pos e2⟩
    | 4, hj =>
      cases hj
      refine ⟨_, rfl, f4, fun h0 => ?_⟩
      obtain ⟨y, c, e1, e2⟩ := p4 h0
      exact ⟨y, c, e1, by rw [hc]; simp only [if_neg (hlo _ _ _ e2), if_neg (hne 1 0 _ _ _ (by decide) (by decide) (by decide) e2)]; exact if_pos e2⟩
    | 5, hj =>
      cases hj
      refine ⟨_, rfl, f5, fun h0 => ?_⟩
      obtain ⟨y, c, e1, e2⟩ := p5 h0
      exact ⟨y, c, e1, by rw [hc]; simp only [if_neg (hlo _ _ _ e2), if_neg (hne 2 0 _ _ _ (by decide) (by decide) (by decide) e2), if_neg (hne 2 1 _ _ _ (by decide) (by decide) (by decide) e2)]; exact if_pos e2⟩
    | 6, hj =>
      cases hj
      refine ⟨_, rfl, f6, fun h0 => ?_⟩
      obtain ⟨y, c, e1, e2⟩ := p6 h0
      exact ⟨y, c, e1, by rw [hc]; simp only [if_neg (hlo _ _ _ e2), if_neg (hne 3 0 _ _ _ (by decide) (by decide) (by decide) e2), if_neg (hne 3 1 _ _ _ (by decide) (by decide) (by decide) e2), if_neg (hne 3 2 _ _ _ (by decide) (by decide) (by decide) e2)]⟩
    | j + 7, hj => cases hj
  refine ⟨⟨W', F, C.vis, C.ρ⟩, col', .pointer (some ⟨X.heap.size, 0, none⟩), rfl, rfl, rfl, hext, ⟨fun j => ?_, fun i j y n m hi hj => ?_, fun y hy => ?_, fun y hy => ?_⟩, fun y hy => by rw [hc]; simp only [if_pos hy], ?_⟩
  · by_cases hj : j = i0
    · subst hj
      rw [upd_self]
      refine ⟨b, vs2, e, hr, fun hb => ?_, h3, q7, by rw [q8, q4]; exact h5, fun k y hk => ?_⟩
      · have hb : F b := hb
        rw [hF] at hb
        rcases hb with h | h | ⟨i, m, -, h⟩
        · exact h2 h
        · omega
        · exact (hnr i m b h).1 rfl
      · by_cases k11 : k = 11
        · subst k11
          cases hk
          exact ⟨_, (q9 11 (by decide)).trans (q6 (by omega)), hP.mkR, fun z hz => by cases hz; rfl⟩
        by_cases k12 : k = 12
        · subst k12
          cases hk
          exact ⟨_, q10 (by omega), rfl⟩
        have hk' : (lkCs j x)[k]? = some y := by
          rcases k with _ | _ | _ | _ | _ | _ | _ | _ | _ | _ | _ | _ | _ | _ | k
          all_goals first
            | exact hk
            | exact absurd rfl k11
            | exact absurd rfl k12
        obtain ⟨u, g1, g2⟩ := h6 k y hk'
        exact ⟨u, (q9 k k12).trans ((q5 k k11).trans g1), cellR_ext hext hoff g2⟩
    · rw [upd_ne hj]
      cases hHj : H j with
      | dead => trivial
      | _ =>
        rw [← hHj]
        refine OwnAt_ext hext hoff (hI.own j) fun y n hy e => hj ?_
        subst e
        exact hI.inj j i0 _ _ _ (by rw [hHj]; trivial) (by rw [hH]; trivial) hy hr
  · have key : ∀ j, (upd H i0 (.raw 1 (lkCs i0 (blkL x (.pointer (some ⟨X.heap.size, 0, none⟩))))) j).live → (H j).live := fun j h => by
      by_cases hj : j = i0
      · subst hj; rw [hH]; trivial
      · rwa [upd_ne hj] at h
    exact hI.inj i j y n m (key i hi) (key j hj)
  · have hy : F y := hy
    rw [hF] at hy
    show y < W'.heap.size
    rcases hy with h | rfl | ⟨i, m, hi4, h⟩
    · have := hI.frz y h; omega
    · omega
    · have := hlt i m y hi4 h; omega
  · have := hI.vis y hy
    show y < W'.heap.size
    omega
  · exact hP
end
end Hw
end Go.Proofs.YtklmllaggigkfaaGreat
namespace Go.Proofs.YtklmllaggigkfaaGreat
namespace Hw
open Go Go.RowKit
attribute [local go_sem] Oper.semAt_some
set_option maxRecDepth 100000
set_option linter.unusedVariables false
set_option linter.unusedSimpArgs false
set_option maxHeartbeats 10000000
structure SrcAt (W:World) (b:Nat) (x:Lk) (a:Option Addr) (cs:Array Value) (ty:TypeId) (u3 u4 u5 u6:Value):Prop where
 hb:W.heap[b]? = some (.cells cs ty (0,0))
 hz:cs.size = 14
 c4:cs[4]? = some (.int .i64 x.st.way)
 c5:cs[5]? = some (.int .i64 x.st.ver)
 c6:cs[6]? = some (.int .i64 x.st.want)
 c7:cs[7]? = some u3
 c8:cs[8]? = some u4
 c9:cs[9]? = some u5
 c10:cs[10]? = some u6
 c11:cs[11]? = some (.pointer a)
 c12:cs[12]? = some (.int .i64 x.count)
 h3:arrR W (inW W) 4 (.pkts x.st.sent) u3
 h4:arrR W (inW W) 4 (.bools x.st.live) u4
 h5:arrR W (inW W) 4 (.bools x.st.back) u5
 h6:arrR W (inW W) 4 (.ints x.st.got) u6
structure RecE (W W':World) (x:Lk) (b:Nat) (a:Option Addr):Prop where
 r:∃Wm X X1 r D r3 r4 r5 r6,Nw W Wm∧RecW Wm W' x.st b a x.count X X1 r D r3 r4 r5 r6
theorem block_in {W:World} {b:Nat} {x:Lk} {a:Option Addr} {cs:Array Value} {ty:TypeId} {u3 u4 u5 u6:Value} (S:SrcAt W b x a cs ty u3 u4 u5 u6) (hs:x.st.sm) (hk:0≤x.count∧x.count≤1000000) :
  CallsIn Fence.wide 4 Tryz.prog 47 #[.pointer (some ⟨b,0,none⟩)] W fun e W'=>e = .returned (.tuple #[])∧(x.count < 90→RecE W W' x b a)∧(¬ x.count < 90→Nw W W'):=by
 refine callsIn_of_wp Tryz.func47 rfl trivial ?_ rfl
 simp only [Tryz.ntmps47,List.size_toArray,List.length_cons,List.length_nil,Nat.reduceAdd,Nat.reduceSub,Array.replicate_succ,Array.replicate_zero,List.push_toArray,List.append_toArray,List.nil_append,List.cons_append]
 have d4:W.cell? ⟨b,4,none⟩ = _:=(cell_at S.hb).trans S.c4
 have d5:W.cell? ⟨b,5,none⟩ = _:=(cell_at S.hb).trans S.c5
 have d6:W.cell? ⟨b,6,none⟩ = _:=(cell_at S.hb).trans S.c6
 have d7:W.cell? ⟨b,7,none⟩ = _:=(cell_at S.hb).trans S.c7
 have d8:W.cell? ⟨b,8,none⟩ = _:=(cell_at S.hb).trans S.c8
 have d9:W.cell? ⟨b,9,none⟩ = _:=(cell_at S.hb).trans S.c9
 have d10:W.cell? ⟨b,10,none⟩ = _:=(cell_at S.hb).trans S.c10
 have d12:W.cell? ⟨b,12,none⟩ = _:=(cell_at S.hb).trans S.c12
 gi_wp2
 ·refine ⟨trivial,(record_in hs S.h3 S.h4 S.h5 S.h6 S.hb S.hz S.c11 S.c12 hk).mono ?_⟩
  rintro e W' ⟨rfl,X,X1,r,D,r3,r4,r5,r6,hR⟩
  have hE:RecE W W' x b a:=⟨W,X,X1,r,D,r3,r4,r5,r6,Mk.refl _ _,hR⟩
  clear hR d4 d5 d6 d7 d8 d9 d10 d12 S
  gi_wp2
  refine bodyPost_end (results_none rfl _ _ _) rfl ?_
  exact ⟨rfl,hE,fun h=>by omega⟩
 ·refine bodyPost_end (results_none rfl _ _ _) rfl ?_
  exact ⟨rfl,fun h'=>absurd h' (by omega),Mk.refl _ _⟩
theorem src_of {C:Cx} {H:Hp} {i0 b:Nat} {x:Lk} {a:Option Addr} (hI:Inv C H) (hH:H i0 = .raw 1 (lkCs i0 x)) (h3:H (i0 + 3) = .arr (.pkts x.st.sent)) (h4:H (i0 + 4) = .arr (.bools x.st.live)) (h5:H (i0 + 5) = .arr (.bools x.st.back)) (h6:H (i0 + 6) = .arr (.ints x.st.got)) (hr:C.ρ i0 = some (some b,1)) (hg:x.marks.g = some (.pointer a)) :
  ∃cs ty u3 u4 u5 u6,SrcAt C.w b x a cs ty u3 u4 u5 u6:=by
 have hi:=hI.own i0
 rw [hH] at hi
 obtain ⟨b',vs,e,h1,-,-,g4,g5,g6⟩:=hi
 rw [hr] at h1
 cases h1
 have o3:=hI.own (i0 + 3)
 have o4:=hI.own (i0 + 4)
 have o5:=hI.own (i0 + 5)
 have o6:=hI.own (i0 + 6)
 rw [h3] at o3
 rw [h4] at o4
 rw [h5] at o5
 rw [h6] at o6
 obtain ⟨_,k4,rfl⟩:=g6 4 _ rfl
 obtain ⟨_,k5,rfl⟩:=g6 5 _ rfl
 obtain ⟨_,k6,rfl⟩:=g6 6 _ rfl
 obtain ⟨u3,k7,e7⟩:=g6 7 _ rfl
 obtain ⟨u4,k8,e8⟩:=g6 8 _ rfl
 obtain ⟨u5,k9,e9⟩:=g6 9 _ rfl
 obtain ⟨u6,k10,e10⟩:=g6 10 _ rfl
 obtain ⟨v,k11,e11⟩:=g6 11 _ rfl
 obtain ⟨_,k12,rfl⟩:=g6 12 _ rfl
 have:=e11.2 _ hg
 subst this
 refine ⟨vs,e,u3,u4,u5,u6,g4,g5,k4,k5,k6,k7,k8,k9,k10,k11,k12,?_,?_,?_,?_⟩
 ·exact arrR_34 (flat_own (F:=inW C.w) (W:=C.w) o3 e7 (flat_pkts _) fun y m h=>⟨hI.lt (i:=i0 + 3) (by rw [h3]; trivial) h,rfl⟩).1
 ·exact arrR_34 (flat_own (F:=inW C.w) (W:=C.w) o4 e8 (flat_bools _) fun y m h=>⟨hI.lt (i:=i0 + 4) (by rw [h4]; trivial) h,rfl⟩).1
 ·exact arrR_34 (flat_own (F:=inW C.w) (W:=C.w) o5 e9 (flat_bools _) fun y m h=>⟨hI.lt (i:=i0 + 5) (by rw [h5]; trivial) h,rfl⟩).1
 ·exact arrR_34 (flat_own (F:=inW C.w) (W:=C.w) o6 e10 (flat_ints _) fun y m h=>⟨hI.lt (i:=i0 + 6) (by rw [h6]; trivial) h,rfl⟩).1
structure BlkQ (x y:Lk):Prop where
 yes:x.count < 90→∃v,y = blkL x v
 no:¬ x.count < 90→y = x
structure BlkP (l o:Lk) (e:Ev) (r q:Lk):Prop where
 one:e.chain = 1→BlkQ l r∧q = o
 two:e.chain = 2→BlkQ o q∧r = l
 none:¬ (1≤e.chain∧e.chain≤2)→r = l∧q = o
theorem upd_one {l o:Lk} {v:Value}:upd (hpOf (prB l o)) 1 (.raw 1 (lkCs 1 (blkL l v))) = hpOf (prB (blkL l v) o):=by
 funext i
 match i with
 | 0=>rfl
 | 1=>rfl
 | 2=>rfl
 | 3=>rfl
 | 4=>rfl
 | 5=>rfl
 | 6=>rfl
 | 7=>rfl
 | 8=>rfl
 | 9=>rfl
 | 10=>rfl
 | 11=>rfl
 | 12=>rfl
 | 13=>rfl
 | 14=>rfl
 | 15=>rfl
 | 16=>rfl
 | i + 17=>rfl
theorem upd_two {l o:Lk} {v:Value}:upd (hpOf (prB l o)) 9 (.raw 1 (lkCs 9 (blkL o v))) = hpOf (prB l (blkL o v)):=by
 funext i
 match i with
 | 0=>rfl
 | 1=>rfl
 | 2=>rfl
 | 3=>rfl
 | 4=>rfl
 | 5=>rfl
 | 6=>rfl
 | 7=>rfl
 | 8=>rfl
 | 9=>rfl
 | 10=>rfl
 | 11=>rfl
 | 12=>rfl
 | 13=>rfl
 | 14=>rfl
 | 15=>rfl
 | 16=>rfl
 | i + 17=>rfl
section
variable {W0 W W':World} {p b:Nat} {l o:Lk} {C:Cx} {col:Nat→Pc} {a:Option Addr}
theorem pair_blk1 (h:PairAt W0 W p l o C col) (hr:C.ρ 1 = some (some b,1)) (hg:l.marks.g = some (.pointer a)) (hR:RecE W W' l b a) :
  ∃v C' col',PairAt W0 W' p (blkL l v) o C' col':=by
 obtain ⟨Wm,X,X1,r,D,r3,r4,r5,r6,hn,hR⟩:=hR
 have h:=h.next hn
 obtain ⟨hw,h2,h3,h4,h5,h6,h7,h8,⟨v0,h9,h10⟩,⟨v1,h11,h12⟩⟩:=h
 rw [hg] at h9
 cases h9
 obtain ⟨C',col',v,k1,k2,k3,k4,k5,k6,k7⟩:=rec_link (C:=⟨Wm,C.frz,C.vis,C.ρ⟩) h2 hw (i0:=1) (idx:=0) (x:=l) rfl hr hg h10 hR
 have hb0:∀y,y = b→W0.heap.size≤y:=fun y hy=>h5 1 y 1 (by rw [hy]; exact hr)
 have hof:∀y,C.frz y→y≠b:=fun y hy e=>(own_out h2 (i:=1) trivial hr).1 (by rw [← e]; exact hy)
 refine ⟨v,C',col',k1,upd_one ▸ k5,fun i hi=>by rw [k3]; exact h3 i hi,by rw [k3]; exact h4,fun i y m hi=>h5 i y m (by rw [k3] at hi; exact hi),fun y hy=>?_,fun y hy=>h7 y (by rw [k2] at hy; exact hy),?_,⟨v,rfl,k7⟩,⟨v1,h11,?_⟩⟩
 ·rcases k4.new y hy with g | g | g
  ·exact h6 y g
  ·exact hb0 y g
  ·exact Nat.le_trans h8.size g
 ·rw [← k1]
  exact Ext.nw h8 k4 hb0
 ·refine h12.ext k4.frz (fun y hy=>?_) fun y hy=>k6 y (h2.frz y hy)
  rw [← k1]
  exact k4.blk y (h2.frz y hy) (hof y hy)
theorem pair_blk2 (h:PairAt W0 W p l o C col) (hr:C.ρ 9 = some (some b,1)) (hg:o.marks.g = some (.pointer a)) (hR:RecE W W' o b a) :
  ∃v C' col',PairAt W0 W' p l (blkL o v) C' col':=by
 obtain ⟨Wm,X,X1,r,D,r3,r4,r5,r6,hn,hR⟩:=hR
 have h:=h.next hn
 obtain ⟨hw,h2,h3,h4,h5,h6,h7,h8,⟨v0,h9,h10⟩,⟨v1,h11,h12⟩⟩:=h
 rw [hg] at h11
 cases h11
 obtain ⟨C',col',v,k1,k2,k3,k4,k5,k6,k7⟩:=rec_link (C:=⟨Wm,C.frz,C.vis,C.ρ⟩) h2 hw (i0:=9) (idx:=1) (x:=o) rfl hr hg h12 hR
 have hb0:∀y,y = b→W0.heap.size≤y:=fun y hy=>h5 9 y 1 (by rw [hy]; exact hr)
 have hof:∀y,C.frz y→y≠b:=fun y hy e=>(own_out h2 (i:=9) trivial hr).1 (by rw [← e]; exact hy)
 refine ⟨v,C',col',k1,upd_two ▸ k5,fun i hi=>by rw [k3]; exact h3 i hi,by rw [k3]; exact h4,fun i y m hi=>h5 i y m (by rw [k3] at hi; exact hi),fun y hy=>?_,fun y hy=>h7 y (by rw [k2] at hy; exact hy),?_,⟨v0,h9,?_⟩,⟨v,rfl,k7⟩⟩
 ·rcases k4.new y hy with g | g | g
  ·exact h6 y g
  ·exact hb0 y g
  ·exact Nat.le_trans h8.size g
 ·rw [← k1]
  exact Ext.nw h8 k4 hb0
 ·refine h10.ext k4.frz (fun y hy=>?_) fun y hy=>k6 y (h2.frz y hy)
  rw [← k1]
  exact k4.blk y (h2.frz y hy) (hof y hy)
end
end Hw
end Go.Proofs.YtklmllaggigkfaaGreat
namespace Go.Proofs.YtklmllaggigkfaaGreat
namespace Hw
open Go Go.RowKit
attribute [local go_sem] Oper.semAt_some
set_option maxRecDepth 100000
set_option linter.unusedVariables false
set_option linter.unusedSimpArgs false
set_option maxHeartbeats 10000000
theorem chainOk_in {k:Int} {W:World} {n:Nat}:CallsIn Fence.wide n Tryz.prog 45 #[.int .i64 k] W fun e W'=>e = .returned (.bool (decide (1≤k∧k≤2)))∧Nw W W':=by
 refine (callsIn_wide.2 (vcall Zdb.good (k,()) rfl (fun p h=>by cases h) (W:=W) (vs:=[.int .i64 k]) ⟨rfl,trivial⟩)).mono ?_
 rintro e W' ⟨v,D,rfl,rfl,h1,-,h2,-,-⟩
 have q:=(qF Zdb.X (k,()) trivial).1
 refine ⟨?_,h2⟩
 obtain rfl:v = .bool (Zdb.S (k,())):=h1
 congr 2
 rw [Bool.eq_iff_iff,q,decide_eq_true_iff]
theorem ends_in {W0 W:World} {p:Nat} {l o:Lk} {C:Cx} {col:Nat→Pc} (h:PairAt W0 W p l o C col):∃b1 b2,C.ρ 1 = some (some b1,1)∧C.ρ 9 = some (some b2,1)∧W.cell? ⟨p,0,none⟩ = some (.pointer (some ⟨b1,0,none⟩))∧W.cell? ⟨p,1,none⟩ = some (.pointer (some ⟨b2,0,none⟩)):=by
 obtain ⟨rfl,h2,h3,h4,-⟩:=h
 obtain ⟨b,vs,e,k1,-,-,k4,k5,k6⟩:=(h2.own 0:OwnAt C 0 (.raw 1 [.ptr 1 0,.ptr 9 0]))
 rw [h4] at k1
 cases k1
 obtain ⟨b1,vs1,e1,m1,-⟩:=(h2.own 1:OwnAt C 1 (.raw 1 (lkCs 1 l)))
 obtain ⟨b2,vs2,e2,m2,-⟩:=(h2.own 9:OwnAt C 9 (.raw 1 (lkCs 9 o)))
 obtain ⟨u,q1,b1',n1,q2,rfl⟩:=k6 0 _ rfl
 obtain ⟨u',q3,b2',n2,q4,rfl⟩:=k6 1 _ rfl
 rw [m1] at q2
 cases q2
 rw [m2] at q4
 cases q4
 exact ⟨b1,b2,m1,m2,(cell_at k4).trans q1,(cell_at k4).trans q3⟩
def evVal (e:Ev):Value:=.agg #[.int .i64 e.kind,.int .i64 e.chain,.int .i64 e.height,.int .i64 e.n,.int .i64 e.pkt.seq,.int .i64 e.pkt.kind,.int .i64 e.pkt.frm,.int .i64 e.pkt.to,.int .i64 e.pkt.sum,.int .i64 e.pkt.til,.int .i64 e.pkt.ver]
theorem nw_heap {W W':World} (h1:W'.heap = W.heap) (h2:W'.os = W.os) (h3:W'.tape = W.tape) (h4:W'.output = W.output):Nw W W' :=
 Mk.of h2 h3 h4 (by rw [h1]; exact Nat.le_refl _) (fun b _=>by rw [h1]) fun b h o ho=>h o (by rw [← h1]; exact ho)
theorem ends_one {p:Nat} {x y:Addr} {k:Int} {W:World} (hk:k = 1) (h0:W.cell? ⟨p,0,none⟩ = some (.pointer (some x))) (h1:W.cell? ⟨p,1,none⟩ = some (.pointer (some y))):CallsIn Fence.wide 8 Tryz.prog 46 #[.pointer (some ⟨p,0,none⟩),.int .i64 k] W fun e W'=>e = .returned (.tuple #[.pointer (some x),.pointer (some y)])∧Nw W W':=by
 subst hk
 refine ((ends1 p _ _ W h0 h1 rfl rfl).more (by omega)).mono ?_
 rintro e W' ⟨h1,h2,h3,h4,h5⟩
 exact ⟨h1,nw_heap h2 h3 h4 h5⟩
theorem ends_two {p:Nat} {x y:Addr} {k:Int} {W:World} (hk:k = 2) (h0:W.cell? ⟨p,0,none⟩ = some (.pointer (some x))) (h1:W.cell? ⟨p,1,none⟩ = some (.pointer (some y))):CallsIn Fence.wide 8 Tryz.prog 46 #[.pointer (some ⟨p,0,none⟩),.int .i64 k] W fun e W'=>e = .returned (.tuple #[.pointer (some y),.pointer (some x)])∧Nw W W':=by
 subst hk
 refine ((ends2 p _ _ W h0 h1 rfl rfl).more (by omega)).mono ?_
 rintro e W' ⟨h1,h2,h3,h4,h5⟩
 exact ⟨h1,nw_heap h2 h3 h4 h5⟩
theorem ptr_of {W:World} {F:Nat→Prop} {col:Nat→Pc} {i:Nat}:∀{l:List St} {v:Value},MkP W F col i l v→∃a,v = .pointer a
 | [],v,h=>⟨_,h⟩
 | s :: r,v,⟨m,cs,e,h1,_⟩=>⟨_,h1⟩
structure IsI (n m:Int):Prop where
 h:m = n
structure DoB (W0 W W':World) (p:Nat) (l o:Lk) (e:Ev):Prop where
 r:∃r q C' col',BlkP l o e r q∧PairAt W0 W' p r q C' col'
theorem do_block {W0 W:World} {p:Nat} {l o:Lk} {C:Cx} {col:Nat→Pc} {e:Ev} (h:PairAt W0 W p l o C col) (hk:e.kind = 1) (hl:l.st.sm∧0≤l.count∧l.count≤1000000) (ho:o.st.sm∧0≤o.count∧o.count≤1000000) :
  CallsIn Fence.wide 9 Tryz.prog 25 #[.pointer (some ⟨p,0,none⟩),evVal e] W fun x W'=>x = .returned (.tuple #[])∧DoB W0 W W' p l o e:=by
 refine callsIn_of_wp Tryz.func25 rfl trivial ?_ rfl
 unfold evVal
 rw [hk]
 clear hk
 simp only [Tryz.ntmps25,List.size_toArray,List.length_cons,List.length_nil,Nat.reduceAdd,Nat.reduceSub,Array.replicate_succ,Array.replicate_zero,List.push_toArray,List.append_toArray,List.nil_append,List.cons_append]
 gi_wp2
 generalize hY:W.alloc _ = Y
 have n0:Nw W Y:=hY ▸ Mk.alloc W rfl
 have hq:Y.heap[W.heap.size]? = some (.cells #[.int .i64 1,.int .i64 e.chain,.int .i64 e.height,.int .i64 e.n,.int .i64 e.pkt.seq,.int .i64 e.pkt.kind,.int .i64 e.pkt.frm,.int .i64 e.pkt.to,.int .i64 e.pkt.sum,.int .i64 e.pkt.til,.int .i64 e.pkt.ver] 48 (0,0)):=by
  rw [← hY,World.alloc_heap_new]
 clear hY
 refine ⟨trivial,chainOk_in.mono ?_⟩
 rintro x Z ⟨rfl,n1⟩
 have h:=h.next (n0.trans n1)
 have hz:Z.heap[W.heap.size]? = _:=(n1.block _ (lt_of_block hq) fun h=>h).trans hq
 have hc0:Z.cell? ⟨W.heap.size,0,none⟩ = some (.int .i64 1):=cell_at hz
 have hc1:Z.cell? ⟨W.heap.size,1,none⟩ = some (.int .i64 e.chain):=cell_at hz
 generalize W.heap.size = B at *
 clear n0 n1 hq hz
 by_cases g:1≤e.chain∧e.chain≤2
 ·rw [decide_eq_true g]
  obtain ⟨b1,b2,r1,r2,p1,p2⟩:=ends_in h
  have g':e.chain = 1∨e.chain = 2:=by omega
  clear g
  rcases g' with g | g
  ·have hg:IsI 1 e.chain:=⟨g⟩
   clear g
   gi_wp2
   refine ⟨trivial,(ends_one hg.h p1 p2).mono ?_⟩
   rintro x Z2 ⟨rfl,n2⟩
   have h:=h.next n2
   obtain ⟨v0,m0,m1⟩:=h.m0
   obtain ⟨a,rfl⟩:=ptr_of m1
   obtain ⟨cs,ty,u3,u4,u5,u6,hS⟩:=src_of (i0:=1) h.inv rfl rfl rfl rfl rfl r1 m0
   have hc0:Z2.cell? ⟨B,0,none⟩ = some (.int .i64 1):=n2.keep (fun h=>h) hc0
   clear p1 p2 hc1
   gi_wp2
   refine ⟨trivial,((block_in hS hl.1 hl.2).more (by omega)).mono ?_⟩
   rintro x Z3 ⟨rfl,hB1,hB2⟩
   have hD:DoB W0 W Z3 p l o e:=by
    by_cases c:l.count < 90
    ·obtain ⟨v,C',col',hP⟩:=pair_blk1 h r1 m0 (hB1 c)
     exact ⟨_,_,C',col',⟨fun _=>⟨⟨fun _=>⟨v,rfl⟩,fun h=>absurd c h⟩,rfl⟩,fun h=>by have:=hg.h; omega,fun h=>by have:=hg.h; omega⟩,hP⟩
    ·exact ⟨l,o,_,col,⟨fun _=>⟨⟨fun h=>absurd h c,fun _=>rfl⟩,rfl⟩,fun h=>by have:=hg.h; omega,fun _=>⟨rfl,rfl⟩⟩,h.next (hB2 c)⟩
   clear hB1 hB2 hS h m0 m1 hc0
   gi_wp2
   refine bodyPost_end (results_none rfl _ _ _) rfl ?_
   exact ⟨rfl,hD⟩
  ·have hg:IsI 2 e.chain:=⟨g⟩
   clear g
   gi_wp2
   refine ⟨trivial,(ends_two hg.h p1 p2).mono ?_⟩
   rintro x Z2 ⟨rfl,n2⟩
   have h:=h.next n2
   obtain ⟨v0,m0,m1⟩:=h.m1
   obtain ⟨a,rfl⟩:=ptr_of m1
   obtain ⟨cs,ty,u3,u4,u5,u6,hS⟩:=src_of (i0:=9) h.inv rfl rfl rfl rfl rfl r2 m0
   have hc0:Z2.cell? ⟨B,0,none⟩ = some (.int .i64 1):=n2.keep (fun h=>h) hc0
   clear p1 p2 hc1
   gi_wp2
   refine ⟨trivial,(CallsIn.more (block_in hS ho.1 ho.2) (by omega)).mono ?_⟩
   rintro x Z3 ⟨rfl,hB1,hB2⟩
   have hD:DoB W0 W Z3 p l o e:=by
    by_cases c:o.count < 90
    ·obtain ⟨v,C',col',hP⟩:=pair_blk2 h r2 m0 (hB1 c)
     exact ⟨_,_,C',col',⟨fun h=>by have:=hg.h; omega,fun _=>⟨⟨fun _=>⟨v,rfl⟩,fun h=>absurd c h⟩,rfl⟩,fun h=>by have:=hg.h; omega⟩,hP⟩
    ·exact ⟨l,o,_,col,⟨fun h=>by have:=hg.h; omega,fun _=>⟨⟨fun h=>absurd h c,fun _=>rfl⟩,rfl⟩,fun _=>⟨rfl,rfl⟩⟩,h.next (hB2 c)⟩
   clear hB1 hB2 hS h m0 m1 hc0
   gi_wp2
   refine bodyPost_end (results_none rfl _ _ _) rfl ?_
   exact ⟨rfl,hD⟩
 ·rw [decide_eq_false g]
  gi_wp2
  refine bodyPost_ret (results_none rfl _ _ _) rfl ?_
  exact ⟨rfl,l,o,_,col,⟨fun h=>by omega,fun h=>by omega,fun _=>⟨rfl,rfl⟩⟩,h⟩
end Hw
end Go.Proofs.YtklmllaggigkfaaGreat
