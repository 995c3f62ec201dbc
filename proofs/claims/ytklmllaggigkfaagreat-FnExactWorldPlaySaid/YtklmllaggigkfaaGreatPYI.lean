/- A run of a pair, from the beginning on: the walk of WorldPlay. -/
import Derived.Shelf.Abstract
import Derived.RangeFuncBox
import Derived.WalkKit
import Derived.OwnWalkIn
import Derived.TacticsInMore
import Derived.LoopNIn
import Derived.LoopIn
import Derived.Stop.RegionWithIn
import Derived.RegionIn
import Derived.BigRegionIn
import Derived.Test.YtklmllaggigkfaaGreatPYP
namespace Go.Proofs.YtklmllaggigkfaaGreat
namespace Hw
open Go Go.RowKit
attribute [local go_sem] Oper.semAt_some
set_option maxRecDepth 100000
set_option linter.unusedVariables false
set_option linter.unusedSimpArgs false
set_option maxHeartbeats 10000000
structure DoA (W0 W':World) (p:Nat) (l o:Lk) (e:Ev):Prop where
 r:∃r q C' col',StepP l o e r q∧PairAt W0 W' p r q C' col'
theorem evVal_at (e:Ev) (C:Cx):fvR C (.agg (evCells e)) (evVal e):=by
 refine ⟨_,rfl,rfl,fun j x hj=>?_⟩
 match j,hj with
 | 0,hj=>cases hj; exact ⟨_,rfl,rfl⟩
 | 1,hj=>cases hj; exact ⟨_,rfl,rfl⟩
 | 2,hj=>cases hj; exact ⟨_,rfl,rfl⟩
 | 3,hj=>cases hj; exact ⟨_,rfl,rfl⟩
 | 4,hj=>cases hj; exact ⟨_,rfl,rfl⟩
 | 5,hj=>cases hj; exact ⟨_,rfl,rfl⟩
 | 6,hj=>cases hj; exact ⟨_,rfl,rfl⟩
 | 7,hj=>cases hj; exact ⟨_,rfl,rfl⟩
 | 8,hj=>cases hj; exact ⟨_,rfl,rfl⟩
 | 9,hj=>cases hj; exact ⟨_,rfl,rfl⟩
 | 10,hj=>cases hj; exact ⟨_,rfl,rfl⟩
 | j + 11,hj=>cases hj
theorem lk_sm {l:Lk} (h:LkOk l):l.st.sm∧0≤l.count∧l.count≤1000000:=by
 have h1:=h.le
 have h2:=h.cnt
 exact ⟨sin_sm (stOk_in h.ok.2.2.1),by omega,by omega⟩
theorem do_any {W0 W:World} {p:Nat} {l o:Lk} {C:Cx} {col:Nat→Pc} {e:Ev} (h:PairAt W0 W p l o C col) (hl:LkOk l) (ho:LkOk o) :
  CallsIn Fence.wide 9 Tryz.prog 25 #[.pointer (some ⟨p,0,none⟩),evVal e] W fun x W'=>x = .returned (.tuple #[])∧DoA W0 W' p l o e:=by
 by_cases hk:e.kind = 1
 ·refine (do_block h hk (lk_sm hl) (lk_sm ho)).mono ?_
  rintro x W' ⟨rfl,r,q,C',col',h1,h2⟩
  exact ⟨rfl,r,q,C',col',⟨fun _=>h1,fun g=>absurd hk g⟩,h2⟩
 ·refine (do_else h hk hl.inn ho.inn (evVal_at e)).mono ?_
  rintro x W' ⟨rfl,r,q,C',h1,h2,-⟩
  exact ⟨rfl,r,q,C',col,⟨fun g=>absurd g hk,fun _=>h1⟩,h2⟩
def evL (e:Ev):List Value:=[.int .i64 e.kind,.int .i64 e.chain,.int .i64 e.height,.int .i64 e.n,.int .i64 e.pkt.seq,.int .i64 e.pkt.kind,.int .i64 e.pkt.frm,.int .i64 e.pkt.to,.int .i64 e.pkt.sum,.int .i64 e.pkt.til,.int .i64 e.pkt.ver]
def EvsW (W:World) (R:Nat→Prop) (es:List Ev) (v:Value):Prop:=RowW W R v es.length 11 fun k j u=>(evL (es.getD k zEv))[j]? = some u
theorem evsW_of {w:World} {S:Nat→Prop} {d:Nat} {es:List Ev} {v:Value} (h:arrR w S (d + 1) (.evs es) v):EvsW w S es v:=rowW_of h rfl rfl (by decide) fun k hk j hj=>by
 match j,hj with
 | 0,_=>exact ⟨_,rfl,fun u hu=>congrArg some hu.symm⟩
 | 1,_=>exact ⟨_,rfl,fun u hu=>congrArg some hu.symm⟩
 | 2,_=>exact ⟨_,rfl,fun u hu=>congrArg some hu.symm⟩
 | 3,_=>exact ⟨_,rfl,fun u hu=>congrArg some hu.symm⟩
 | 4,_=>exact ⟨_,rfl,fun u hu=>congrArg some hu.symm⟩
 | 5,_=>exact ⟨_,rfl,fun u hu=>congrArg some hu.symm⟩
 | 6,_=>exact ⟨_,rfl,fun u hu=>congrArg some hu.symm⟩
 | 7,_=>exact ⟨_,rfl,fun u hu=>congrArg some hu.symm⟩
 | 8,_=>exact ⟨_,rfl,fun u hu=>congrArg some hu.symm⟩
 | 9,_=>exact ⟨_,rfl,fun u hu=>congrArg some hu.symm⟩
 | 10,_=>exact ⟨_,rfl,fun u hu=>congrArg some hu.symm⟩
structure EvAt (W:World) (b off:Nat) (e:Ev):Prop where
 c:∀j u,(evL e)[j]? = some u→W.cell? ⟨b,off + j,none⟩ = some u
theorem ret_row2 {fn:Func} {p t:Tmp} {ty:TypeId} (h:fn.results = #[.cell p ty,.tmp t]) {tmps:Array Value} {w:World} {g:Nat} {t':TypeId} {cs:Array Value} {v:Value} (hp:tmps.getD p undef = .pointer (some ⟨g,0,none⟩)) (hv:tmps.getD t undef = v) (hg:w.heap[g]? = some (.cells cs t' (0,0))) (hr:(T.get ty).map (fun ti=>(ti.agg,ti.size)) = some (true,cs.size)):(results fn tmps).run Tryz.prog w = .ok (.tuple #[.agg cs,v]) w:=by
 obtain ⟨d,h1,h2,h3⟩:=row_of hr
 have hp':tmps[p]?.getD undef = .pointer (some ⟨g,0,none⟩):=by simpa using hp
 have hv':tmps[t]?.getD undef = v:=by simpa using hv
 have hx:=run_loadVar_row w g t' ty cs (0,0) d hg h1 (by cases d <;> first | rfl | cases h2) h3
 simp [results,h,hp',hv',asAddr,hx]
structure PlyQ (W W':World) (es:List Ev) (g:Value) (t:Bool):Prop where
 yes:es.length≤60→t = true∧∃l o,PlayP es l o∧WldN W W' [lkChain l,lkChain o] g
 no:¬ es.length≤60→t = false∧WldN W W' [] g
structure Tk (es:List Ev) (k:Nat) (e:Ev):Prop where
 h:es.take (k + 1) = es.take k ++ [e]
theorem take_one {es:List Ev} {k:Nat} (h:k < es.length):es.take (k + 1) = es.take k ++ [es.getD k zEv]:=by
 rw [List.take_add_one,List.getD_eq_getElem?_getD,List.getElem?_eq_getElem h]
 rfl
theorem wldN_nil {W W':World} (n:Nw W W'):WldN W W' [] (.agg #[.slice none 0 0]) :=
 ⟨n,fun _=>False,fun _=>.other,.slice none 0 0,rfl,fun b h=>h.elim,⟨fun b h=>h.elim,_,rfl,none,0,rfl,Nat.le_refl _,by decide,fun k hk=>absurd hk (Nat.not_lt_zero k)⟩,fun h=>absurd h (Nat.not_lt_zero 0)⟩
theorem play_in {W:World} {es:List Ev} {R:Nat→Prop} {A:Option Addr} {n c:Nat} (hn:n = es.length) (hv:EvsW W R es (.slice A n c)) :
  CallsIn Fence.wide 10 Tryz.prog 9 #[.slice A n c] W fun e W'=>∃g t,e = .returned (.tuple #[g,.bool t])∧PlyQ W W' es g t:=by
 refine callsIn_of_wp Tryz.func9 rfl trivial ?_ rfl
 simp only [Tryz.ntmps9,List.size_toArray,List.length_cons,List.length_nil,Nat.reduceAdd,Nat.reduceSub,Array.replicate_succ,Array.replicate_zero,List.push_toArray,List.append_toArray,List.nil_append,List.cons_append]
 subst hn
 gi_wp2
 ·refine bodyPost_ret (ret_row2 rfl rfl rfl (World.alloc_heap_new _ _) (by kernel_rfl)) rfl ?_
  exact ⟨_,_,rfl,⟨fun h=>by omega,fun _=>⟨rfl,wldN_nil (Mk.alloc W rfl)⟩⟩⟩
 ·have hle:es.length≤60:=by omega
  generalize hY0:W.alloc (.cells #[.slice none 0 0] 26) = Y0
  have n0:Nw W Y0:=hY0 ▸ Mk.alloc W rfl
  have hz:Y0.heap[W.heap.size]? = some (.cells #[.slice none 0 0] 26 (0,0)):=by rw [← hY0,World.alloc_heap_new]
  clear hY0
  refine ⟨trivial,pairNew_in.mono ?_⟩
  rintro e Y ⟨p,rfl,C,hP⟩
  generalize hz0:W.heap.size = z at hz ⊢
  have hzW:W.heap.size≤z:=Nat.le_of_eq hz0
  clear hz0
  gi_wp2
  gi_loopw [14] (fun i wr=>∃k:Nat,k≤es.length∧i = .int .i64 k∧∃l o C col,PlayP (es.take k) l o∧PairAt Y0 wr p l o C col)
   (fun i _=>es.length - (intOf i).toNat)
  case atStart=>exact ⟨0,Nat.zero_le _,rfl,_,_,C,_,by rw [List.take_zero]; exact .nil,hP⟩
  case round =>
   obtain ⟨k,hk,rfl,l,o,C,col,hPl,hPr⟩:=hrel
   by_cases hlt:k < es.length
   ·obtain ⟨A',c',e',-,hrow⟩:=id hv
    cases e'
    obtain ⟨b,off,rfl,-,hc⟩:=hrow (by omega)
    have hT:Tk es k (es.getD k zEv):=⟨take_one hlt⟩
    have hE:EvAt wr b (off + k * 11) (es.getD k zEv):=⟨fun j u hj=>by
     obtain ⟨u',h1,h2⟩:=hc k hlt j (List.getElem?_eq_some_iff.1 hj).1
     rw [hj] at h2
     cases h2
     rw [Nat.add_assoc]
     exact (n0.trans hPr.nw).keep (fun h=>h) h1⟩
    generalize es.getD k zEv = ev at hT hE
    have c0:wr.cell? ⟨b,off + k * 11,none⟩ = some (.int .i64 ev.kind):=hE.c 0 _ rfl
    have c1:wr.cell? ⟨b,off + k * 11 + 1,none⟩ = some (.int .i64 ev.chain):=hE.c 1 _ rfl
    have c2:wr.cell? ⟨b,off + k * 11 + 2,none⟩ = some (.int .i64 ev.height):=hE.c 2 _ rfl
    have c3:wr.cell? ⟨b,off + k * 11 + 3,none⟩ = some (.int .i64 ev.n):=hE.c 3 _ rfl
    have c4:wr.cell? ⟨b,off + k * 11 + 4,none⟩ = some (.int .i64 ev.pkt.seq):=hE.c 4 _ rfl
    have c5:wr.cell? ⟨b,off + k * 11 + 5,none⟩ = some (.int .i64 ev.pkt.kind):=hE.c 5 _ rfl
    have c6:wr.cell? ⟨b,off + k * 11 + 6,none⟩ = some (.int .i64 ev.pkt.frm):=hE.c 6 _ rfl
    have c7:wr.cell? ⟨b,off + k * 11 + 7,none⟩ = some (.int .i64 ev.pkt.to):=hE.c 7 _ rfl
    have c8:wr.cell? ⟨b,off + k * 11 + 8,none⟩ = some (.int .i64 ev.pkt.sum):=hE.c 8 _ rfl
    have c9:wr.cell? ⟨b,off + k * 11 + 9,none⟩ = some (.int .i64 ev.pkt.til):=hE.c 9 _ rfl
    have c10:wr.cell? ⟨b,off + k * 11 + 10,none⟩ = some (.int .i64 ev.pkt.ver):=hE.c 10 _ rfl
    have hki:(k:Int) < es.length:=by omega
    clear hc hrow hE hv
    gi_wp2
    refine ⟨trivial,(do_any (hPr.next (Mk.alloc wr (show Unf (.cells (evL ev).toArray 48) from rfl))) (play_ok hPl).1 (play_ok hPl).2).mono ?_⟩
    rintro x W2 ⟨rfl,r,q,C',col',hS,hP2⟩
    have hPl2:PlayP (es.take (k + 1)) r q:=by
     rw [hT.h]
     exact .snoc hPl hS
    clear c0 c1 c2 c3 c4 c5 c6 c7 c8 c9 c10 hPl hS hT hPr
    gi_wp2
    go_roundw
    case rel=>exact ⟨k + 1,by omega,rfl,r,q,C',col',hPl2,hP2⟩
    case measure=>simp [intOf]; omega
   ·obtain rfl:k = es.length:=by omega
    have hk:=play_ok hPl
    rw [List.take_length] at hPl
    have l1:=lk_sm hk.1
    have l2:=lk_sm hk.2
    gi_wp2
    refine ⟨trivial,(world_at hPr ⟨hk.1.cnt,l1.2.2⟩ ⟨hk.2.cnt,l2.2.2⟩).mono ?_⟩
    rintro x W2 ⟨g,rfl,hW⟩
    have hz2:=(hW.nw.block z (lt_of_block hz) fun h=>h).trans hz
    have zc:W2.cell? ⟨z,0,none⟩ = some (.slice none 0 0):=cell_at hz2
    have zf:∀o,W2.frozen? ⟨z,o,none⟩ = false:=fun o=>(unfR_at hz2).at rfl
    have hsz:z < Y0.heap.size:=lt_of_block hz
    have hF:∀v,WldN W (W2.setCell ⟨z,0,none⟩ v) [lkChain l,lkChain o] g:=fun v=>hW.to (nw_set (n0.trans hW.nw) hzW) n0.size (Nat.le_of_eq size_setCell.symm) fun b hb _=>setCell_other (by omega)
    obtain ⟨B,cc,rfl⟩:=hW.out
    clear hW hPr l1 l2
    gi_wp2
    refine bodyPost_ret (ret_row2 rfl rfl rfl (setCell_at hz2) (by kernel_rfl)) rfl ?_
    exact ⟨_,_,rfl,⟨fun _=>⟨rfl,l,o,hPl,hF _⟩,fun h=>absurd hle h⟩⟩
end Hw
end Go.Proofs.YtklmllaggigkfaaGreat
namespace Go.Proofs.YtklmllaggigkfaaGreat
namespace Hw
open Go Go.RowKit
attribute [local go_sem] Oper.semAt_some
set_option maxRecDepth 100000
set_option linter.unusedVariables false
set_option linter.unusedSimpArgs false
set_option maxHeartbeats 10000000
def wB (a b:Ch):List Blk:=[.raw 2 [.int a.id,.own 1 1 3,.own 2 1 3,.int a.bank.locked,.int a.st.way,.int a.st.ver,.int a.st.want,.own 3 7 46,.own 4 1 4,.own 5 1 4,.own 6 1 3,.own 7 7 75,.own 8 1 3,.int b.id,.own 9 1 3,.own 10 1 3,.int b.bank.locked,.int b.st.way,.int b.st.ver,.int b.st.want,.own 11 7 46,.own 12 1 4,.own 13 1 4,.own 14 1 3,.own 15 7 75,.own 16 1 3],.arr (.ints a.bank.own),.arr (.ints a.bank.notes),.arr (.pkts a.st.sent),.arr (.bools a.st.live),.arr (.bools a.st.back),.arr (.ints a.st.got),.arr (.sts a.past),.arr (.ints a.knows),.arr (.ints b.bank.own),.arr (.ints b.bank.notes),.arr (.pkts b.st.sent),.arr (.bools b.st.live),.arr (.bools b.st.back),.arr (.ints b.st.got),.arr (.sts b.past),.arr (.ints b.knows)]
theorem liveW {a b:Ch} {i:Nat} (h:i < 17):(hpOf (wB a b) i).live:=by
 match i,h with
 | 0,_=>trivial
 | 1,_=>trivial
 | 2,_=>trivial
 | 3,_=>trivial
 | 4,_=>trivial
 | 5,_=>trivial
 | 6,_=>trivial
 | 7,_=>trivial
 | 8,_=>trivial
 | 9,_=>trivial
 | 10,_=>trivial
 | 11,_=>trivial
 | 12,_=>trivial
 | 13,_=>trivial
 | 14,_=>trivial
 | 15,_=>trivial
 | 16,_=>trivial
 | i + 17,h=>exact absurd h (by omega)
structure WdAt (W0 W:World) (y:Nat) (a b:Ch) (x:Value) (C:Cx):Prop where
 w:C.w = W
 inv:Inv C (hpOf (wB a b))
 top:∀i,17≤i→C.ρ i = none
 val:cellR C (.own 0 13 78) x
 new:∀i b m,C.ρ i = some (some b,m)→W0.heap.size≤b∧b≠y
 frz:∀b,C.frz b→W0.heap.size≤b∧b≠y
 vis:∀b,¬ C.vis b
 nw:Nw W0 W
theorem WdAt.next {W0 W V:World} {y:Nat} {a b:Ch} {x v:Value} {C:Cx} (h:WdAt W0 W y a b x C) (k:Nw W V) (hy:W0.heap.size≤y) {cs:Array Value} {e:TypeId} (hc:V.heap[y]? = some (.cells cs e (0,0))):WdAt W0 (V.setCell ⟨y,0,none⟩ v) y a b x ⟨V.setCell ⟨y,0,none⟩ v,C.frz,C.vis,C.ρ⟩:=by
 obtain ⟨rfl,h2,h3,h4,h5,h6,h7,h8⟩:=h
 have hs:(V.setCell ⟨y,0,none⟩ v).heap.size = V.heap.size:=size_setCell
 obtain ⟨cs',q1,q2,-,-⟩:=setCell_cells (o:=0) (v:=v) hc
 have hext:Ext (fun b=>b = y) C ⟨V.setCell ⟨y,0,none⟩ v,C.frz,C.vis,C.ρ⟩:=by
  refine ⟨k.os,k.tape,k.output,by show C.w.heap.size≤(V.setCell ⟨y,0,none⟩ v).heap.size; rw [hs]; exact k.size,fun b hb hn=>(setCell_other hn).trans (k.block b hb fun h=>h),fun b vs e' hb=>?_,fun b o h0 ho=>setCell_unf b (k.unf b h0) o ho,fun _ h=>h,fun _ h=>.inl h,rfl,fun _ _ h=>h⟩
  have hV:V.heap[b]? = some (.cells vs e' (0,0)):=(k.block b (lt_of_block hb) fun h=>h).trans hb
  by_cases hby:b = y
  ·subst hby
   rw [hV] at hc
   cases hc
   exact ⟨cs',q1,q2⟩
  ·exact ⟨vs,(setCell_other hby).trans hV,rfl⟩
 have hoff:Off (fun b=>b = y) C:=⟨fun b hb e=>(h6 b hb).2 e,fun b hb _=>h7 b hb,h2.frz,h2.vis⟩
 refine ⟨rfl,⟨fun i=>OwnAt_ext hext hoff (h2.own i) fun b n hr e=>(h5 i b n hr).2 e,h2.inj,fun b hb=>?_,fun b hb=>?_⟩,h3,cellR_ext hext hoff h4,h5,h6,h7,nw_set (h8.trans k) hy⟩
 ·show b < (V.setCell ⟨y,0,none⟩ v).heap.size
  rw [hs]
  exact Nat.lt_of_lt_of_le (h2.frz b hb) k.size
 ·exact absurd hb (h7 b)
theorem own_go {C:Cx} {i j sz:Nat} {e:TypeId} {u:Value} {D:Cx} (h:cellR C (.own i sz e) u) (hw:D.w = C.w) (hr:D.ρ j = C.ρ i):cellR D (.own j sz e) u:=own_move h hr fun b m _=>by rw [hw]
def wIds:List Nat:=[17,18,19,20,21,22,23,24,25,26,27,28,29,30,31,32,33]
def wIds0:List Nat:=[0,1,2,3,4,5,6,7,8,9,10,11,12,13,14,15,16]
theorem new_wd (a b:Ch):∀r,(Zj ()).Q r→CIn r.1∧CIn r.2∧r.1 = newC 1∧r.2 = newC 2:=fun r q=>⟨q.1,q.2.1,q.2.2.1,q.2.2.2.1⟩
theorem one_agg {C:Cx} {c:Cell} {v:Value} (h:fvR C (.agg [c]) v):∃x,v = .agg #[x]∧cellR C c x:=by
 obtain ⟨vs,rfl,k1,k2⟩:=h
 obtain ⟨x,k3,k4⟩:=k2 0 _ rfl
 obtain ⟨l⟩:=vs
 have hl:l.length = 1:=k1
 match l,hl with
 | [y],_ =>
  cases k3
  exact ⟨_,rfl,k4⟩
theorem WdAt.nx {W0 W V:World} {y:Nat} {a b:Ch} {x:Value} {C:Cx} (h:WdAt W0 W y a b x C) (k:Nw W V):WdAt W0 V y a b x ⟨V,C.frz,C.vis,C.ρ⟩:=by
 obtain ⟨rfl,h2,h3,h4,h5,h6,h7,h8⟩:=h
 exact ⟨rfl,nw_inv h2 k,h3,cellR_ext (nw_ext k fun _=>False) (h2.off fun b h=>h.elim) h4,h5,h6,h7,h8.trans k⟩
def Cz0 (w:World):Cx:=⟨w,fun _=>False,fun _=>False,fun _=>none⟩
theorem Cz0_inv (w:World):Inv (Cz0 w) (hpOf []):=⟨fun i=>trivial,fun i j b n m h=>h.elim,fun b h=>h.elim,fun b h=>h.elim⟩
theorem nth_w0:∀i,i < 17→nth i wIds0 < 17:=by decide
theorem wNew_in {W:World}:CallsIn Fence.wide 9 Tryz.prog 22 #[] W fun e W'=>∃x C,e = .returned (.agg #[x])∧(∀y,W'.heap.size≤y→WdAt W W' y (newC 1) (newC 2) x C)∧CIn (newC 1)∧CIn (newC 2):=by
 have q:=new_wd (newC 1) (newC 2) _ (qF Zj.X () trivial)
 have hI0:Inv (Cz0 W) (hpOf []):=Cz0_inv W
 refine (callsIn_wide.2 (Zj.good.run () (Cz0 W) [] hI0 (fun _ _=>rfl) trivial fun p h=>by cases h)).mono ?_
 rintro e W' ⟨v,C',rfl,rfl,h1,h2⟩
 have h1:fvR C' (.agg [.own 0 13 78]) v:=h1
 obtain ⟨x,rfl,h3⟩:=one_agg h1
 have e1:(Zj.S ()).1 = newC 1:=q.2.2.1
 have e2:(Zj.S ()).2 = newC 2:=q.2.2.2
 have hI:Inv C' (hpOf (wB (Zj.S ()).1 (Zj.S ()).2)):=h2.inv
 have hT:∀b,¬ ∃i m,(hpOf [] i).live∧(Cz0 W).ρ i = some (some b,m):=fun b ⟨i,m,hl,_⟩=>hl
 have hn:Nw W C'.w:=Mk.of h2.ext.os h2.ext.tape h2.ext.output h2.ext.size (fun b hb=>h2.ext.blk b hb (hT b)) fun b h0 o ho=>h2.ext.unf b o h0 ho
 have hnew:∀i b m,C'.ρ i = some (some b,m)→W.heap.size≤b:=fun i b m hr=>by
  rcases h2.new i _ hr with h | ⟨-,-,h⟩
  ·cases h
  ·rcases h b rfl with ⟨j,m',hl,_⟩ | h
   ·exact hl.elim
   ·exact h
 have hfz:∀b,C'.frz b→W.heap.size≤b:=fun b hb=>by
  rcases h2.ext.new b hb with h | h | h
  ·exact h.elim
  ·exact absurd h (hT b)
  ·exact h
 have hvs:C'.vis = fun _=>False:=h2.ext.vis
 rw [e1,e2] at hI
 refine ⟨x,C'.enter wIds0 C'.vis,rfl,fun y hy=>?_,by rw [← e1]; exact q.1,by rw [← e2]; exact q.2.1⟩
 have hb:(wIds0.all fun j=>(hpOf (wB (newC 1) (newC 2)) j).ids.all fun i=>memN i wIds0) = true:=rfl
 have hI2:Inv (C'.enter wIds0 C'.vis) (hpOf (wB (newC 1) (newC 2))):=enter_inv (ids:=wIds0) hI (by decide) fun j hj i hi=>memN_iff.1 (List.all_eq_true.1 (List.all_eq_true.1 hb j hj) i hi)
 refine ⟨rfl,hI2,fun i hi=>?_,?_,fun i b m hr=>?_,fun b hb=>?_,fun b hb=>?_,hn⟩
 ·simp only [Cx.enter]
  rw [if_neg (by show ¬ i < 17; omega)]
 ·refine own_go h3 rfl ?_
  simp only [Cx.enter]
  rw [if_pos (by decide)]
  rfl
 ·simp only [Cx.enter] at hr
  split at hr
  ·rename_i hi
   have hi:i < 17:=hi
   have:=hI.lt (liveW (a:=newC 1) (b:=newC 2) (i:=nth i wIds0) (nth_w0 i hi)) hr
   exact ⟨hnew _ _ _ hr,by omega⟩
  ·cases hr
 ·have:=hI.frz b hb
  exact ⟨hfz b hb,by omega⟩
 ·have hb:C'.vis b:=hb
  rw [hvs] at hb
  exact hb
theorem wDo_in {W0 W:World} {y:Nat} {a b:Ch} {x:Value} {C:Cx} {e:Ev} (h:WdAt W0 W y a b x C) (hy:y < W.heap.size) (ha:CIn a) (hb:CIn b) (ka:a.knows.length≤900000) (kb:b.knows.length≤900000) :
  CallsIn Fence.wide 9 Tryz.prog 23 #[.agg #[x],evVal e] W fun r W'=>∃a' b' x' C',r = .returned (.agg #[x'])∧(DoS a b e a' b'∧CIn a'∧CIn b'∧a'.knows.length≤a.knows.length + 1∧b'.knows.length≤b.knows.length + 1)∧WdAt W0 W' y a' b' x' C'∧W'.heap[y]? = W.heap[y]?:=by
 obtain ⟨rfl,h2,h3,h4,h5,h6,h7,h8⟩:=h
 have hpre:(Zat (((a,b),()),e,())).P:=⟨ha,hb,ka,kb,trivial⟩
 have q:=qF Zat.X (((a,b),()),e,()) hpre
 refine (callsIn_wide.2 (Zat.good.run (((a,b),()),e,()) C [.agg #[x],evVal e] h2 h3 ⟨⟨#[x],rfl,rfl,fun j z hj=>?_⟩,evVal_at e C,trivial⟩ fun q hq=>by cases hq; exact hpre)).mono ?_
 ·match j,hj with
  | 0,hj=>cases hj; exact ⟨_,rfl,h4⟩
  | j + 1,hj=>cases hj
 rintro r W' ⟨v,C',rfl,rfl,k1,k2⟩
 have k1:fvR C' (.agg [.own 17 13 78]) v:=k1
 obtain ⟨x',rfl,k3⟩:=one_agg k1
 have q1:CIn (Zat.S (((a,b),()),e,())).1:=q.1
 have q2:CIn (Zat.S (((a,b),()),e,())).2:=q.2.1
 have q3:(Zat.S (((a,b),()),e,())).1.knows.length≤a.knows.length + 1:=q.2.2.1
 have q4:(Zat.S (((a,b),()),e,())).2.knows.length≤b.knows.length + 1:=q.2.2.2.1
 have q5:DoS a b e (Zat.S (((a,b),()),e,())).1 (Zat.S (((a,b),()),e,())).2:=q.2.2.2.2.1
 have hT:∀b',(∃i m,(hpOf (wB a b) i).live∧C.ρ i = some (some b',m))→W0.heap.size≤b'∧b'≠y:=fun b' ⟨i,m,_,hr⟩=>h5 i b' m hr
 have hs:=h8.size
 have hi:(wIds.all fun j=>(hpOf (Zat.c.out (((a,b),()),e,())).2 j).ids.all fun i=>memN i wIds) = true:=rfl
 refine ⟨(Zat.S (((a,b),()),e,())).1,(Zat.S (((a,b),()),e,())).2,x',C'.enter wIds C'.vis,rfl,⟨q5,q1,q2,q3,q4⟩,⟨rfl,?_,fun i hi=>?_,?_,fun i b' m hr=>?_,fun b' hb'=>?_,fun b' hb'=>?_,Ext.nw h8 k2.ext fun b' hb'=>(hT b' hb').1⟩,k2.ext.blk y hy fun ht=>(hT y ht).2 rfl⟩
 ·exact enter_inv (ids:=wIds) k2.inv (by decide) fun j hj i hi'=>memN_iff.1 (List.all_eq_true.1 (List.all_eq_true.1 hi j hj) i hi')
 ·simp only [Cx.enter]
  rw [if_neg (by show ¬ i < 17; omega)]
 ·refine own_go k3 rfl ?_
  simp only [Cx.enter]
  rw [if_pos (by decide)]
  rfl
 ·simp only [Cx.enter] at hr
  split at hr
  ·rcases k2.new _ _ hr with h | ⟨-,-,h⟩
   ·exact h5 _ _ _ h
   ·rcases h b' rfl with h | h
    ·exact hT b' h
    ·exact ⟨Nat.le_trans hs h,by omega⟩
  ·cases hr
 ·rcases k2.ext.new b' hb' with h | h | h
  ·exact h6 b' h
  ·exact hT b' h
  ·exact ⟨Nat.le_trans hs h,by omega⟩
 ·have:C'.vis b':=hb'
  rw [k2.ext.vis] at this
  exact h7 b' this
structure WdN (W0 W':World) (l:List Ch) (g:Value):Prop where
 nw:Nw W0 W'
 r:∃F,(∀b,F b→W0.heap.size≤b)∧WAt W' F l g
theorem WdN.to {W0 W W' W1:World} {l:List Ch} {g:Value} (h:WdN W0 W l g) (n:Nw W1 W') (hs:W1.heap.size≤W0.heap.size) (hz:W.heap.size≤W'.heap.size) (hb:∀b,W0.heap.size≤b→b < W.heap.size→W'.heap[b]? = W.heap[b]?):WdN W1 W' l g:=by
 obtain ⟨-,F,h1,⟨h2,x,rfl,h3⟩⟩:=h
 have hk:∀b,F b→W'.heap[b]? = W.heap[b]?:=fun b hF=>hb b (h1 b hF) (h2 b hF)
 exact ⟨n,F,fun b hF=>Nat.le_trans hs (h1 b hF),fun b hF=>Nat.lt_of_lt_of_le (h2 b hF) hz,x,rfl,arrR_ext (fun _ h=>h) hk 4 _ _ h3⟩
theorem WdAt.fin {W0 W:World} {y:Nat} {a b:Ch} {x:Value} {C:Cx} (h:WdAt W0 W y a b x C):WdN W0 W [a,b] (.agg #[x]):=by
 obtain ⟨rfl,h2,h3,h4,h5,h6,h7,h8⟩:=h
 have hl:∀i b' m,C.ρ i = some (some b',m)→i < 17:=fun i b' m hr=>Classical.byContradiction fun g=>by
  rw [h3 i (by omega)] at hr
  cases hr
 have hc:(wIds0.all fun j=>(hpOf (wB a b) j).ids.all fun i=>memN i wIds0) = true:=rfl
 have k:=cell_view (vis:=fun b'=>C.frz b'∨∃i m,C.ρ i = some (some b',m)) (ids:=[]) (vs:=wIds0) h2 (fun z b' hb=>by
  cases z
  ·exact absurd hb (h7 b')
  ·exact .inl hb) h4 (fun i hi=>by
   have hi:i∈[0]:=hi
   rw [List.mem_singleton.1 hi]
   decide) (fun i hi j hj=>memN_iff.1 (List.all_eq_true.1 (List.all_eq_true.1 hc i hi) j hj)) (fun i _ _ b' m hr=>.inr ⟨i,m,hr⟩) rfl
 have k:arrR C.w (fun b'=>C.frz b'∨∃i m,C.ρ i = some (some b',m)) 4 (.chs [a,b]) x:=k
 refine ⟨h8,_,fun b' hb=>?_,fun b' hb=>?_,x,rfl,k⟩
 ·rcases hb with hb | ⟨i,m,hr⟩
  ·exact (h6 b' hb).1
  ·exact (h5 i b' m hr).1
 ·rcases hb with hb | ⟨i,m,hr⟩
  ·exact h2.frz b' hb
  ·exact h2.lt (liveW (hl i b' m hr)) hr
structure SpyQ (W W':World) (es:List Ev) (g:Value) (t:Bool):Prop where
 yes:es.length≤60→t = true∧∃a b,PlayS es a b∧WdN W W' [a,b] g
 no:¬ es.length≤60→t = false∧WdN W W' [] g
theorem wdN_nil {W W':World} (n:Nw W W'):WdN W W' [] (.agg #[.slice none 0 0]) :=
 ⟨n,fun _=>False,fun b h=>h.elim,fun b h=>h.elim,_,rfl,none,0,rfl,Nat.le_refl _,by decide,fun k hk=>absurd hk (Nat.not_lt_zero k)⟩
theorem splay_in {W:World} {es:List Ev} {R:Nat→Prop} {A:Option Addr} {n c:Nat} (hn:n = es.length) (hv:EvsW W R es (.slice A n c)) :
  CallsIn Fence.wide 10 Tryz.prog 7 #[.slice A n c] W fun e W'=>∃g t,e = .returned (.tuple #[g,.bool t])∧SpyQ W W' es g t:=by
 refine callsIn_of_wp Tryz.func7 rfl trivial ?_ rfl
 simp only [Tryz.ntmps7,List.size_toArray,List.length_cons,List.length_nil,Nat.reduceAdd,Nat.reduceSub,Array.replicate_succ,Array.replicate_zero,List.push_toArray,List.append_toArray,List.nil_append,List.cons_append]
 subst hn
 gi_wp2
 ·refine bodyPost_ret (ret_row2 rfl rfl rfl (World.alloc_heap_new _ _) (by kernel_rfl)) rfl ?_
  exact ⟨_,_,rfl,⟨fun h=>by omega,fun _=>⟨rfl,wdN_nil (Mk.alloc W rfl)⟩⟩⟩
 ·have hle:es.length≤60:=by omega
  generalize hY0:W.alloc (.cells #[.slice none 0 0] 26) = Y0
  have n0:Nw W Y0:=hY0 ▸ Mk.alloc W rfl
  have hz:Y0.heap[W.heap.size]? = some (.cells #[.slice none 0 0] 26 (0,0)):=by rw [← hY0,World.alloc_heap_new]
  clear hY0
  refine ⟨trivial,wNew_in.mono ?_⟩
  rintro e Y ⟨x,C,rfl,hP,hi1,hi2⟩
  have hzW:W.heap.size≤W.heap.size:=Nat.le_refl _
  generalize hz0:W.heap.size = z at hz ⊢
  have hzW:W.heap.size≤z:=Nat.le_of_eq hz0
  clear hz0
  have hP:=hP Y.heap.size (Nat.le_refl _)
  obtain ⟨B,bm,bk,rfl⟩:=own_sl hP.val
  gi_wp2
  have hP1:=hP.nx (Mk.alloc Y (show Unf (.cells #[.slice B bm bk] 26) from rfl))
  have hy1:=World.alloc_heap_new Y (.cells #[.slice B bm bk] 26)
  have hyY:=hP.nw.size
  generalize Y.alloc (.cells #[.slice B bm bk] 26) = Y1 at hP1 hy1 ⊢
  generalize Y.heap.size = y at *
  gi_loopw [5] (fun i wr=>∃k:Nat,k≤es.length∧i = .int .i64 k∧∃a b x C,PlayS (es.take k) a b∧CIn a∧CIn b∧a.knows.length≤k∧b.knows.length≤k∧WdAt Y0 wr y a b x C∧wr.heap[y]? = some (.cells #[x] 26 (0,0)))
   (fun i _=>es.length - (intOf i).toNat)
  case atStart=>exact ⟨0,Nat.zero_le _,rfl,_,_,_,_,by rw [List.take_zero]; exact .nil,hi1,hi2,Nat.le_refl _,Nat.le_refl _,hP1,hy1⟩
  case round =>
   obtain ⟨k,hk,rfl,a,b',x,C,hPl,ca,cb,ka,kb,hPr,hyc⟩:=hrel
   obtain ⟨B,bm,bk,rfl⟩:=own_sl hPr.val
   by_cases hlt:k < es.length
   ·obtain ⟨A',c',e',-,hrow⟩:=id hv
    cases e'
    obtain ⟨b,off,rfl,-,hc⟩:=hrow (by omega)
    have hT:Tk es k (es.getD k zEv):=⟨take_one hlt⟩
    have hE:EvAt wr b (off + k * 11) (es.getD k zEv):=⟨fun j u hj=>by
     obtain ⟨u',h1,h2⟩:=hc k hlt j (List.getElem?_eq_some_iff.1 hj).1
     rw [hj] at h2
     cases h2
     rw [Nat.add_assoc]
     exact (n0.trans hPr.nw).keep (fun h=>h) h1⟩
    generalize es.getD k zEv = ev at hT hE
    have hki:(k:Int) < es.length:=by omega
    clear hc hrow hv
    gi_wp2
    have nV:=nw_drew wr
    generalize hV:wr.drew = V at *
    have hPr:=hPr.nx nV
    have hyc:=(nV.block y (lt_of_block hyc) fun h=>h).trans hyc
    have hE:EvAt V b (off + k * 11) ev:=⟨fun j u hj=>nV.keep (fun h=>h) (hE.c j u hj)⟩
    have c0:V.cell? ⟨b,off + k * 11,none⟩ = some (.int .i64 ev.kind):=hE.c 0 _ rfl
    have c1:V.cell? ⟨b,off + k * 11 + 1,none⟩ = some (.int .i64 ev.chain):=hE.c 1 _ rfl
    have c2:V.cell? ⟨b,off + k * 11 + 2,none⟩ = some (.int .i64 ev.height):=hE.c 2 _ rfl
    have c3:V.cell? ⟨b,off + k * 11 + 3,none⟩ = some (.int .i64 ev.n):=hE.c 3 _ rfl
    have c4:V.cell? ⟨b,off + k * 11 + 4,none⟩ = some (.int .i64 ev.pkt.seq):=hE.c 4 _ rfl
    have c5:V.cell? ⟨b,off + k * 11 + 5,none⟩ = some (.int .i64 ev.pkt.kind):=hE.c 5 _ rfl
    have c6:V.cell? ⟨b,off + k * 11 + 6,none⟩ = some (.int .i64 ev.pkt.frm):=hE.c 6 _ rfl
    have c7:V.cell? ⟨b,off + k * 11 + 7,none⟩ = some (.int .i64 ev.pkt.to):=hE.c 7 _ rfl
    have c8:V.cell? ⟨b,off + k * 11 + 8,none⟩ = some (.int .i64 ev.pkt.sum):=hE.c 8 _ rfl
    have c9:V.cell? ⟨b,off + k * 11 + 9,none⟩ = some (.int .i64 ev.pkt.til):=hE.c 9 _ rfl
    have c10:V.cell? ⟨b,off + k * 11 + 10,none⟩ = some (.int .i64 ev.pkt.ver):=hE.c 10 _ rfl
    have yc:V.cell? ⟨y,0,none⟩ = some (.slice B bm bk):=cell_at hyc
    have w1:Fence.wide.fn 23:=trivial
    clear hE
    gi_region_with (gi_at_call 23; refine (wDo_in (e:=ev) hPr (lt_of_block hyc) ca cb (by omega) (by omega)).mono ?_; rintro e V1 ⟨a2,b2,x2,C2,rfl,hD,hP2,hy2⟩; obtain ⟨B2,bm2,bk2,rfl⟩:=own_sl hP2.val; have hyc2:=hy2.trans hyc; have yc2:V1.cell? ⟨y,0,none⟩ = some (.slice B bm bk):=cell_at hyc2; have yf2:∀o,V1.frozen? ⟨y,o,none⟩ = false:=fun o=>(unfR_at hyc2).at rfl)
    all_goals
     have hP3:=hP2.next (v:=.slice B2 bm2 bk2) (Mk.refl _ V1) hyY hyc2
     have hyc3:=setCell_at (o:=0) (v:=.slice B2 bm2 bk2) hyc2
     have hPl2:PlayS (es.take (k + 1)) a2 b2:=by
      rw [hT.h]
      exact .snoc hPl hD.1
     clear c0 c1 c2 c3 c4 c5 c6 c7 c8 c9 c10 yc yc2 yf2 w1 hPl hT
     generalize V1.setCell ⟨y,0,none⟩ (.slice B2 bm2 bk2) = V2 at hP3 hyc3 ⊢
     gi_wp2
     go_roundw
     case rel=>exact ⟨k + 1,by omega,rfl,a2,b2,_,_,hPl2,hD.2.1,hD.2.2.1,by have:=hD.2.2.2.1; omega,by have:=hD.2.2.2.2; omega,hP3,hyc3⟩
     case measure=>simp [intOf]; omega
   ·obtain rfl:k = es.length:=by omega
    rw [List.take_length] at hPl
    have yc:wr.cell? ⟨y,0,none⟩ = some (.slice B bm bk):=cell_at hyc
    have hz2:=(hPr.nw.block z (lt_of_block hz) fun h=>h).trans hz
    have zc:wr.cell? ⟨z,0,none⟩ = some (.slice none 0 0):=cell_at hz2
    have zf:∀o,wr.frozen? ⟨z,o,none⟩ = false:=fun o=>(unfR_at hz2).at rfl
    have hsz:z < Y0.heap.size:=lt_of_block hz
    have hF:=hPr.fin
    clear hPr hyc
    gi_wp2
    refine bodyPost_ret (ret_row2 rfl rfl rfl (setCell_at hz2) (by kernel_rfl)) rfl ?_
    exact ⟨_,_,rfl,⟨fun _=>⟨rfl,a,b',hPl,hF.to (nw_set (n0.trans hF.nw) hzW) n0.size (Nat.le_of_eq size_setCell.symm) fun b hb _=>setCell_other (by omega)⟩,fun h=>absurd hle h⟩⟩
end Hw
end Go.Proofs.YtklmllaggigkfaaGreat
