/- What a link does: made by gen.py. -/
import Derived.Test.YtklmllaggigkfaaGreatPJ9
import Derived.Test.YtklmllaggigkfaaGreatPJ8
set_option linter.unusedVariables false
set_option linter.unusedSimpArgs false
set_option maxRecDepth 100000
set_option maxHeartbeats 400000
namespace Go.Proofs.YtklmllaggigkfaaGreat
namespace Hw
open Go
noncomputable section
attribute [local irreducible] evFn evBody wrap wxor
structure RelL (l:Lk) (s:St) (h:Int) (e:Ev) (r:Lk):Prop where
 get:e.kind = 4→∃t,LgQ l s e.pkt r t
 tell:e.kind = 5→∃t,LtQ l s e.n r t
 late:e.kind = 6→∃t,LlQ l s h e.n r t
 step:e.kind = 7→∃t,LstQ l s e.n r t
 none:¬ (4≤e.kind∧e.kind≤7)→r = l
theorem relL_g {l r:Lk} {s:St} {h:Int} {e:Ev} {t:Bool} (hk:e.kind = 4) (q:LgQ l s e.pkt r t):RelL l s h e r:=⟨fun _=>⟨t,q⟩,fun g=>by omega,fun g=>by omega,fun g=>by omega,fun g=>by omega⟩
theorem relL_t {l r:Lk} {s:St} {h:Int} {e:Ev} {t:Bool} (hk:e.kind = 5) (q:LtQ l s e.n r t):RelL l s h e r:=⟨fun g=>by omega,fun _=>⟨t,q⟩,fun g=>by omega,fun g=>by omega,fun g=>by omega⟩
theorem relL_l {l r:Lk} {s:St} {h:Int} {e:Ev} {t:Bool} (hk:e.kind = 6) (q:LlQ l s h e.n r t):RelL l s h e r:=⟨fun g=>by omega,fun g=>by omega,fun _=>⟨t,q⟩,fun g=>by omega,fun g=>by omega⟩
theorem relL_s {l r:Lk} {s:St} {h:Int} {e:Ev} {t:Bool} (hk:e.kind = 7) (q:LstQ l s e.n r t):RelL l s h e r:=⟨fun g=>by omega,fun g=>by omega,fun g=>by omega,fun _=>⟨t,q⟩,fun g=>by omega⟩
theorem relL_n {l:Lk} {s:St} {h:Int} {e:Ev} (h4:¬ e.kind = 4) (h5:¬ e.kind = 5) (h6:¬ e.kind = 6) (h7:¬ e.kind = 7):RelL l s h e l:=⟨fun g=>by omega,fun g=>by omega,fun g=>by omega,fun g=>by omega,fun _=>rfl⟩
theorem tl_ne {l:List St} (h:0 < (l.length:Int)):l≠[]:=fun e=>by rw [e] at h; exact absurd h (by decide)
theorem tl_drop {l r:List St} {n i j:Int} (hj:j = i + 1) (h:i < n) (e:r = l.tail.drop (n - j).toNat):r = l.drop (n - i).toNat:=by
 rw [e,List.drop_tail,hj]
 congr 1
 omega
abbrev AtL (l:Lk) (h:Int) (s:St) (b:Bool):Prop:=(b = true↔1≤h∧h≤l.count)∧(b = true→s = l.marks.l.getD (l.count - h).toNat zSt)∧(¬ b = true→s = zSt)
theorem atL_y {l:Lk} {h c:Int} {m:List St} (hm:m = l.marks.l.drop (c - 0).toNat) (hc:c = l.count - h) (g:¬ (h < 1∨h > l.count)):AtL l h (m.headD zSt) true:=by
 subst hc
 refine ⟨⟨fun _=>by omega,fun _=>rfl⟩,fun _=>?_,fun g=>absurd rfl g⟩
 rw [hm,List.headD_eq_head?_getD,List.head?_drop,List.getD_eq_getElem?_getD,Int.sub_zero]
theorem atL_n {l:Lk} {h:Int} (g:h < 1∨h > l.count):AtL l h zSt false:=⟨⟨fun g=>(by cases g),fun g'=>by omega⟩,fun g=>(by cases g),fun _=>rfl⟩
theorem ten_step {l:List Int} {i j:Int} (p:∀k:Nat,(k:Int) < i→l.getD k 0 = 10) (h0:0≤i) (h1:i < 3) (hl:l.length = 3) (e:j = i + 1):∀k:Nat,(k:Int) < j→(l.set i.toNat 10).getD k 0 = 10:=fun k hk=>by
 rw [List.getD_eq_getElem?_getD,List.getElem?_set]
 split
 ·rw [if_pos (by omega)]
  rfl
 ·rw [← List.getD_eq_getElem?_getD]
  exact p k (by omega)
theorem ten_end {b:Bk} {i:Int} (p:∀k:Nat,(k:Int) < i→b.own.getD k 0 = 10) (h1:¬ i < 3) (hl:b.own.length = 3) (h:b.notes = [0,0,0]∧b.locked = 0):b = ⟨[10,10,10],[0,0,0],0⟩:=by
 obtain ⟨o,n,l⟩:=b
 obtain ⟨rfl,rfl⟩:=h
 congr 1
 refine List.ext_getElem hl fun k h2 h3=>?_
 have:=p k (by have:k < 3:=h3; omega)
 rw [List.getD_eq_getElem?_getD,List.getElem?_eq_getElem h2,Option.getD_some] at this
 rw [this]
 have:k < 3:=h3
 have:k = 0∨k = 1∨k = 2:=by omega
 rcases this with rfl | rfl | rfl <;> rfl
theorem idx_y {l:List Int} {i x:Int} (h0:0≤i) (h1:i < (l.length:Int)) (e:x = l.getD i.toNat 0):0≤i↔∃k,k < l.length∧l.getD k 0 = x:=⟨fun _=>⟨i.toNat,by omega,e.symm⟩,fun _=>h0⟩
theorem idx_n {l:List Int} {i x:Int} (p:∀k:Nat,(k:Int) < i→¬ l.getD k 0 = x) (h:¬ i < (l.length:Int)):¬ ∃k,k < l.length∧l.getD k 0 = x:=fun ⟨k,hk,e⟩=>p k (by omega) e
def frE (e:Ev):Prop:=e.kind = 7∧(e.n = 1∨e.n = 5)
def KnwL (l:Lk) (h:Int):Prop:=∃k,k < l.knows.length∧l.knows.getD k 0 = h
structure PrfL (l o:Lk) (e:Ev) (s:St) (h:Int) (b:Bool):Prop where
 fresh:frE e→b = true∧s = ⟨0,1,0,[],[],[],List.replicate 8 0⟩∧h = 0
 yes:¬ frE e→(b = true↔KnwL l e.height∧1≤e.height∧e.height≤o.count)
 at_:¬ frE e→b = true→s = o.marks.l.getD (o.count - e.height).toNat zSt∧h = e.height
theorem prf_f {l o:Lk} {e:Ev} {s:St} (h:e.kind = 7∧(e.n = 1∨e.n = 5)) (q:s = ⟨0,1,0,[],[],[],List.replicate 8 0⟩):PrfL l o e ⟨s.way,s.ver,s.want,s.sent,s.live,s.back,s.got⟩ 0 true:=by
 subst q
 exact ⟨fun _=>⟨rfl,rfl,rfl⟩,fun g=>absurd h g,fun g=>absurd h g⟩
theorem prf_y {l o:Lk} {e:Ev} {s:St} {x b:Bool} (h:¬ (e.kind = 7∧(e.n = 1∨e.n = 5))) (q3:x = true↔∃k,k < l.knows.length∧l.knows.getD k 0 = e.height) (h2:¬¬ x = true) (q:AtL o e.height s b):PrfL l o e ⟨s.way,s.ver,s.want,s.sent,s.live,s.back,s.got⟩ e.height b :=
 ⟨fun g=>absurd g h,fun _=>⟨fun g=>⟨q3.1 (nn h2),q.1.1 g⟩,fun g=>q.1.2 g.2⟩,fun _ g=>⟨q.2.1 g,rfl⟩⟩
theorem prf_n {l o:Lk} {e:Ev} {s:St} {x:Bool} (h:¬ (e.kind = 7∧(e.n = 1∨e.n = 5))) (q3:x = true↔∃k,k < l.knows.length∧l.knows.getD k 0 = e.height) (h2:¬ x = true):PrfL l o e s 0 false :=
 ⟨fun g=>absurd g h,fun _=>⟨fun g=>(by cases g),fun g=>absurd (q3.2 g.1) h2⟩,fun _ g=>(by cases g)⟩
def Zel.L:FL:=fCons (fC (cPtr 1 cLkO rfl)) (fCons (fAgg (cCons cInt (cCons cInt (cCons cInt (cCons (cArr true kPkts) (cCons (cArr true kBools) (cCons (cArr true kBools) (cCons (cArr true kInts) (cCons cInt (cNil)))))))))) (fCons (fSh sEv) (fNil)))
def Zel:Lk×(Int×Int×Int×List Pkt×List Bool×List Bool×List Int×Int×Unit)×Ev×Unit→FR (Lk):=fun (a0,(a1,a2,a3,a4,a5,a6,a7,a8,()),a9,())=>⟨(StOk (⟨a1,a2,a3,a4,a5,a6,a7⟩:St))∧(0≤a0.count)∧(a0.count≤1000000)∧(a0.st.got.length = 8)∧True,fun X=>And (Imp ((a9.kind == 4) = true) (Call Zcy.X (a0,(a1,a2,a3,a4,a5,a6,a7,a8,()),a9.pkt,()) fun x1=>X x1.2)) (Imp ((a9.kind == 4) = false) (And (Imp ((a9.kind == 5) = true) (Call ZcH.X (a0,(a1,a2,a3,a4,a5,a6,a7,a8,()),a9.n,()) fun x2=>X x2.2)) (Imp ((a9.kind == 5) = false) (And (Imp ((a9.kind == 6) = true) (Call ZcI.X (a0,(a1,a2,a3,a4,a5,a6,a7,a8,()),a9.n,()) fun x3=>X x3.2)) (Imp ((a9.kind == 6) = false) (And (Imp ((a9.kind == 7) = true) (Call0 Zb3.X (a0,(a1,a2,a3,a4,a5,a6,a7,a8,()),a9.n,()) fun x4=>X x4.2)) (Imp ((a9.kind == 7) = false) (X a0)))))))),fun r=>(RelL a0 (⟨a1,a2,a3,a4,a5,a6,a7⟩:St) a8 a9 r)∧True,fun r=>(.tup [],[.raw 1 [.own 8 1 3,.own 9 1 3,.int r.bank.locked,.int r.id,.int r.st.way,.int r.st.ver,.int r.st.want,.own 10 7 46,.own 11 1 4,.own 12 1 4,.own 13 1 3,.mk r.marks 0,.int r.count,.own 14 1 3],.dead,.dead,.dead,.dead,.dead,.dead,.dead,.arr (.ints r.bank.own),.arr (.ints r.bank.notes),.arr (.pkts r.st.sent),.arr (.bools r.st.live),.arr (.bools r.st.back),.arr (.ints r.st.got),.arr (.ints r.knows)])⟩
theorem Zel.X:XF Zel:=mkF (zLk) fun (a0,(a1,a2,a3,a4,a5,a6,a7,a8,()),a9,()) hp=>by
 obtain ⟨p0,p1,p2,p3,-⟩:=hp
 dsimp only [Zel]
 refine May.iff (B.eq) (fun h1=>?_) (fun h1=>?_)
 refine May.call ⟨?_,?_,?_,trivial⟩ fun x1 q1=>have q1:=q1.1; May.ret ⟨?_,trivial⟩; rotate_left 4
 refine May.iff (B.eq) (fun h2=>?_) (fun h2=>?_)
 refine May.call ⟨?_,trivial⟩ fun x2 q2=>have q2:=q2.1; May.ret ⟨?_,trivial⟩; rotate_left 2
 refine May.iff (B.eq) (fun h3=>?_) (fun h3=>?_)
 refine May.call ⟨?_,trivial⟩ fun x3 q3=>have q3:=q3.1; May.ret ⟨?_,trivial⟩; rotate_left 2
 refine May.iff (B.eq) (fun h4=>?_) (fun h4=>?_)
 refine May.call0 trivial fun x4 q4=>have q4:=q4.1; May.ret ⟨?_,trivial⟩; rotate_left 1
 refine May.ret ⟨?_,trivial⟩
 all_goals try dsimp only
 all_goals first | with_reducible assumption | omega | (exact relL_g h1 q1; done) | (exact relL_t h2 q2; done) | (exact relL_l h3 q3; done) | (exact relL_s h4 q4; done) | (exact relL_n h1 h2 h3 h4; done)
abbrev Zel.S:=Classical.choose Zel.X
def Zel.c:Ctr:=fc 52 [false,false,false] Zel.L Zel Zel.S
theorem Zel.good:Good Tryz.prog Zel.c:=mkFG (fn:=Tryz.f52) {tk:=[1000,1,2,3,4,5,6,7]} Zel.X (consG Zcy.good (consG ZcH.good (consG ZcI.good (consG Zb3.good noG)))) (by kernel_rfl) (by kernel_rfl) (l0 (by kernel_rfl)) (c0 (by kernel_rfl)) fun s K=>by kernel_rfl
theorem Zem.G:GG []:=noG
def Zen.L:FL:=fCons (fC (cPtr 1 (cCons cNilS (cCons cNilS (cCons cInt (cNil)))) rfl)) (fCons (fC (cPtr 1 cBkO rfl)) (fCons (fC cInt) (fCons (fC cInt) (fNil))))
def Zen:(Unit×Unit×Int×Unit)×Bk×Int×Int×Unit→LR ((Unit×Unit×Int×Unit)×Bk×Int×Int×Unit) (Nat×Bk×Unit):=fun (((),(),y0,()),y1,y2,y3,())=>⟨(0≤y3)∧(y2≤9223372036854775807)∧(y2 = 3)∧(y1.own.length = 3)∧(y1.notes = [0,0,0]∧y1.locked = 0)∧(∀k:Nat,(k:Int) < y3→y1.own.getD k 0 = 10)∧True,(y2 - y3).toNat,fun X=>And (Imp ((decide (y3 < y2)) = true) (And ((0:Int)≤y3∧y3 < (y1.own.length:Int)) (And ((y3).toNat < y1.own.length) (Lt (wrap (y3 + 1)) fun x1=>X (.inl (((),(),y0,()),(⟨y1.own.set (y3).toNat 10,y1.notes,y1.locked⟩:Bk),y2,x1,())))))) (Imp ((decide (y3 < y2)) = false) (X (.inr (0,y1,())))),fun r=>(r.2.1 = ⟨[10,10,10],[0,0,0],0⟩)∧True,fun r=>[],fun r=>(.exit 0,[.c (.ptr 0 0),.c (.ptr 1 0)],[.raw 1 [.nilS,.nilS,.int y0],.raw 1 [.own 2 1 3,.own 3 1 3,.int r.2.1.locked],.arr (.ints r.2.1.own),.arr (.ints r.2.1.notes)])⟩
theorem Zen.X:XL Zen:=mkL (0,zBk,()) fun (((),(),y0,()),y1,y2,y3,()) hp=>by
 obtain ⟨p0,p1,p2,p3,p4,p5,-⟩:=hp
 unfold ML; dsimp only [Zen]
 refine May.iff (B.dec) (fun h1=>?_) (fun h1=>?_)
 refine May.chk ?_ fun c1=>May.chk ?_ fun c2=>May.lw ⟨?_,?_⟩ fun x1 e1=>May.nx ⟨?_,?_,?_,?_,?_,?_,trivial⟩ ?_ ?_ fun r=>rfl; rotate_left 12
 refine May.ex ⟨?_,trivial⟩
 all_goals try dsimp only [Zen]
 all_goals first | with_reducible assumption | omega | exact fun _ q=>q | (exact ten_end p5 (by omega) p3 p4; done) | ((rw [List.length_set]; exact p3); done) | (exact ten_step p5 p0 (by omega) p3 e1; done) | (exact fun r q=>q; done)
abbrev Zen.R:=Classical.choose Zen.X
def Zen.k:LCtr:=(ld 3 [0,1,8,9] [] Zen.L Zen 0 (fun _=>[0,1]) (fun _=>[]) Zen.R).ctr
theorem Zen.g:LGood Tryz.prog Tryz.f83.ntmps Zen.k (bodyAt Tryz.f83 0):=mkLG {} Zen.X Zem.G (by kernel_rfl) (l0 (by kernel_rfl)) (c0 (by kernel_rfl)) fun S s=>by kernel_rfl
def Zem.L:FL:=fNil
def Zem:Unit→FR (Bk):=fun ()=>⟨True,fun X=>And ((3:Int) = 3∧(0:Int)≤3∧(3:Int)≤4294967296) (And ((3:Int) = 3∧(0:Int)≤3∧(3:Int)≤4294967296) (CallL Zen.X (((),(),0,()),(⟨List.replicate 3 0,List.replicate 3 0,0⟩:Bk),((List.replicate 3 0).length:Int),0,()) fun x2=>X x2.2.1)),fun r=>(r = ⟨[10,10,10],[0,0,0],0⟩)∧True,fun r=>(.v (.agg [.own 0 1 3,.own 1 1 3,.int r.locked]),[.arr (.ints r.own),.arr (.ints r.notes)])⟩
theorem Zem.X:XF Zem:=mkF (zBk) fun () hp=>by
 clear hp
 dsimp only [Zem]
 refine May.chk ?_ fun c1=>May.chk ?_ fun c2=>May.loop ⟨?_,?_,?_,?_,?_,?_,trivial⟩ fun x2 q2=>have q2:=q2.1; May.ret ⟨?_,trivial⟩
 all_goals try dsimp only
 all_goals first | with_reducible assumption | omega | (intro k hk; omega; done) | (exact ⟨rfl,rfl⟩; done) | (rfl; done) | (exact (by decide:((List.replicate 3 (0:Int)).length:Int)≤9223372036854775807); done)
abbrev Zem.S:=Classical.choose Zem.X
def Zem.c:Ctr:=fc0 83 [] Zem.L Zem Zem.S
theorem Zem.good:Good Tryz.prog Zem.c:=mkFG0 (fn:=Tryz.f83) {LL:=[Zen.k],sh:=[[some (.int,3),some (.int,3),none]]} Zem.X Zem.G (by kernel_rfl) (by kernel_rfl) (lG (by kernel_rfl) (consL (by kernel_rfl) Zen.g (noL rfl))) (c0 (by kernel_rfl)) (fun _=>trivial) fun s K=>by kernel_rfl
def Zeo.L:FL:=fCons (fSh sInt) (fNil)
def Zeo:Int×Unit→FR ((List Int)×(List Int)×Int×Int×Int×Int×(List Pkt)×(List Bool)×(List Bool)×(List Int)×Mks):=fun (a0,())=>⟨True,fun X=>Call0 Zem.X () fun x1=>Call0 ZaQ.X () fun x2=>X (x1.own,x1.notes,x1.locked,x2.way,x2.ver,x2.want,x2.sent,x2.live,x2.back,x2.got,(⟨[],some (.pointer none)⟩:Mks)),fun r=>(r.1 = [10,10,10]∧r.2.1 = [0,0,0]∧r.2.2.1 = 0∧r.2.2.2.1 = 0∧r.2.2.2.2.1 = 1∧r.2.2.2.2.2.1 = 0)∧(r.2.2.2.2.2.2.1 = []∧r.2.2.2.2.2.2.2.1 = []∧r.2.2.2.2.2.2.2.2.1 = []∧r.2.2.2.2.2.2.2.2.2.1 = List.replicate 8 0)∧(r.2.2.2.2.2.2.2.2.2.2 = ⟨[],some (.pointer none)⟩)∧True,fun r=>(.v (.c (.ptr 0 0)),[.raw 1 [.own 1 1 3,.own 2 1 3,.int r.2.2.1,.int a0,.int r.2.2.2.1,.int r.2.2.2.2.1,.int r.2.2.2.2.2.1,.own 3 7 46,.own 4 1 4,.own 5 1 4,.own 6 1 3,.mk r.2.2.2.2.2.2.2.2.2.2 0,.int 0,.nilS],.arr (.ints r.1),.arr (.ints r.2.1),.arr (.pkts r.2.2.2.2.2.2.1),.arr (.bools r.2.2.2.2.2.2.2.1),.arr (.bools r.2.2.2.2.2.2.2.2.1),.arr (.ints r.2.2.2.2.2.2.2.2.2.1)])⟩
theorem Zeo.X:XF Zeo:=mkF ([],[],0,0,0,0,[],[],[],[],zMk) fun (a0,()) hp=>by
 clear hp
 dsimp only [Zeo]
 refine May.call0 trivial fun x1 q1=>have q1:=q1.1; May.call0 trivial fun x2 q2=>have q2:=q2.1; May.ret ⟨?_,?_,?_,trivial⟩
 all_goals try dsimp only
 all_goals first | with_reducible assumption | omega | ((rw [q1,q2]; exact ⟨rfl,rfl,rfl,rfl,rfl,rfl⟩); done) | ((rw [q2]; exact ⟨rfl,rfl,rfl,rfl⟩); done) | (rfl; done)
abbrev Zeo.S:=Classical.choose Zeo.X
def Zeo.c:Ctr:=fc0 44 [false] Zeo.L Zeo Zeo.S
theorem Zeo.good:Good Tryz.prog Zeo.c:=mkFG0 (fn:=Tryz.f44) {} Zeo.X (consG Zem.good (consG ZaQ.good noG)) (by kernel_rfl) (by kernel_rfl) (l0 (by kernel_rfl)) (c0 (by kernel_rfl)) (fun _=>trivial) fun s K=>by kernel_rfl
def Zdb.L:FL:=fCons (fSh sInt) (fNil)
def Zdb:Int×Unit→FR (Bool):=fun (a0,())=>⟨True,fun X=>Lt (bif decide (a0≥1) then decide (a0≤2) else false) fun x1=>X x1,fun r=>(r = true↔1≤a0∧a0≤2)∧True,fun r=>(.v (.c (.bool r)),[])⟩
theorem Zdb.X:XF Zdb:=mkF (false) fun (a0,()) hp=>by
 clear hp
 dsimp only [Zdb]
 refine May.lp (B.and (B.dec) (B.dec)) fun x1 e1=>May.ret ⟨?_,trivial⟩
 all_goals try dsimp only
 all_goals first | with_reducible assumption | omega | rfl | assumption | (simp only [List.length_append,List.length_cons,List.length_nil,List.length_set,List.length_replicate,Int.natCast_add,Int.natCast_one] at *; omega) | grind
abbrev Zdb.S:=Classical.choose Zdb.X
def Zdb.c:Ctr:=fc0 45 [false] Zdb.L Zdb Zdb.S
theorem Zdb.good:Good Tryz.prog Zdb.c:=mkFG0 (fn:=Tryz.f45) {} Zdb.X noG (by kernel_rfl) (by kernel_rfl) (l0 (by kernel_rfl)) (c0 (by kernel_rfl)) (fun _=>trivial) fun s K=>by kernel_rfl
theorem slices_Index_int_int.G:GG []:=noG
def slices_Index_int_int_l2.L:FL:=fCons (fC (cArr false kInts)) (fCons (fC cInt) (fCons (fC cInt) (fCons (fC cInt) (fCons (fC cInt) (fNil)))))
def slices_Index_int_int_l2:List Int×Int×Int×Int×Int×Unit→LR (List Int×Int×Int×Int×Int×Unit) (Nat×Int×Unit):=fun (y0,y1,y2,y3,y4,())=>⟨(0≤y4)∧(y3≤9223372036854775807)∧(y3 = (y0.length:Int))∧(y3 = (y0.length:Int))∧(y0.length≤1000000)∧(∀k:Nat,(k:Int) < y4→¬ y0.getD k 0 = y1)∧True,(y3 - y4).toNat,fun X=>And (Imp ((decide (y4 < y3)) = true) (And ((0:Int)≤y4∧y4 < (y0.length:Int)) (And (Imp ((y1 == (y0.getD (y4).toNat 0)) = true) (X (.inr (0,y4,())))) (Imp ((y1 == (y0.getD (y4).toNat 0)) = false) (Lt (wrap (y4 + 1)) fun x1=>X (.inl (y0,y1,y2,y3,x1,()))))))) (Imp ((decide (y4 < y3)) = false) (X (.inr (1,0,())))),fun r=>(r.1 = 0→(0≤r.2.1↔∃k,k < y0.length∧y0.getD k 0 = y1))∧(¬ r.1 = 0→¬ ∃k,k < y0.length∧y0.getD k 0 = y1)∧True,fun r=>[(Nat.beq r.1 0,(.ret,[.c (.int r.2.1)],[]))],fun r=>(.exit 0,[],[])⟩
theorem slices_Index_int_int_l2.X:XL slices_Index_int_int_l2:=mkL (0,0,()) fun (y0,y1,y2,y3,y4,()) hp=>by
 obtain ⟨p0,p1,p2,p3,p4,p5,-⟩:=hp
 unfold ML; dsimp only [slices_Index_int_int_l2]
 refine May.iff (B.dec) (fun h1=>?_) (fun h1=>?_)
 refine May.chk ?_ fun c1=>May.iff (B.eq) (fun h2=>?_) (fun h2=>?_); rotate_left 1
 refine May.ex ⟨?_,?_,trivial⟩; rotate_left 2
 refine May.lw ⟨?_,?_⟩ fun x1 e1=>May.nx ⟨?_,?_,?_,?_,?_,?_,trivial⟩ ?_ ?_ fun r=>rfl; rotate_left 10
 refine May.ex ⟨?_,?_,trivial⟩
 all_goals try dsimp only [slices_Index_int_int_l2]
 all_goals first | with_reducible assumption | omega | exact fun _ q=>q | (exact fun _=>idx_n p5 (by omega); done) | (exact fun _=>idx_y p0 (by omega) h2; done) | (exact am_step p5 p0 e1 (fun g=>h2 g.symm); done) | (exact fun r q=>q; done)
abbrev slices_Index_int_int_l2.R:=Classical.choose slices_Index_int_int_l2.X
def slices_Index_int_int_l2.k:LCtr:=(ld 2 [0,1,4,7,8] [] slices_Index_int_int_l2.L slices_Index_int_int_l2 0 (fun e=>match e with | .ret=>[4] | _=>[]) (fun _=>[]) slices_Index_int_int_l2.R).ctr
theorem slices_Index_int_int_l2.g:LGood Tryz.prog Tryz.f158.ntmps slices_Index_int_int_l2.k (bodyAt Tryz.f158 0):=mkLG {} slices_Index_int_int_l2.X slices_Index_int_int.G (by kernel_rfl) (l0 (by kernel_rfl)) (c0 (by kernel_rfl)) fun S s=>by kernel_rfl
def slices_Index_int_int.L:FL:=fCons (fSh sInts) (fCons (fSh sInt) (fNil))
def slices_Index_int_int:List Int×Int×Unit→FR (Int):=fun (a0,a1,())=>⟨(a0.length≤1000000)∧True,fun X=>CallL slices_Index_int_int_l2.X (a0,a1,0,(a0.length:Int),0,()) fun x2=>And (Imp (Nat.beq x2.1 0 = true) (X x2.2.1)) (Imp (Nat.beq x2.1 0 = false) (X (-1))),fun r=>(0≤r↔∃k,k < a0.length∧a0.getD k 0 = a1)∧True,fun r=>(.v (.c (.int r)),[])⟩
theorem slices_Index_int_int.X:XF slices_Index_int_int:=mkF (0) fun (a0,a1,()) hp=>by
 obtain ⟨p0,-⟩:=hp
 dsimp only [slices_Index_int_int]
 refine May.loop ⟨?_,?_,?_,?_,?_,?_,trivial⟩ fun x2 q2=>have q2_0:=q2.1; have q2_1:=q2.2.1; May.iff B.nbeq (fun h1=>?_) (fun h1=>?_); rotate_left 6
 refine May.ret ⟨?_,trivial⟩; rotate_left 1
 refine May.ret ⟨?_,trivial⟩
 all_goals try dsimp only
 all_goals first | with_reducible assumption | omega | (exact ⟨fun g=>absurd g (by decide),fun g=>absurd g (q2_1 h1)⟩; done) | (exact q2_0 h1; done) | (intro k hk; omega; done)
abbrev slices_Index_int_int.S:=Classical.choose slices_Index_int_int.X
def slices_Index_int_int.c:Ctr:=fc 158 [true,false] slices_Index_int_int.L slices_Index_int_int slices_Index_int_int.S
theorem slices_Index_int_int.good:Good Tryz.prog slices_Index_int_int.c:=mkFG (fn:=Tryz.f158) {LL:=[slices_Index_int_int_l2.k]} slices_Index_int_int.X slices_Index_int_int.G (by kernel_rfl) (by kernel_rfl) (lG (by kernel_rfl) (consL (by kernel_rfl) slices_Index_int_int_l2.g (noL rfl))) (c0 (by kernel_rfl)) fun s K=>by kernel_rfl
def slices_Contains_int_int.L:FL:=fCons (fSh sInts) (fCons (fSh sInt) (fNil))
def slices_Contains_int_int:List Int×Int×Unit→FR (Bool):=fun (a0,a1,())=>⟨(a0.length≤1000000)∧True,fun X=>Call slices_Index_int_int.X (a0,a1,()) fun x1=>X (decide (x1≥0)),fun r=>(r = true↔∃k,k < a0.length∧a0.getD k 0 = a1)∧True,fun r=>(.v (.c (.bool r)),[])⟩
theorem slices_Contains_int_int.X:XF slices_Contains_int_int:=mkF (false) fun (a0,a1,()) hp=>by
 obtain ⟨p0,-⟩:=hp
 dsimp only [slices_Contains_int_int]
 refine May.call ⟨?_,trivial⟩ fun x1 q1=>have q1:=q1.1; May.ret ⟨?_,trivial⟩
 all_goals try dsimp only
 all_goals first | with_reducible assumption | omega | (exact (B.dec).trans q1; done)
abbrev slices_Contains_int_int.S:=Classical.choose slices_Contains_int_int.X
def slices_Contains_int_int.c:Ctr:=fc 95 [true,false] slices_Contains_int_int.L slices_Contains_int_int slices_Contains_int_int.S
theorem slices_Contains_int_int.good:Good Tryz.prog slices_Contains_int_int.c:=mkFG (fn:=Tryz.f95) {} slices_Contains_int_int.X (consG slices_Index_int_int.good noG) (by kernel_rfl) (by kernel_rfl) (l0 (by kernel_rfl)) (c0 (by kernel_rfl)) fun s K=>by kernel_rfl
end
end Hw
end Go.Proofs.YtklmllaggigkfaaGreat
