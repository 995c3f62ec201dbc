/- Pairs: made by gen.py. -/
import Derived.Test.YtklmllaggigkfaaGreatPJI
import Derived.Test.YtklmllaggigkfaaGreatPJF
set_option linter.unusedVariables false
set_option linter.unusedSimpArgs false
set_option maxRecDepth 100000
set_option maxHeartbeats 400000
namespace Go.Proofs.YtklmllaggigkfaaGreat
namespace Hw
open Go
noncomputable section
attribute [local irreducible] evFn evBody wrap wxor
def lkB (i:Nat) (l:Lk):List Blk:=[.raw 1 [.own (i + 1) 1 3,.own (i + 2) 1 3,.int l.bank.locked,.int l.id,.int l.st.way,.int l.st.ver,.int l.st.want,.own (i + 3) 7 46,.own (i + 4) 1 4,.own (i + 5) 1 4,.own (i + 6) 1 3,.mk l.marks 0,.int l.count,.own (i + 7) 1 3],.arr (.ints l.bank.own),.arr (.ints l.bank.notes),.arr (.pkts l.st.sent),.arr (.bools l.st.live),.arr (.bools l.st.back),.arr (.ints l.st.got),.arr (.ints l.knows)]
def prB (l o:Lk):List Blk:=.raw 1 [.ptr 1 0,.ptr 9 0] :: (lkB 1 l ++ lkB 9 o)
def Zes.L:FL:=fCons (fC (cPtr 1 (cCons (cPtr 1 cLkO rfl) (cCons (cPtr 1 cLkO rfl) (cNil))) rfl)) (fCons (fSh sInt) (fNil))
def Zes:(Lk×Lk×Unit)×Int×Unit→FR (Unit):=fun ((a0,a1,()),a2,())=>⟨(a2 = 1)∧True,fun X=>X (),fun r=>True,fun r=>(.tup [.c (.ptr 1 0),.c (.ptr 9 0)],[.raw 1 [.ptr 1 0,.ptr 9 0],.raw 1 [.own 2 1 3,.own 3 1 3,.int a0.bank.locked,.int a0.id,.int a0.st.way,.int a0.st.ver,.int a0.st.want,.own 4 7 46,.own 5 1 4,.own 6 1 4,.own 7 1 3,.mk a0.marks 0,.int a0.count,.own 8 1 3],.arr (.ints a0.bank.own),.arr (.ints a0.bank.notes),.arr (.pkts a0.st.sent),.arr (.bools a0.st.live),.arr (.bools a0.st.back),.arr (.ints a0.st.got),.arr (.ints a0.knows),.raw 1 [.own 10 1 3,.own 11 1 3,.int a1.bank.locked,.int a1.id,.int a1.st.way,.int a1.st.ver,.int a1.st.want,.own 12 7 46,.own 13 1 4,.own 14 1 4,.own 15 1 3,.mk a1.marks 0,.int a1.count,.own 16 1 3],.arr (.ints a1.bank.own),.arr (.ints a1.bank.notes),.arr (.pkts a1.st.sent),.arr (.bools a1.st.live),.arr (.bools a1.st.back),.arr (.ints a1.st.got),.arr (.ints a1.knows)])⟩
theorem Zes.X:XF Zes:=mkF () fun ((a0,a1,()),a2,()) hp=>by
 obtain ⟨p0,-⟩:=hp
 dsimp only [Zes]
 refine May.ret trivial
 all_goals try dsimp only
 all_goals first | with_reducible assumption | omega
abbrev Zes.S:=Classical.choose Zes.X
def Zes.c:Ctr:=fc 46 [false,false] Zes.L Zes Zes.S
theorem Zes.good:Good Tryz.prog Zes.c where
 fn:=⟨Tryz.f46,by kernel_rfl,by kernel_rfl,by kernel_rfl⟩
 dec:=fun bs args s h=>⟨(Zes.L.hdec h).1,fun C vs hv=>((Zes.L.hdec h).2).vals hv⟩
 run:=fun s C vs hI hfr hv hp=>by
  obtain ⟨⟨l,o,⟨⟩⟩,k,⟨⟩⟩:=s
  have hpre:(Zes ((l,o,()),k,())).P:=hp _ rfl
  obtain ⟨p0,-⟩:=id hpre
  have hI':Inv C (hpOf (prB l o)):=hI
  obtain ⟨v0,v1,rfl,h0,h1⟩:∃v0 v1,vs = [v0,v1]∧cellR C (.ptr 0 0) v0∧cellR C (.int k) v1:=by
   match vs,hv with
   | [v0,v1],hv=>exact ⟨v0,v1,rfl,hv.1,hv.2.1⟩
  have h1:v1 = .int .i64 k:=h1
  subst h1
  obtain ⟨k',hk'⟩:∃k':Int,k' = k:=⟨k,rfl⟩
  subst hk'
  have p0:k' = 1:=p0
  subst p0
  obtain ⟨b,cs,e,r1,-,-,r4,r5,r6⟩:=hI'.own 0
  obtain ⟨b',m',r7,rfl⟩:=h0
  obtain rfl:b' = b:=by
   have:=r7.symm.trans r1
   simp only [Option.some.injEq,Prod.mk.injEq] at this
   exact this.1
  obtain ⟨x,x1,x2⟩:=r6 0 _ rfl
  obtain ⟨y,y1,y2⟩:=r6 1 _ rfl
  refine (callsIn_wide.1 (ends1 b' x y C.w ((cell_at r4).trans x1) ((cell_at r4).trans y1) (oneCell_of x2) (oneCell_of y2))).mono ?_
  rintro e W ⟨rfl,hh,ho,ht,hp'⟩
  have hA:=after_same hI' hh ho ht hp'
  have ext:=hA.ext
  refine ⟨_,⟨W,C.frz,C.vis,C.ρ⟩,rfl,rfl,?_,hA⟩
  refine (show avR _ (.tup [.c (.ptr 1 0),.c (.ptr 9 0)]) _ from ?_)
  refine ⟨_,rfl,rfl,fun j z hj=>?_⟩
  match j,hj with
  | 0,hj=>cases hj; exact ⟨_,rfl,x2⟩
  | 1,hj=>cases hj; exact ⟨_,rfl,y2⟩
  | j + 2,hj=>cases hj
def Zet.L:FL:=fCons (fC (cPtr 1 (cCons (cPtr 1 cLkO rfl) (cCons (cPtr 1 cLkO rfl) (cNil))) rfl)) (fCons (fSh sInt) (fNil))
def Zet:(Lk×Lk×Unit)×Int×Unit→FR (Unit):=fun ((a0,a1,()),a2,())=>⟨(a2 = 2)∧True,fun X=>X (),fun r=>True,fun r=>(.tup [.c (.ptr 9 0),.c (.ptr 1 0)],[.raw 1 [.ptr 1 0,.ptr 9 0],.raw 1 [.own 2 1 3,.own 3 1 3,.int a0.bank.locked,.int a0.id,.int a0.st.way,.int a0.st.ver,.int a0.st.want,.own 4 7 46,.own 5 1 4,.own 6 1 4,.own 7 1 3,.mk a0.marks 0,.int a0.count,.own 8 1 3],.arr (.ints a0.bank.own),.arr (.ints a0.bank.notes),.arr (.pkts a0.st.sent),.arr (.bools a0.st.live),.arr (.bools a0.st.back),.arr (.ints a0.st.got),.arr (.ints a0.knows),.raw 1 [.own 10 1 3,.own 11 1 3,.int a1.bank.locked,.int a1.id,.int a1.st.way,.int a1.st.ver,.int a1.st.want,.own 12 7 46,.own 13 1 4,.own 14 1 4,.own 15 1 3,.mk a1.marks 0,.int a1.count,.own 16 1 3],.arr (.ints a1.bank.own),.arr (.ints a1.bank.notes),.arr (.pkts a1.st.sent),.arr (.bools a1.st.live),.arr (.bools a1.st.back),.arr (.ints a1.st.got),.arr (.ints a1.knows)])⟩
theorem Zet.X:XF Zet:=mkF () fun ((a0,a1,()),a2,()) hp=>by
 obtain ⟨p0,-⟩:=hp
 dsimp only [Zet]
 refine May.ret trivial
 all_goals try dsimp only
 all_goals first | with_reducible assumption | omega
abbrev Zet.S:=Classical.choose Zet.X
def Zet.c:Ctr:=fc 46 [false,false] Zet.L Zet Zet.S
theorem Zet.good:Good Tryz.prog Zet.c where
 fn:=⟨Tryz.f46,by kernel_rfl,by kernel_rfl,by kernel_rfl⟩
 dec:=fun bs args s h=>⟨(Zet.L.hdec h).1,fun C vs hv=>((Zet.L.hdec h).2).vals hv⟩
 run:=fun s C vs hI hfr hv hp=>by
  obtain ⟨⟨l,o,⟨⟩⟩,k,⟨⟩⟩:=s
  have hpre:(Zet ((l,o,()),k,())).P:=hp _ rfl
  obtain ⟨p0,-⟩:=id hpre
  have hI':Inv C (hpOf (prB l o)):=hI
  obtain ⟨v0,v1,rfl,h0,h1⟩:∃v0 v1,vs = [v0,v1]∧cellR C (.ptr 0 0) v0∧cellR C (.int k) v1:=by
   match vs,hv with
   | [v0,v1],hv=>exact ⟨v0,v1,rfl,hv.1,hv.2.1⟩
  have h1:v1 = .int .i64 k:=h1
  subst h1
  obtain ⟨k',hk'⟩:∃k':Int,k' = k:=⟨k,rfl⟩
  subst hk'
  have p0:k' = 2:=p0
  subst p0
  obtain ⟨b,cs,e,r1,-,-,r4,r5,r6⟩:=hI'.own 0
  obtain ⟨b',m',r7,rfl⟩:=h0
  obtain rfl:b' = b:=by
   have:=r7.symm.trans r1
   simp only [Option.some.injEq,Prod.mk.injEq] at this
   exact this.1
  obtain ⟨x,x1,x2⟩:=r6 0 _ rfl
  obtain ⟨y,y1,y2⟩:=r6 1 _ rfl
  refine (callsIn_wide.1 (ends2 b' x y C.w ((cell_at r4).trans x1) ((cell_at r4).trans y1) (oneCell_of x2) (oneCell_of y2))).mono ?_
  rintro e W ⟨rfl,hh,ho,ht,hp'⟩
  have hA:=after_same hI' hh ho ht hp'
  have ext:=hA.ext
  refine ⟨_,⟨W,C.frz,C.vis,C.ρ⟩,rfl,rfl,?_,hA⟩
  refine (show avR _ (.tup [.c (.ptr 9 0),.c (.ptr 1 0)]) _ from ?_)
  refine ⟨_,rfl,rfl,fun j z hj=>?_⟩
  match j,hj with
  | 0,hj=>cases hj; exact ⟨_,rfl,y2⟩
  | 1,hj=>cases hj; exact ⟨_,rfl,x2⟩
  | j + 2,hj=>cases hj
end
end Hw
end Go.Proofs.YtklmllaggigkfaaGreat
set_option linter.unusedVariables false
set_option linter.unusedSimpArgs false
set_option maxRecDepth 100000
set_option maxHeartbeats 400000
namespace Go.Proofs.YtklmllaggigkfaaGreat
namespace Hw
open Go
noncomputable section
attribute [local irreducible] evFn evBody wrap wxor
def insK (l:Lk) (h:Int):Lk:=⟨l.bank,l.id,l.st,l.marks,l.count,insL l.knows (bsI l.knows h) [h]⟩
abbrev KnowL (l:Lk) (n h:Int) (r:Lk):Prop:=((1≤h∧h≤n)∧¬ KnwL l h→r = insK l h)∧(¬ ((1≤h∧h≤n)∧¬ KnwL l h)→r = l)
theorem bsB_iff {l:List Int} {x:Int}:bsB l x = true↔∃k,k < l.length∧l.getD k 0 = x:=by
 unfold bsB
 rw [List.contains_iff_mem]
 constructor
 ·intro h
  obtain ⟨k,hk,rfl⟩:=List.getElem_of_mem h
  exact ⟨k,hk,by rw [List.getD_eq_getElem?_getD,List.getElem?_eq_getElem hk]; rfl⟩
 ·rintro ⟨k,hk,rfl⟩
  rw [List.getD_eq_getElem?_getD,List.getElem?_eq_getElem hk]
  exact List.getElem_mem hk
theorem bsI_rng (l:List Int) (x:Int):0≤bsI l x∧bsI l x≤(l.length:Int):=by
 unfold bsI
 have:=List.countP_le_length (p:=fun y=>decide (y < x)) (l:=l)
 omega
theorem kl_o {l:Lk} {n h:Int} (g:h < 1∨h > n):KnowL l n h l:=⟨fun g'=>by omega,fun _=>rfl⟩
theorem kl_y {l:Lk} {n h i:Int} {b:Bool} {m:List Int} (g:¬ (h < 1∨h > n)) (ei:i = bsI l.knows h) (eb:b = bsB l.knows h) (g2:¬ b = true) (em:m = insL l.knows i [h]):KnowL l n h ⟨l.bank,l.id,l.st,l.marks,l.count,m⟩:=by
 subst ei eb em
 exact ⟨fun _=>rfl,fun g'=>absurd ⟨by omega,fun g3=>g2 (bsB_iff.2 g3)⟩ g'⟩
theorem kl_n {l:Lk} {n h:Int} {b:Bool} (eb:b = bsB l.knows h) (g2:b = true):KnowL l n h l:=by
 subst eb
 exact ⟨fun g=>absurd (bsB_iff.1 g2) g.2,fun _=>rfl⟩
def Zeu.L:FL:=fCons (fC (cPtr 1 cLkO rfl)) (fCons (fC (cPtr 1 cLkO rfl)) (fCons (fSh sInt) (fNil)))
def Zeu:Lk×Lk×Int×Unit→FR (Lk):=fun (a0,a1,a2,())=>⟨(a0.knows.length≤1000000)∧(a0.knows.Pairwise (·≤·))∧True,fun X=>Lt (bif decide (a2 < 1) then true else decide (a2 > a1.count)) fun x1=>And (Imp (x1 = true) (X a0)) (Imp (x1 = false) (Call slices_BinarySearch_int_int.X (a0.knows,a2,()) fun x2=>And (Imp ((!x2.2) = true) (Call slices_Insert_int_int.X (a0.knows,x2.1,[a2],()) fun x3=>X (⟨a0.bank,a0.id,a0.st,a0.marks,a0.count,x3⟩:Lk))) (Imp ((!x2.2) = false) (X a0)))),fun r=>(KnowL a0 a1.count a2 r)∧True,fun r=>(.tup [],[.raw 1 [.own 16 1 3,.own 17 1 3,.int r.bank.locked,.int r.id,.int r.st.way,.int r.st.ver,.int r.st.want,.own 18 7 46,.own 19 1 4,.own 20 1 4,.own 21 1 3,.mk r.marks 0,.int r.count,.own 22 1 3],.dead,.dead,.dead,.dead,.dead,.dead,.dead,.raw 1 [.own 9 1 3,.own 10 1 3,.int a1.bank.locked,.int a1.id,.int a1.st.way,.int a1.st.ver,.int a1.st.want,.own 11 7 46,.own 12 1 4,.own 13 1 4,.own 14 1 3,.mk a1.marks 0,.int a1.count,.own 15 1 3],.arr (.ints a1.bank.own),.arr (.ints a1.bank.notes),.arr (.pkts a1.st.sent),.arr (.bools a1.st.live),.arr (.bools a1.st.back),.arr (.ints a1.st.got),.arr (.ints a1.knows),.arr (.ints r.bank.own),.arr (.ints r.bank.notes),.arr (.pkts r.st.sent),.arr (.bools r.st.live),.arr (.bools r.st.back),.arr (.ints r.st.got),.arr (.ints r.knows)])⟩
theorem Zeu.X:XF Zeu:=mkF (zLk) fun (a0,a1,a2,()) hp=>by
 obtain ⟨p0,p1,-⟩:=hp
 dsimp only [Zeu]
 refine May.lp (B.or (B.dec) (B.dec)) fun x1 e1=>May.iff (e1) (fun h1=>?_) (fun h1=>?_)
 refine May.ret ⟨?_,trivial⟩; rotate_left 1
 refine May.call ⟨?_,?_,trivial⟩ fun x2 q2=>have q2_0:=q2.1; have q2_1:=q2.2.1; May.iff (B.not (Iff.rfl)) (fun h2=>?_) (fun h2=>?_); rotate_left 2
 refine May.call ⟨?_,?_,?_,?_,trivial⟩ fun x3 q3=>have q3:=q3.1; May.ret ⟨?_,trivial⟩; rotate_left 5
 refine May.ret ⟨?_,trivial⟩
 all_goals try dsimp only
 all_goals first | with_reducible assumption | omega | (exact kl_n q2_1 (nn h2); done) | (exact kl_o h1; done) | (exact kl_y h1 q2_0 q2_1 h2 q3; done) | ((rw [q2_0]; exact (bsI_rng _ _).1); done) | ((rw [q2_0]; exact (bsI_rng _ _).2); done) | (rfl; done)
abbrev Zeu.S:=Classical.choose Zeu.X
def Zeu.c:Ctr:=fc 48 [false,false,false] Zeu.L Zeu Zeu.S
theorem Zeu.good:Good Tryz.prog Zeu.c:=mkFG (fn:=Tryz.f48) {tk:=[1000,1,2,3,4,5,6,7]} Zeu.X (consG slices_BinarySearch_int_int.good (consG slices_Insert_int_int.good noG)) (by kernel_rfl) (by kernel_rfl) (l0 (by kernel_rfl)) (c0 (by kernel_rfl)) fun s K=>by kernel_rfl
end
end Hw
end Go.Proofs.YtklmllaggigkfaaGreat
set_option linter.unusedVariables false
set_option linter.unusedSimpArgs false
set_option maxRecDepth 100000
set_option maxHeartbeats 400000
namespace Go.Proofs.YtklmllaggigkfaaGreat
namespace Hw
open Go
noncomputable section
attribute [local irreducible] evFn evBody wrap wxor
def lkRec (l:Lk) (s:St):Lk:=⟨l.bank,l.id,l.st,⟨s :: l.marks.l,none⟩,l.count + 1,l.knows⟩
def lkBlock (l:Lk):Lk:=if l.count < 90 then lkRec l l.st else l
structure LkIn (l:Lk):Prop where
 cnt:l.count = (l.marks.l.length:Int)
 max:l.count≤1000000
 kl:l.knows.length≤1000000
 kp:l.knows.Pairwise (·≤·)
 got:l.st.got.length = 8
 sent:l.st.sent.length≤1000000
 live:l.st.live.length≤1000000
 back:l.st.back.length≤1000000
 ok:∀k,k < l.marks.l.length→StOk (l.marks.l.getD k zSt)
def bkL (l:Lk) (b:Bk):Lk:=⟨b,l.id,l.st,l.marks,l.count,l.knows⟩
structure DoL (l o:Lk) (e:Ev) (r:Lk):Prop where
 know:e.kind = 2→KnowL l o.count e.height r
 send:e.kind = 3→∃n t,LsQ l e.pkt.kind e.pkt.frm e.pkt.to e.pkt.sum e.pkt.til n t r
 move:e.kind = 8→∃b t,MoveQ l.bank e.pkt.kind e.pkt.frm e.pkt.to e.pkt.sum b t∧(t = true→r = bkL l b)∧(¬ t = true→r = l)
 rely:4≤e.kind∧e.kind≤7→∃s h b,PrfL l o e s h b∧(b = true→RelL l s h e r)∧(¬ b = true→r = l)
 none:¬ (2≤e.kind∧e.kind≤8)→r = l
structure DoP (l o:Lk) (e:Ev) (r q:Lk):Prop where
 one:e.chain = 1→DoL l o e r∧q = o
 two:e.chain = 2→DoL o l e q∧r = l
 none:¬ (1≤e.chain∧e.chain≤2)→r = l∧q = o
theorem newS_ok:StOk ⟨0,1,0,[],[],[],List.replicate 8 0⟩:=by
 refine ⟨by decide,by decide,by decide,rfl,rfl,rfl,fun k hk=>absurd hk (Nat.not_lt_zero k),fun k hk=>?_,rfl⟩
 have hk:k < 8:=hk
 show 0≤(List.replicate 8 (0:Int)).getD k 0∧(List.replicate 8 (0:Int)).getD k 0≤2
 rw [List.getD_eq_getElem?_getD,List.getElem?_replicate,if_pos hk]
 decide
theorem prf_ok {l o:Lk} {e:Ev} {s:St} {h:Int} {b:Bool} (ho:LkIn o) (q:PrfL l o e s h b) (hb:b = true):StOk s:=by
 by_cases g:frE e
 ·rw [(q.fresh g).2.1]; exact newS_ok
 ·obtain ⟨-,h1,h2⟩:=(q.yes g).1 hb
  rw [(q.at_ g hb).1]
  have:=ho.cnt
  exact ho.ok _ (by omega)
theorem dp1 {l o r:Lk} {e:Ev} (h:e.chain = 1) (q:DoL l o e r):DoP l o e r o:=⟨fun _=>⟨q,rfl⟩,fun g=>by omega,fun g=>by omega⟩
theorem dp2 {l o r:Lk} {e:Ev} {x:Bool} (q1:x = true↔1≤e.chain∧e.chain≤2) (h1:¬¬ x = true) (h2:¬ e.chain = 1) (q:DoL o l e r):DoP l o e l r:=⟨fun g=>absurd g h2,fun _=>⟨q,rfl⟩,fun g=>absurd (q1.1 (nn h1)) g⟩
theorem dp0 {l o:Lk} {e:Ev} {x:Bool} (q1:x = true↔1≤e.chain∧e.chain≤2) (h1:¬ x = true):DoP l o e l o:=⟨fun g=>absurd (q1.2 (by omega)) h1,fun g=>absurd (q1.2 (by omega)) h1,fun _=>⟨rfl,rfl⟩⟩
theorem dl_know {l o r:Lk} {e:Ev} (h:e.kind = 2) (q:KnowL l o.count e.height r):DoL l o e r:=⟨fun _=>q,fun g=>by omega,fun g=>by omega,fun g=>by omega,fun g=>by omega⟩
theorem dl_send {l o r:Lk} {e:Ev} {n:Int} {t:Bool} (h:e.kind = 3) (q:LsQ l e.pkt.kind e.pkt.frm e.pkt.to e.pkt.sum e.pkt.til n t r):DoL l o e r:=⟨fun g=>by omega,fun _=>⟨n,t,q⟩,fun g=>by omega,fun g=>by omega,fun g=>by omega⟩
theorem dl_move {l o r:Lk} {e:Ev} {b:Bk} {t:Bool} (h:e.kind = 8) (q:MoveQ l.bank e.pkt.kind e.pkt.frm e.pkt.to e.pkt.sum b t) (h1:t = true→r = bkL l b) (h2:¬ t = true→r = l):DoL l o e r:=⟨fun g=>by omega,fun g=>by omega,fun _=>⟨b,t,q,h1,h2⟩,fun g=>by omega,fun g=>by omega⟩
theorem dl_rel {l o r:Lk} {e:Ev} {s:St} {h:Int} {b:Bool} (hk:4≤e.kind∧e.kind≤7) (q:PrfL l o e s h b) (hb:b = true) (qr:RelL l s h e r):DoL l o e r:=⟨fun g=>by omega,fun g=>by omega,fun g=>by omega,fun _=>⟨s,h,b,q,fun _=>qr,fun g=>absurd hb g⟩,fun g=>by omega⟩
theorem dl_ren {l o:Lk} {e:Ev} {s:St} {h:Int} {b:Bool} (hk:4≤e.kind∧e.kind≤7) (q:PrfL l o e s h b) (hb:¬ b = true):DoL l o e l:=⟨fun g=>by omega,fun g=>by omega,fun g=>by omega,fun _=>⟨s,h,b,q,fun g=>absurd g hb,fun _=>rfl⟩,fun g=>by omega⟩
theorem dl_none {l o:Lk} {e:Ev} (h:¬ (2≤e.kind∧e.kind≤8)):DoL l o e l:=⟨fun g=>by omega,fun g=>by omega,fun g=>by omega,fun g=>by omega,fun _=>rfl⟩
def ZbA.L:FL:=fCons (fC (cPtr 1 cLkO rfl)) (fCons (fAgg (cCons cInt (cCons cInt (cCons cInt (cCons (cAl 3 7 46) (cCons (cAl 4 1 4) (cCons (cAl 5 1 4) (cCons (cAl 6 1 3) (cNil))))))))) (fNil))
def ZbA:Lk×(Int×Int×Int×Unit×Unit×Unit×Unit×Unit)×Unit→FR (Lk):=fun (a0,(a1,a2,a3,(),(),(),(),()),())=>⟨(a0.st.sm)∧(0≤a0.count)∧(a0.count≤1000000)∧True,fun X=>And ((ZaP ((⟨a1,a2,a3,a0.st.sent,a0.st.live,a0.st.back,a0.st.got⟩:St),())).P) (Lt (wrap (a0.count + 1)) fun x1=>X (⟨a0.bank,a0.id,a0.st,(⟨(⟨a1,a2,a3,a0.st.sent,a0.st.live,a0.st.back,a0.st.got⟩:St) :: a0.marks.l,none⟩:Mks),x1,a0.knows⟩:Lk)),fun r=>(r = lkRec a0 ⟨a1,a2,a3,a0.st.sent,a0.st.live,a0.st.back,a0.st.got⟩)∧True,fun r=>(.tup [],[.raw 1 [.own 1 1 3,.own 2 1 3,.int r.bank.locked,.int r.id,.int r.st.way,.int r.st.ver,.int r.st.want,.own 3 7 46,.own 4 1 4,.own 5 1 4,.own 6 1 3,.mk r.marks 0,.int r.count,.own 7 1 3],.arr (.ints r.bank.own),.arr (.ints r.bank.notes),.arr (.pkts r.st.sent),.arr (.bools r.st.live),.arr (.bools r.st.back),.arr (.ints r.st.got),.arr (.ints r.knows)])⟩
theorem ZbA.X:XF ZbA:=mkF (zLk) fun (a0,(a1,a2,a3,(),(),(),(),()),()) hp=>by
 obtain ⟨p0,p1,p2,-⟩:=hp
 dsimp only [ZbA]
 refine May.chk ⟨?_,trivial⟩ fun c1=>May.lw ⟨?_,?_⟩ fun x1 e1=>May.ret ⟨?_,trivial⟩
 all_goals try dsimp only
 all_goals first | with_reducible assumption | omega | (rw [e1]; rfl; done) | rfl | assumption | (simp only [List.length_append,List.length_cons,List.length_nil,List.length_set,List.length_replicate,Int.natCast_add,Int.natCast_one] at *; omega) | grind
abbrev ZbA.S:=Classical.choose ZbA.X
def ZbA.c:Ctr:=fc 85 [false,false] ZbA.L ZbA ZbA.S
theorem ZbA.good:Good Tryz.prog ZbA.c:=mkFG (fn:=Tryz.f85) {} ZbA.X (consG ZaP.good noG) (by kernel_rfl) (by kernel_rfl) (l0 (by kernel_rfl)) (c0 (by kernel_rfl)) fun s K=>by kernel_rfl
def ZbD.L:FL:=fCons (fC (cPtr 1 cLkO rfl)) (fNil)
def ZbD:Lk×Unit→FR (Lk):=fun (a0,())=>⟨(a0.st.sm)∧(0≤a0.count)∧(a0.count≤1000000)∧True,fun X=>And (Imp ((decide (a0.count < 90)) = true) (Call ZbA.X (a0,(a0.st.way,a0.st.ver,a0.st.want,(),(),(),(),()),()) fun x1=>X x1)) (Imp ((decide (a0.count < 90)) = false) (X a0)),fun r=>(r = lkBlock a0)∧True,fun r=>(.tup [],[.raw 1 [.own 1 1 3,.own 2 1 3,.int r.bank.locked,.int r.id,.int r.st.way,.int r.st.ver,.int r.st.want,.own 3 7 46,.own 4 1 4,.own 5 1 4,.own 6 1 3,.mk r.marks 0,.int r.count,.own 7 1 3],.arr (.ints r.bank.own),.arr (.ints r.bank.notes),.arr (.pkts r.st.sent),.arr (.bools r.st.live),.arr (.bools r.st.back),.arr (.ints r.st.got),.arr (.ints r.knows)])⟩
theorem ZbD.X:XF ZbD:=mkF (zLk) fun (a0,()) hp=>by
 obtain ⟨p0,p1,p2,-⟩:=hp
 dsimp only [ZbD]
 refine May.iff (B.dec) (fun h1=>?_) (fun h1=>?_)
 refine May.call ⟨?_,?_,?_,trivial⟩ fun x1 q1=>have q1:=q1.1; May.ret ⟨?_,trivial⟩; rotate_left 4
 refine May.ret ⟨?_,trivial⟩
 all_goals try dsimp only
 all_goals first | with_reducible assumption | omega | (rw [q1]; exact (if_pos h1).symm; done) | (exact (if_neg h1).symm; done)
abbrev ZbD.S:=Classical.choose ZbD.X
def ZbD.c:Ctr:=fc 47 [false] ZbD.L ZbD ZbD.S
theorem ZbD.good:Good Tryz.prog ZbD.c:=mkFG (fn:=Tryz.f47) {} ZbD.X (consG ZbA.good noG) (by kernel_rfl) (by kernel_rfl) (l0 (by kernel_rfl)) (c0 (by kernel_rfl)) fun s K=>by kernel_rfl
def Zev.L:FL:=fCons (fC (cPtr 1 (cCons (cPtr 1 cLkO rfl) (cCons (cPtr 1 cLkO rfl) (cNil))) rfl)) (fCons (fSh sEv) (fNil))
def Zev:(Lk×Lk×Unit)×Ev×Unit→FR (Lk×Lk):=fun ((a0,a1,()),a2,())=>⟨(¬ a2.kind = 1)∧(LkIn a0)∧(LkIn a1)∧True,fun X=>Call0 Zdb.X (a2.chain,()) fun x1=>And (Imp ((!x1) = true) (X (a0,a1))) (Imp ((!x1) = false) (Or (And ((Zes ((a0,a1,()),a2.chain,())).P) (And (Imp ((a2.kind == 1) = true) (Call ZbD.X (a0,()) fun x2=>X (x2,a1))) (Imp ((a2.kind == 1) = false) (And (Imp ((a2.kind == 2) = true) (Call Zeu.X (a0,a1,a2.height,()) fun x3=>X (x3,a1))) (Imp ((a2.kind == 2) = false) (And (Imp ((a2.kind == 3) = true) (Call Zci.X (a0,a2.pkt.kind,a2.pkt.frm,a2.pkt.to,a2.pkt.sum,a2.pkt.til,()) fun x4=>X (x4.2.2,a1))) (Imp ((a2.kind == 3) = false) (And (Imp ((a2.kind == 8) = true) (Call0 Zek.X (a0.bank,a2.pkt.kind,a2.pkt.frm,a2.pkt.to,a2.pkt.sum,()) fun x5=>And (Imp (x5.2 = true) (X ((⟨x5.1,a0.id,a0.st,a0.marks,a0.count,a0.knows⟩:Lk),a1))) (Imp (x5.2 = false) (X (a0,a1))))) (Imp ((a2.kind == 8) = false) (And (Imp ((a2.kind == 4) = true) (And (Imp ((a2.kind == 4) = true) (Call Zer.X (a0,a1,a2,()) fun x6=>And (Imp (x6.2.2.2.2.2.2.2.2 = true) (Call Zel.X (a0,(x6.1,x6.2.1,x6.2.2.1,x6.2.2.2.1,x6.2.2.2.2.1,x6.2.2.2.2.2.1,x6.2.2.2.2.2.2.1,x6.2.2.2.2.2.2.2.1,()),a2,()) fun x7=>X (x7,a1))) (Imp (x6.2.2.2.2.2.2.2.2 = false) (X (a0,a1))))) (Imp ((a2.kind == 4) = false) (X (a0,a1))))) (Imp ((a2.kind == 4) = false) (And (Imp ((a2.kind == 5) = true) (And (Imp ((a2.kind == 5) = true) (Call Zer.X (a0,a1,a2,()) fun x8=>And (Imp (x8.2.2.2.2.2.2.2.2 = true) (Call Zel.X (a0,(x8.1,x8.2.1,x8.2.2.1,x8.2.2.2.1,x8.2.2.2.2.1,x8.2.2.2.2.2.1,x8.2.2.2.2.2.2.1,x8.2.2.2.2.2.2.2.1,()),a2,()) fun x9=>X (x9,a1))) (Imp (x8.2.2.2.2.2.2.2.2 = false) (X (a0,a1))))) (Imp ((a2.kind == 5) = false) (X (a0,a1))))) (Imp ((a2.kind == 5) = false) (And (Imp ((a2.kind == 6) = true) (And (Imp ((a2.kind == 6) = true) (Call Zer.X (a0,a1,a2,()) fun x10=>And (Imp (x10.2.2.2.2.2.2.2.2 = true) (Call Zel.X (a0,(x10.1,x10.2.1,x10.2.2.1,x10.2.2.2.1,x10.2.2.2.2.1,x10.2.2.2.2.2.1,x10.2.2.2.2.2.2.1,x10.2.2.2.2.2.2.2.1,()),a2,()) fun x11=>X (x11,a1))) (Imp (x10.2.2.2.2.2.2.2.2 = false) (X (a0,a1))))) (Imp ((a2.kind == 6) = false) (X (a0,a1))))) (Imp ((a2.kind == 6) = false) (And (Imp ((a2.kind == 7) = true) (Call Zer.X (a0,a1,a2,()) fun x12=>And (Imp (x12.2.2.2.2.2.2.2.2 = true) (Call Zel.X (a0,(x12.1,x12.2.1,x12.2.2.1,x12.2.2.2.1,x12.2.2.2.2.1,x12.2.2.2.2.2.1,x12.2.2.2.2.2.2.1,x12.2.2.2.2.2.2.2.1,()),a2,()) fun x13=>X (x13,a1))) (Imp (x12.2.2.2.2.2.2.2.2 = false) (X (a0,a1))))) (Imp ((a2.kind == 7) = false) (X (a0,a1))))))))))))))))))) (And ((Zet ((a0,a1,()),a2.chain,())).P) (And (Imp ((a2.kind == 1) = true) (Call ZbD.X (a1,()) fun x14=>X (a0,x14))) (Imp ((a2.kind == 1) = false) (And (Imp ((a2.kind == 2) = true) (Call Zeu.X (a1,a0,a2.height,()) fun x15=>X (a0,x15))) (Imp ((a2.kind == 2) = false) (And (Imp ((a2.kind == 3) = true) (Call Zci.X (a1,a2.pkt.kind,a2.pkt.frm,a2.pkt.to,a2.pkt.sum,a2.pkt.til,()) fun x16=>X (a0,x16.2.2))) (Imp ((a2.kind == 3) = false) (And (Imp ((a2.kind == 8) = true) (Call0 Zek.X (a1.bank,a2.pkt.kind,a2.pkt.frm,a2.pkt.to,a2.pkt.sum,()) fun x17=>And (Imp (x17.2 = true) (X (a0,(⟨x17.1,a1.id,a1.st,a1.marks,a1.count,a1.knows⟩:Lk)))) (Imp (x17.2 = false) (X (a0,a1))))) (Imp ((a2.kind == 8) = false) (And (Imp ((a2.kind == 4) = true) (And (Imp ((a2.kind == 4) = true) (Call Zer.X (a1,a0,a2,()) fun x18=>And (Imp (x18.2.2.2.2.2.2.2.2 = true) (Call Zel.X (a1,(x18.1,x18.2.1,x18.2.2.1,x18.2.2.2.1,x18.2.2.2.2.1,x18.2.2.2.2.2.1,x18.2.2.2.2.2.2.1,x18.2.2.2.2.2.2.2.1,()),a2,()) fun x19=>X (a0,x19))) (Imp (x18.2.2.2.2.2.2.2.2 = false) (X (a0,a1))))) (Imp ((a2.kind == 4) = false) (X (a0,a1))))) (Imp ((a2.kind == 4) = false) (And (Imp ((a2.kind == 5) = true) (And (Imp ((a2.kind == 5) = true) (Call Zer.X (a1,a0,a2,()) fun x20=>And (Imp (x20.2.2.2.2.2.2.2.2 = true) (Call Zel.X (a1,(x20.1,x20.2.1,x20.2.2.1,x20.2.2.2.1,x20.2.2.2.2.1,x20.2.2.2.2.2.1,x20.2.2.2.2.2.2.1,x20.2.2.2.2.2.2.2.1,()),a2,()) fun x21=>X (a0,x21))) (Imp (x20.2.2.2.2.2.2.2.2 = false) (X (a0,a1))))) (Imp ((a2.kind == 5) = false) (X (a0,a1))))) (Imp ((a2.kind == 5) = false) (And (Imp ((a2.kind == 6) = true) (And (Imp ((a2.kind == 6) = true) (Call Zer.X (a1,a0,a2,()) fun x22=>And (Imp (x22.2.2.2.2.2.2.2.2 = true) (Call Zel.X (a1,(x22.1,x22.2.1,x22.2.2.1,x22.2.2.2.1,x22.2.2.2.2.1,x22.2.2.2.2.2.1,x22.2.2.2.2.2.2.1,x22.2.2.2.2.2.2.2.1,()),a2,()) fun x23=>X (a0,x23))) (Imp (x22.2.2.2.2.2.2.2.2 = false) (X (a0,a1))))) (Imp ((a2.kind == 6) = false) (X (a0,a1))))) (Imp ((a2.kind == 6) = false) (And (Imp ((a2.kind == 7) = true) (Call Zer.X (a1,a0,a2,()) fun x24=>And (Imp (x24.2.2.2.2.2.2.2.2 = true) (Call Zel.X (a1,(x24.1,x24.2.1,x24.2.2.1,x24.2.2.2.1,x24.2.2.2.2.1,x24.2.2.2.2.2.1,x24.2.2.2.2.2.2.1,x24.2.2.2.2.2.2.2.1,()),a2,()) fun x25=>X (a0,x25))) (Imp (x24.2.2.2.2.2.2.2.2 = false) (X (a0,a1))))) (Imp ((a2.kind == 7) = false) (X (a0,a1))))))))))))))))))))),fun r=>(DoP a0 a1 a2 r.1 r.2)∧True,fun r=>(.tup [],[.raw 1 [.ptr 17 0,.ptr 25 0],.dead,.dead,.dead,.dead,.dead,.dead,.dead,.dead,.dead,.dead,.dead,.dead,.dead,.dead,.dead,.dead,.raw 1 [.own 18 1 3,.own 19 1 3,.int r.1.bank.locked,.int r.1.id,.int r.1.st.way,.int r.1.st.ver,.int r.1.st.want,.own 20 7 46,.own 21 1 4,.own 22 1 4,.own 23 1 3,.mk r.1.marks 0,.int r.1.count,.own 24 1 3],.arr (.ints r.1.bank.own),.arr (.ints r.1.bank.notes),.arr (.pkts r.1.st.sent),.arr (.bools r.1.st.live),.arr (.bools r.1.st.back),.arr (.ints r.1.st.got),.arr (.ints r.1.knows),.raw 1 [.own 26 1 3,.own 27 1 3,.int r.2.bank.locked,.int r.2.id,.int r.2.st.way,.int r.2.st.ver,.int r.2.st.want,.own 28 7 46,.own 29 1 4,.own 30 1 4,.own 31 1 3,.mk r.2.marks 0,.int r.2.count,.own 32 1 3],.arr (.ints r.2.bank.own),.arr (.ints r.2.bank.notes),.arr (.pkts r.2.st.sent),.arr (.bools r.2.st.live),.arr (.bools r.2.st.back),.arr (.ints r.2.st.got),.arr (.ints r.2.knows)])⟩
theorem Zev.X:XF Zev:=mkF (zLk,zLk) fun ((a0,a1,()),a2,()) hp=>by
 obtain ⟨p0,p1,p2,-⟩:=hp
 dsimp only [Zev]
 refine May.call0 trivial fun x1 q1=>have q1:=q1.1; May.iff (B.not (Iff.rfl)) (fun h1=>?_) (fun h1=>?_)
 refine May.ret ⟨?_,trivial⟩; rotate_left 1
 refine May.alt (c:=a2.chain == 1) (B.eq) (fun h2=>?_) (fun h2=>?_)
 refine May.chk ⟨?_,trivial⟩ fun c1=>May.iff (B.eq) (fun h3=>?_) (fun h3=>?_); rotate_left 1
 refine May.call ⟨?_,?_,?_,trivial⟩ fun x2 q2=>have q2:=q2.1; May.ret ⟨?_,trivial⟩; rotate_left 4
 refine May.iff (B.eq) (fun h4=>?_) (fun h4=>?_)
 refine May.call ⟨?_,?_,trivial⟩ fun x3 q3=>have q3:=q3.1; May.ret ⟨?_,trivial⟩; rotate_left 3
 refine May.iff (B.eq) (fun h5=>?_) (fun h5=>?_)
 refine May.call ⟨?_,?_,?_,trivial⟩ fun x4 q4=>have q4:=q4.1; May.ret ⟨?_,trivial⟩; rotate_left 4
 refine May.iff (B.eq) (fun h6=>?_) (fun h6=>?_)
 refine May.call0 trivial fun x5 q5=>have q5:=q5.1; May.iff (Iff.rfl) (fun h7=>?_) (fun h7=>?_)
 refine May.ret ⟨?_,trivial⟩; rotate_left 1
 refine May.ret ⟨?_,trivial⟩; rotate_left 1
 refine May.iff (B.eq) (fun h7=>?_) (fun h7=>?_)
 refine May.iff (B.eq) (fun h8=>?_) (fun h8=>?_)
 refine May.call ⟨?_,?_,?_,trivial⟩ fun x6 q6=>have q6:=q6.1; May.iff (Iff.rfl) (fun h9=>?_) (fun h9=>?_); rotate_left 3
 refine May.call ⟨?_,?_,?_,?_,trivial⟩ fun x7 q7=>have q7:=q7.1; May.ret ⟨?_,trivial⟩; rotate_left 5
 refine May.ret ⟨?_,trivial⟩; rotate_left 1
 refine May.no ?_; rotate_left 1
 refine May.iff (B.eq) (fun h8=>?_) (fun h8=>?_)
 refine May.iff (B.eq) (fun h9=>?_) (fun h9=>?_)
 refine May.call ⟨?_,?_,?_,trivial⟩ fun x8 q8=>have q8:=q8.1; May.iff (Iff.rfl) (fun h10=>?_) (fun h10=>?_); rotate_left 3
 refine May.call ⟨?_,?_,?_,?_,trivial⟩ fun x9 q9=>have q9:=q9.1; May.ret ⟨?_,trivial⟩; rotate_left 5
 refine May.ret ⟨?_,trivial⟩; rotate_left 1
 refine May.no ?_; rotate_left 1
 refine May.iff (B.eq) (fun h9=>?_) (fun h9=>?_)
 refine May.iff (B.eq) (fun h10=>?_) (fun h10=>?_)
 refine May.call ⟨?_,?_,?_,trivial⟩ fun x10 q10=>have q10:=q10.1; May.iff (Iff.rfl) (fun h11=>?_) (fun h11=>?_); rotate_left 3
 refine May.call ⟨?_,?_,?_,?_,trivial⟩ fun x11 q11=>have q11:=q11.1; May.ret ⟨?_,trivial⟩; rotate_left 5
 refine May.ret ⟨?_,trivial⟩; rotate_left 1
 refine May.no ?_; rotate_left 1
 refine May.iff (B.eq) (fun h10=>?_) (fun h10=>?_)
 refine May.call ⟨?_,?_,?_,trivial⟩ fun x12 q12=>have q12:=q12.1; May.iff (Iff.rfl) (fun h11=>?_) (fun h11=>?_); rotate_left 3
 refine May.call ⟨?_,?_,?_,?_,trivial⟩ fun x13 q13=>have q13:=q13.1; May.ret ⟨?_,trivial⟩; rotate_left 5
 refine May.ret ⟨?_,trivial⟩; rotate_left 1
 refine May.ret ⟨?_,trivial⟩; rotate_left 1
 refine May.chk ⟨?_,trivial⟩ fun c2=>May.iff (B.eq) (fun h3=>?_) (fun h3=>?_); rotate_left 1
 refine May.call ⟨?_,?_,?_,trivial⟩ fun x14 q14=>have q14:=q14.1; May.ret ⟨?_,trivial⟩; rotate_left 4
 refine May.iff (B.eq) (fun h4=>?_) (fun h4=>?_)
 refine May.call ⟨?_,?_,trivial⟩ fun x15 q15=>have q15:=q15.1; May.ret ⟨?_,trivial⟩; rotate_left 3
 refine May.iff (B.eq) (fun h5=>?_) (fun h5=>?_)
 refine May.call ⟨?_,?_,?_,trivial⟩ fun x16 q16=>have q16:=q16.1; May.ret ⟨?_,trivial⟩; rotate_left 4
 refine May.iff (B.eq) (fun h6=>?_) (fun h6=>?_)
 refine May.call0 trivial fun x17 q17=>have q17:=q17.1; May.iff (Iff.rfl) (fun h7=>?_) (fun h7=>?_)
 refine May.ret ⟨?_,trivial⟩; rotate_left 1
 refine May.ret ⟨?_,trivial⟩; rotate_left 1
 refine May.iff (B.eq) (fun h7=>?_) (fun h7=>?_)
 refine May.iff (B.eq) (fun h8=>?_) (fun h8=>?_)
 refine May.call ⟨?_,?_,?_,trivial⟩ fun x18 q18=>have q18:=q18.1; May.iff (Iff.rfl) (fun h9=>?_) (fun h9=>?_); rotate_left 3
 refine May.call ⟨?_,?_,?_,?_,trivial⟩ fun x19 q19=>have q19:=q19.1; May.ret ⟨?_,trivial⟩; rotate_left 5
 refine May.ret ⟨?_,trivial⟩; rotate_left 1
 refine May.no ?_; rotate_left 1
 refine May.iff (B.eq) (fun h8=>?_) (fun h8=>?_)
 refine May.iff (B.eq) (fun h9=>?_) (fun h9=>?_)
 refine May.call ⟨?_,?_,?_,trivial⟩ fun x20 q20=>have q20:=q20.1; May.iff (Iff.rfl) (fun h10=>?_) (fun h10=>?_); rotate_left 3
 refine May.call ⟨?_,?_,?_,?_,trivial⟩ fun x21 q21=>have q21:=q21.1; May.ret ⟨?_,trivial⟩; rotate_left 5
 refine May.ret ⟨?_,trivial⟩; rotate_left 1
 refine May.no ?_; rotate_left 1
 refine May.iff (B.eq) (fun h9=>?_) (fun h9=>?_)
 refine May.iff (B.eq) (fun h10=>?_) (fun h10=>?_)
 refine May.call ⟨?_,?_,?_,trivial⟩ fun x22 q22=>have q22:=q22.1; May.iff (Iff.rfl) (fun h11=>?_) (fun h11=>?_); rotate_left 3
 refine May.call ⟨?_,?_,?_,?_,trivial⟩ fun x23 q23=>have q23:=q23.1; May.ret ⟨?_,trivial⟩; rotate_left 5
 refine May.ret ⟨?_,trivial⟩; rotate_left 1
 refine May.no ?_; rotate_left 1
 refine May.iff (B.eq) (fun h10=>?_) (fun h10=>?_)
 refine May.call ⟨?_,?_,?_,trivial⟩ fun x24 q24=>have q24:=q24.1; May.iff (Iff.rfl) (fun h11=>?_) (fun h11=>?_); rotate_left 3
 refine May.call ⟨?_,?_,?_,?_,trivial⟩ fun x25 q25=>have q25:=q25.1; May.ret ⟨?_,trivial⟩; rotate_left 5
 refine May.ret ⟨?_,trivial⟩; rotate_left 1
 refine May.ret ⟨?_,trivial⟩
 all_goals try dsimp only
 all_goals first | with_reducible assumption | omega | (exact dp1 h2 (dl_none (by omega)); done) | (exact dp1 h2 (dl_know (by assumption) q3); done) | (exact dp1 h2 (dl_send (by assumption) q3); done) | (exact dp1 h2 (dl_move (by assumption) q3 (fun _=>rfl) (fun g=>absurd (by assumption) g)); done) | (exact dp1 h2 (dl_move (by assumption) q3 (fun g=>absurd g (by assumption)) (fun _=>rfl)); done) | (exact dp1 h2 (dl_know (by assumption) q4); done) | (exact dp1 h2 (dl_send (by assumption) q4); done) | (exact dp1 h2 (dl_move (by assumption) q4 (fun _=>rfl) (fun g=>absurd (by assumption) g)); done) | (exact dp1 h2 (dl_move (by assumption) q4 (fun g=>absurd g (by assumption)) (fun _=>rfl)); done) | (exact dp1 h2 (dl_know (by assumption) q5); done) | (exact dp1 h2 (dl_send (by assumption) q5); done) | (exact dp1 h2 (dl_move (by assumption) q5 (fun _=>rfl) (fun g=>absurd (by assumption) g)); done) | (exact dp1 h2 (dl_move (by assumption) q5 (fun g=>absurd g (by assumption)) (fun _=>rfl)); done) | (exact dp1 h2 (dl_know (by assumption) q15); done) | (exact dp1 h2 (dl_send (by assumption) q15); done) | (exact dp1 h2 (dl_move (by assumption) q15 (fun _=>rfl) (fun g=>absurd (by assumption) g)); done) | (exact dp1 h2 (dl_move (by assumption) q15 (fun g=>absurd g (by assumption)) (fun _=>rfl)); done) | (exact dp1 h2 (dl_know (by assumption) q16); done) | (exact dp1 h2 (dl_send (by assumption) q16); done) | (exact dp1 h2 (dl_move (by assumption) q16 (fun _=>rfl) (fun g=>absurd (by assumption) g)); done) | (exact dp1 h2 (dl_move (by assumption) q16 (fun g=>absurd g (by assumption)) (fun _=>rfl)); done) | (exact dp1 h2 (dl_know (by assumption) q17); done) | (exact dp1 h2 (dl_send (by assumption) q17); done) | (exact dp1 h2 (dl_move (by assumption) q17 (fun _=>rfl) (fun g=>absurd (by assumption) g)); done) | (exact dp1 h2 (dl_move (by assumption) q17 (fun g=>absurd g (by assumption)) (fun _=>rfl)); done) | (exact dp1 h2 (dl_know (by assumption) q14); done) | (exact dp1 h2 (dl_send (by assumption) q14); done) | (exact dp1 h2 (dl_move (by assumption) q14 (fun _=>rfl) (fun g=>absurd (by assumption) g)); done) | (exact dp1 h2 (dl_move (by assumption) q14 (fun g=>absurd g (by assumption)) (fun _=>rfl)); done) | (exact dp1 h2 (dl_know (by assumption) q13); done) | (exact dp1 h2 (dl_send (by assumption) q13); done) | (exact dp1 h2 (dl_move (by assumption) q13 (fun _=>rfl) (fun g=>absurd (by assumption) g)); done) | (exact dp1 h2 (dl_move (by assumption) q13 (fun g=>absurd g (by assumption)) (fun _=>rfl)); done) | (exact dp1 h2 (dl_rel (by omega) q6 h9 q7); done) | (exact dp1 h2 (dl_ren (by omega) q6 h9); done) | (exact dp1 h2 (dl_rel (by omega) q8 h10 q9); done) | (exact dp1 h2 (dl_ren (by omega) q8 h10); done) | (exact dp1 h2 (dl_rel (by omega) q10 h11 q11); done) | (exact dp1 h2 (dl_ren (by omega) q10 h11); done) | (exact dp1 h2 (dl_rel (by omega) q12 h11 q13); done) | (exact dp1 h2 (dl_ren (by omega) q12 h11); done) | (exact dp1 h2 (dl_rel (by omega) q18 h9 q19); done) | (exact dp1 h2 (dl_ren (by omega) q18 h9); done) | (exact dp1 h2 (dl_rel (by omega) q20 h10 q21); done) | (exact dp1 h2 (dl_ren (by omega) q20 h10); done) | (exact dp1 h2 (dl_rel (by omega) q22 h11 q23); done) | (exact dp1 h2 (dl_ren (by omega) q22 h11); done) | (exact dp1 h2 (dl_rel (by omega) q24 h11 q25); done) | (exact dp1 h2 (dl_ren (by omega) q24 h11); done) | (exact dp2 q1 h1 h2 (dl_none (by omega)); done) | (exact dp2 q1 h1 h2 (dl_know (by assumption) q3); done) | (exact dp2 q1 h1 h2 (dl_send (by assumption) q3); done) | (exact dp2 q1 h1 h2 (dl_move (by assumption) q3 (fun _=>rfl) (fun g=>absurd (by assumption) g)); done) | (exact dp2 q1 h1 h2 (dl_move (by assumption) q3 (fun g=>absurd g (by assumption)) (fun _=>rfl)); done) | (exact dp2 q1 h1 h2 (dl_know (by assumption) q4); done) | (exact dp2 q1 h1 h2 (dl_send (by assumption) q4); done) | (exact dp2 q1 h1 h2 (dl_move (by assumption) q4 (fun _=>rfl) (fun g=>absurd (by assumption) g)); done) | (exact dp2 q1 h1 h2 (dl_move (by assumption) q4 (fun g=>absurd g (by assumption)) (fun _=>rfl)); done) | (exact dp2 q1 h1 h2 (dl_know (by assumption) q5); done) | (exact dp2 q1 h1 h2 (dl_send (by assumption) q5); done) | (exact dp2 q1 h1 h2 (dl_move (by assumption) q5 (fun _=>rfl) (fun g=>absurd (by assumption) g)); done) | (exact dp2 q1 h1 h2 (dl_move (by assumption) q5 (fun g=>absurd g (by assumption)) (fun _=>rfl)); done) | (exact dp2 q1 h1 h2 (dl_know (by assumption) q15); done) | (exact dp2 q1 h1 h2 (dl_send (by assumption) q15); done) | (exact dp2 q1 h1 h2 (dl_move (by assumption) q15 (fun _=>rfl) (fun g=>absurd (by assumption) g)); done) | (exact dp2 q1 h1 h2 (dl_move (by assumption) q15 (fun g=>absurd g (by assumption)) (fun _=>rfl)); done) | (exact dp2 q1 h1 h2 (dl_know (by assumption) q16); done) | (exact dp2 q1 h1 h2 (dl_send (by assumption) q16); done) | (exact dp2 q1 h1 h2 (dl_move (by assumption) q16 (fun _=>rfl) (fun g=>absurd (by assumption) g)); done) | (exact dp2 q1 h1 h2 (dl_move (by assumption) q16 (fun g=>absurd g (by assumption)) (fun _=>rfl)); done) | (exact dp2 q1 h1 h2 (dl_know (by assumption) q17); done) | (exact dp2 q1 h1 h2 (dl_send (by assumption) q17); done) | (exact dp2 q1 h1 h2 (dl_move (by assumption) q17 (fun _=>rfl) (fun g=>absurd (by assumption) g)); done) | (exact dp2 q1 h1 h2 (dl_move (by assumption) q17 (fun g=>absurd g (by assumption)) (fun _=>rfl)); done) | (exact dp2 q1 h1 h2 (dl_know (by assumption) q14); done) | (exact dp2 q1 h1 h2 (dl_send (by assumption) q14); done) | (exact dp2 q1 h1 h2 (dl_move (by assumption) q14 (fun _=>rfl) (fun g=>absurd (by assumption) g)); done) | (exact dp2 q1 h1 h2 (dl_move (by assumption) q14 (fun g=>absurd g (by assumption)) (fun _=>rfl)); done) | (exact dp2 q1 h1 h2 (dl_know (by assumption) q13); done) | (exact dp2 q1 h1 h2 (dl_send (by assumption) q13); done) | (exact dp2 q1 h1 h2 (dl_move (by assumption) q13 (fun _=>rfl) (fun g=>absurd (by assumption) g)); done) | (exact dp2 q1 h1 h2 (dl_move (by assumption) q13 (fun g=>absurd g (by assumption)) (fun _=>rfl)); done) | (exact dp2 q1 h1 h2 (dl_rel (by omega) q6 h9 q7); done) | (exact dp2 q1 h1 h2 (dl_ren (by omega) q6 h9); done) | (exact dp2 q1 h1 h2 (dl_rel (by omega) q8 h10 q9); done) | (exact dp2 q1 h1 h2 (dl_ren (by omega) q8 h10); done) | (exact dp2 q1 h1 h2 (dl_rel (by omega) q10 h11 q11); done) | (exact dp2 q1 h1 h2 (dl_ren (by omega) q10 h11); done) | (exact dp2 q1 h1 h2 (dl_rel (by omega) q12 h11 q13); done) | (exact dp2 q1 h1 h2 (dl_ren (by omega) q12 h11); done) | (exact dp2 q1 h1 h2 (dl_rel (by omega) q18 h9 q19); done) | (exact dp2 q1 h1 h2 (dl_ren (by omega) q18 h9); done) | (exact dp2 q1 h1 h2 (dl_rel (by omega) q20 h10 q21); done) | (exact dp2 q1 h1 h2 (dl_ren (by omega) q20 h10); done) | (exact dp2 q1 h1 h2 (dl_rel (by omega) q22 h11 q23); done) | (exact dp2 q1 h1 h2 (dl_ren (by omega) q22 h11); done) | (exact dp2 q1 h1 h2 (dl_rel (by omega) q24 h11 q25); done) | (exact dp2 q1 h1 h2 (dl_ren (by omega) q24 h11); done) | (exact dp0 q1 h1; done) | ((have:=q1.1 (nn h1); omega); done) | (exact prf_ok p1 q6 h9; done) | (exact prf_ok p1 q8 h10; done) | (exact prf_ok p1 q10 h11; done) | (exact prf_ok p1 q12 h11; done) | (exact prf_ok p1 q18 h9; done) | (exact prf_ok p1 q20 h10; done) | (exact prf_ok p1 q22 h11; done) | (exact prf_ok p1 q24 h11; done) | (exact p1.kl; done) | (exact p1.kp; done) | (exact p1.sent; done) | (exact p1.live; done) | (exact p1.back; done) | (exact p1.cnt; done) | (exact p1.max; done) | (exact p1.got; done) | ((have:=p1.cnt; omega); done) | (exact prf_ok p2 q6 h9; done) | (exact prf_ok p2 q8 h10; done) | (exact prf_ok p2 q10 h11; done) | (exact prf_ok p2 q12 h11; done) | (exact prf_ok p2 q18 h9; done) | (exact prf_ok p2 q20 h10; done) | (exact prf_ok p2 q22 h11; done) | (exact prf_ok p2 q24 h11; done) | (exact p2.kl; done) | (exact p2.kp; done) | (exact p2.sent; done) | (exact p2.live; done) | (exact p2.back; done) | (exact p2.cnt; done) | (exact p2.max; done) | (exact p2.got; done) | ((have:=p2.cnt; omega); done)
abbrev Zev.S:=Classical.choose Zev.X
def Zev.c:Ctr:=fc 25 [false,false] Zev.L Zev Zev.S
theorem Zev.good:Good Tryz.prog Zev.c:=mkFG (fn:=Tryz.f25) {sp:=[(2,[[(18,0)],[(18,1)]])],tk:=[1000,1,2,3,4,5,6,7,8,9,10,11,12,13,14,15,16]} Zev.X (consG Zdb.good (consG Zes.good (consG Zet.good (consG ZbD.good (consG Zeu.good (consG Zci.good (consG Zek.good (consG Zer.good (consG Zel.good noG))))))))) (by kernel_rfl) (by kernel_rfl) (l0 (by kernel_rfl)) (c0 (by kernel_rfl)) fun s K=>by kernel_rfl
end
end Hw
end Go.Proofs.YtklmllaggigkfaaGreat
