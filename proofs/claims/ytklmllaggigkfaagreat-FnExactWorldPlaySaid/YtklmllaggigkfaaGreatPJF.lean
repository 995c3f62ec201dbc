/- What a link relies on: made by gen.py. -/
import Derived.Test.YtklmllaggigkfaaGreatPJE
set_option linter.unusedVariables false
set_option linter.unusedSimpArgs false
set_option maxRecDepth 100000
set_option maxHeartbeats 400000
namespace Go.Proofs.YtklmllaggigkfaaGreat
namespace Hw
open Go
noncomputable section
attribute [local irreducible] evFn evBody wrap wxor
theorem Zep.G:GG []:=noG
def Zeq.L:FL:=fCons (fC (cPtr 1 (cCons cInt (cCons cInt (cCons cInt (cCons cNilS (cCons cNilS (cCons cNilS (cCons cNilS (cNil)))))))) rfl)) (fCons (fC cMk) (fCons (fC cInt) (fCons (fC cInt) (fNil))))
def Zeq:(Int×Int×Int×Unit×Unit×Unit×Unit×Unit)×Mks×Int×Int×Unit→LR ((Int×Int×Int×Unit×Unit×Unit×Unit×Unit)×Mks×Int×Int×Unit) (Nat×Mks×Unit):=fun ((y0,y1,y2,(),(),(),(),()),y3,y4,y5,())=>⟨(0≤y5)∧(y4≤9223372036854775807)∧(y5≤y4)∧(y4 - y5 < (y3.l.length:Int))∧True,(y4 - y5).toNat,fun X=>And (Imp ((decide (y5 < y4)) = true) (And (y3.l≠[]) (And (y3.l≠[]) (And (y3.l≠[]) (Lt (wrap (y5 + 1)) fun x3=>X (.inl ((y0,y1,y2,(),(),(),(),()),(⟨y3.l.tail,none⟩:Mks),y4,x3,()))))))) (Imp ((decide (y5 < y4)) = false) (X (.inr (0,y3,())))),fun r=>(r.2.1.l = y3.l.drop (y4 - y5).toNat)∧True,fun r=>[],fun r=>(.exit 0,[.c (.ptr 0 0),.c (.mk r.2.1 0)],[.raw 1 [.int y0,.int y1,.int y2,.nilS,.nilS,.nilS,.nilS]])⟩
theorem Zeq.X:XL Zeq:=mkL (0,zMk,()) fun ((y0,y1,y2,(),(),(),(),()),y3,y4,y5,()) hp=>by
 obtain ⟨p0,p1,p2,p3,-⟩:=hp
 unfold ML; dsimp only [Zeq]
 refine May.iff (B.dec) (fun h1=>?_) (fun h1=>?_)
 refine May.chk ?_ fun c1=>May.chk ?_ fun c2=>May.chk ?_ fun c3=>May.lw ⟨?_,?_⟩ fun x3 e3=>May.nx ⟨?_,?_,?_,?_,trivial⟩ ?_ ?_ fun r=>rfl; rotate_left 11
 refine May.ex ⟨?_,trivial⟩
 all_goals try dsimp only [Zeq]
 all_goals first | with_reducible assumption | omega | exact fun _ q=>q | ((rw [show y4 - y5 = 0 by omega]; rfl); done) | (exact tl_ne (by omega); done) | ((rw [List.length_tail]; omega); done) | (exact fun r q=>⟨tl_drop e3 h1 q.1,trivial⟩; done)
abbrev Zeq.R:=Classical.choose Zeq.X
def Zeq.k:LCtr:=(ld 5 [4,6,27,28] [] Zeq.L Zeq 0 (fun _=>[4,6]) (fun _=>[]) Zeq.R).ctr
theorem Zeq.g:LGood Tryz.prog Tryz.f96.ntmps Zeq.k (bodyAt Tryz.f96 0):=mkLG {} Zeq.X Zep.G (by kernel_rfl) (l0 (by kernel_rfl)) (c0 (by kernel_rfl)) fun S s=>by kernel_rfl
def Zep.L:FL:=fCons (fC (cPtr 1 cLkO rfl)) (fCons (fSh sInt) (fNil))
def Zep:Lk×Int×Unit→FR (St×Bool):=fun (a0,a1,())=>⟨(a0.count = (a0.marks.l.length:Int))∧(a0.count≤1000000)∧True,fun X=>Lt (bif decide (a1 < 1) then true else decide (a1 > a0.count)) fun x1=>And (Imp (x1 = true) (X ((⟨0,0,0,[],[],[],[]⟩:St),false))) (Imp (x1 = false) (Lt (wrap (a0.count - a1)) fun x2=>CallL Zeq.X ((0,0,0,(),(),(),(),()),a0.marks,x2,0,()) fun x4=>And (x4.2.1.l≠[]) (And (x4.2.1.l≠[]) (And (x4.2.1.l≠[]) (X ((x4.2.1.l.headD zSt),true)))))),fun r=>(AtL a0 a1 r.1 r.2)∧True,fun r=>(.tup [.agg [.int r.1.way,.int r.1.ver,.int r.1.want,.arr true (.pkts r.1.sent),.arr true (.bools r.1.live),.arr true (.bools r.1.back),.arr true (.ints r.1.got)],.c (.bool r.2)],[.raw 1 [.own 1 1 3,.own 2 1 3,.int a0.bank.locked,.int a0.id,.int a0.st.way,.int a0.st.ver,.int a0.st.want,.own 3 7 46,.own 4 1 4,.own 5 1 4,.own 6 1 3,.mk a0.marks 0,.int a0.count,.own 7 1 3],.arr (.ints a0.bank.own),.arr (.ints a0.bank.notes),.arr (.pkts a0.st.sent),.arr (.bools a0.st.live),.arr (.bools a0.st.back),.arr (.ints a0.st.got),.arr (.ints a0.knows)])⟩
theorem Zep.X:XF Zep:=mkF (zSt,false) fun (a0,a1,()) hp=>by
 obtain ⟨p0,p1,-⟩:=hp
 dsimp only [Zep]
 refine May.lp (B.or (B.dec) (B.dec)) fun x1 e1=>May.iff (e1) (fun h1=>?_) (fun h1=>?_)
 refine May.ret ⟨?_,trivial⟩; rotate_left 1
 refine May.lw ⟨?_,?_⟩ fun x2 e2=>May.loop ⟨?_,?_,?_,?_,trivial⟩ fun x4 q4=>have q4:=q4.1; May.chk ?_ fun c1=>May.chk ?_ fun c2=>May.chk ?_ fun c3=>May.ret ⟨?_,trivial⟩
 all_goals try dsimp only
 all_goals first | with_reducible assumption | omega | (exact atL_y q4 e2 h1; done) | (exact atL_n h1; done) | ((rw [q4]; intro g; have:=congrArg List.length g; simp only [List.length_drop,List.length_nil] at this; omega); done)
abbrev Zep.S:=Classical.choose Zep.X
def Zep.c:Ctr:=fc 96 [false,false] Zep.L Zep Zep.S
theorem Zep.good:Good Tryz.prog Zep.c:=mkFG (fn:=Tryz.f96) {LL:=[Zeq.k],sh:=[[none,none,none,some (.pkt,46),some (.bool,4),some (.bool,4),some (.int,3)],[]],lst:=true} Zep.X Zep.G (by kernel_rfl) (by kernel_rfl) (lG (by kernel_rfl) (consL (by kernel_rfl) Zeq.g (noL rfl))) (c0 (by kernel_rfl)) fun s K=>by kernel_rfl
def Zer.L:FL:=fCons (fC (cPtr 1 cLkO rfl)) (fCons (fC (cPtr 1 cLkO rfl)) (fCons (fSh sEv) (fNil)))
def Zer:Lk×Lk×Ev×Unit→FR (Int×Int×Int×(List Pkt)×(List Bool)×(List Bool)×(List Int)×Int×Bool):=fun (a0,a1,a2,())=>⟨(a0.knows.length≤1000000)∧(a1.count = (a1.marks.l.length:Int))∧(a1.count≤1000000)∧True,fun X=>Lt (bif a2.kind == 7 then bif a2.n == 1 then true else a2.n == 5 else false) fun x1=>And (Imp (x1 = true) (Call0 ZaQ.X () fun x2=>X (x2.way,x2.ver,x2.want,x2.sent,x2.live,x2.back,x2.got,0,true))) (Imp (x1 = false) (Call slices_Contains_int_int.X (a0.knows,a2.height,()) fun x3=>And (Imp ((!x3) = true) (X (0,0,0,[],[],[],[],0,false))) (Imp ((!x3) = false) (Call Zep.X (a1,a2.height,()) fun x4=>X (x4.1.way,x4.1.ver,x4.1.want,x4.1.sent,x4.1.live,x4.1.back,x4.1.got,a2.height,x4.2))))),fun r=>(PrfL a0 a1 a2 (⟨r.1,r.2.1,r.2.2.1,r.2.2.2.1,r.2.2.2.2.1,r.2.2.2.2.2.1,r.2.2.2.2.2.2.1⟩:St) r.2.2.2.2.2.2.2.1 r.2.2.2.2.2.2.2.2)∧True,fun r=>(.tup [.agg [.int r.1,.int r.2.1,.int r.2.2.1,.arr true (.pkts r.2.2.2.1),.arr true (.bools r.2.2.2.2.1),.arr true (.bools r.2.2.2.2.2.1),.arr true (.ints r.2.2.2.2.2.2.1),.int r.2.2.2.2.2.2.2.1],.c (.bool r.2.2.2.2.2.2.2.2)],[.raw 1 [.own 1 1 3,.own 2 1 3,.int a0.bank.locked,.int a0.id,.int a0.st.way,.int a0.st.ver,.int a0.st.want,.own 3 7 46,.own 4 1 4,.own 5 1 4,.own 6 1 3,.mk a0.marks 0,.int a0.count,.own 7 1 3],.arr (.ints a0.bank.own),.arr (.ints a0.bank.notes),.arr (.pkts a0.st.sent),.arr (.bools a0.st.live),.arr (.bools a0.st.back),.arr (.ints a0.st.got),.arr (.ints a0.knows),.raw 1 [.own 9 1 3,.own 10 1 3,.int a1.bank.locked,.int a1.id,.int a1.st.way,.int a1.st.ver,.int a1.st.want,.own 11 7 46,.own 12 1 4,.own 13 1 4,.own 14 1 3,.mk a1.marks 0,.int a1.count,.own 15 1 3],.arr (.ints a1.bank.own),.arr (.ints a1.bank.notes),.arr (.pkts a1.st.sent),.arr (.bools a1.st.live),.arr (.bools a1.st.back),.arr (.ints a1.st.got),.arr (.ints a1.knows)])⟩
theorem Zer.X:XF Zer:=mkF (0,0,0,[],[],[],[],0,false) fun (a0,a1,a2,()) hp=>by
 obtain ⟨p0,p1,p2,-⟩:=hp
 dsimp only [Zer]
 refine May.lp (B.and (B.eq) (B.or (B.eq) (B.eq))) fun x1 e1=>May.iff (e1) (fun h1=>?_) (fun h1=>?_)
 refine May.call0 trivial fun x2 q2=>have q2:=q2.1; May.ret ⟨?_,trivial⟩; rotate_left 1
 refine May.call ⟨?_,trivial⟩ fun x3 q3=>have q3:=q3.1; May.iff (B.not (Iff.rfl)) (fun h2=>?_) (fun h2=>?_); rotate_left 1
 refine May.ret ⟨?_,trivial⟩; rotate_left 1
 refine May.call ⟨?_,?_,trivial⟩ fun x4 q4=>have q4:=q4.1; May.ret ⟨?_,trivial⟩
 all_goals try dsimp only
 all_goals first | with_reducible assumption | omega | (exact prf_y h1 q3 h2 q4; done) | (exact prf_f h1 q2; done) | (exact prf_n h1 q3 h2; done)
abbrev Zer.S:=Classical.choose Zer.X
def Zer.c:Ctr:=fc 51 [false,false,false] Zer.L Zer Zer.S
theorem Zer.good:Good Tryz.prog Zer.c:=mkFG (fn:=Tryz.f51) {sh:=[[none,none,none,some (.pkt,46),some (.bool,4),some (.bool,4),some (.int,3),none],[]],lst:=true} Zer.X (consG ZaQ.good (consG slices_Contains_int_int.good (consG Zep.good noG))) (by kernel_rfl) (by kernel_rfl) (l0 (by kernel_rfl)) (c0 (by kernel_rfl)) fun s K=>by kernel_rfl
end
end Hw
end Go.Proofs.YtklmllaggigkfaaGreat
