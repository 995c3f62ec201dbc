/- Sizes, copies and equality of events and worlds: made by gen.py. -/
import Derived.Test.YtklmllaggigkfaaGreatPY2
set_option linter.unusedVariables false
set_option linter.unusedSimpArgs false
set_option maxRecDepth 100000
set_option maxHeartbeats 400000
namespace Go.Proofs.YtklmllaggigkfaaGreat
namespace Hw
open Go
noncomputable section
attribute [local irreducible] evFn evBody wrap wxor
def Zew.S (a0:List Ev) (a1:Int):Int:=bif decide ((wrap (a1 - (a0.length:Int))) < 0) then ((-1)) else (wrap (a1 - (a0.length:Int)))
def Zew.enc (r:Int):AV×List Blk:=(.v (.c (.int r)),[])
def Zew.L:ShL:=sCons sEvs (sCons sInt (sNil))
def Zew.c:Ctr:=vctr 6 Zew.L none (fun s=>Zew.enc (Zew.S s.1 s.2.1))
theorem Zew.w (a0:List Ev) (a1:Int) (K:AV→List Blk→Prop):evFn (envS [] []) [] [] [] Tryz.f6 [] (Zew.L.enc (a0,(a1,()))) K = (And (Imp ((decide ((wrap (a1 - (a0.length:Int))) < 0)) = true) (K (.v (.c (.int (-1)))) ([]))) (Imp ((decide ((wrap (a1 - (a0.length:Int))) < 0)) = false) (K (.v (.c (.int (wrap (a1 - (a0.length:Int)))))) ([])))):=by kernel_rfl
theorem Zew.v (a0:List Ev) (a1:Int) (hf:(a0.length:Int)≤9223372036854775807∧True∧True) (K:AV→List Blk→Prop) (hK:K (Zew.enc (Zew.S a0 a1)).1 (Zew.enc (Zew.S a0 a1)).2):And (Imp ((decide ((wrap (a1 - (a0.length:Int))) < 0)) = true) (K (.v (.c (.int (-1)))) ([]))) (Imp ((decide ((wrap (a1 - (a0.length:Int))) < 0)) = false) (K (.v (.c (.int (wrap (a1 - (a0.length:Int)))))) ([]))):=by
 obtain ⟨f0,-,-⟩:=hf
 try simp only [big] at *
 refine ⟨fun h1=>?_,fun h1=>?_⟩
 ·have e:Zew.S a0 a1 = ((-1)):=by unfold Zew.S; exact (cond_t h1).trans <| rfl
  rw [e] at hK
  exact hK
 ·have e:Zew.S a0 a1 = (wrap (a1 - (a0.length:Int))):=by unfold Zew.S; exact (cond_f h1).trans <| rfl
  rw [e] at hK
  exact hK
theorem Zew.good:Good Tryz.prog Zew.c :=
 vgood (sh:=[]) (sp:=[]) (LL:=[]) noG (fn:=Tryz.f6) (by kernel_rfl) (by kernel_rfl) (by rw [show loopsOf (bodyOf Tryz.f6) = [] from by kernel_rfl]; exact noL rfl) fun s hp hf=>by
  exact Eq.mpr (Zew.w (s.1) (s.2.1) (fun r bs'=>And (r = (Zew.c.out s).1) (bs' = (Zew.c.out s).2))) (Zew.v (s.1) (s.2.1) hf (fun r bs'=>And (r = (Zew.c.out s).1) (bs' = (Zew.c.out s).2)) ⟨rfl,rfl⟩)
def ZdB.S (a0:Pkt):Pkt:=(a0)
def ZdB.enc (r:Pkt):AV×List Blk:=(.v (.agg [.int r.seq,.int r.kind,.int r.frm,.int r.to,.int r.sum,.int r.til,.int r.ver]),[])
def ZdB.L:ShL:=sCons sPkt (sNil)
def ZdB.c:Ctr:=vctr 35 ZdB.L none (fun s=>ZdB.enc (ZdB.S s.1))
theorem ZdB.w (a0:Pkt) (K:AV→List Blk→Prop):evFn (envS [] []) [] [] [] Tryz.f35 [] (ZdB.L.enc (a0,())) K = (K (.v (.agg [.int a0.seq,.int a0.kind,.int a0.frm,.int a0.to,.int a0.sum,.int a0.til,.int a0.ver])) ([])):=by kernel_rfl
theorem ZdB.v (a0:Pkt) (hf:True∧True) (K:AV→List Blk→Prop) (hK:K (ZdB.enc (ZdB.S a0)).1 (ZdB.enc (ZdB.S a0)).2):K (.v (.agg [.int a0.seq,.int a0.kind,.int a0.frm,.int a0.to,.int a0.sum,.int a0.til,.int a0.ver])) ([]):=by
 clear hf
 have e:ZdB.S a0 = (a0):=by unfold ZdB.S; exact rfl
 rw [e] at hK
 exact hK
theorem ZdB.good:Good Tryz.prog ZdB.c :=
 vgood (sh:=[]) (sp:=[]) (LL:=[]) noG (fn:=Tryz.f35) (by kernel_rfl) (by kernel_rfl) (by rw [show loopsOf (bodyOf Tryz.f35) = [] from by kernel_rfl]; exact noL rfl) fun s hp hf=>by
  exact Eq.mpr (ZdB.w (s.1) (fun r bs'=>And (r = (ZdB.c.out s).1) (bs' = (ZdB.c.out s).2))) (ZdB.v (s.1) hf (fun r bs'=>And (r = (ZdB.c.out s).1) (bs' = (ZdB.c.out s).2)) ⟨rfl,rfl⟩)
def Zex.S (a0:Ev):Ev:=((⟨a0.kind,a0.chain,a0.height,a0.n,(ZdB.S a0.pkt)⟩:Ev))
def Zex.enc (r:Ev):AV×List Blk:=(.v (.agg [.int r.kind,.int r.chain,.int r.height,.int r.n,.int r.pkt.seq,.int r.pkt.kind,.int r.pkt.frm,.int r.pkt.to,.int r.pkt.sum,.int r.pkt.til,.int r.pkt.ver]),[])
def Zex.L:ShL:=sCons sEv (sNil)
def Zex.c:Ctr:=vctr 18 Zex.L none (fun s=>Zex.enc (Zex.S s.1))
theorem Zex.w (a0:Ev) (K:AV→List Blk→Prop):evFn (envS [ZdB.c] []) [] [] [] Tryz.f18 [] (Zex.L.enc (a0,())) K = (K (.v (.agg [.int a0.kind,.int a0.chain,.int a0.height,.int a0.n,.int (ZdB.S a0.pkt).seq,.int (ZdB.S a0.pkt).kind,.int (ZdB.S a0.pkt).frm,.int (ZdB.S a0.pkt).to,.int (ZdB.S a0.pkt).sum,.int (ZdB.S a0.pkt).til,.int (ZdB.S a0.pkt).ver])) ([])):=by kernel_rfl
theorem Zex.v (a0:Ev) (hf:True∧True) (K:AV→List Blk→Prop) (hK:K (Zex.enc (Zex.S a0)).1 (Zex.enc (Zex.S a0)).2):K (.v (.agg [.int a0.kind,.int a0.chain,.int a0.height,.int a0.n,.int (ZdB.S a0.pkt).seq,.int (ZdB.S a0.pkt).kind,.int (ZdB.S a0.pkt).frm,.int (ZdB.S a0.pkt).to,.int (ZdB.S a0.pkt).sum,.int (ZdB.S a0.pkt).til,.int (ZdB.S a0.pkt).ver])) ([]):=by
 clear hf
 have e:Zex.S a0 = ((⟨a0.kind,a0.chain,a0.height,a0.n,(ZdB.S a0.pkt)⟩:Ev)):=by unfold Zex.S; exact rfl
 rw [e] at hK
 exact hK
theorem Zex.good:Good Tryz.prog Zex.c :=
 vgood (sh:=[]) (sp:=[]) (LL:=[]) (consG ZdB.good noG) (fn:=Tryz.f18) (by kernel_rfl) (by kernel_rfl) (by rw [show loopsOf (bodyOf Tryz.f18) = [] from by kernel_rfl]; exact noL rfl) fun s hp hf=>by
  exact Eq.mpr (Zex.w (s.1) (fun r bs'=>And (r = (Zex.c.out s).1) (bs' = (Zex.c.out s).2))) (Zex.v (s.1) hf (fun r bs'=>And (r = (Zex.c.out s).1) (bs' = (Zex.c.out s).2)) ⟨rfl,rfl⟩)
def Zey.S:Nat→(List Ev)→(List Ev)→Int→Nat×(List Ev)×Int×Unit
 | 0,_,_,_=>(0,([],(0,())))
 | n + 1,y0,y1,y2=>bif decide (y2 < (y0.length:Int)) then Zey.S n y0 (y1.set (y2).toNat (Zex.S (y0.getD (y2).toNat zEv))) (wrap (y2 + 1)) else (0,(y1,(y2,())))
def Zey.M (y0:List Ev) (y1:List Ev) (y2:Int):Nat:=((y0.length:Int) - y2).toNat
def Zey.R (y0:List Ev) (y1:List Ev) (y2:Int):Nat×(List Ev)×Int×Unit:=Zey.S (Zey.M y0 y1 y2 + 1) y0 y1 y2
def Zey.P (y0:List Ev) (y1:List Ev) (y2:Int):Prop:=(0≤y2)∧((y0.length:Int)≤9223372036854775807)∧(y1.length = y0.length)
def Zey.L:FL:=fCons (fC (cArr false kEvs)) (fCons (fC (cOwn kEvs 48)) (fCons (fC cInt) (fNil)))
def Zey.o0 (y0:List Ev) (y1:List Ev) (y2:Int) (r:Nat×(List Ev)×Int×Unit):Ex×List FV×List Blk:=(.exit 0,[.c (.arr false (.evs y0)),.c (.own 0 11 48),.c (.int r.2.2.1)],[.arr (.evs r.2.1)])
def Zey.o (y0:List Ev) (y1:List Ev) (y2:Int) (r:Nat×(List Ev)×Int×Unit):Ex×List FV×List Blk:=pickAlt [] (Zey.o0 y0 y1 y2 r)
def Zey.d:LDat:=ldat 3 [0,3,4] [] Zey.L (fun s=>Zey.P s.1 s.2.1 s.2.2.1) (fun s=>[]) (fun s=>Zey.o0 s.1 s.2.1 s.2.2.1 (Zey.R s.1 s.2.1 s.2.2.1)) (fun s=>Zey.M s.1 s.2.1 s.2.2.1)
def Zez.S (a0:List Ev):(List Ev):=((Zey.R a0 (List.replicate ((a0.length:Int)).toNat zEv) 0).2.1)
def Zez.enc (r:(List Ev)):AV×List Blk:=(.v (.c (.own 0 11 48)),[.arr (.evs r)])
def Zez.P (a0:List Ev):Prop:=(a0.length≤4294967296)
def Zez.L:ShL:=sCons sEvs (sNil)
def Zez.c:Ctr:=vctr 8 Zez.L (some fun s=>Zez.P s.1) (fun s=>Zez.enc (Zez.S s.1))
theorem Zey.w (y0:List Ev) (y1:List Ev) (y2:Int):evBody (envS [Zex.c] []) [] (bodyAt Tryz.f8 0) Zey.d (y0,(y1,(y2,()))) = (And (Imp ((decide (y2 < (y0.length:Int))) = true) (And ((0:Int)≤y2∧y2 < (y0.length:Int)) (And ((0:Int)≤y2∧y2 < (y1.length:Int)) (And ((y2).toNat < y1.length) (And (Zey.P y0 (y1.set (y2).toNat (Zex.S (y0.getD (y2).toNat zEv))) (wrap (y2 + 1))) (And (Zey.M y0 (y1.set (y2).toNat (Zex.S (y0.getD (y2).toNat zEv))) (wrap (y2 + 1)) < Zey.M y0 y1 y2) (Zey.o y0 (y1.set (y2).toNat (Zex.S (y0.getD (y2).toNat zEv))) (wrap (y2 + 1)) (Zey.R y0 (y1.set (y2).toNat (Zex.S (y0.getD (y2).toNat zEv))) (wrap (y2 + 1))) = Zey.o y0 y1 y2 (Zey.R y0 y1 y2)))))))) (Imp ((decide (y2 < (y0.length:Int))) = false) (Zey.o y0 y1 y2 (Zey.R y0 y1 y2) = (.exit 0,[.c (.arr false (.evs y0)),.c (.own 0 11 48),.c (.int y2)],[.arr (.evs y1)])))):=by kernel_rfl
theorem Zey.v (y0:List Ev) (y1:List Ev) (y2:Int) (hp:Zey.P y0 y1 y2):And (Imp ((decide (y2 < (y0.length:Int))) = true) (And ((0:Int)≤y2∧y2 < (y0.length:Int)) (And ((0:Int)≤y2∧y2 < (y1.length:Int)) (And ((y2).toNat < y1.length) (And (Zey.P y0 (y1.set (y2).toNat (Zex.S (y0.getD (y2).toNat zEv))) (wrap (y2 + 1))) (And (Zey.M y0 (y1.set (y2).toNat (Zex.S (y0.getD (y2).toNat zEv))) (wrap (y2 + 1)) < Zey.M y0 y1 y2) (Zey.o y0 (y1.set (y2).toNat (Zex.S (y0.getD (y2).toNat zEv))) (wrap (y2 + 1)) (Zey.R y0 (y1.set (y2).toNat (Zex.S (y0.getD (y2).toNat zEv))) (wrap (y2 + 1))) = Zey.o y0 y1 y2 (Zey.R y0 y1 y2)))))))) (Imp ((decide (y2 < (y0.length:Int))) = false) (Zey.o y0 y1 y2 (Zey.R y0 y1 y2) = (.exit 0,[.c (.arr false (.evs y0)),.c (.own 0 11 48),.c (.int y2)],[.arr (.evs y1)]))):=by
 simp only [Zey.P] at hp
 obtain ⟨p0,p1,p2⟩:=hp
 refine ⟨fun h1=>?_,fun h1=>?_⟩
 ·refine ⟨by first | exact True.intro | assumption | omega | grind [wrap_id],?_⟩
  refine ⟨by first | exact True.intro | assumption | omega | grind [wrap_id],?_⟩
  refine ⟨by first | exact True.intro | assumption | omega | grind [wrap_id],?_⟩
  have hμ:Zey.M y0 y1 y2 = Zey.M y0 (y1.set (y2).toNat (Zex.S (y0.getD (y2).toNat zEv))) (wrap (y2 + 1)) + 1:=by simp only [Zey.M]; first | omega | grind [wrap_id]
  refine ⟨by simp only [Zey.P]; refine ⟨(by first | exact True.intro | assumption | omega | grind [wrap_id]),(by first | exact True.intro | assumption | omega | grind [wrap_id]),(by first | exact True.intro | assumption | omega | grind [wrap_id])⟩,by omega,?_⟩
  have e:Zey.R y0 y1 y2 = Zey.R y0 (y1.set (y2).toNat (Zex.S (y0.getD (y2).toNat zEv))) (wrap (y2 + 1)):=by
   have e1:Zey.R y0 y1 y2 = Zey.S (Zey.M y0 y1 y2) y0 (y1.set (y2).toNat (Zex.S (y0.getD (y2).toNat zEv))) (wrap (y2 + 1)):=by unfold Zey.R; rw [Zey.S]; exact (cond_t h1).trans <| rfl
   rw [e1,hμ]
   rfl
  rw [e]
  rfl
 ·have e:Zey.R y0 y1 y2 = (0,(y1,(y2,()))):=by unfold Zey.R; rw [Zey.S]; exact (cond_f h1).trans <| rfl
  rw [e]
  rfl
theorem Zey.g (hG:∀c∈[Zex.c],Good Tryz.prog c):LGood Tryz.prog Tryz.f8.ntmps Zey.d.ctr (bodyAt Tryz.f8 0):=by
 refine lgoodS (sp:=[]) (LL:=[]) hG (by kernel_rfl) (by rw [show loopsOf (bodyAt Tryz.f8 0) = [] from by kernel_rfl]; exact noL rfl) fun s hp=>?_
 refine Eq.mpr (Zey.w s.1 s.2.1 s.2.2.1) ?_
 replace hp:Zey.P s.1 s.2.1 s.2.2.1:=hp
 exact Zey.v _ _ _ hp
def Zey.E (y0:List Ev) (k:Nat) (a:(List Ev)):Option (Nat×(List Ev)×Int×Unit):=none
def Zey.A (y0:List Ev) (k:Nat) (a:(List Ev)):(List Ev):=(a.set k (Zex.S (y0.getD k zEv)))
def Zey.fin (y0:List Ev) (k:Nat) (a:(List Ev)):Nat×(List Ev)×Int×Unit:=(0,(a,((k:Int),())))
def Zey.acc (y0:List Ev) (a:(List Ev)):Nat→(List Ev)
 | 0=>a
 | k + 1=>Zey.A y0 k (Zey.acc y0 a k)
theorem Zey.law (y0:List Ev) (a:(List Ev)) (n:Nat) (hT:(y0.length:Int) = (n:Int)) (hn:(n:Int)≤9223372036854775807) :
  ((∀k,k < n→Zey.E y0 k (Zey.acc y0 a k) = none)∧Zey.R y0 a 0 = Zey.fin y0 n (Zey.acc y0 a n))∨(∃k r,k < n∧Zey.E y0 k (Zey.acc y0 a k) = some r∧(∀j,j < k→Zey.E y0 j (Zey.acc y0 a j) = none)∧Zey.R y0 a 0 = r):=by
 have hM:Zey.M y0 a 0 + 1 = n + 1:=by simp only [Zey.M]; omega
 unfold Zey.R
 rw [hM]
 refine loopE (fun m i b=>Zey.S m y0 b i) n hn (Zey.acc y0 a) (Zey.E y0 ) (Zey.fin y0 ) fun m k hk=>?_
 have ha:Zey.acc y0 a (k + 1) = Zey.A y0 k (Zey.acc y0 a k):=rfl
 rw [ha]
 generalize Zey.acc y0 a k = b
 simp only [Zey.S,Zey.E,Zey.A,Zey.fin,hT,Int.toNat_natCast]
 all_goals grind
theorem Zez.w (a0:List Ev) (K:AV→List Blk→Prop):evFn (envS [Zex.c] []) [Zey.d.ctr] [[some (.ev,48)]] [] Tryz.f8 [] (Zez.L.enc (a0,())) K = (And (((a0.length:Int):Int) = (a0.length:Int)∧(0:Int)≤(a0.length:Int)∧((a0.length:Int):Int)≤4294967296) (And (Zey.P a0 (List.replicate ((a0.length:Int)).toNat zEv) 0) (K (.v (.c (.own 0 11 48))) ([.arr (.evs (Zey.R a0 (List.replicate ((a0.length:Int)).toNat zEv) 0).2.1)])))):=by kernel_rfl
theorem Zez.v (a0:List Ev) (hp:Zez.P a0) (hf:(a0.length:Int)≤9223372036854775807∧True) (K:AV→List Blk→Prop) (hK:K (Zez.enc (Zez.S a0)).1 (Zez.enc (Zez.S a0)).2):And (((a0.length:Int):Int) = (a0.length:Int)∧(0:Int)≤(a0.length:Int)∧((a0.length:Int):Int)≤4294967296) (And (Zey.P a0 (List.replicate ((a0.length:Int)).toNat zEv) 0) (K (.v (.c (.own 0 11 48))) ([.arr (.evs (Zey.R a0 (List.replicate ((a0.length:Int)).toNat zEv) 0).2.1)]))):=by
 simp only [Zez.P] at hp
 obtain ⟨f0,-⟩:=hf
 try simp only [big] at *
 refine ⟨by clear hK; first | exact True.intro | assumption | omega | grind [wrap_id],?_⟩
 refine ⟨by simp only [Zey.P]; refine ⟨(by clear hK; first | exact True.intro | assumption | omega | grind [wrap_id]),(by clear hK; first | exact True.intro | assumption | omega | grind [wrap_id]),(by clear hK; first | exact True.intro | assumption | omega | grind [wrap_id])⟩,?_⟩
 have e:Zez.S a0 = ((Zey.R a0 (List.replicate ((a0.length:Int)).toNat zEv) 0).2.1):=by unfold Zez.S; exact rfl
 rw [e] at hK
 exact hK
theorem Zez.good:Good Tryz.prog Zez.c :=
 vgood (sh:=[[some (.ev,48)]]) (sp:=[]) (LL:=[Zey.d.ctr]) (consG Zex.good noG) (fn:=Tryz.f8) (by kernel_rfl) (by kernel_rfl) (by rw [show loopsOf (bodyOf Tryz.f8) = [(bodyAt Tryz.f8 0)] from by kernel_rfl]; exact consL (l:=Zey.d.ctr) (by kernel_rfl) (Zey.g (consG Zex.good noG)) (noL rfl)) fun s hp hf=>by
  exact Eq.mpr (Zez.w (s.1) (fun r bs'=>And (r = (Zez.c.out s).1) (bs' = (Zez.c.out s).2))) (Zez.v (s.1) (hp _ rfl) hf (fun r bs'=>And (r = (Zez.c.out s).1) (bs' = (Zez.c.out s).2)) ⟨rfl,rfl⟩)
def ZdN.S:Nat→(List Int)→(List Int)→Bool→Int→Nat×Bool×Int×Unit
 | 0,_,_,_,_=>(0,(false,(0,())))
 | n + 1,y0,y1,y2,y3=>bif decide (y3 < (y0.length:Int)) then bif (y0.getD (y3).toNat 0) != (y1.getD (y3).toNat 0) then (0,(false,(y3,()))) else ZdN.S n y0 y1 y2 (wrap (y3 + 1)) else (1,(false,(y3,())))
def ZdN.M (y0:List Int) (y1:List Int) (y2:Bool) (y3:Int):Nat:=((y0.length:Int) - y3).toNat
def ZdN.R (y0:List Int) (y1:List Int) (y2:Bool) (y3:Int):Nat×Bool×Int×Unit:=ZdN.S (ZdN.M y0 y1 y2 y3 + 1) y0 y1 y2 y3
def ZdN.P (y0:List Int) (y1:List Int) (y2:Bool) (y3:Int):Prop:=(0≤y3)∧((y0.length:Int)≤9223372036854775807)∧(((y0.length:Int) != (y1.length:Int)) = false)
def ZdN.L:FL:=fCons (fC (cArr false kInts)) (fCons (fC (cArr false kInts)) (fCons (fC cBool) (fCons (fC cInt) (fNil))))
def ZdN.o0 (y0:List Int) (y1:List Int) (y2:Bool) (y3:Int) (r:Nat×Bool×Int×Unit):Ex×List FV×List Blk:=(.ret,[.c (.arr false (.ints y0)),.c (.arr false (.ints y1)),.c (.bool r.2.1),.c (.int r.2.2.1)],[])
def ZdN.o1 (y0:List Int) (y1:List Int) (y2:Bool) (y3:Int) (r:Nat×Bool×Int×Unit):Ex×List FV×List Blk:=(.exit 0,[.c (.arr false (.ints y0)),.c (.arr false (.ints y1)),.c (.bool y2),.c (.int r.2.2.1)],[])
def ZdN.o (y0:List Int) (y1:List Int) (y2:Bool) (y3:Int) (r:Nat×Bool×Int×Unit):Ex×List FV×List Blk:=pickAlt [(Nat.beq r.1 0,ZdN.o0 y0 y1 y2 y3 r)] (ZdN.o1 y0 y1 y2 y3 r)
def ZdN.d:LDat:=ldat 4 [0,1,4,5] [] ZdN.L (fun s=>ZdN.P s.1 s.2.1 s.2.2.1 s.2.2.2.1) (fun s=>[(Nat.beq (ZdN.R s.1 s.2.1 s.2.2.1 s.2.2.2.1).1 0,ZdN.o0 s.1 s.2.1 s.2.2.1 s.2.2.2.1 (ZdN.R s.1 s.2.1 s.2.2.1 s.2.2.2.1))]) (fun s=>ZdN.o1 s.1 s.2.1 s.2.2.1 s.2.2.2.1 (ZdN.R s.1 s.2.1 s.2.2.1 s.2.2.2.1)) (fun s=>ZdN.M s.1 s.2.1 s.2.2.1 s.2.2.2.1)
def ZdO.S (a0:List Int) (a1:List Int):Bool:=bif (a0.length:Int) != (a1.length:Int) then (false) else bif Nat.beq (ZdN.R a0 a1 false 0).1 0 then ((ZdN.R a0 a1 false 0).2.1) else (true)
def ZdO.enc (r:Bool):AV×List Blk:=(.v (.c (.bool r)),[])
def ZdO.L:ShL:=sCons sInts (sCons sInts (sNil))
def ZdO.c:Ctr:=vctr 104 ZdO.L none (fun s=>ZdO.enc (ZdO.S s.1 s.2.1))
theorem ZdN.w (y0:List Int) (y1:List Int) (y2:Bool) (y3:Int):evBody (envS [] []) [] (bodyAt Tryz.f104 0) ZdN.d (y0,(y1,(y2,(y3,())))) = (And (Imp ((decide (y3 < (y0.length:Int))) = true) (And ((0:Int)≤y3∧y3 < (y0.length:Int)) (And ((0:Int)≤y3∧y3 < (y1.length:Int)) (And (Imp (((y0.getD (y3).toNat 0) != (y1.getD (y3).toNat 0)) = true) (ZdN.o y0 y1 y2 y3 (ZdN.R y0 y1 y2 y3) = (.ret,[.c (.arr false (.ints y0)),.c (.arr false (.ints y1)),.c (.bool false),.c (.int y3)],[]))) (Imp (((y0.getD (y3).toNat 0) != (y1.getD (y3).toNat 0)) = false) (And (ZdN.P y0 y1 y2 (wrap (y3 + 1))) (And (ZdN.M y0 y1 y2 (wrap (y3 + 1)) < ZdN.M y0 y1 y2 y3) (ZdN.o y0 y1 y2 (wrap (y3 + 1)) (ZdN.R y0 y1 y2 (wrap (y3 + 1))) = ZdN.o y0 y1 y2 y3 (ZdN.R y0 y1 y2 y3))))))))) (Imp ((decide (y3 < (y0.length:Int))) = false) (ZdN.o y0 y1 y2 y3 (ZdN.R y0 y1 y2 y3) = (.exit 0,[.c (.arr false (.ints y0)),.c (.arr false (.ints y1)),.c (.bool y2),.c (.int y3)],[])))):=by kernel_rfl
theorem ZdN.v (y0:List Int) (y1:List Int) (y2:Bool) (y3:Int) (hp:ZdN.P y0 y1 y2 y3):And (Imp ((decide (y3 < (y0.length:Int))) = true) (And ((0:Int)≤y3∧y3 < (y0.length:Int)) (And ((0:Int)≤y3∧y3 < (y1.length:Int)) (And (Imp (((y0.getD (y3).toNat 0) != (y1.getD (y3).toNat 0)) = true) (ZdN.o y0 y1 y2 y3 (ZdN.R y0 y1 y2 y3) = (.ret,[.c (.arr false (.ints y0)),.c (.arr false (.ints y1)),.c (.bool false),.c (.int y3)],[]))) (Imp (((y0.getD (y3).toNat 0) != (y1.getD (y3).toNat 0)) = false) (And (ZdN.P y0 y1 y2 (wrap (y3 + 1))) (And (ZdN.M y0 y1 y2 (wrap (y3 + 1)) < ZdN.M y0 y1 y2 y3) (ZdN.o y0 y1 y2 (wrap (y3 + 1)) (ZdN.R y0 y1 y2 (wrap (y3 + 1))) = ZdN.o y0 y1 y2 y3 (ZdN.R y0 y1 y2 y3))))))))) (Imp ((decide (y3 < (y0.length:Int))) = false) (ZdN.o y0 y1 y2 y3 (ZdN.R y0 y1 y2 y3) = (.exit 0,[.c (.arr false (.ints y0)),.c (.arr false (.ints y1)),.c (.bool y2),.c (.int y3)],[]))):=by
 simp only [ZdN.P] at hp
 obtain ⟨p0,p1,p2⟩:=hp
 refine ⟨fun h1=>?_,fun h1=>?_⟩
 ·refine ⟨by first | exact True.intro | assumption | omega | grind [wrap_id],?_⟩
  refine ⟨by first | exact True.intro | assumption | omega | grind [wrap_id],?_⟩
  refine ⟨fun h2=>?_,fun h2=>?_⟩
  ·have e:ZdN.R y0 y1 y2 y3 = (0,(false,(y3,()))):=by unfold ZdN.R; rw [ZdN.S]; exact (cond_t h1).trans <| (cond_t h2).trans <| rfl
   rw [e]
   rfl
  ·have hμ:ZdN.M y0 y1 y2 y3 = ZdN.M y0 y1 y2 (wrap (y3 + 1)) + 1:=by simp only [ZdN.M]; first | omega | grind [wrap_id]
   refine ⟨by simp only [ZdN.P]; refine ⟨(by first | exact True.intro | assumption | omega | grind [wrap_id]),(by first | exact True.intro | assumption | omega | grind [wrap_id]),(by first | exact True.intro | assumption | omega | grind [wrap_id])⟩,by omega,?_⟩
   have e:ZdN.R y0 y1 y2 y3 = ZdN.R y0 y1 y2 (wrap (y3 + 1)):=by
    have e1:ZdN.R y0 y1 y2 y3 = ZdN.S (ZdN.M y0 y1 y2 y3) y0 y1 y2 (wrap (y3 + 1)):=by unfold ZdN.R; rw [ZdN.S]; exact (cond_t h1).trans <| (cond_f h2).trans <| rfl
    rw [e1,hμ]
    rfl
   rw [e]
   rfl
 ·have e:ZdN.R y0 y1 y2 y3 = (1,(false,(y3,()))):=by unfold ZdN.R; rw [ZdN.S]; exact (cond_f h1).trans <| rfl
  rw [e]
  rfl
theorem ZdN.g (hG:∀c∈[],Good Tryz.prog c):LGood Tryz.prog Tryz.f104.ntmps ZdN.d.ctr (bodyAt Tryz.f104 0):=by
 refine lgoodS (sp:=[]) (LL:=[]) hG (by kernel_rfl) (by rw [show loopsOf (bodyAt Tryz.f104 0) = [] from by kernel_rfl]; exact noL rfl) fun s hp=>?_
 refine Eq.mpr (ZdN.w s.1 s.2.1 s.2.2.1 s.2.2.2.1) ?_
 replace hp:ZdN.P s.1 s.2.1 s.2.2.1 s.2.2.2.1:=hp
 exact ZdN.v _ _ _ _ hp
def ZdN.E (y0:List Int) (y1:List Int) (y2:Bool) (k:Nat) (a:Unit):Option (Nat×Bool×Int×Unit):=bif (y0.getD k 0) != (y1.getD k 0) then some (0,(false,((k:Int),()))) else none
def ZdN.A (y0:List Int) (y1:List Int) (y2:Bool) (k:Nat) (a:Unit):Unit:=bif (y0.getD k 0) != (y1.getD k 0) then a else ()
def ZdN.fin (y0:List Int) (y1:List Int) (y2:Bool) (k:Nat) (a:Unit):Nat×Bool×Int×Unit:=(1,(false,((k:Int),())))
def ZdN.acc (y0:List Int) (y1:List Int) (y2:Bool) (a:Unit):Nat→Unit
 | 0=>a
 | k + 1=>ZdN.A y0 y1 y2 k (ZdN.acc y0 y1 y2 a k)
theorem ZdN.law (y0:List Int) (y1:List Int) (y2:Bool) (a:Unit) (n:Nat) (hT:(y0.length:Int) = (n:Int)) (hn:(n:Int)≤9223372036854775807) :
  ((∀k,k < n→ZdN.E y0 y1 y2 k (ZdN.acc y0 y1 y2 a k) = none)∧ZdN.R y0 y1 y2 0 = ZdN.fin y0 y1 y2 n (ZdN.acc y0 y1 y2 a n))∨(∃k r,k < n∧ZdN.E y0 y1 y2 k (ZdN.acc y0 y1 y2 a k) = some r∧(∀j,j < k→ZdN.E y0 y1 y2 j (ZdN.acc y0 y1 y2 a j) = none)∧ZdN.R y0 y1 y2 0 = r):=by
 have hM:ZdN.M y0 y1 y2 0 + 1 = n + 1:=by simp only [ZdN.M]; omega
 unfold ZdN.R
 rw [hM]
 refine loopE (fun m i b=>ZdN.S m y0 y1 y2 i) n hn (ZdN.acc y0 y1 y2 a) (ZdN.E y0 y1 y2 ) (ZdN.fin y0 y1 y2 ) fun m k hk=>?_
 have ha:ZdN.acc y0 y1 y2 a (k + 1) = ZdN.A y0 y1 y2 k (ZdN.acc y0 y1 y2 a k):=rfl
 rw [ha]
 generalize ZdN.acc y0 y1 y2 a k = b
 simp only [ZdN.S,ZdN.E,ZdN.A,ZdN.fin,hT,Int.toNat_natCast]
 all_goals grind
theorem ZdO.w (a0:List Int) (a1:List Int) (K:AV→List Blk→Prop):evFn (envS [] []) [ZdN.d.ctr] [] [] Tryz.f104 [] (ZdO.L.enc (a0,(a1,()))) K = (And (Imp (((a0.length:Int) != (a1.length:Int)) = true) (K (.v (.c (.bool false))) ([]))) (Imp (((a0.length:Int) != (a1.length:Int)) = false) (And (ZdN.P a0 a1 false 0) (And (Imp (Nat.beq (ZdN.R a0 a1 false 0).1 0 = true) (K (.v (.c (.bool (ZdN.R a0 a1 false 0).2.1))) ([]))) (Imp (Nat.beq (ZdN.R a0 a1 false 0).1 0 = false) (K (.v (.c (.bool true))) ([]))))))):=by kernel_rfl
theorem ZdO.v (a0:List Int) (a1:List Int) (hf:(a0.length:Int)≤9223372036854775807∧(a1.length:Int)≤9223372036854775807∧True) (K:AV→List Blk→Prop) (hK:K (ZdO.enc (ZdO.S a0 a1)).1 (ZdO.enc (ZdO.S a0 a1)).2):And (Imp (((a0.length:Int) != (a1.length:Int)) = true) (K (.v (.c (.bool false))) ([]))) (Imp (((a0.length:Int) != (a1.length:Int)) = false) (And (ZdN.P a0 a1 false 0) (And (Imp (Nat.beq (ZdN.R a0 a1 false 0).1 0 = true) (K (.v (.c (.bool (ZdN.R a0 a1 false 0).2.1))) ([]))) (Imp (Nat.beq (ZdN.R a0 a1 false 0).1 0 = false) (K (.v (.c (.bool true))) ([])))))):=by
 obtain ⟨f0,f1,-⟩:=hf
 try simp only [big] at *
 refine ⟨fun h1=>?_,fun h1=>?_⟩
 ·have e:ZdO.S a0 a1 = (false):=by unfold ZdO.S; exact (cond_t h1).trans <| rfl
  rw [e] at hK
  exact hK
 ·refine ⟨by simp only [ZdN.P]; refine ⟨(by clear hK; first | exact True.intro | assumption | omega | grind [wrap_id]),(by clear hK; first | exact True.intro | assumption | omega | grind [wrap_id]),(by clear hK; first | exact True.intro | assumption | omega | grind [wrap_id])⟩,?_⟩
  refine ⟨fun h2=>?_,fun h2=>?_⟩
  ·have e:ZdO.S a0 a1 = ((ZdN.R a0 a1 false 0).2.1):=by unfold ZdO.S; exact (cond_f h1).trans <| (cond_t h2).trans <| rfl
   rw [e] at hK
   exact hK
  ·have e:ZdO.S a0 a1 = (true):=by unfold ZdO.S; exact (cond_f h1).trans <| (cond_f h2).trans <| rfl
   rw [e] at hK
   exact hK
theorem ZdO.good:Good Tryz.prog ZdO.c :=
 vgood (sh:=[]) (sp:=[]) (LL:=[ZdN.d.ctr]) noG (fn:=Tryz.f104) (by kernel_rfl) (by kernel_rfl) (by rw [show loopsOf (bodyOf Tryz.f104) = [(bodyAt Tryz.f104 0)] from by kernel_rfl]; exact consL (l:=ZdN.d.ctr) (by kernel_rfl) (ZdN.g noG) (noL rfl)) fun s hp hf=>by
  exact Eq.mpr (ZdO.w (s.1) (s.2.1) (fun r bs'=>And (r = (ZdO.c.out s).1) (bs' = (ZdO.c.out s).2))) (ZdO.v (s.1) (s.2.1) hf (fun r bs'=>And (r = (ZdO.c.out s).1) (bs' = (ZdO.c.out s).2)) ⟨rfl,rfl⟩)
def ZdP.S (a0:Bk) (a1:Bk):Bool:=bif !(ZdO.S a0.own a1.own) then (false) else bif !(ZdO.S a0.notes a1.notes) then (false) else bif a0.locked != a1.locked then (false) else (true)
def ZdP.enc (r:Bool):AV×List Blk:=(.v (.c (.bool r)),[])
def ZdP.L:ShL:=sCons sBk (sCons sBk (sNil))
def ZdP.c:Ctr:=vctr 101 ZdP.L none (fun s=>ZdP.enc (ZdP.S s.1 s.2.1))
theorem ZdP.w (a0:Bk) (a1:Bk) (K:AV→List Blk→Prop):evFn (envS [ZdO.c] []) [] [] [] Tryz.f101 [] (ZdP.L.enc (a0,(a1,()))) K = (And (Imp ((!(ZdO.S a0.own a1.own)) = true) (K (.v (.c (.bool false))) ([]))) (Imp ((!(ZdO.S a0.own a1.own)) = false) (And (Imp ((!(ZdO.S a0.notes a1.notes)) = true) (K (.v (.c (.bool false))) ([]))) (Imp ((!(ZdO.S a0.notes a1.notes)) = false) (And (Imp ((a0.locked != a1.locked) = true) (K (.v (.c (.bool false))) ([]))) (Imp ((a0.locked != a1.locked) = false) (K (.v (.c (.bool true))) ([])))))))):=by kernel_rfl
theorem ZdP.v (a0:Bk) (a1:Bk) (hf:Bk.fact a0∧Bk.fact a1∧True) (K:AV→List Blk→Prop) (hK:K (ZdP.enc (ZdP.S a0 a1)).1 (ZdP.enc (ZdP.S a0 a1)).2):And (Imp ((!(ZdO.S a0.own a1.own)) = true) (K (.v (.c (.bool false))) ([]))) (Imp ((!(ZdO.S a0.own a1.own)) = false) (And (Imp ((!(ZdO.S a0.notes a1.notes)) = true) (K (.v (.c (.bool false))) ([]))) (Imp ((!(ZdO.S a0.notes a1.notes)) = false) (And (Imp ((a0.locked != a1.locked) = true) (K (.v (.c (.bool false))) ([]))) (Imp ((a0.locked != a1.locked) = false) (K (.v (.c (.bool true))) ([]))))))):=by
 obtain ⟨f0,f1,-⟩:=hf
 obtain ⟨f0_0,f0_1⟩:=f0
 obtain ⟨f1_0,f1_1⟩:=f1
 try simp only [big] at *
 refine ⟨fun h1=>?_,fun h1=>?_⟩
 ·have e:ZdP.S a0 a1 = (false):=by unfold ZdP.S; exact (cond_t h1).trans <| rfl
  rw [e] at hK
  exact hK
 ·refine ⟨fun h2=>?_,fun h2=>?_⟩
  ·have e:ZdP.S a0 a1 = (false):=by unfold ZdP.S; exact (cond_f h1).trans <| (cond_t h2).trans <| rfl
   rw [e] at hK
   exact hK
  ·refine ⟨fun h3=>?_,fun h3=>?_⟩
   ·have e:ZdP.S a0 a1 = (false):=by unfold ZdP.S; exact (cond_f h1).trans <| (cond_f h2).trans <| (cond_t h3).trans <| rfl
    rw [e] at hK
    exact hK
   ·have e:ZdP.S a0 a1 = (true):=by unfold ZdP.S; exact (cond_f h1).trans <| (cond_f h2).trans <| (cond_f h3).trans <| rfl
    rw [e] at hK
    exact hK
theorem ZdP.good:Good Tryz.prog ZdP.c :=
 vgood (sh:=[]) (sp:=[]) (LL:=[]) (consG ZdO.good noG) (fn:=Tryz.f101) (by kernel_rfl) (by kernel_rfl) (by rw [show loopsOf (bodyOf Tryz.f101) = [] from by kernel_rfl]; exact noL rfl) fun s hp hf=>by
  exact Eq.mpr (ZdP.w (s.1) (s.2.1) (fun r bs'=>And (r = (ZdP.c.out s).1) (bs' = (ZdP.c.out s).2))) (ZdP.v (s.1) (s.2.1) hf (fun r bs'=>And (r = (ZdP.c.out s).1) (bs' = (ZdP.c.out s).2)) ⟨rfl,rfl⟩)
def ZdQ.S (a0:Pkt) (a1:Pkt):Bool:=bif a0.seq != a1.seq then (false) else bif a0.kind != a1.kind then (false) else bif a0.frm != a1.frm then (false) else bif a0.to != a1.to then (false) else bif a0.sum != a1.sum then (false) else bif a0.til != a1.til then (false) else bif a0.ver != a1.ver then (false) else (true)
def ZdQ.enc (r:Bool):AV×List Blk:=(.v (.c (.bool r)),[])
def ZdQ.L:ShL:=sCons sPkt (sCons sPkt (sNil))
def ZdQ.c:Ctr:=vctr 55 ZdQ.L none (fun s=>ZdQ.enc (ZdQ.S s.1 s.2.1))
theorem ZdQ.w (a0:Pkt) (a1:Pkt) (K:AV→List Blk→Prop):evFn (envS [] []) [] [] [] Tryz.f55 [] (ZdQ.L.enc (a0,(a1,()))) K = (And (Imp ((a0.seq != a1.seq) = true) (K (.v (.c (.bool false))) ([]))) (Imp ((a0.seq != a1.seq) = false) (And (Imp ((a0.kind != a1.kind) = true) (K (.v (.c (.bool false))) ([]))) (Imp ((a0.kind != a1.kind) = false) (And (Imp ((a0.frm != a1.frm) = true) (K (.v (.c (.bool false))) ([]))) (Imp ((a0.frm != a1.frm) = false) (And (Imp ((a0.to != a1.to) = true) (K (.v (.c (.bool false))) ([]))) (Imp ((a0.to != a1.to) = false) (And (Imp ((a0.sum != a1.sum) = true) (K (.v (.c (.bool false))) ([]))) (Imp ((a0.sum != a1.sum) = false) (And (Imp ((a0.til != a1.til) = true) (K (.v (.c (.bool false))) ([]))) (Imp ((a0.til != a1.til) = false) (And (Imp ((a0.ver != a1.ver) = true) (K (.v (.c (.bool false))) ([]))) (Imp ((a0.ver != a1.ver) = false) (K (.v (.c (.bool true))) ([])))))))))))))))):=by kernel_rfl
theorem ZdQ.v (a0:Pkt) (a1:Pkt) (hf:True∧True∧True) (K:AV→List Blk→Prop) (hK:K (ZdQ.enc (ZdQ.S a0 a1)).1 (ZdQ.enc (ZdQ.S a0 a1)).2):And (Imp ((a0.seq != a1.seq) = true) (K (.v (.c (.bool false))) ([]))) (Imp ((a0.seq != a1.seq) = false) (And (Imp ((a0.kind != a1.kind) = true) (K (.v (.c (.bool false))) ([]))) (Imp ((a0.kind != a1.kind) = false) (And (Imp ((a0.frm != a1.frm) = true) (K (.v (.c (.bool false))) ([]))) (Imp ((a0.frm != a1.frm) = false) (And (Imp ((a0.to != a1.to) = true) (K (.v (.c (.bool false))) ([]))) (Imp ((a0.to != a1.to) = false) (And (Imp ((a0.sum != a1.sum) = true) (K (.v (.c (.bool false))) ([]))) (Imp ((a0.sum != a1.sum) = false) (And (Imp ((a0.til != a1.til) = true) (K (.v (.c (.bool false))) ([]))) (Imp ((a0.til != a1.til) = false) (And (Imp ((a0.ver != a1.ver) = true) (K (.v (.c (.bool false))) ([]))) (Imp ((a0.ver != a1.ver) = false) (K (.v (.c (.bool true))) ([]))))))))))))))):=by
 clear hf
 refine ⟨fun h1=>?_,fun h1=>?_⟩
 ·have e:ZdQ.S a0 a1 = (false):=by unfold ZdQ.S; exact (cond_t h1).trans <| rfl
  rw [e] at hK
  exact hK
 ·refine ⟨fun h2=>?_,fun h2=>?_⟩
  ·have e:ZdQ.S a0 a1 = (false):=by unfold ZdQ.S; exact (cond_f h1).trans <| (cond_t h2).trans <| rfl
   rw [e] at hK
   exact hK
  ·refine ⟨fun h3=>?_,fun h3=>?_⟩
   ·have e:ZdQ.S a0 a1 = (false):=by unfold ZdQ.S; exact (cond_f h1).trans <| (cond_f h2).trans <| (cond_t h3).trans <| rfl
    rw [e] at hK
    exact hK
   ·refine ⟨fun h4=>?_,fun h4=>?_⟩
    ·have e:ZdQ.S a0 a1 = (false):=by unfold ZdQ.S; exact (cond_f h1).trans <| (cond_f h2).trans <| (cond_f h3).trans <| (cond_t h4).trans <| rfl
     rw [e] at hK
     exact hK
    ·refine ⟨fun h5=>?_,fun h5=>?_⟩
     ·have e:ZdQ.S a0 a1 = (false):=by unfold ZdQ.S; exact (cond_f h1).trans <| (cond_f h2).trans <| (cond_f h3).trans <| (cond_f h4).trans <| (cond_t h5).trans <| rfl
      rw [e] at hK
      exact hK
     ·refine ⟨fun h6=>?_,fun h6=>?_⟩
      ·have e:ZdQ.S a0 a1 = (false):=by unfold ZdQ.S; exact (cond_f h1).trans <| (cond_f h2).trans <| (cond_f h3).trans <| (cond_f h4).trans <| (cond_f h5).trans <| (cond_t h6).trans <| rfl
       rw [e] at hK
       exact hK
      ·refine ⟨fun h7=>?_,fun h7=>?_⟩
       ·have e:ZdQ.S a0 a1 = (false):=by unfold ZdQ.S; exact (cond_f h1).trans <| (cond_f h2).trans <| (cond_f h3).trans <| (cond_f h4).trans <| (cond_f h5).trans <| (cond_f h6).trans <| (cond_t h7).trans <| rfl
        rw [e] at hK
        exact hK
       ·have e:ZdQ.S a0 a1 = (true):=by unfold ZdQ.S; exact (cond_f h1).trans <| (cond_f h2).trans <| (cond_f h3).trans <| (cond_f h4).trans <| (cond_f h5).trans <| (cond_f h6).trans <| (cond_f h7).trans <| rfl
        rw [e] at hK
        exact hK
theorem ZdQ.good:Good Tryz.prog ZdQ.c :=
 vgood (sh:=[]) (sp:=[]) (LL:=[]) noG (fn:=Tryz.f55) (by kernel_rfl) (by kernel_rfl) (by rw [show loopsOf (bodyOf Tryz.f55) = [] from by kernel_rfl]; exact noL rfl) fun s hp hf=>by
  exact Eq.mpr (ZdQ.w (s.1) (s.2.1) (fun r bs'=>And (r = (ZdQ.c.out s).1) (bs' = (ZdQ.c.out s).2))) (ZdQ.v (s.1) (s.2.1) hf (fun r bs'=>And (r = (ZdQ.c.out s).1) (bs' = (ZdQ.c.out s).2)) ⟨rfl,rfl⟩)
def ZdR.S:Nat→(List Pkt)→(List Pkt)→Bool→Int→Nat×Bool×Int×Unit
 | 0,_,_,_,_=>(0,(false,(0,())))
 | n + 1,y0,y1,y2,y3=>bif decide (y3 < (y0.length:Int)) then bif !(ZdQ.S (y0.getD (y3).toNat zPkt) (y1.getD (y3).toNat zPkt)) then (0,(false,(y3,()))) else ZdR.S n y0 y1 y2 (wrap (y3 + 1)) else (1,(false,(y3,())))
def ZdR.M (y0:List Pkt) (y1:List Pkt) (y2:Bool) (y3:Int):Nat:=((y0.length:Int) - y3).toNat
def ZdR.R (y0:List Pkt) (y1:List Pkt) (y2:Bool) (y3:Int):Nat×Bool×Int×Unit:=ZdR.S (ZdR.M y0 y1 y2 y3 + 1) y0 y1 y2 y3
def ZdR.P (y0:List Pkt) (y1:List Pkt) (y2:Bool) (y3:Int):Prop:=(0≤y3)∧((y0.length:Int)≤9223372036854775807)∧(((y0.length:Int) != (y1.length:Int)) = false)
def ZdR.L:FL:=fCons (fC (cArr false kPkts)) (fCons (fC (cArr false kPkts)) (fCons (fC cBool) (fCons (fC cInt) (fNil))))
def ZdR.o0 (y0:List Pkt) (y1:List Pkt) (y2:Bool) (y3:Int) (r:Nat×Bool×Int×Unit):Ex×List FV×List Blk:=(.ret,[.c (.arr false (.pkts y0)),.c (.arr false (.pkts y1)),.c (.bool r.2.1),.c (.int r.2.2.1)],[])
def ZdR.o1 (y0:List Pkt) (y1:List Pkt) (y2:Bool) (y3:Int) (r:Nat×Bool×Int×Unit):Ex×List FV×List Blk:=(.exit 0,[.c (.arr false (.pkts y0)),.c (.arr false (.pkts y1)),.c (.bool y2),.c (.int r.2.2.1)],[])
def ZdR.o (y0:List Pkt) (y1:List Pkt) (y2:Bool) (y3:Int) (r:Nat×Bool×Int×Unit):Ex×List FV×List Blk:=pickAlt [(Nat.beq r.1 0,ZdR.o0 y0 y1 y2 y3 r)] (ZdR.o1 y0 y1 y2 y3 r)
def ZdR.d:LDat:=ldat 4 [0,1,4,5] [] ZdR.L (fun s=>ZdR.P s.1 s.2.1 s.2.2.1 s.2.2.2.1) (fun s=>[(Nat.beq (ZdR.R s.1 s.2.1 s.2.2.1 s.2.2.2.1).1 0,ZdR.o0 s.1 s.2.1 s.2.2.1 s.2.2.2.1 (ZdR.R s.1 s.2.1 s.2.2.1 s.2.2.2.1))]) (fun s=>ZdR.o1 s.1 s.2.1 s.2.2.1 s.2.2.2.1 (ZdR.R s.1 s.2.1 s.2.2.1 s.2.2.2.1)) (fun s=>ZdR.M s.1 s.2.1 s.2.2.1 s.2.2.2.1)
def ZdS.S (a0:List Pkt) (a1:List Pkt):Bool:=bif (a0.length:Int) != (a1.length:Int) then (false) else bif Nat.beq (ZdR.R a0 a1 false 0).1 0 then ((ZdR.R a0 a1 false 0).2.1) else (true)
def ZdS.enc (r:Bool):AV×List Blk:=(.v (.c (.bool r)),[])
def ZdS.L:ShL:=sCons sPkts (sCons sPkts (sNil))
def ZdS.c:Ctr:=vctr 166 ZdS.L none (fun s=>ZdS.enc (ZdS.S s.1 s.2.1))
theorem ZdR.w (y0:List Pkt) (y1:List Pkt) (y2:Bool) (y3:Int):evBody (envS [ZdQ.c] []) [] (bodyAt Tryz.f166 0) ZdR.d (y0,(y1,(y2,(y3,())))) = (And (Imp ((decide (y3 < (y0.length:Int))) = true) (And ((0:Int)≤y3∧y3 < (y0.length:Int)) (And ((0:Int)≤y3∧y3 < (y1.length:Int)) (And (Imp ((!(ZdQ.S (y0.getD (y3).toNat zPkt) (y1.getD (y3).toNat zPkt))) = true) (ZdR.o y0 y1 y2 y3 (ZdR.R y0 y1 y2 y3) = (.ret,[.c (.arr false (.pkts y0)),.c (.arr false (.pkts y1)),.c (.bool false),.c (.int y3)],[]))) (Imp ((!(ZdQ.S (y0.getD (y3).toNat zPkt) (y1.getD (y3).toNat zPkt))) = false) (And (ZdR.P y0 y1 y2 (wrap (y3 + 1))) (And (ZdR.M y0 y1 y2 (wrap (y3 + 1)) < ZdR.M y0 y1 y2 y3) (ZdR.o y0 y1 y2 (wrap (y3 + 1)) (ZdR.R y0 y1 y2 (wrap (y3 + 1))) = ZdR.o y0 y1 y2 y3 (ZdR.R y0 y1 y2 y3))))))))) (Imp ((decide (y3 < (y0.length:Int))) = false) (ZdR.o y0 y1 y2 y3 (ZdR.R y0 y1 y2 y3) = (.exit 0,[.c (.arr false (.pkts y0)),.c (.arr false (.pkts y1)),.c (.bool y2),.c (.int y3)],[])))):=by kernel_rfl
theorem ZdR.v (y0:List Pkt) (y1:List Pkt) (y2:Bool) (y3:Int) (hp:ZdR.P y0 y1 y2 y3):And (Imp ((decide (y3 < (y0.length:Int))) = true) (And ((0:Int)≤y3∧y3 < (y0.length:Int)) (And ((0:Int)≤y3∧y3 < (y1.length:Int)) (And (Imp ((!(ZdQ.S (y0.getD (y3).toNat zPkt) (y1.getD (y3).toNat zPkt))) = true) (ZdR.o y0 y1 y2 y3 (ZdR.R y0 y1 y2 y3) = (.ret,[.c (.arr false (.pkts y0)),.c (.arr false (.pkts y1)),.c (.bool false),.c (.int y3)],[]))) (Imp ((!(ZdQ.S (y0.getD (y3).toNat zPkt) (y1.getD (y3).toNat zPkt))) = false) (And (ZdR.P y0 y1 y2 (wrap (y3 + 1))) (And (ZdR.M y0 y1 y2 (wrap (y3 + 1)) < ZdR.M y0 y1 y2 y3) (ZdR.o y0 y1 y2 (wrap (y3 + 1)) (ZdR.R y0 y1 y2 (wrap (y3 + 1))) = ZdR.o y0 y1 y2 y3 (ZdR.R y0 y1 y2 y3))))))))) (Imp ((decide (y3 < (y0.length:Int))) = false) (ZdR.o y0 y1 y2 y3 (ZdR.R y0 y1 y2 y3) = (.exit 0,[.c (.arr false (.pkts y0)),.c (.arr false (.pkts y1)),.c (.bool y2),.c (.int y3)],[]))):=by
 simp only [ZdR.P] at hp
 obtain ⟨p0,p1,p2⟩:=hp
 refine ⟨fun h1=>?_,fun h1=>?_⟩
 ·refine ⟨by first | exact True.intro | assumption | omega | grind [wrap_id],?_⟩
  refine ⟨by first | exact True.intro | assumption | omega | grind [wrap_id],?_⟩
  refine ⟨fun h2=>?_,fun h2=>?_⟩
  ·have e:ZdR.R y0 y1 y2 y3 = (0,(false,(y3,()))):=by unfold ZdR.R; rw [ZdR.S]; exact (cond_t h1).trans <| (cond_t h2).trans <| rfl
   rw [e]
   rfl
  ·have hμ:ZdR.M y0 y1 y2 y3 = ZdR.M y0 y1 y2 (wrap (y3 + 1)) + 1:=by simp only [ZdR.M]; first | omega | grind [wrap_id]
   refine ⟨by simp only [ZdR.P]; refine ⟨(by first | exact True.intro | assumption | omega | grind [wrap_id]),(by first | exact True.intro | assumption | omega | grind [wrap_id]),(by first | exact True.intro | assumption | omega | grind [wrap_id])⟩,by omega,?_⟩
   have e:ZdR.R y0 y1 y2 y3 = ZdR.R y0 y1 y2 (wrap (y3 + 1)):=by
    have e1:ZdR.R y0 y1 y2 y3 = ZdR.S (ZdR.M y0 y1 y2 y3) y0 y1 y2 (wrap (y3 + 1)):=by unfold ZdR.R; rw [ZdR.S]; exact (cond_t h1).trans <| (cond_f h2).trans <| rfl
    rw [e1,hμ]
    rfl
   rw [e]
   rfl
 ·have e:ZdR.R y0 y1 y2 y3 = (1,(false,(y3,()))):=by unfold ZdR.R; rw [ZdR.S]; exact (cond_f h1).trans <| rfl
  rw [e]
  rfl
theorem ZdR.g (hG:∀c∈[ZdQ.c],Good Tryz.prog c):LGood Tryz.prog Tryz.f166.ntmps ZdR.d.ctr (bodyAt Tryz.f166 0):=by
 refine lgoodS (sp:=[]) (LL:=[]) hG (by kernel_rfl) (by rw [show loopsOf (bodyAt Tryz.f166 0) = [] from by kernel_rfl]; exact noL rfl) fun s hp=>?_
 refine Eq.mpr (ZdR.w s.1 s.2.1 s.2.2.1 s.2.2.2.1) ?_
 replace hp:ZdR.P s.1 s.2.1 s.2.2.1 s.2.2.2.1:=hp
 exact ZdR.v _ _ _ _ hp
def ZdR.E (y0:List Pkt) (y1:List Pkt) (y2:Bool) (k:Nat) (a:Unit):Option (Nat×Bool×Int×Unit):=bif !(ZdQ.S (y0.getD k zPkt) (y1.getD k zPkt)) then some (0,(false,((k:Int),()))) else none
def ZdR.A (y0:List Pkt) (y1:List Pkt) (y2:Bool) (k:Nat) (a:Unit):Unit:=bif !(ZdQ.S (y0.getD k zPkt) (y1.getD k zPkt)) then a else ()
def ZdR.fin (y0:List Pkt) (y1:List Pkt) (y2:Bool) (k:Nat) (a:Unit):Nat×Bool×Int×Unit:=(1,(false,((k:Int),())))
def ZdR.acc (y0:List Pkt) (y1:List Pkt) (y2:Bool) (a:Unit):Nat→Unit
 | 0=>a
 | k + 1=>ZdR.A y0 y1 y2 k (ZdR.acc y0 y1 y2 a k)
theorem ZdR.law (y0:List Pkt) (y1:List Pkt) (y2:Bool) (a:Unit) (n:Nat) (hT:(y0.length:Int) = (n:Int)) (hn:(n:Int)≤9223372036854775807) :
  ((∀k,k < n→ZdR.E y0 y1 y2 k (ZdR.acc y0 y1 y2 a k) = none)∧ZdR.R y0 y1 y2 0 = ZdR.fin y0 y1 y2 n (ZdR.acc y0 y1 y2 a n))∨(∃k r,k < n∧ZdR.E y0 y1 y2 k (ZdR.acc y0 y1 y2 a k) = some r∧(∀j,j < k→ZdR.E y0 y1 y2 j (ZdR.acc y0 y1 y2 a j) = none)∧ZdR.R y0 y1 y2 0 = r):=by
 have hM:ZdR.M y0 y1 y2 0 + 1 = n + 1:=by simp only [ZdR.M]; omega
 unfold ZdR.R
 rw [hM]
 refine loopE (fun m i b=>ZdR.S m y0 y1 y2 i) n hn (ZdR.acc y0 y1 y2 a) (ZdR.E y0 y1 y2 ) (ZdR.fin y0 y1 y2 ) fun m k hk=>?_
 have ha:ZdR.acc y0 y1 y2 a (k + 1) = ZdR.A y0 y1 y2 k (ZdR.acc y0 y1 y2 a k):=rfl
 rw [ha]
 generalize ZdR.acc y0 y1 y2 a k = b
 simp only [ZdR.S,ZdR.E,ZdR.A,ZdR.fin,hT,Int.toNat_natCast]
 all_goals grind
theorem ZdS.w (a0:List Pkt) (a1:List Pkt) (K:AV→List Blk→Prop):evFn (envS [ZdQ.c] []) [ZdR.d.ctr] [] [] Tryz.f166 [] (ZdS.L.enc (a0,(a1,()))) K = (And (Imp (((a0.length:Int) != (a1.length:Int)) = true) (K (.v (.c (.bool false))) ([]))) (Imp (((a0.length:Int) != (a1.length:Int)) = false) (And (ZdR.P a0 a1 false 0) (And (Imp (Nat.beq (ZdR.R a0 a1 false 0).1 0 = true) (K (.v (.c (.bool (ZdR.R a0 a1 false 0).2.1))) ([]))) (Imp (Nat.beq (ZdR.R a0 a1 false 0).1 0 = false) (K (.v (.c (.bool true))) ([]))))))):=by kernel_rfl
theorem ZdS.v (a0:List Pkt) (a1:List Pkt) (hf:(a0.length:Int)≤9223372036854775807∧(a1.length:Int)≤9223372036854775807∧True) (K:AV→List Blk→Prop) (hK:K (ZdS.enc (ZdS.S a0 a1)).1 (ZdS.enc (ZdS.S a0 a1)).2):And (Imp (((a0.length:Int) != (a1.length:Int)) = true) (K (.v (.c (.bool false))) ([]))) (Imp (((a0.length:Int) != (a1.length:Int)) = false) (And (ZdR.P a0 a1 false 0) (And (Imp (Nat.beq (ZdR.R a0 a1 false 0).1 0 = true) (K (.v (.c (.bool (ZdR.R a0 a1 false 0).2.1))) ([]))) (Imp (Nat.beq (ZdR.R a0 a1 false 0).1 0 = false) (K (.v (.c (.bool true))) ([])))))):=by
 obtain ⟨f0,f1,-⟩:=hf
 try simp only [big] at *
 refine ⟨fun h1=>?_,fun h1=>?_⟩
 ·have e:ZdS.S a0 a1 = (false):=by unfold ZdS.S; exact (cond_t h1).trans <| rfl
  rw [e] at hK
  exact hK
 ·refine ⟨by simp only [ZdR.P]; refine ⟨(by clear hK; first | exact True.intro | assumption | omega | grind [wrap_id]),(by clear hK; first | exact True.intro | assumption | omega | grind [wrap_id]),(by clear hK; first | exact True.intro | assumption | omega | grind [wrap_id])⟩,?_⟩
  refine ⟨fun h2=>?_,fun h2=>?_⟩
  ·have e:ZdS.S a0 a1 = ((ZdR.R a0 a1 false 0).2.1):=by unfold ZdS.S; exact (cond_f h1).trans <| (cond_t h2).trans <| rfl
   rw [e] at hK
   exact hK
  ·have e:ZdS.S a0 a1 = (true):=by unfold ZdS.S; exact (cond_f h1).trans <| (cond_f h2).trans <| rfl
   rw [e] at hK
   exact hK
theorem ZdS.good:Good Tryz.prog ZdS.c :=
 vgood (sh:=[]) (sp:=[]) (LL:=[ZdR.d.ctr]) (consG ZdQ.good noG) (fn:=Tryz.f166) (by kernel_rfl) (by kernel_rfl) (by rw [show loopsOf (bodyOf Tryz.f166) = [(bodyAt Tryz.f166 0)] from by kernel_rfl]; exact consL (l:=ZdR.d.ctr) (by kernel_rfl) (ZdR.g (consG ZdQ.good noG)) (noL rfl)) fun s hp hf=>by
  exact Eq.mpr (ZdS.w (s.1) (s.2.1) (fun r bs'=>And (r = (ZdS.c.out s).1) (bs' = (ZdS.c.out s).2))) (ZdS.v (s.1) (s.2.1) hf (fun r bs'=>And (r = (ZdS.c.out s).1) (bs' = (ZdS.c.out s).2)) ⟨rfl,rfl⟩)
def ZdT.S:Nat→(List Bool)→(List Bool)→Bool→Int→Nat×Bool×Int×Unit
 | 0,_,_,_,_=>(0,(false,(0,())))
 | n + 1,y0,y1,y2,y3=>bif decide (y3 < (y0.length:Int)) then bif !((y0.getD (y3).toNat false) == (y1.getD (y3).toNat false)) then (0,(false,(y3,()))) else ZdT.S n y0 y1 y2 (wrap (y3 + 1)) else (1,(false,(y3,())))
def ZdT.M (y0:List Bool) (y1:List Bool) (y2:Bool) (y3:Int):Nat:=((y0.length:Int) - y3).toNat
def ZdT.R (y0:List Bool) (y1:List Bool) (y2:Bool) (y3:Int):Nat×Bool×Int×Unit:=ZdT.S (ZdT.M y0 y1 y2 y3 + 1) y0 y1 y2 y3
def ZdT.P (y0:List Bool) (y1:List Bool) (y2:Bool) (y3:Int):Prop:=(0≤y3)∧((y0.length:Int)≤9223372036854775807)∧(((y0.length:Int) != (y1.length:Int)) = false)
def ZdT.L:FL:=fCons (fC (cArr false kBools)) (fCons (fC (cArr false kBools)) (fCons (fC cBool) (fCons (fC cInt) (fNil))))
def ZdT.o0 (y0:List Bool) (y1:List Bool) (y2:Bool) (y3:Int) (r:Nat×Bool×Int×Unit):Ex×List FV×List Blk:=(.ret,[.c (.arr false (.bools y0)),.c (.arr false (.bools y1)),.c (.bool r.2.1),.c (.int r.2.2.1)],[])
def ZdT.o1 (y0:List Bool) (y1:List Bool) (y2:Bool) (y3:Int) (r:Nat×Bool×Int×Unit):Ex×List FV×List Blk:=(.exit 0,[.c (.arr false (.bools y0)),.c (.arr false (.bools y1)),.c (.bool y2),.c (.int r.2.2.1)],[])
def ZdT.o (y0:List Bool) (y1:List Bool) (y2:Bool) (y3:Int) (r:Nat×Bool×Int×Unit):Ex×List FV×List Blk:=pickAlt [(Nat.beq r.1 0,ZdT.o0 y0 y1 y2 y3 r)] (ZdT.o1 y0 y1 y2 y3 r)
def ZdT.d:LDat:=ldat 4 [0,1,4,5] [] ZdT.L (fun s=>ZdT.P s.1 s.2.1 s.2.2.1 s.2.2.2.1) (fun s=>[(Nat.beq (ZdT.R s.1 s.2.1 s.2.2.1 s.2.2.2.1).1 0,ZdT.o0 s.1 s.2.1 s.2.2.1 s.2.2.2.1 (ZdT.R s.1 s.2.1 s.2.2.1 s.2.2.2.1))]) (fun s=>ZdT.o1 s.1 s.2.1 s.2.2.1 s.2.2.2.1 (ZdT.R s.1 s.2.1 s.2.2.1 s.2.2.2.1)) (fun s=>ZdT.M s.1 s.2.1 s.2.2.1 s.2.2.2.1)
def ZdU.S (a0:List Bool) (a1:List Bool):Bool:=bif (a0.length:Int) != (a1.length:Int) then (false) else bif Nat.beq (ZdT.R a0 a1 false 0).1 0 then ((ZdT.R a0 a1 false 0).2.1) else (true)
def ZdU.enc (r:Bool):AV×List Blk:=(.v (.c (.bool r)),[])
def ZdU.L:ShL:=sCons sBools (sCons sBools (sNil))
def ZdU.c:Ctr:=vctr 167 ZdU.L none (fun s=>ZdU.enc (ZdU.S s.1 s.2.1))
theorem ZdT.w (y0:List Bool) (y1:List Bool) (y2:Bool) (y3:Int):evBody (envS [] []) [] (bodyAt Tryz.f167 0) ZdT.d (y0,(y1,(y2,(y3,())))) = (And (Imp ((decide (y3 < (y0.length:Int))) = true) (And ((0:Int)≤y3∧y3 < (y0.length:Int)) (And ((0:Int)≤y3∧y3 < (y1.length:Int)) (And (Imp ((!((y0.getD (y3).toNat false) == (y1.getD (y3).toNat false))) = true) (ZdT.o y0 y1 y2 y3 (ZdT.R y0 y1 y2 y3) = (.ret,[.c (.arr false (.bools y0)),.c (.arr false (.bools y1)),.c (.bool false),.c (.int y3)],[]))) (Imp ((!((y0.getD (y3).toNat false) == (y1.getD (y3).toNat false))) = false) (And (ZdT.P y0 y1 y2 (wrap (y3 + 1))) (And (ZdT.M y0 y1 y2 (wrap (y3 + 1)) < ZdT.M y0 y1 y2 y3) (ZdT.o y0 y1 y2 (wrap (y3 + 1)) (ZdT.R y0 y1 y2 (wrap (y3 + 1))) = ZdT.o y0 y1 y2 y3 (ZdT.R y0 y1 y2 y3))))))))) (Imp ((decide (y3 < (y0.length:Int))) = false) (ZdT.o y0 y1 y2 y3 (ZdT.R y0 y1 y2 y3) = (.exit 0,[.c (.arr false (.bools y0)),.c (.arr false (.bools y1)),.c (.bool y2),.c (.int y3)],[])))):=by kernel_rfl
theorem ZdT.v (y0:List Bool) (y1:List Bool) (y2:Bool) (y3:Int) (hp:ZdT.P y0 y1 y2 y3):And (Imp ((decide (y3 < (y0.length:Int))) = true) (And ((0:Int)≤y3∧y3 < (y0.length:Int)) (And ((0:Int)≤y3∧y3 < (y1.length:Int)) (And (Imp ((!((y0.getD (y3).toNat false) == (y1.getD (y3).toNat false))) = true) (ZdT.o y0 y1 y2 y3 (ZdT.R y0 y1 y2 y3) = (.ret,[.c (.arr false (.bools y0)),.c (.arr false (.bools y1)),.c (.bool false),.c (.int y3)],[]))) (Imp ((!((y0.getD (y3).toNat false) == (y1.getD (y3).toNat false))) = false) (And (ZdT.P y0 y1 y2 (wrap (y3 + 1))) (And (ZdT.M y0 y1 y2 (wrap (y3 + 1)) < ZdT.M y0 y1 y2 y3) (ZdT.o y0 y1 y2 (wrap (y3 + 1)) (ZdT.R y0 y1 y2 (wrap (y3 + 1))) = ZdT.o y0 y1 y2 y3 (ZdT.R y0 y1 y2 y3))))))))) (Imp ((decide (y3 < (y0.length:Int))) = false) (ZdT.o y0 y1 y2 y3 (ZdT.R y0 y1 y2 y3) = (.exit 0,[.c (.arr false (.bools y0)),.c (.arr false (.bools y1)),.c (.bool y2),.c (.int y3)],[]))):=by
 simp only [ZdT.P] at hp
 obtain ⟨p0,p1,p2⟩:=hp
 refine ⟨fun h1=>?_,fun h1=>?_⟩
 ·refine ⟨by first | exact True.intro | assumption | omega | grind [wrap_id],?_⟩
  refine ⟨by first | exact True.intro | assumption | omega | grind [wrap_id],?_⟩
  refine ⟨fun h2=>?_,fun h2=>?_⟩
  ·have e:ZdT.R y0 y1 y2 y3 = (0,(false,(y3,()))):=by unfold ZdT.R; rw [ZdT.S]; exact (cond_t h1).trans <| (cond_t h2).trans <| rfl
   rw [e]
   rfl
  ·have hμ:ZdT.M y0 y1 y2 y3 = ZdT.M y0 y1 y2 (wrap (y3 + 1)) + 1:=by simp only [ZdT.M]; first | omega | grind [wrap_id]
   refine ⟨by simp only [ZdT.P]; refine ⟨(by first | exact True.intro | assumption | omega | grind [wrap_id]),(by first | exact True.intro | assumption | omega | grind [wrap_id]),(by first | exact True.intro | assumption | omega | grind [wrap_id])⟩,by omega,?_⟩
   have e:ZdT.R y0 y1 y2 y3 = ZdT.R y0 y1 y2 (wrap (y3 + 1)):=by
    have e1:ZdT.R y0 y1 y2 y3 = ZdT.S (ZdT.M y0 y1 y2 y3) y0 y1 y2 (wrap (y3 + 1)):=by unfold ZdT.R; rw [ZdT.S]; exact (cond_t h1).trans <| (cond_f h2).trans <| rfl
    rw [e1,hμ]
    rfl
   rw [e]
   rfl
 ·have e:ZdT.R y0 y1 y2 y3 = (1,(false,(y3,()))):=by unfold ZdT.R; rw [ZdT.S]; exact (cond_f h1).trans <| rfl
  rw [e]
  rfl
theorem ZdT.g (hG:∀c∈[],Good Tryz.prog c):LGood Tryz.prog Tryz.f167.ntmps ZdT.d.ctr (bodyAt Tryz.f167 0):=by
 refine lgoodS (sp:=[]) (LL:=[]) hG (by kernel_rfl) (by rw [show loopsOf (bodyAt Tryz.f167 0) = [] from by kernel_rfl]; exact noL rfl) fun s hp=>?_
 refine Eq.mpr (ZdT.w s.1 s.2.1 s.2.2.1 s.2.2.2.1) ?_
 replace hp:ZdT.P s.1 s.2.1 s.2.2.1 s.2.2.2.1:=hp
 exact ZdT.v _ _ _ _ hp
def ZdT.E (y0:List Bool) (y1:List Bool) (y2:Bool) (k:Nat) (a:Unit):Option (Nat×Bool×Int×Unit):=bif !((y0.getD k false) == (y1.getD k false)) then some (0,(false,((k:Int),()))) else none
def ZdT.A (y0:List Bool) (y1:List Bool) (y2:Bool) (k:Nat) (a:Unit):Unit:=bif !((y0.getD k false) == (y1.getD k false)) then a else ()
def ZdT.fin (y0:List Bool) (y1:List Bool) (y2:Bool) (k:Nat) (a:Unit):Nat×Bool×Int×Unit:=(1,(false,((k:Int),())))
def ZdT.acc (y0:List Bool) (y1:List Bool) (y2:Bool) (a:Unit):Nat→Unit
 | 0=>a
 | k + 1=>ZdT.A y0 y1 y2 k (ZdT.acc y0 y1 y2 a k)
theorem ZdT.law (y0:List Bool) (y1:List Bool) (y2:Bool) (a:Unit) (n:Nat) (hT:(y0.length:Int) = (n:Int)) (hn:(n:Int)≤9223372036854775807) :
  ((∀k,k < n→ZdT.E y0 y1 y2 k (ZdT.acc y0 y1 y2 a k) = none)∧ZdT.R y0 y1 y2 0 = ZdT.fin y0 y1 y2 n (ZdT.acc y0 y1 y2 a n))∨(∃k r,k < n∧ZdT.E y0 y1 y2 k (ZdT.acc y0 y1 y2 a k) = some r∧(∀j,j < k→ZdT.E y0 y1 y2 j (ZdT.acc y0 y1 y2 a j) = none)∧ZdT.R y0 y1 y2 0 = r):=by
 have hM:ZdT.M y0 y1 y2 0 + 1 = n + 1:=by simp only [ZdT.M]; omega
 unfold ZdT.R
 rw [hM]
 refine loopE (fun m i b=>ZdT.S m y0 y1 y2 i) n hn (ZdT.acc y0 y1 y2 a) (ZdT.E y0 y1 y2 ) (ZdT.fin y0 y1 y2 ) fun m k hk=>?_
 have ha:ZdT.acc y0 y1 y2 a (k + 1) = ZdT.A y0 y1 y2 k (ZdT.acc y0 y1 y2 a k):=rfl
 rw [ha]
 generalize ZdT.acc y0 y1 y2 a k = b
 simp only [ZdT.S,ZdT.E,ZdT.A,ZdT.fin,hT,Int.toNat_natCast]
 all_goals grind
theorem ZdU.w (a0:List Bool) (a1:List Bool) (K:AV→List Blk→Prop):evFn (envS [] []) [ZdT.d.ctr] [] [] Tryz.f167 [] (ZdU.L.enc (a0,(a1,()))) K = (And (Imp (((a0.length:Int) != (a1.length:Int)) = true) (K (.v (.c (.bool false))) ([]))) (Imp (((a0.length:Int) != (a1.length:Int)) = false) (And (ZdT.P a0 a1 false 0) (And (Imp (Nat.beq (ZdT.R a0 a1 false 0).1 0 = true) (K (.v (.c (.bool (ZdT.R a0 a1 false 0).2.1))) ([]))) (Imp (Nat.beq (ZdT.R a0 a1 false 0).1 0 = false) (K (.v (.c (.bool true))) ([]))))))):=by kernel_rfl
theorem ZdU.v (a0:List Bool) (a1:List Bool) (hf:(a0.length:Int)≤9223372036854775807∧(a1.length:Int)≤9223372036854775807∧True) (K:AV→List Blk→Prop) (hK:K (ZdU.enc (ZdU.S a0 a1)).1 (ZdU.enc (ZdU.S a0 a1)).2):And (Imp (((a0.length:Int) != (a1.length:Int)) = true) (K (.v (.c (.bool false))) ([]))) (Imp (((a0.length:Int) != (a1.length:Int)) = false) (And (ZdT.P a0 a1 false 0) (And (Imp (Nat.beq (ZdT.R a0 a1 false 0).1 0 = true) (K (.v (.c (.bool (ZdT.R a0 a1 false 0).2.1))) ([]))) (Imp (Nat.beq (ZdT.R a0 a1 false 0).1 0 = false) (K (.v (.c (.bool true))) ([])))))):=by
 obtain ⟨f0,f1,-⟩:=hf
 try simp only [big] at *
 refine ⟨fun h1=>?_,fun h1=>?_⟩
 ·have e:ZdU.S a0 a1 = (false):=by unfold ZdU.S; exact (cond_t h1).trans <| rfl
  rw [e] at hK
  exact hK
 ·refine ⟨by simp only [ZdT.P]; refine ⟨(by clear hK; first | exact True.intro | assumption | omega | grind [wrap_id]),(by clear hK; first | exact True.intro | assumption | omega | grind [wrap_id]),(by clear hK; first | exact True.intro | assumption | omega | grind [wrap_id])⟩,?_⟩
  refine ⟨fun h2=>?_,fun h2=>?_⟩
  ·have e:ZdU.S a0 a1 = ((ZdT.R a0 a1 false 0).2.1):=by unfold ZdU.S; exact (cond_f h1).trans <| (cond_t h2).trans <| rfl
   rw [e] at hK
   exact hK
  ·have e:ZdU.S a0 a1 = (true):=by unfold ZdU.S; exact (cond_f h1).trans <| (cond_f h2).trans <| rfl
   rw [e] at hK
   exact hK
theorem ZdU.good:Good Tryz.prog ZdU.c :=
 vgood (sh:=[]) (sp:=[]) (LL:=[ZdT.d.ctr]) noG (fn:=Tryz.f167) (by kernel_rfl) (by kernel_rfl) (by rw [show loopsOf (bodyOf Tryz.f167) = [(bodyAt Tryz.f167 0)] from by kernel_rfl]; exact consL (l:=ZdT.d.ctr) (by kernel_rfl) (ZdT.g noG) (noL rfl)) fun s hp hf=>by
  exact Eq.mpr (ZdU.w (s.1) (s.2.1) (fun r bs'=>And (r = (ZdU.c.out s).1) (bs' = (ZdU.c.out s).2))) (ZdU.v (s.1) (s.2.1) hf (fun r bs'=>And (r = (ZdU.c.out s).1) (bs' = (ZdU.c.out s).2)) ⟨rfl,rfl⟩)
def ZdV.S (a0:St) (a1:St):Bool:=bif a0.way != a1.way then (false) else bif a0.ver != a1.ver then (false) else bif a0.want != a1.want then (false) else bif !(ZdS.S a0.sent a1.sent) then (false) else bif !(ZdU.S a0.live a1.live) then (false) else bif !(ZdU.S a0.back a1.back) then (false) else bif !(ZdO.S a0.got a1.got) then (false) else (true)
def ZdV.enc (r:Bool):AV×List Blk:=(.v (.c (.bool r)),[])
def ZdV.L:ShL:=sCons sSt (sCons sSt (sNil))
def ZdV.c:Ctr:=vctr 102 ZdV.L none (fun s=>ZdV.enc (ZdV.S s.1 s.2.1))
theorem ZdV.w (a0:St) (a1:St) (K:AV→List Blk→Prop):evFn (envS [ZdS.c,ZdU.c,ZdO.c] []) [] [] [] Tryz.f102 [] (ZdV.L.enc (a0,(a1,()))) K = (And (Imp ((a0.way != a1.way) = true) (K (.v (.c (.bool false))) ([]))) (Imp ((a0.way != a1.way) = false) (And (Imp ((a0.ver != a1.ver) = true) (K (.v (.c (.bool false))) ([]))) (Imp ((a0.ver != a1.ver) = false) (And (Imp ((a0.want != a1.want) = true) (K (.v (.c (.bool false))) ([]))) (Imp ((a0.want != a1.want) = false) (And (Imp ((!(ZdS.S a0.sent a1.sent)) = true) (K (.v (.c (.bool false))) ([]))) (Imp ((!(ZdS.S a0.sent a1.sent)) = false) (And (Imp ((!(ZdU.S a0.live a1.live)) = true) (K (.v (.c (.bool false))) ([]))) (Imp ((!(ZdU.S a0.live a1.live)) = false) (And (Imp ((!(ZdU.S a0.back a1.back)) = true) (K (.v (.c (.bool false))) ([]))) (Imp ((!(ZdU.S a0.back a1.back)) = false) (And (Imp ((!(ZdO.S a0.got a1.got)) = true) (K (.v (.c (.bool false))) ([]))) (Imp ((!(ZdO.S a0.got a1.got)) = false) (K (.v (.c (.bool true))) ([])))))))))))))))):=by kernel_rfl
theorem ZdV.v (a0:St) (a1:St) (hf:St.fact a0∧St.fact a1∧True) (K:AV→List Blk→Prop) (hK:K (ZdV.enc (ZdV.S a0 a1)).1 (ZdV.enc (ZdV.S a0 a1)).2):And (Imp ((a0.way != a1.way) = true) (K (.v (.c (.bool false))) ([]))) (Imp ((a0.way != a1.way) = false) (And (Imp ((a0.ver != a1.ver) = true) (K (.v (.c (.bool false))) ([]))) (Imp ((a0.ver != a1.ver) = false) (And (Imp ((a0.want != a1.want) = true) (K (.v (.c (.bool false))) ([]))) (Imp ((a0.want != a1.want) = false) (And (Imp ((!(ZdS.S a0.sent a1.sent)) = true) (K (.v (.c (.bool false))) ([]))) (Imp ((!(ZdS.S a0.sent a1.sent)) = false) (And (Imp ((!(ZdU.S a0.live a1.live)) = true) (K (.v (.c (.bool false))) ([]))) (Imp ((!(ZdU.S a0.live a1.live)) = false) (And (Imp ((!(ZdU.S a0.back a1.back)) = true) (K (.v (.c (.bool false))) ([]))) (Imp ((!(ZdU.S a0.back a1.back)) = false) (And (Imp ((!(ZdO.S a0.got a1.got)) = true) (K (.v (.c (.bool false))) ([]))) (Imp ((!(ZdO.S a0.got a1.got)) = false) (K (.v (.c (.bool true))) ([]))))))))))))))):=by
 obtain ⟨f0,f1,-⟩:=hf
 obtain ⟨f0_0,f0_1,f0_2,f0_3⟩:=f0
 obtain ⟨f1_0,f1_1,f1_2,f1_3⟩:=f1
 try simp only [big] at *
 refine ⟨fun h1=>?_,fun h1=>?_⟩
 ·have e:ZdV.S a0 a1 = (false):=by unfold ZdV.S; exact (cond_t h1).trans <| rfl
  rw [e] at hK
  exact hK
 ·refine ⟨fun h2=>?_,fun h2=>?_⟩
  ·have e:ZdV.S a0 a1 = (false):=by unfold ZdV.S; exact (cond_f h1).trans <| (cond_t h2).trans <| rfl
   rw [e] at hK
   exact hK
  ·refine ⟨fun h3=>?_,fun h3=>?_⟩
   ·have e:ZdV.S a0 a1 = (false):=by unfold ZdV.S; exact (cond_f h1).trans <| (cond_f h2).trans <| (cond_t h3).trans <| rfl
    rw [e] at hK
    exact hK
   ·refine ⟨fun h4=>?_,fun h4=>?_⟩
    ·have e:ZdV.S a0 a1 = (false):=by unfold ZdV.S; exact (cond_f h1).trans <| (cond_f h2).trans <| (cond_f h3).trans <| (cond_t h4).trans <| rfl
     rw [e] at hK
     exact hK
    ·refine ⟨fun h5=>?_,fun h5=>?_⟩
     ·have e:ZdV.S a0 a1 = (false):=by unfold ZdV.S; exact (cond_f h1).trans <| (cond_f h2).trans <| (cond_f h3).trans <| (cond_f h4).trans <| (cond_t h5).trans <| rfl
      rw [e] at hK
      exact hK
     ·refine ⟨fun h6=>?_,fun h6=>?_⟩
      ·have e:ZdV.S a0 a1 = (false):=by unfold ZdV.S; exact (cond_f h1).trans <| (cond_f h2).trans <| (cond_f h3).trans <| (cond_f h4).trans <| (cond_f h5).trans <| (cond_t h6).trans <| rfl
       rw [e] at hK
       exact hK
      ·refine ⟨fun h7=>?_,fun h7=>?_⟩
       ·have e:ZdV.S a0 a1 = (false):=by unfold ZdV.S; exact (cond_f h1).trans <| (cond_f h2).trans <| (cond_f h3).trans <| (cond_f h4).trans <| (cond_f h5).trans <| (cond_f h6).trans <| (cond_t h7).trans <| rfl
        rw [e] at hK
        exact hK
       ·have e:ZdV.S a0 a1 = (true):=by unfold ZdV.S; exact (cond_f h1).trans <| (cond_f h2).trans <| (cond_f h3).trans <| (cond_f h4).trans <| (cond_f h5).trans <| (cond_f h6).trans <| (cond_f h7).trans <| rfl
        rw [e] at hK
        exact hK
theorem ZdV.good:Good Tryz.prog ZdV.c :=
 vgood (sh:=[]) (sp:=[]) (LL:=[]) (consG ZdS.good (consG ZdU.good (consG ZdO.good noG))) (fn:=Tryz.f102) (by kernel_rfl) (by kernel_rfl) (by rw [show loopsOf (bodyOf Tryz.f102) = [] from by kernel_rfl]; exact noL rfl) fun s hp hf=>by
  exact Eq.mpr (ZdV.w (s.1) (s.2.1) (fun r bs'=>And (r = (ZdV.c.out s).1) (bs' = (ZdV.c.out s).2))) (ZdV.v (s.1) (s.2.1) hf (fun r bs'=>And (r = (ZdV.c.out s).1) (bs' = (ZdV.c.out s).2)) ⟨rfl,rfl⟩)
def ZdW.S:Nat→(List St)→(List St)→Bool→Int→Nat×Bool×Int×Unit
 | 0,_,_,_,_=>(0,(false,(0,())))
 | n + 1,y0,y1,y2,y3=>bif decide (y3 < (y0.length:Int)) then bif !(ZdV.S (y0.getD (y3).toNat zSt) (y1.getD (y3).toNat zSt)) then (0,(false,(y3,()))) else ZdW.S n y0 y1 y2 (wrap (y3 + 1)) else (1,(false,(y3,())))
def ZdW.M (y0:List St) (y1:List St) (y2:Bool) (y3:Int):Nat:=((y0.length:Int) - y3).toNat
def ZdW.R (y0:List St) (y1:List St) (y2:Bool) (y3:Int):Nat×Bool×Int×Unit:=ZdW.S (ZdW.M y0 y1 y2 y3 + 1) y0 y1 y2 y3
def ZdW.P (y0:List St) (y1:List St) (y2:Bool) (y3:Int):Prop:=(0≤y3)∧((y0.length:Int)≤9223372036854775807)∧(stsFact y0)∧(stsFact y1)∧(((y0.length:Int) != (y1.length:Int)) = false)
def ZdW.L:FL:=fCons (fC (cArr false kSts)) (fCons (fC (cArr false kSts)) (fCons (fC cBool) (fCons (fC cInt) (fNil))))
def ZdW.o0 (y0:List St) (y1:List St) (y2:Bool) (y3:Int) (r:Nat×Bool×Int×Unit):Ex×List FV×List Blk:=(.ret,[.c (.arr false (.sts y0)),.c (.arr false (.sts y1)),.c (.bool r.2.1),.c (.int r.2.2.1)],[])
def ZdW.o1 (y0:List St) (y1:List St) (y2:Bool) (y3:Int) (r:Nat×Bool×Int×Unit):Ex×List FV×List Blk:=(.exit 0,[.c (.arr false (.sts y0)),.c (.arr false (.sts y1)),.c (.bool y2),.c (.int r.2.2.1)],[])
def ZdW.o (y0:List St) (y1:List St) (y2:Bool) (y3:Int) (r:Nat×Bool×Int×Unit):Ex×List FV×List Blk:=pickAlt [(Nat.beq r.1 0,ZdW.o0 y0 y1 y2 y3 r)] (ZdW.o1 y0 y1 y2 y3 r)
def ZdW.d:LDat:=ldat 4 [0,1,4,5] [] ZdW.L (fun s=>ZdW.P s.1 s.2.1 s.2.2.1 s.2.2.2.1) (fun s=>[(Nat.beq (ZdW.R s.1 s.2.1 s.2.2.1 s.2.2.2.1).1 0,ZdW.o0 s.1 s.2.1 s.2.2.1 s.2.2.2.1 (ZdW.R s.1 s.2.1 s.2.2.1 s.2.2.2.1))]) (fun s=>ZdW.o1 s.1 s.2.1 s.2.2.1 s.2.2.2.1 (ZdW.R s.1 s.2.1 s.2.2.1 s.2.2.2.1)) (fun s=>ZdW.M s.1 s.2.1 s.2.2.1 s.2.2.2.1)
def ZdX.S (a0:List St) (a1:List St):Bool:=bif (a0.length:Int) != (a1.length:Int) then (false) else bif Nat.beq (ZdW.R a0 a1 false 0).1 0 then ((ZdW.R a0 a1 false 0).2.1) else (true)
def ZdX.enc (r:Bool):AV×List Blk:=(.v (.c (.bool r)),[])
def ZdX.L:ShL:=sCons sSts (sCons sSts (sNil))
def ZdX.c:Ctr:=vctr 103 ZdX.L none (fun s=>ZdX.enc (ZdX.S s.1 s.2.1))
theorem ZdW.w (y0:List St) (y1:List St) (y2:Bool) (y3:Int):evBody (envS [ZdV.c] []) [] (bodyAt Tryz.f103 0) ZdW.d (y0,(y1,(y2,(y3,())))) = (And (Imp ((decide (y3 < (y0.length:Int))) = true) (And ((0:Int)≤y3∧y3 < (y0.length:Int)) (And ((0:Int)≤y3∧y3 < (y1.length:Int)) (And (Imp ((!(ZdV.S (y0.getD (y3).toNat zSt) (y1.getD (y3).toNat zSt))) = true) (ZdW.o y0 y1 y2 y3 (ZdW.R y0 y1 y2 y3) = (.ret,[.c (.arr false (.sts y0)),.c (.arr false (.sts y1)),.c (.bool false),.c (.int y3)],[]))) (Imp ((!(ZdV.S (y0.getD (y3).toNat zSt) (y1.getD (y3).toNat zSt))) = false) (And (ZdW.P y0 y1 y2 (wrap (y3 + 1))) (And (ZdW.M y0 y1 y2 (wrap (y3 + 1)) < ZdW.M y0 y1 y2 y3) (ZdW.o y0 y1 y2 (wrap (y3 + 1)) (ZdW.R y0 y1 y2 (wrap (y3 + 1))) = ZdW.o y0 y1 y2 y3 (ZdW.R y0 y1 y2 y3))))))))) (Imp ((decide (y3 < (y0.length:Int))) = false) (ZdW.o y0 y1 y2 y3 (ZdW.R y0 y1 y2 y3) = (.exit 0,[.c (.arr false (.sts y0)),.c (.arr false (.sts y1)),.c (.bool y2),.c (.int y3)],[])))):=by kernel_rfl
theorem ZdW.v (y0:List St) (y1:List St) (y2:Bool) (y3:Int) (hp:ZdW.P y0 y1 y2 y3):And (Imp ((decide (y3 < (y0.length:Int))) = true) (And ((0:Int)≤y3∧y3 < (y0.length:Int)) (And ((0:Int)≤y3∧y3 < (y1.length:Int)) (And (Imp ((!(ZdV.S (y0.getD (y3).toNat zSt) (y1.getD (y3).toNat zSt))) = true) (ZdW.o y0 y1 y2 y3 (ZdW.R y0 y1 y2 y3) = (.ret,[.c (.arr false (.sts y0)),.c (.arr false (.sts y1)),.c (.bool false),.c (.int y3)],[]))) (Imp ((!(ZdV.S (y0.getD (y3).toNat zSt) (y1.getD (y3).toNat zSt))) = false) (And (ZdW.P y0 y1 y2 (wrap (y3 + 1))) (And (ZdW.M y0 y1 y2 (wrap (y3 + 1)) < ZdW.M y0 y1 y2 y3) (ZdW.o y0 y1 y2 (wrap (y3 + 1)) (ZdW.R y0 y1 y2 (wrap (y3 + 1))) = ZdW.o y0 y1 y2 y3 (ZdW.R y0 y1 y2 y3))))))))) (Imp ((decide (y3 < (y0.length:Int))) = false) (ZdW.o y0 y1 y2 y3 (ZdW.R y0 y1 y2 y3) = (.exit 0,[.c (.arr false (.sts y0)),.c (.arr false (.sts y1)),.c (.bool y2),.c (.int y3)],[]))):=by
 simp only [ZdW.P] at hp
 obtain ⟨p0,p1,p2,p3,p4⟩:=hp
 refine ⟨fun h1=>?_,fun h1=>?_⟩
 ·refine ⟨by first | exact True.intro | assumption | omega | grind [wrap_id,sts_1,sts_2],?_⟩
  refine ⟨by first | exact True.intro | assumption | omega | grind [wrap_id,sts_1,sts_2],?_⟩
  refine ⟨fun h2=>?_,fun h2=>?_⟩
  ·have e:ZdW.R y0 y1 y2 y3 = (0,(false,(y3,()))):=by unfold ZdW.R; rw [ZdW.S]; exact (cond_t h1).trans <| (cond_t h2).trans <| rfl
   rw [e]
   rfl
  ·have hμ:ZdW.M y0 y1 y2 y3 = ZdW.M y0 y1 y2 (wrap (y3 + 1)) + 1:=by simp only [ZdW.M]; first | omega | grind [wrap_id]
   refine ⟨by simp only [ZdW.P]; refine ⟨(by first | exact True.intro | assumption | omega | grind [wrap_id,sts_1,sts_2]),(by first | exact True.intro | assumption | omega | grind [wrap_id,sts_1,sts_2]),(by first | exact True.intro | assumption | omega | grind [wrap_id,sts_1,sts_2]),(by first | exact True.intro | assumption | omega | grind [wrap_id,sts_1,sts_2]),(by first | exact True.intro | assumption | omega | grind [wrap_id,sts_1,sts_2])⟩,by omega,?_⟩
   have e:ZdW.R y0 y1 y2 y3 = ZdW.R y0 y1 y2 (wrap (y3 + 1)):=by
    have e1:ZdW.R y0 y1 y2 y3 = ZdW.S (ZdW.M y0 y1 y2 y3) y0 y1 y2 (wrap (y3 + 1)):=by unfold ZdW.R; rw [ZdW.S]; exact (cond_t h1).trans <| (cond_f h2).trans <| rfl
    rw [e1,hμ]
    rfl
   rw [e]
   rfl
 ·have e:ZdW.R y0 y1 y2 y3 = (1,(false,(y3,()))):=by unfold ZdW.R; rw [ZdW.S]; exact (cond_f h1).trans <| rfl
  rw [e]
  rfl
theorem ZdW.g (hG:∀c∈[ZdV.c],Good Tryz.prog c):LGood Tryz.prog Tryz.f103.ntmps ZdW.d.ctr (bodyAt Tryz.f103 0):=by
 refine lgoodS (sp:=[]) (LL:=[]) hG (by kernel_rfl) (by rw [show loopsOf (bodyAt Tryz.f103 0) = [] from by kernel_rfl]; exact noL rfl) fun s hp=>?_
 refine Eq.mpr (ZdW.w s.1 s.2.1 s.2.2.1 s.2.2.2.1) ?_
 replace hp:ZdW.P s.1 s.2.1 s.2.2.1 s.2.2.2.1:=hp
 exact ZdW.v _ _ _ _ hp
def ZdW.E (y0:List St) (y1:List St) (y2:Bool) (k:Nat) (a:Unit):Option (Nat×Bool×Int×Unit):=bif !(ZdV.S (y0.getD k zSt) (y1.getD k zSt)) then some (0,(false,((k:Int),()))) else none
def ZdW.A (y0:List St) (y1:List St) (y2:Bool) (k:Nat) (a:Unit):Unit:=bif !(ZdV.S (y0.getD k zSt) (y1.getD k zSt)) then a else ()
def ZdW.fin (y0:List St) (y1:List St) (y2:Bool) (k:Nat) (a:Unit):Nat×Bool×Int×Unit:=(1,(false,((k:Int),())))
def ZdW.acc (y0:List St) (y1:List St) (y2:Bool) (a:Unit):Nat→Unit
 | 0=>a
 | k + 1=>ZdW.A y0 y1 y2 k (ZdW.acc y0 y1 y2 a k)
theorem ZdW.law (y0:List St) (y1:List St) (y2:Bool) (a:Unit) (n:Nat) (hT:(y0.length:Int) = (n:Int)) (hn:(n:Int)≤9223372036854775807) :
  ((∀k,k < n→ZdW.E y0 y1 y2 k (ZdW.acc y0 y1 y2 a k) = none)∧ZdW.R y0 y1 y2 0 = ZdW.fin y0 y1 y2 n (ZdW.acc y0 y1 y2 a n))∨(∃k r,k < n∧ZdW.E y0 y1 y2 k (ZdW.acc y0 y1 y2 a k) = some r∧(∀j,j < k→ZdW.E y0 y1 y2 j (ZdW.acc y0 y1 y2 a j) = none)∧ZdW.R y0 y1 y2 0 = r):=by
 have hM:ZdW.M y0 y1 y2 0 + 1 = n + 1:=by simp only [ZdW.M]; omega
 unfold ZdW.R
 rw [hM]
 refine loopE (fun m i b=>ZdW.S m y0 y1 y2 i) n hn (ZdW.acc y0 y1 y2 a) (ZdW.E y0 y1 y2 ) (ZdW.fin y0 y1 y2 ) fun m k hk=>?_
 have ha:ZdW.acc y0 y1 y2 a (k + 1) = ZdW.A y0 y1 y2 k (ZdW.acc y0 y1 y2 a k):=rfl
 rw [ha]
 generalize ZdW.acc y0 y1 y2 a k = b
 simp only [ZdW.S,ZdW.E,ZdW.A,ZdW.fin,hT,Int.toNat_natCast]
 all_goals grind
theorem ZdX.w (a0:List St) (a1:List St) (K:AV→List Blk→Prop):evFn (envS [ZdV.c] []) [ZdW.d.ctr] [] [] Tryz.f103 [] (ZdX.L.enc (a0,(a1,()))) K = (And (Imp (((a0.length:Int) != (a1.length:Int)) = true) (K (.v (.c (.bool false))) ([]))) (Imp (((a0.length:Int) != (a1.length:Int)) = false) (And (ZdW.P a0 a1 false 0) (And (Imp (Nat.beq (ZdW.R a0 a1 false 0).1 0 = true) (K (.v (.c (.bool (ZdW.R a0 a1 false 0).2.1))) ([]))) (Imp (Nat.beq (ZdW.R a0 a1 false 0).1 0 = false) (K (.v (.c (.bool true))) ([]))))))):=by kernel_rfl
theorem ZdX.v (a0:List St) (a1:List St) (hf:stsFact a0∧stsFact a1∧True) (K:AV→List Blk→Prop) (hK:K (ZdX.enc (ZdX.S a0 a1)).1 (ZdX.enc (ZdX.S a0 a1)).2):And (Imp (((a0.length:Int) != (a1.length:Int)) = true) (K (.v (.c (.bool false))) ([]))) (Imp (((a0.length:Int) != (a1.length:Int)) = false) (And (ZdW.P a0 a1 false 0) (And (Imp (Nat.beq (ZdW.R a0 a1 false 0).1 0 = true) (K (.v (.c (.bool (ZdW.R a0 a1 false 0).2.1))) ([]))) (Imp (Nat.beq (ZdW.R a0 a1 false 0).1 0 = false) (K (.v (.c (.bool true))) ([])))))):=by
 obtain ⟨f0,f1,-⟩:=hf
 try simp only [big] at *
 refine ⟨fun h1=>?_,fun h1=>?_⟩
 ·have e:ZdX.S a0 a1 = (false):=by unfold ZdX.S; exact (cond_t h1).trans <| rfl
  rw [e] at hK
  exact hK
 ·refine ⟨by simp only [ZdW.P]; refine ⟨(by clear hK; first | exact True.intro | assumption | omega | grind [wrap_id,sts_1,sts_2]),(by clear hK; first | exact True.intro | assumption | omega | grind [wrap_id,sts_1,sts_2]),(by clear hK; first | exact True.intro | assumption | omega | grind [wrap_id,sts_1,sts_2]),(by clear hK; first | exact True.intro | assumption | omega | grind [wrap_id,sts_1,sts_2]),(by clear hK; first | exact True.intro | assumption | omega | grind [wrap_id,sts_1,sts_2])⟩,?_⟩
  refine ⟨fun h2=>?_,fun h2=>?_⟩
  ·have e:ZdX.S a0 a1 = ((ZdW.R a0 a1 false 0).2.1):=by unfold ZdX.S; exact (cond_f h1).trans <| (cond_t h2).trans <| rfl
   rw [e] at hK
   exact hK
  ·have e:ZdX.S a0 a1 = (true):=by unfold ZdX.S; exact (cond_f h1).trans <| (cond_f h2).trans <| rfl
   rw [e] at hK
   exact hK
theorem ZdX.good:Good Tryz.prog ZdX.c :=
 vgood (sh:=[]) (sp:=[]) (LL:=[ZdW.d.ctr]) (consG ZdV.good noG) (fn:=Tryz.f103) (by kernel_rfl) (by kernel_rfl) (by rw [show loopsOf (bodyOf Tryz.f103) = [(bodyAt Tryz.f103 0)] from by kernel_rfl]; exact consL (l:=ZdW.d.ctr) (by kernel_rfl) (ZdW.g (consG ZdV.good noG)) (noL rfl)) fun s hp hf=>by
  exact Eq.mpr (ZdX.w (s.1) (s.2.1) (fun r bs'=>And (r = (ZdX.c.out s).1) (bs' = (ZdX.c.out s).2))) (ZdX.v (s.1) (s.2.1) hf (fun r bs'=>And (r = (ZdX.c.out s).1) (bs' = (ZdX.c.out s).2)) ⟨rfl,rfl⟩)
def ZdY.S (a0:Ch) (a1:Ch):Bool:=bif a0.id != a1.id then (false) else bif !(ZdP.S a0.bank a1.bank) then (false) else bif !(ZdV.S a0.st a1.st) then (false) else bif !(ZdX.S a0.past a1.past) then (false) else bif !(ZdO.S a0.knows a1.knows) then (false) else (true)
def ZdY.enc (r:Bool):AV×List Blk:=(.v (.c (.bool r)),[])
def ZdY.L:ShL:=sCons sCh (sCons sCh (sNil))
def ZdY.c:Ctr:=vctr 54 ZdY.L none (fun s=>ZdY.enc (ZdY.S s.1 s.2.1))
theorem ZdY.w (a0:Ch) (a1:Ch) (K:AV→List Blk→Prop):evFn (envS [ZdP.c,ZdV.c,ZdX.c,ZdO.c] []) [] [] [] Tryz.f54 [] (ZdY.L.enc (a0,(a1,()))) K = (And (Imp ((a0.id != a1.id) = true) (K (.v (.c (.bool false))) ([]))) (Imp ((a0.id != a1.id) = false) (And (Imp ((!(ZdP.S a0.bank a1.bank)) = true) (K (.v (.c (.bool false))) ([]))) (Imp ((!(ZdP.S a0.bank a1.bank)) = false) (And (Imp ((!(ZdV.S a0.st a1.st)) = true) (K (.v (.c (.bool false))) ([]))) (Imp ((!(ZdV.S a0.st a1.st)) = false) (And (Imp ((!(ZdX.S a0.past a1.past)) = true) (K (.v (.c (.bool false))) ([]))) (Imp ((!(ZdX.S a0.past a1.past)) = false) (And (Imp ((!(ZdO.S a0.knows a1.knows)) = true) (K (.v (.c (.bool false))) ([]))) (Imp ((!(ZdO.S a0.knows a1.knows)) = false) (K (.v (.c (.bool true))) ([])))))))))))):=by kernel_rfl
theorem ZdY.v (a0:Ch) (a1:Ch) (hf:Ch.fact a0∧Ch.fact a1∧True) (K:AV→List Blk→Prop) (hK:K (ZdY.enc (ZdY.S a0 a1)).1 (ZdY.enc (ZdY.S a0 a1)).2):And (Imp ((a0.id != a1.id) = true) (K (.v (.c (.bool false))) ([]))) (Imp ((a0.id != a1.id) = false) (And (Imp ((!(ZdP.S a0.bank a1.bank)) = true) (K (.v (.c (.bool false))) ([]))) (Imp ((!(ZdP.S a0.bank a1.bank)) = false) (And (Imp ((!(ZdV.S a0.st a1.st)) = true) (K (.v (.c (.bool false))) ([]))) (Imp ((!(ZdV.S a0.st a1.st)) = false) (And (Imp ((!(ZdX.S a0.past a1.past)) = true) (K (.v (.c (.bool false))) ([]))) (Imp ((!(ZdX.S a0.past a1.past)) = false) (And (Imp ((!(ZdO.S a0.knows a1.knows)) = true) (K (.v (.c (.bool false))) ([]))) (Imp ((!(ZdO.S a0.knows a1.knows)) = false) (K (.v (.c (.bool true))) ([]))))))))))):=by
 obtain ⟨f0,f1,-⟩:=hf
 obtain ⟨⟨f0_0,f0_1⟩,⟨f0_2,f0_3,f0_4,f0_5⟩,f0_6,f0_7⟩:=f0
 obtain ⟨⟨f1_0,f1_1⟩,⟨f1_2,f1_3,f1_4,f1_5⟩,f1_6,f1_7⟩:=f1
 try simp only [big] at *
 refine ⟨fun h1=>?_,fun h1=>?_⟩
 ·have e:ZdY.S a0 a1 = (false):=by unfold ZdY.S; exact (cond_t h1).trans <| rfl
  rw [e] at hK
  exact hK
 ·refine ⟨fun h2=>?_,fun h2=>?_⟩
  ·have e:ZdY.S a0 a1 = (false):=by unfold ZdY.S; exact (cond_f h1).trans <| (cond_t h2).trans <| rfl
   rw [e] at hK
   exact hK
  ·refine ⟨fun h3=>?_,fun h3=>?_⟩
   ·have e:ZdY.S a0 a1 = (false):=by unfold ZdY.S; exact (cond_f h1).trans <| (cond_f h2).trans <| (cond_t h3).trans <| rfl
    rw [e] at hK
    exact hK
   ·refine ⟨fun h4=>?_,fun h4=>?_⟩
    ·have e:ZdY.S a0 a1 = (false):=by unfold ZdY.S; exact (cond_f h1).trans <| (cond_f h2).trans <| (cond_f h3).trans <| (cond_t h4).trans <| rfl
     rw [e] at hK
     exact hK
    ·refine ⟨fun h5=>?_,fun h5=>?_⟩
     ·have e:ZdY.S a0 a1 = (false):=by unfold ZdY.S; exact (cond_f h1).trans <| (cond_f h2).trans <| (cond_f h3).trans <| (cond_f h4).trans <| (cond_t h5).trans <| rfl
      rw [e] at hK
      exact hK
     ·have e:ZdY.S a0 a1 = (true):=by unfold ZdY.S; exact (cond_f h1).trans <| (cond_f h2).trans <| (cond_f h3).trans <| (cond_f h4).trans <| (cond_f h5).trans <| rfl
      rw [e] at hK
      exact hK
theorem ZdY.good:Good Tryz.prog ZdY.c :=
 vgood (sh:=[]) (sp:=[]) (LL:=[]) (consG ZdP.good (consG ZdV.good (consG ZdX.good (consG ZdO.good noG)))) (fn:=Tryz.f54) (by kernel_rfl) (by kernel_rfl) (by rw [show loopsOf (bodyOf Tryz.f54) = [] from by kernel_rfl]; exact noL rfl) fun s hp hf=>by
  exact Eq.mpr (ZdY.w (s.1) (s.2.1) (fun r bs'=>And (r = (ZdY.c.out s).1) (bs' = (ZdY.c.out s).2))) (ZdY.v (s.1) (s.2.1) hf (fun r bs'=>And (r = (ZdY.c.out s).1) (bs' = (ZdY.c.out s).2)) ⟨rfl,rfl⟩)
def ZdZ.S:Nat→(List Ch)→(List Ch)→Bool→Int→Nat×Bool×Int×Unit
 | 0,_,_,_,_=>(0,(false,(0,())))
 | n + 1,y0,y1,y2,y3=>bif decide (y3 < (y0.length:Int)) then bif !(ZdY.S (y0.getD (y3).toNat zCh) (y1.getD (y3).toNat zCh)) then (0,(false,(y3,()))) else ZdZ.S n y0 y1 y2 (wrap (y3 + 1)) else (1,(false,(y3,())))
def ZdZ.M (y0:List Ch) (y1:List Ch) (y2:Bool) (y3:Int):Nat:=((y0.length:Int) - y3).toNat
def ZdZ.R (y0:List Ch) (y1:List Ch) (y2:Bool) (y3:Int):Nat×Bool×Int×Unit:=ZdZ.S (ZdZ.M y0 y1 y2 y3 + 1) y0 y1 y2 y3
def ZdZ.P (y0:List Ch) (y1:List Ch) (y2:Bool) (y3:Int):Prop:=(0≤y3)∧((y0.length:Int)≤9223372036854775807)∧(chsFact y0)∧(chsFact y1)∧(((y0.length:Int) != (y1.length:Int)) = false)
def ZdZ.L:FL:=fCons (fC (cArr false kChs)) (fCons (fC (cArr false kChs)) (fCons (fC cBool) (fCons (fC cInt) (fNil))))
def ZdZ.o0 (y0:List Ch) (y1:List Ch) (y2:Bool) (y3:Int) (r:Nat×Bool×Int×Unit):Ex×List FV×List Blk:=(.ret,[.c (.arr false (.chs y0)),.c (.arr false (.chs y1)),.c (.bool r.2.1),.c (.int r.2.2.1)],[])
def ZdZ.o1 (y0:List Ch) (y1:List Ch) (y2:Bool) (y3:Int) (r:Nat×Bool×Int×Unit):Ex×List FV×List Blk:=(.exit 0,[.c (.arr false (.chs y0)),.c (.arr false (.chs y1)),.c (.bool y2),.c (.int r.2.2.1)],[])
def ZdZ.o (y0:List Ch) (y1:List Ch) (y2:Bool) (y3:Int) (r:Nat×Bool×Int×Unit):Ex×List FV×List Blk:=pickAlt [(Nat.beq r.1 0,ZdZ.o0 y0 y1 y2 y3 r)] (ZdZ.o1 y0 y1 y2 y3 r)
def ZdZ.d:LDat:=ldat 4 [0,1,4,5] [] ZdZ.L (fun s=>ZdZ.P s.1 s.2.1 s.2.2.1 s.2.2.2.1) (fun s=>[(Nat.beq (ZdZ.R s.1 s.2.1 s.2.2.1 s.2.2.2.1).1 0,ZdZ.o0 s.1 s.2.1 s.2.2.1 s.2.2.2.1 (ZdZ.R s.1 s.2.1 s.2.2.1 s.2.2.2.1))]) (fun s=>ZdZ.o1 s.1 s.2.1 s.2.2.1 s.2.2.2.1 (ZdZ.R s.1 s.2.1 s.2.2.1 s.2.2.2.1)) (fun s=>ZdZ.M s.1 s.2.1 s.2.2.1 s.2.2.2.1)
def Zd0.S (a0:List Ch) (a1:List Ch):Bool:=bif (a0.length:Int) != (a1.length:Int) then (false) else bif Nat.beq (ZdZ.R a0 a1 false 0).1 0 then ((ZdZ.R a0 a1 false 0).2.1) else (true)
def Zd0.enc (r:Bool):AV×List Blk:=(.v (.c (.bool r)),[])
def Zd0.L:ShL:=sCons sChs (sCons sChs (sNil))
def Zd0.c:Ctr:=vctr 27 Zd0.L none (fun s=>Zd0.enc (Zd0.S s.1 s.2.1))
theorem ZdZ.w (y0:List Ch) (y1:List Ch) (y2:Bool) (y3:Int):evBody (envS [ZdY.c] []) [] (bodyAt Tryz.f27 0) ZdZ.d (y0,(y1,(y2,(y3,())))) = (And (Imp ((decide (y3 < (y0.length:Int))) = true) (And ((0:Int)≤y3∧y3 < (y0.length:Int)) (And ((0:Int)≤y3∧y3 < (y1.length:Int)) (And (Imp ((!(ZdY.S (y0.getD (y3).toNat zCh) (y1.getD (y3).toNat zCh))) = true) (ZdZ.o y0 y1 y2 y3 (ZdZ.R y0 y1 y2 y3) = (.ret,[.c (.arr false (.chs y0)),.c (.arr false (.chs y1)),.c (.bool false),.c (.int y3)],[]))) (Imp ((!(ZdY.S (y0.getD (y3).toNat zCh) (y1.getD (y3).toNat zCh))) = false) (And (ZdZ.P y0 y1 y2 (wrap (y3 + 1))) (And (ZdZ.M y0 y1 y2 (wrap (y3 + 1)) < ZdZ.M y0 y1 y2 y3) (ZdZ.o y0 y1 y2 (wrap (y3 + 1)) (ZdZ.R y0 y1 y2 (wrap (y3 + 1))) = ZdZ.o y0 y1 y2 y3 (ZdZ.R y0 y1 y2 y3))))))))) (Imp ((decide (y3 < (y0.length:Int))) = false) (ZdZ.o y0 y1 y2 y3 (ZdZ.R y0 y1 y2 y3) = (.exit 0,[.c (.arr false (.chs y0)),.c (.arr false (.chs y1)),.c (.bool y2),.c (.int y3)],[])))):=by kernel_rfl
theorem ZdZ.v (y0:List Ch) (y1:List Ch) (y2:Bool) (y3:Int) (hp:ZdZ.P y0 y1 y2 y3):And (Imp ((decide (y3 < (y0.length:Int))) = true) (And ((0:Int)≤y3∧y3 < (y0.length:Int)) (And ((0:Int)≤y3∧y3 < (y1.length:Int)) (And (Imp ((!(ZdY.S (y0.getD (y3).toNat zCh) (y1.getD (y3).toNat zCh))) = true) (ZdZ.o y0 y1 y2 y3 (ZdZ.R y0 y1 y2 y3) = (.ret,[.c (.arr false (.chs y0)),.c (.arr false (.chs y1)),.c (.bool false),.c (.int y3)],[]))) (Imp ((!(ZdY.S (y0.getD (y3).toNat zCh) (y1.getD (y3).toNat zCh))) = false) (And (ZdZ.P y0 y1 y2 (wrap (y3 + 1))) (And (ZdZ.M y0 y1 y2 (wrap (y3 + 1)) < ZdZ.M y0 y1 y2 y3) (ZdZ.o y0 y1 y2 (wrap (y3 + 1)) (ZdZ.R y0 y1 y2 (wrap (y3 + 1))) = ZdZ.o y0 y1 y2 y3 (ZdZ.R y0 y1 y2 y3))))))))) (Imp ((decide (y3 < (y0.length:Int))) = false) (ZdZ.o y0 y1 y2 y3 (ZdZ.R y0 y1 y2 y3) = (.exit 0,[.c (.arr false (.chs y0)),.c (.arr false (.chs y1)),.c (.bool y2),.c (.int y3)],[]))):=by
 simp only [ZdZ.P] at hp
 obtain ⟨p0,p1,p2,p3,p4⟩:=hp
 refine ⟨fun h1=>?_,fun h1=>?_⟩
 ·refine ⟨by first | exact True.intro | assumption | omega | grind [wrap_id,chs_1,chs_2,chs_3,chs_4,chs_5],?_⟩
  refine ⟨by first | exact True.intro | assumption | omega | grind [wrap_id,chs_1,chs_2,chs_3,chs_4,chs_5],?_⟩
  refine ⟨fun h2=>?_,fun h2=>?_⟩
  ·have e:ZdZ.R y0 y1 y2 y3 = (0,(false,(y3,()))):=by unfold ZdZ.R; rw [ZdZ.S]; exact (cond_t h1).trans <| (cond_t h2).trans <| rfl
   rw [e]
   rfl
  ·have hμ:ZdZ.M y0 y1 y2 y3 = ZdZ.M y0 y1 y2 (wrap (y3 + 1)) + 1:=by simp only [ZdZ.M]; first | omega | grind [wrap_id]
   refine ⟨by simp only [ZdZ.P]; refine ⟨(by first | exact True.intro | assumption | omega | grind [wrap_id,chs_1,chs_2,chs_3,chs_4,chs_5]),(by first | exact True.intro | assumption | omega | grind [wrap_id,chs_1,chs_2,chs_3,chs_4,chs_5]),(by first | exact True.intro | assumption | omega | grind [wrap_id,chs_1,chs_2,chs_3,chs_4,chs_5]),(by first | exact True.intro | assumption | omega | grind [wrap_id,chs_1,chs_2,chs_3,chs_4,chs_5]),(by first | exact True.intro | assumption | omega | grind [wrap_id,chs_1,chs_2,chs_3,chs_4,chs_5])⟩,by omega,?_⟩
   have e:ZdZ.R y0 y1 y2 y3 = ZdZ.R y0 y1 y2 (wrap (y3 + 1)):=by
    have e1:ZdZ.R y0 y1 y2 y3 = ZdZ.S (ZdZ.M y0 y1 y2 y3) y0 y1 y2 (wrap (y3 + 1)):=by unfold ZdZ.R; rw [ZdZ.S]; exact (cond_t h1).trans <| (cond_f h2).trans <| rfl
    rw [e1,hμ]
    rfl
   rw [e]
   rfl
 ·have e:ZdZ.R y0 y1 y2 y3 = (1,(false,(y3,()))):=by unfold ZdZ.R; rw [ZdZ.S]; exact (cond_f h1).trans <| rfl
  rw [e]
  rfl
theorem ZdZ.g (hG:∀c∈[ZdY.c],Good Tryz.prog c):LGood Tryz.prog Tryz.f27.ntmps ZdZ.d.ctr (bodyAt Tryz.f27 0):=by
 refine lgoodS (sp:=[]) (LL:=[]) hG (by kernel_rfl) (by rw [show loopsOf (bodyAt Tryz.f27 0) = [] from by kernel_rfl]; exact noL rfl) fun s hp=>?_
 refine Eq.mpr (ZdZ.w s.1 s.2.1 s.2.2.1 s.2.2.2.1) ?_
 replace hp:ZdZ.P s.1 s.2.1 s.2.2.1 s.2.2.2.1:=hp
 exact ZdZ.v _ _ _ _ hp
def ZdZ.E (y0:List Ch) (y1:List Ch) (y2:Bool) (k:Nat) (a:Unit):Option (Nat×Bool×Int×Unit):=bif !(ZdY.S (y0.getD k zCh) (y1.getD k zCh)) then some (0,(false,((k:Int),()))) else none
def ZdZ.A (y0:List Ch) (y1:List Ch) (y2:Bool) (k:Nat) (a:Unit):Unit:=bif !(ZdY.S (y0.getD k zCh) (y1.getD k zCh)) then a else ()
def ZdZ.fin (y0:List Ch) (y1:List Ch) (y2:Bool) (k:Nat) (a:Unit):Nat×Bool×Int×Unit:=(1,(false,((k:Int),())))
def ZdZ.acc (y0:List Ch) (y1:List Ch) (y2:Bool) (a:Unit):Nat→Unit
 | 0=>a
 | k + 1=>ZdZ.A y0 y1 y2 k (ZdZ.acc y0 y1 y2 a k)
theorem ZdZ.law (y0:List Ch) (y1:List Ch) (y2:Bool) (a:Unit) (n:Nat) (hT:(y0.length:Int) = (n:Int)) (hn:(n:Int)≤9223372036854775807) :
  ((∀k,k < n→ZdZ.E y0 y1 y2 k (ZdZ.acc y0 y1 y2 a k) = none)∧ZdZ.R y0 y1 y2 0 = ZdZ.fin y0 y1 y2 n (ZdZ.acc y0 y1 y2 a n))∨(∃k r,k < n∧ZdZ.E y0 y1 y2 k (ZdZ.acc y0 y1 y2 a k) = some r∧(∀j,j < k→ZdZ.E y0 y1 y2 j (ZdZ.acc y0 y1 y2 a j) = none)∧ZdZ.R y0 y1 y2 0 = r):=by
 have hM:ZdZ.M y0 y1 y2 0 + 1 = n + 1:=by simp only [ZdZ.M]; omega
 unfold ZdZ.R
 rw [hM]
 refine loopE (fun m i b=>ZdZ.S m y0 y1 y2 i) n hn (ZdZ.acc y0 y1 y2 a) (ZdZ.E y0 y1 y2 ) (ZdZ.fin y0 y1 y2 ) fun m k hk=>?_
 have ha:ZdZ.acc y0 y1 y2 a (k + 1) = ZdZ.A y0 y1 y2 k (ZdZ.acc y0 y1 y2 a k):=rfl
 rw [ha]
 generalize ZdZ.acc y0 y1 y2 a k = b
 simp only [ZdZ.S,ZdZ.E,ZdZ.A,ZdZ.fin,hT,Int.toNat_natCast]
 all_goals grind
theorem Zd0.w (a0:List Ch) (a1:List Ch) (K:AV→List Blk→Prop):evFn (envS [ZdY.c] []) [ZdZ.d.ctr] [] [] Tryz.f27 [] (Zd0.L.enc (a0,(a1,()))) K = (And (Imp (((a0.length:Int) != (a1.length:Int)) = true) (K (.v (.c (.bool false))) ([]))) (Imp (((a0.length:Int) != (a1.length:Int)) = false) (And (ZdZ.P a0 a1 false 0) (And (Imp (Nat.beq (ZdZ.R a0 a1 false 0).1 0 = true) (K (.v (.c (.bool (ZdZ.R a0 a1 false 0).2.1))) ([]))) (Imp (Nat.beq (ZdZ.R a0 a1 false 0).1 0 = false) (K (.v (.c (.bool true))) ([]))))))):=by kernel_rfl
theorem Zd0.v (a0:List Ch) (a1:List Ch) (hf:chsFact a0∧chsFact a1∧True) (K:AV→List Blk→Prop) (hK:K (Zd0.enc (Zd0.S a0 a1)).1 (Zd0.enc (Zd0.S a0 a1)).2):And (Imp (((a0.length:Int) != (a1.length:Int)) = true) (K (.v (.c (.bool false))) ([]))) (Imp (((a0.length:Int) != (a1.length:Int)) = false) (And (ZdZ.P a0 a1 false 0) (And (Imp (Nat.beq (ZdZ.R a0 a1 false 0).1 0 = true) (K (.v (.c (.bool (ZdZ.R a0 a1 false 0).2.1))) ([]))) (Imp (Nat.beq (ZdZ.R a0 a1 false 0).1 0 = false) (K (.v (.c (.bool true))) ([])))))):=by
 obtain ⟨f0,f1,-⟩:=hf
 try simp only [big] at *
 refine ⟨fun h1=>?_,fun h1=>?_⟩
 ·have e:Zd0.S a0 a1 = (false):=by unfold Zd0.S; exact (cond_t h1).trans <| rfl
  rw [e] at hK
  exact hK
 ·refine ⟨by simp only [ZdZ.P]; refine ⟨(by clear hK; first | exact True.intro | assumption | omega | grind [wrap_id,chs_1,chs_2,chs_3,chs_4,chs_5]),(by clear hK; first | exact True.intro | assumption | omega | grind [wrap_id,chs_1,chs_2,chs_3,chs_4,chs_5]),(by clear hK; first | exact True.intro | assumption | omega | grind [wrap_id,chs_1,chs_2,chs_3,chs_4,chs_5]),(by clear hK; first | exact True.intro | assumption | omega | grind [wrap_id,chs_1,chs_2,chs_3,chs_4,chs_5]),(by clear hK; first | exact True.intro | assumption | omega | grind [wrap_id,chs_1,chs_2,chs_3,chs_4,chs_5])⟩,?_⟩
  refine ⟨fun h2=>?_,fun h2=>?_⟩
  ·have e:Zd0.S a0 a1 = ((ZdZ.R a0 a1 false 0).2.1):=by unfold Zd0.S; exact (cond_f h1).trans <| (cond_t h2).trans <| rfl
   rw [e] at hK
   exact hK
  ·have e:Zd0.S a0 a1 = (true):=by unfold Zd0.S; exact (cond_f h1).trans <| (cond_f h2).trans <| rfl
   rw [e] at hK
   exact hK
theorem Zd0.good:Good Tryz.prog Zd0.c :=
 vgood (sh:=[]) (sp:=[]) (LL:=[ZdZ.d.ctr]) (consG ZdY.good noG) (fn:=Tryz.f27) (by kernel_rfl) (by kernel_rfl) (by rw [show loopsOf (bodyOf Tryz.f27) = [(bodyAt Tryz.f27 0)] from by kernel_rfl]; exact consL (l:=ZdZ.d.ctr) (by kernel_rfl) (ZdZ.g (consG ZdY.good noG)) (noL rfl)) fun s hp hf=>by
  exact Eq.mpr (Zd0.w (s.1) (s.2.1) (fun r bs'=>And (r = (Zd0.c.out s).1) (bs' = (Zd0.c.out s).2))) (Zd0.v (s.1) (s.2.1) hf (fun r bs'=>And (r = (Zd0.c.out s).1) (bs' = (Zd0.c.out s).2)) ⟨rfl,rfl⟩)
def Zd1.S (a0:List Ch) (a1:List Ch):Bool:=bif !(Zd0.S a0 a1) then (false) else (true)
def Zd1.enc (r:Bool):AV×List Blk:=(.v (.c (.bool r)),[])
def Zd1.L:ShL:=sCons sW (sCons sW (sNil))
def Zd1.c:Ctr:=vctr 10 Zd1.L none (fun s=>Zd1.enc (Zd1.S s.1 s.2.1))
theorem Zd1.w (a0:List Ch) (a1:List Ch) (K:AV→List Blk→Prop):evFn (envS [Zd0.c] []) [] [] [] Tryz.f10 [] (Zd1.L.enc (a0,(a1,()))) K = (And (Imp ((!(Zd0.S a0 a1)) = true) (K (.v (.c (.bool false))) ([]))) (Imp ((!(Zd0.S a0 a1)) = false) (K (.v (.c (.bool true))) ([])))):=by kernel_rfl
theorem Zd1.v (a0:List Ch) (a1:List Ch) (hf:chsFact a0∧chsFact a1∧True) (K:AV→List Blk→Prop) (hK:K (Zd1.enc (Zd1.S a0 a1)).1 (Zd1.enc (Zd1.S a0 a1)).2):And (Imp ((!(Zd0.S a0 a1)) = true) (K (.v (.c (.bool false))) ([]))) (Imp ((!(Zd0.S a0 a1)) = false) (K (.v (.c (.bool true))) ([]))):=by
 obtain ⟨f0,f1,-⟩:=hf
 try simp only [big] at *
 refine ⟨fun h1=>?_,fun h1=>?_⟩
 ·have e:Zd1.S a0 a1 = (false):=by unfold Zd1.S; exact (cond_t h1).trans <| rfl
  rw [e] at hK
  exact hK
 ·have e:Zd1.S a0 a1 = (true):=by unfold Zd1.S; exact (cond_f h1).trans <| rfl
  rw [e] at hK
  exact hK
theorem Zd1.good:Good Tryz.prog Zd1.c :=
 vgood (sh:=[]) (sp:=[]) (LL:=[]) (consG Zd0.good noG) (fn:=Tryz.f10) (by kernel_rfl) (by kernel_rfl) (by rw [show loopsOf (bodyOf Tryz.f10) = [] from by kernel_rfl]; exact noL rfl) fun s hp hf=>by
  exact Eq.mpr (Zd1.w (s.1) (s.2.1) (fun r bs'=>And (r = (Zd1.c.out s).1) (bs' = (Zd1.c.out s).2))) (Zd1.v (s.1) (s.2.1) hf (fun r bs'=>And (r = (Zd1.c.out s).1) (bs' = (Zd1.c.out s).2)) ⟨rfl,rfl⟩)
def ZeA.S (a0:Ev) (a1:Ev):Bool:=bif a0.kind != a1.kind then (false) else bif a0.chain != a1.chain then (false) else bif a0.height != a1.height then (false) else bif a0.n != a1.n then (false) else bif !(ZdQ.S a0.pkt a1.pkt) then (false) else (true)
def ZeA.enc (r:Bool):AV×List Blk:=(.v (.c (.bool r)),[])
def ZeA.L:ShL:=sCons sEv (sCons sEv (sNil))
def ZeA.c:Ctr:=vctr 28 ZeA.L none (fun s=>ZeA.enc (ZeA.S s.1 s.2.1))
theorem ZeA.w (a0:Ev) (a1:Ev) (K:AV→List Blk→Prop):evFn (envS [ZdQ.c] []) [] [] [] Tryz.f28 [] (ZeA.L.enc (a0,(a1,()))) K = (And (Imp ((a0.kind != a1.kind) = true) (K (.v (.c (.bool false))) ([]))) (Imp ((a0.kind != a1.kind) = false) (And (Imp ((a0.chain != a1.chain) = true) (K (.v (.c (.bool false))) ([]))) (Imp ((a0.chain != a1.chain) = false) (And (Imp ((a0.height != a1.height) = true) (K (.v (.c (.bool false))) ([]))) (Imp ((a0.height != a1.height) = false) (And (Imp ((a0.n != a1.n) = true) (K (.v (.c (.bool false))) ([]))) (Imp ((a0.n != a1.n) = false) (And (Imp ((!(ZdQ.S a0.pkt a1.pkt)) = true) (K (.v (.c (.bool false))) ([]))) (Imp ((!(ZdQ.S a0.pkt a1.pkt)) = false) (K (.v (.c (.bool true))) ([])))))))))))):=by kernel_rfl
theorem ZeA.v (a0:Ev) (a1:Ev) (hf:True∧True∧True) (K:AV→List Blk→Prop) (hK:K (ZeA.enc (ZeA.S a0 a1)).1 (ZeA.enc (ZeA.S a0 a1)).2):And (Imp ((a0.kind != a1.kind) = true) (K (.v (.c (.bool false))) ([]))) (Imp ((a0.kind != a1.kind) = false) (And (Imp ((a0.chain != a1.chain) = true) (K (.v (.c (.bool false))) ([]))) (Imp ((a0.chain != a1.chain) = false) (And (Imp ((a0.height != a1.height) = true) (K (.v (.c (.bool false))) ([]))) (Imp ((a0.height != a1.height) = false) (And (Imp ((a0.n != a1.n) = true) (K (.v (.c (.bool false))) ([]))) (Imp ((a0.n != a1.n) = false) (And (Imp ((!(ZdQ.S a0.pkt a1.pkt)) = true) (K (.v (.c (.bool false))) ([]))) (Imp ((!(ZdQ.S a0.pkt a1.pkt)) = false) (K (.v (.c (.bool true))) ([]))))))))))):=by
 clear hf
 refine ⟨fun h1=>?_,fun h1=>?_⟩
 ·have e:ZeA.S a0 a1 = (false):=by unfold ZeA.S; exact (cond_t h1).trans <| rfl
  rw [e] at hK
  exact hK
 ·refine ⟨fun h2=>?_,fun h2=>?_⟩
  ·have e:ZeA.S a0 a1 = (false):=by unfold ZeA.S; exact (cond_f h1).trans <| (cond_t h2).trans <| rfl
   rw [e] at hK
   exact hK
  ·refine ⟨fun h3=>?_,fun h3=>?_⟩
   ·have e:ZeA.S a0 a1 = (false):=by unfold ZeA.S; exact (cond_f h1).trans <| (cond_f h2).trans <| (cond_t h3).trans <| rfl
    rw [e] at hK
    exact hK
   ·refine ⟨fun h4=>?_,fun h4=>?_⟩
    ·have e:ZeA.S a0 a1 = (false):=by unfold ZeA.S; exact (cond_f h1).trans <| (cond_f h2).trans <| (cond_f h3).trans <| (cond_t h4).trans <| rfl
     rw [e] at hK
     exact hK
    ·refine ⟨fun h5=>?_,fun h5=>?_⟩
     ·have e:ZeA.S a0 a1 = (false):=by unfold ZeA.S; exact (cond_f h1).trans <| (cond_f h2).trans <| (cond_f h3).trans <| (cond_f h4).trans <| (cond_t h5).trans <| rfl
      rw [e] at hK
      exact hK
     ·have e:ZeA.S a0 a1 = (true):=by unfold ZeA.S; exact (cond_f h1).trans <| (cond_f h2).trans <| (cond_f h3).trans <| (cond_f h4).trans <| (cond_f h5).trans <| rfl
      rw [e] at hK
      exact hK
theorem ZeA.good:Good Tryz.prog ZeA.c :=
 vgood (sh:=[]) (sp:=[]) (LL:=[]) (consG ZdQ.good noG) (fn:=Tryz.f28) (by kernel_rfl) (by kernel_rfl) (by rw [show loopsOf (bodyOf Tryz.f28) = [] from by kernel_rfl]; exact noL rfl) fun s hp hf=>by
  exact Eq.mpr (ZeA.w (s.1) (s.2.1) (fun r bs'=>And (r = (ZeA.c.out s).1) (bs' = (ZeA.c.out s).2))) (ZeA.v (s.1) (s.2.1) hf (fun r bs'=>And (r = (ZeA.c.out s).1) (bs' = (ZeA.c.out s).2)) ⟨rfl,rfl⟩)
def ZeB.S:Nat→(List Ev)→(List Ev)→Bool→Int→Nat×Bool×Int×Unit
 | 0,_,_,_,_=>(0,(false,(0,())))
 | n + 1,y0,y1,y2,y3=>bif decide (y3 < (y0.length:Int)) then bif !(ZeA.S (y0.getD (y3).toNat zEv) (y1.getD (y3).toNat zEv)) then (0,(false,(y3,()))) else ZeB.S n y0 y1 y2 (wrap (y3 + 1)) else (1,(false,(y3,())))
def ZeB.M (y0:List Ev) (y1:List Ev) (y2:Bool) (y3:Int):Nat:=((y0.length:Int) - y3).toNat
def ZeB.R (y0:List Ev) (y1:List Ev) (y2:Bool) (y3:Int):Nat×Bool×Int×Unit:=ZeB.S (ZeB.M y0 y1 y2 y3 + 1) y0 y1 y2 y3
def ZeB.P (y0:List Ev) (y1:List Ev) (y2:Bool) (y3:Int):Prop:=(0≤y3)∧((y0.length:Int)≤9223372036854775807)∧(((y0.length:Int) != (y1.length:Int)) = false)
def ZeB.L:FL:=fCons (fC (cArr false kEvs)) (fCons (fC (cArr false kEvs)) (fCons (fC cBool) (fCons (fC cInt) (fNil))))
def ZeB.o0 (y0:List Ev) (y1:List Ev) (y2:Bool) (y3:Int) (r:Nat×Bool×Int×Unit):Ex×List FV×List Blk:=(.ret,[.c (.arr false (.evs y0)),.c (.arr false (.evs y1)),.c (.bool r.2.1),.c (.int r.2.2.1)],[])
def ZeB.o1 (y0:List Ev) (y1:List Ev) (y2:Bool) (y3:Int) (r:Nat×Bool×Int×Unit):Ex×List FV×List Blk:=(.exit 0,[.c (.arr false (.evs y0)),.c (.arr false (.evs y1)),.c (.bool y2),.c (.int r.2.2.1)],[])
def ZeB.o (y0:List Ev) (y1:List Ev) (y2:Bool) (y3:Int) (r:Nat×Bool×Int×Unit):Ex×List FV×List Blk:=pickAlt [(Nat.beq r.1 0,ZeB.o0 y0 y1 y2 y3 r)] (ZeB.o1 y0 y1 y2 y3 r)
def ZeB.d:LDat:=ldat 4 [0,1,4,5] [] ZeB.L (fun s=>ZeB.P s.1 s.2.1 s.2.2.1 s.2.2.2.1) (fun s=>[(Nat.beq (ZeB.R s.1 s.2.1 s.2.2.1 s.2.2.2.1).1 0,ZeB.o0 s.1 s.2.1 s.2.2.1 s.2.2.2.1 (ZeB.R s.1 s.2.1 s.2.2.1 s.2.2.2.1))]) (fun s=>ZeB.o1 s.1 s.2.1 s.2.2.1 s.2.2.2.1 (ZeB.R s.1 s.2.1 s.2.2.1 s.2.2.2.1)) (fun s=>ZeB.M s.1 s.2.1 s.2.2.1 s.2.2.2.1)
def ZeC.S (a0:List Ev) (a1:List Ev):Bool:=bif (a0.length:Int) != (a1.length:Int) then (false) else bif Nat.beq (ZeB.R a0 a1 false 0).1 0 then ((ZeB.R a0 a1 false 0).2.1) else (true)
def ZeC.enc (r:Bool):AV×List Blk:=(.v (.c (.bool r)),[])
def ZeC.L:ShL:=sCons sEvs (sCons sEvs (sNil))
def ZeC.c:Ctr:=vctr 11 ZeC.L none (fun s=>ZeC.enc (ZeC.S s.1 s.2.1))
theorem ZeB.w (y0:List Ev) (y1:List Ev) (y2:Bool) (y3:Int):evBody (envS [ZeA.c] []) [] (bodyAt Tryz.f11 0) ZeB.d (y0,(y1,(y2,(y3,())))) = (And (Imp ((decide (y3 < (y0.length:Int))) = true) (And ((0:Int)≤y3∧y3 < (y0.length:Int)) (And ((0:Int)≤y3∧y3 < (y1.length:Int)) (And (Imp ((!(ZeA.S (y0.getD (y3).toNat zEv) (y1.getD (y3).toNat zEv))) = true) (ZeB.o y0 y1 y2 y3 (ZeB.R y0 y1 y2 y3) = (.ret,[.c (.arr false (.evs y0)),.c (.arr false (.evs y1)),.c (.bool false),.c (.int y3)],[]))) (Imp ((!(ZeA.S (y0.getD (y3).toNat zEv) (y1.getD (y3).toNat zEv))) = false) (And (ZeB.P y0 y1 y2 (wrap (y3 + 1))) (And (ZeB.M y0 y1 y2 (wrap (y3 + 1)) < ZeB.M y0 y1 y2 y3) (ZeB.o y0 y1 y2 (wrap (y3 + 1)) (ZeB.R y0 y1 y2 (wrap (y3 + 1))) = ZeB.o y0 y1 y2 y3 (ZeB.R y0 y1 y2 y3))))))))) (Imp ((decide (y3 < (y0.length:Int))) = false) (ZeB.o y0 y1 y2 y3 (ZeB.R y0 y1 y2 y3) = (.exit 0,[.c (.arr false (.evs y0)),.c (.arr false (.evs y1)),.c (.bool y2),.c (.int y3)],[])))):=by kernel_rfl
theorem ZeB.v (y0:List Ev) (y1:List Ev) (y2:Bool) (y3:Int) (hp:ZeB.P y0 y1 y2 y3):And (Imp ((decide (y3 < (y0.length:Int))) = true) (And ((0:Int)≤y3∧y3 < (y0.length:Int)) (And ((0:Int)≤y3∧y3 < (y1.length:Int)) (And (Imp ((!(ZeA.S (y0.getD (y3).toNat zEv) (y1.getD (y3).toNat zEv))) = true) (ZeB.o y0 y1 y2 y3 (ZeB.R y0 y1 y2 y3) = (.ret,[.c (.arr false (.evs y0)),.c (.arr false (.evs y1)),.c (.bool false),.c (.int y3)],[]))) (Imp ((!(ZeA.S (y0.getD (y3).toNat zEv) (y1.getD (y3).toNat zEv))) = false) (And (ZeB.P y0 y1 y2 (wrap (y3 + 1))) (And (ZeB.M y0 y1 y2 (wrap (y3 + 1)) < ZeB.M y0 y1 y2 y3) (ZeB.o y0 y1 y2 (wrap (y3 + 1)) (ZeB.R y0 y1 y2 (wrap (y3 + 1))) = ZeB.o y0 y1 y2 y3 (ZeB.R y0 y1 y2 y3))))))))) (Imp ((decide (y3 < (y0.length:Int))) = false) (ZeB.o y0 y1 y2 y3 (ZeB.R y0 y1 y2 y3) = (.exit 0,[.c (.arr false (.evs y0)),.c (.arr false (.evs y1)),.c (.bool y2),.c (.int y3)],[]))):=by
 simp only [ZeB.P] at hp
 obtain ⟨p0,p1,p2⟩:=hp
 refine ⟨fun h1=>?_,fun h1=>?_⟩
 ·refine ⟨by first | exact True.intro | assumption | omega | grind [wrap_id],?_⟩
  refine ⟨by first | exact True.intro | assumption | omega | grind [wrap_id],?_⟩
  refine ⟨fun h2=>?_,fun h2=>?_⟩
  ·have e:ZeB.R y0 y1 y2 y3 = (0,(false,(y3,()))):=by unfold ZeB.R; rw [ZeB.S]; exact (cond_t h1).trans <| (cond_t h2).trans <| rfl
   rw [e]
   rfl
  ·have hμ:ZeB.M y0 y1 y2 y3 = ZeB.M y0 y1 y2 (wrap (y3 + 1)) + 1:=by simp only [ZeB.M]; first | omega | grind [wrap_id]
   refine ⟨by simp only [ZeB.P]; refine ⟨(by first | exact True.intro | assumption | omega | grind [wrap_id]),(by first | exact True.intro | assumption | omega | grind [wrap_id]),(by first | exact True.intro | assumption | omega | grind [wrap_id])⟩,by omega,?_⟩
   have e:ZeB.R y0 y1 y2 y3 = ZeB.R y0 y1 y2 (wrap (y3 + 1)):=by
    have e1:ZeB.R y0 y1 y2 y3 = ZeB.S (ZeB.M y0 y1 y2 y3) y0 y1 y2 (wrap (y3 + 1)):=by unfold ZeB.R; rw [ZeB.S]; exact (cond_t h1).trans <| (cond_f h2).trans <| rfl
    rw [e1,hμ]
    rfl
   rw [e]
   rfl
 ·have e:ZeB.R y0 y1 y2 y3 = (1,(false,(y3,()))):=by unfold ZeB.R; rw [ZeB.S]; exact (cond_f h1).trans <| rfl
  rw [e]
  rfl
theorem ZeB.g (hG:∀c∈[ZeA.c],Good Tryz.prog c):LGood Tryz.prog Tryz.f11.ntmps ZeB.d.ctr (bodyAt Tryz.f11 0):=by
 refine lgoodS (sp:=[]) (LL:=[]) hG (by kernel_rfl) (by rw [show loopsOf (bodyAt Tryz.f11 0) = [] from by kernel_rfl]; exact noL rfl) fun s hp=>?_
 refine Eq.mpr (ZeB.w s.1 s.2.1 s.2.2.1 s.2.2.2.1) ?_
 replace hp:ZeB.P s.1 s.2.1 s.2.2.1 s.2.2.2.1:=hp
 exact ZeB.v _ _ _ _ hp
def ZeB.E (y0:List Ev) (y1:List Ev) (y2:Bool) (k:Nat) (a:Unit):Option (Nat×Bool×Int×Unit):=bif !(ZeA.S (y0.getD k zEv) (y1.getD k zEv)) then some (0,(false,((k:Int),()))) else none
def ZeB.A (y0:List Ev) (y1:List Ev) (y2:Bool) (k:Nat) (a:Unit):Unit:=bif !(ZeA.S (y0.getD k zEv) (y1.getD k zEv)) then a else ()
def ZeB.fin (y0:List Ev) (y1:List Ev) (y2:Bool) (k:Nat) (a:Unit):Nat×Bool×Int×Unit:=(1,(false,((k:Int),())))
def ZeB.acc (y0:List Ev) (y1:List Ev) (y2:Bool) (a:Unit):Nat→Unit
 | 0=>a
 | k + 1=>ZeB.A y0 y1 y2 k (ZeB.acc y0 y1 y2 a k)
theorem ZeB.law (y0:List Ev) (y1:List Ev) (y2:Bool) (a:Unit) (n:Nat) (hT:(y0.length:Int) = (n:Int)) (hn:(n:Int)≤9223372036854775807) :
  ((∀k,k < n→ZeB.E y0 y1 y2 k (ZeB.acc y0 y1 y2 a k) = none)∧ZeB.R y0 y1 y2 0 = ZeB.fin y0 y1 y2 n (ZeB.acc y0 y1 y2 a n))∨(∃k r,k < n∧ZeB.E y0 y1 y2 k (ZeB.acc y0 y1 y2 a k) = some r∧(∀j,j < k→ZeB.E y0 y1 y2 j (ZeB.acc y0 y1 y2 a j) = none)∧ZeB.R y0 y1 y2 0 = r):=by
 have hM:ZeB.M y0 y1 y2 0 + 1 = n + 1:=by simp only [ZeB.M]; omega
 unfold ZeB.R
 rw [hM]
 refine loopE (fun m i b=>ZeB.S m y0 y1 y2 i) n hn (ZeB.acc y0 y1 y2 a) (ZeB.E y0 y1 y2 ) (ZeB.fin y0 y1 y2 ) fun m k hk=>?_
 have ha:ZeB.acc y0 y1 y2 a (k + 1) = ZeB.A y0 y1 y2 k (ZeB.acc y0 y1 y2 a k):=rfl
 rw [ha]
 generalize ZeB.acc y0 y1 y2 a k = b
 simp only [ZeB.S,ZeB.E,ZeB.A,ZeB.fin,hT,Int.toNat_natCast]
 all_goals grind
theorem ZeC.w (a0:List Ev) (a1:List Ev) (K:AV→List Blk→Prop):evFn (envS [ZeA.c] []) [ZeB.d.ctr] [] [] Tryz.f11 [] (ZeC.L.enc (a0,(a1,()))) K = (And (Imp (((a0.length:Int) != (a1.length:Int)) = true) (K (.v (.c (.bool false))) ([]))) (Imp (((a0.length:Int) != (a1.length:Int)) = false) (And (ZeB.P a0 a1 false 0) (And (Imp (Nat.beq (ZeB.R a0 a1 false 0).1 0 = true) (K (.v (.c (.bool (ZeB.R a0 a1 false 0).2.1))) ([]))) (Imp (Nat.beq (ZeB.R a0 a1 false 0).1 0 = false) (K (.v (.c (.bool true))) ([]))))))):=by kernel_rfl
theorem ZeC.v (a0:List Ev) (a1:List Ev) (hf:(a0.length:Int)≤9223372036854775807∧(a1.length:Int)≤9223372036854775807∧True) (K:AV→List Blk→Prop) (hK:K (ZeC.enc (ZeC.S a0 a1)).1 (ZeC.enc (ZeC.S a0 a1)).2):And (Imp (((a0.length:Int) != (a1.length:Int)) = true) (K (.v (.c (.bool false))) ([]))) (Imp (((a0.length:Int) != (a1.length:Int)) = false) (And (ZeB.P a0 a1 false 0) (And (Imp (Nat.beq (ZeB.R a0 a1 false 0).1 0 = true) (K (.v (.c (.bool (ZeB.R a0 a1 false 0).2.1))) ([]))) (Imp (Nat.beq (ZeB.R a0 a1 false 0).1 0 = false) (K (.v (.c (.bool true))) ([])))))):=by
 obtain ⟨f0,f1,-⟩:=hf
 try simp only [big] at *
 refine ⟨fun h1=>?_,fun h1=>?_⟩
 ·have e:ZeC.S a0 a1 = (false):=by unfold ZeC.S; exact (cond_t h1).trans <| rfl
  rw [e] at hK
  exact hK
 ·refine ⟨by simp only [ZeB.P]; refine ⟨(by clear hK; first | exact True.intro | assumption | omega | grind [wrap_id]),(by clear hK; first | exact True.intro | assumption | omega | grind [wrap_id]),(by clear hK; first | exact True.intro | assumption | omega | grind [wrap_id])⟩,?_⟩
  refine ⟨fun h2=>?_,fun h2=>?_⟩
  ·have e:ZeC.S a0 a1 = ((ZeB.R a0 a1 false 0).2.1):=by unfold ZeC.S; exact (cond_f h1).trans <| (cond_t h2).trans <| rfl
   rw [e] at hK
   exact hK
  ·have e:ZeC.S a0 a1 = (true):=by unfold ZeC.S; exact (cond_f h1).trans <| (cond_f h2).trans <| rfl
   rw [e] at hK
   exact hK
theorem ZeC.good:Good Tryz.prog ZeC.c :=
 vgood (sh:=[]) (sp:=[]) (LL:=[ZeB.d.ctr]) (consG ZeA.good noG) (fn:=Tryz.f11) (by kernel_rfl) (by kernel_rfl) (by rw [show loopsOf (bodyOf Tryz.f11) = [(bodyAt Tryz.f11 0)] from by kernel_rfl]; exact consL (l:=ZeB.d.ctr) (by kernel_rfl) (ZeB.g (consG ZeA.good noG)) (noL rfl)) fun s hp hf=>by
  exact Eq.mpr (ZeC.w (s.1) (s.2.1) (fun r bs'=>And (r = (ZeC.c.out s).1) (bs' = (ZeC.c.out s).2))) (ZeC.v (s.1) (s.2.1) hf (fun r bs'=>And (r = (ZeC.c.out s).1) (bs' = (ZeC.c.out s).2)) ⟨rfl,rfl⟩)
end
end Hw
end Go.Proofs.YtklmllaggigkfaaGreat
