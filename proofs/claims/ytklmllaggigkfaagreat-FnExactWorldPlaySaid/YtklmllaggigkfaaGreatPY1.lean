/- Functions that only read, 2: made by gen.py. -/
import Derived.Test.YtklmllaggigkfaaGreatPY0
set_option linter.unusedVariables false
set_option linter.unusedSimpArgs false
set_option maxRecDepth 100000
set_option maxHeartbeats 400000
namespace Go.Proofs.YtklmllaggigkfaaGreat
namespace Hw
open Go
noncomputable section
attribute [local irreducible] evFn evBody wrap wxor
def ZG.L:FL:=fCons (fC (cPtr 1 (cStE false) rfl)) (fCons (fC cBool) (fCons (fC cInt) (fCons (fC cInt) (fNil))))
def ZG.A (y0:St) (y1:Bool) (y2:Int) (k:Nat) (a:Unit):Unit:=bif bif bif bif !(Zy.S (y0.sent.getD k zPkt)) then true else (y0.sent.getD k zPkt).seq != (wrap ((k:Int) + 1)) then true else bif y0.live.getD k false then y0.back.getD k false else false then true else decide ((y0.sent.getD k zPkt).ver > y0.ver) then a else ()
def ZG.acc (y0:St) (y1:Bool) (y2:Int) (a:Unit):Nat→Unit
 | 0=>a
 | k + 1=>ZG.A y0 y1 y2 k (ZG.acc y0 y1 y2 a k)
def ZJ.S:Nat→St→Bool→(List Pkt)→Int→Int→Nat×Bool×Int×Unit
 | 0,_,_,_,_,_=>(0,(false,(0,())))
 | n + 1,y0,y1,y2,y3,y4=>bif decide (y4 < y3) then bif bif bif bif !(Zz.S (y2.getD (y4).toNat zPkt)) then true else (y2.getD (y4).toNat zPkt).seq != (wrap (y4 + 1)) then true else decide ((y2.getD (y4).toNat zPkt).ver > y0.ver) then true else bif y0.live.getD (y4).toNat false then y0.back.getD (y4).toNat false else false then (0,(false,(y4,()))) else ZJ.S n y0 y1 y2 y3 (wrap (y4 + 1)) else (1,(false,(y4,())))
def ZJ.M (y0:St) (y1:Bool) (y2:List Pkt) (y3:Int) (y4:Int):Nat:=(y3 - y4).toNat
def ZJ.R (y0:St) (y1:Bool) (y2:List Pkt) (y3:Int) (y4:Int):Nat×Bool×Int×Unit:=ZJ.S (ZJ.M y0 y1 y2 y3 y4 + 1) y0 y1 y2 y3 y4
def ZJ.P (y0:St) (y1:Bool) (y2:List Pkt) (y3:Int) (y4:Int):Prop:=(0≤y4)∧(y3≤9223372036854775807)∧(y2 = y0.sent)∧(y3 = (y0.sent.length:Int))∧((bif bif decide (y3 > 8) then true else (y0.live.length:Int) != y3 then true else (y0.back.length:Int) != y3) = false)
def ZJ.L:FL:=fCons (fC (cPtr 1 (cStE false) rfl)) (fCons (fC cBool) (fCons (fC (cArr false kPkts)) (fCons (fC cInt) (fCons (fC cInt) (fNil)))))
def ZJ.o0 (y0:St) (y1:Bool) (y2:List Pkt) (y3:Int) (y4:Int) (r:Nat×Bool×Int×Unit):Ex×List FV×List Blk:=(.ret,[.c (.ptr 0 0),.c (.bool r.2.1),.c (.arr false (.pkts y2)),.c (.int y3),.c (.int r.2.2.1)],[.raw 1 [.int y0.way,.int y0.ver,.int y0.want,.arr false (.pkts y0.sent),.arr false (.bools y0.live),.arr false (.bools y0.back),.arr false (.ints y0.got)]])
def ZJ.o1 (y0:St) (y1:Bool) (y2:List Pkt) (y3:Int) (y4:Int) (r:Nat×Bool×Int×Unit):Ex×List FV×List Blk:=(.exit 0,[.c (.ptr 0 0),.c (.bool y1),.c (.arr false (.pkts y2)),.c (.int y3),.c (.int r.2.2.1)],[.raw 1 [.int y0.way,.int y0.ver,.int y0.want,.arr false (.pkts y0.sent),.arr false (.bools y0.live),.arr false (.bools y0.back),.arr false (.ints y0.got)]])
def ZJ.o (y0:St) (y1:Bool) (y2:List Pkt) (y3:Int) (y4:Int) (r:Nat×Bool×Int×Unit):Ex×List FV×List Blk:=pickAlt [(Nat.beq r.1 0,ZJ.o0 y0 y1 y2 y3 y4 r)] (ZJ.o1 y0 y1 y2 y3 y4 r)
def ZJ.d:LDat:=ldat 4 [1,2,28,29,30] [] ZJ.L (fun s=>ZJ.P s.1 s.2.1 s.2.2.1 s.2.2.2.1 s.2.2.2.2.1) (fun s=>[(Nat.beq (ZJ.R s.1 s.2.1 s.2.2.1 s.2.2.2.1 s.2.2.2.2.1).1 0,ZJ.o0 s.1 s.2.1 s.2.2.1 s.2.2.2.1 s.2.2.2.2.1 (ZJ.R s.1 s.2.1 s.2.2.1 s.2.2.2.1 s.2.2.2.2.1))]) (fun s=>ZJ.o1 s.1 s.2.1 s.2.2.1 s.2.2.2.1 s.2.2.2.2.1 (ZJ.R s.1 s.2.1 s.2.2.1 s.2.2.2.1 s.2.2.2.2.1)) (fun s=>ZJ.M s.1 s.2.1 s.2.2.1 s.2.2.2.1 s.2.2.2.2.1)
def ZK.S (a0:St):Bool:=bif bif bif decide ((a0.sent.length:Int) > 8) then true else (a0.live.length:Int) != (a0.sent.length:Int) then true else (a0.back.length:Int) != (a0.sent.length:Int) then (false) else bif Nat.beq (ZJ.R a0 false a0.sent (a0.sent.length:Int) 0).1 0 then ((ZJ.R a0 false a0.sent (a0.sent.length:Int) 0).2.1) else (true)
def ZK.enc (r:Bool):AV×List Blk:=(.v (.c (.bool r)),[])
def ZK.L:ShL:=sCons sSt (sNil)
def ZK.c:Ctr:=vctr 174 ZK.L none (fun s=>ZK.enc (ZK.S s.1))
theorem ZJ.w (y0:St) (y1:Bool) (y2:List Pkt) (y3:Int) (y4:Int):evBody (envS [Zz.c] []) [] (bodyAt Tryz.f174 0) ZJ.d (y0,(y1,(y2,(y3,(y4,()))))) = (And (Imp ((decide (y4 < y3)) = true) (And ((0:Int)≤y4∧y4 < (y2.length:Int)) (And (Imp (And ((bif bif !(Zz.S (y2.getD (y4).toNat zPkt)) then true else (y2.getD (y4).toNat zPkt).seq != (wrap (y4 + 1)) then true else decide ((y2.getD (y4).toNat zPkt).ver > y0.ver)) = false) (True)) ((0:Int)≤y4∧y4 < (y0.live.length:Int))) (And (Imp (And ((y0.live.getD (y4).toNat false) = true) (And ((bif bif !(Zz.S (y2.getD (y4).toNat zPkt)) then true else (y2.getD (y4).toNat zPkt).seq != (wrap (y4 + 1)) then true else decide ((y2.getD (y4).toNat zPkt).ver > y0.ver)) = false) (True))) ((0:Int)≤y4∧y4 < (y0.back.length:Int))) (And (Imp ((bif bif bif !(Zz.S (y2.getD (y4).toNat zPkt)) then true else (y2.getD (y4).toNat zPkt).seq != (wrap (y4 + 1)) then true else decide ((y2.getD (y4).toNat zPkt).ver > y0.ver) then true else bif y0.live.getD (y4).toNat false then y0.back.getD (y4).toNat false else false) = true) (ZJ.o y0 y1 y2 y3 y4 (ZJ.R y0 y1 y2 y3 y4) = (.ret,[.c (.ptr 0 0),.c (.bool false),.c (.arr false (.pkts y2)),.c (.int y3),.c (.int y4)],[.raw 1 [.int y0.way,.int y0.ver,.int y0.want,.arr false (.pkts y0.sent),.arr false (.bools y0.live),.arr false (.bools y0.back),.arr false (.ints y0.got)]]))) (Imp ((bif bif bif !(Zz.S (y2.getD (y4).toNat zPkt)) then true else (y2.getD (y4).toNat zPkt).seq != (wrap (y4 + 1)) then true else decide ((y2.getD (y4).toNat zPkt).ver > y0.ver) then true else bif y0.live.getD (y4).toNat false then y0.back.getD (y4).toNat false else false) = false) (And (ZJ.P y0 y1 y2 y3 (wrap (y4 + 1))) (And (ZJ.M y0 y1 y2 y3 (wrap (y4 + 1)) < ZJ.M y0 y1 y2 y3 y4) (ZJ.o y0 y1 y2 y3 (wrap (y4 + 1)) (ZJ.R y0 y1 y2 y3 (wrap (y4 + 1))) = ZJ.o y0 y1 y2 y3 y4 (ZJ.R y0 y1 y2 y3 y4)))))))))) (Imp ((decide (y4 < y3)) = false) (ZJ.o y0 y1 y2 y3 y4 (ZJ.R y0 y1 y2 y3 y4) = (.exit 0,[.c (.ptr 0 0),.c (.bool y1),.c (.arr false (.pkts y2)),.c (.int y3),.c (.int y4)],[.raw 1 [.int y0.way,.int y0.ver,.int y0.want,.arr false (.pkts y0.sent),.arr false (.bools y0.live),.arr false (.bools y0.back),.arr false (.ints y0.got)]])))):=by kernel_rfl
theorem ZJ.v (y0:St) (y1:Bool) (y2:List Pkt) (y3:Int) (y4:Int) (hp:ZJ.P y0 y1 y2 y3 y4):And (Imp ((decide (y4 < y3)) = true) (And ((0:Int)≤y4∧y4 < (y2.length:Int)) (And (Imp (And ((bif bif !(Zz.S (y2.getD (y4).toNat zPkt)) then true else (y2.getD (y4).toNat zPkt).seq != (wrap (y4 + 1)) then true else decide ((y2.getD (y4).toNat zPkt).ver > y0.ver)) = false) (True)) ((0:Int)≤y4∧y4 < (y0.live.length:Int))) (And (Imp (And ((y0.live.getD (y4).toNat false) = true) (And ((bif bif !(Zz.S (y2.getD (y4).toNat zPkt)) then true else (y2.getD (y4).toNat zPkt).seq != (wrap (y4 + 1)) then true else decide ((y2.getD (y4).toNat zPkt).ver > y0.ver)) = false) (True))) ((0:Int)≤y4∧y4 < (y0.back.length:Int))) (And (Imp ((bif bif bif !(Zz.S (y2.getD (y4).toNat zPkt)) then true else (y2.getD (y4).toNat zPkt).seq != (wrap (y4 + 1)) then true else decide ((y2.getD (y4).toNat zPkt).ver > y0.ver) then true else bif y0.live.getD (y4).toNat false then y0.back.getD (y4).toNat false else false) = true) (ZJ.o y0 y1 y2 y3 y4 (ZJ.R y0 y1 y2 y3 y4) = (.ret,[.c (.ptr 0 0),.c (.bool false),.c (.arr false (.pkts y2)),.c (.int y3),.c (.int y4)],[.raw 1 [.int y0.way,.int y0.ver,.int y0.want,.arr false (.pkts y0.sent),.arr false (.bools y0.live),.arr false (.bools y0.back),.arr false (.ints y0.got)]]))) (Imp ((bif bif bif !(Zz.S (y2.getD (y4).toNat zPkt)) then true else (y2.getD (y4).toNat zPkt).seq != (wrap (y4 + 1)) then true else decide ((y2.getD (y4).toNat zPkt).ver > y0.ver) then true else bif y0.live.getD (y4).toNat false then y0.back.getD (y4).toNat false else false) = false) (And (ZJ.P y0 y1 y2 y3 (wrap (y4 + 1))) (And (ZJ.M y0 y1 y2 y3 (wrap (y4 + 1)) < ZJ.M y0 y1 y2 y3 y4) (ZJ.o y0 y1 y2 y3 (wrap (y4 + 1)) (ZJ.R y0 y1 y2 y3 (wrap (y4 + 1))) = ZJ.o y0 y1 y2 y3 y4 (ZJ.R y0 y1 y2 y3 y4)))))))))) (Imp ((decide (y4 < y3)) = false) (ZJ.o y0 y1 y2 y3 y4 (ZJ.R y0 y1 y2 y3 y4) = (.exit 0,[.c (.ptr 0 0),.c (.bool y1),.c (.arr false (.pkts y2)),.c (.int y3),.c (.int y4)],[.raw 1 [.int y0.way,.int y0.ver,.int y0.want,.arr false (.pkts y0.sent),.arr false (.bools y0.live),.arr false (.bools y0.back),.arr false (.ints y0.got)]]))):=by
 simp only [ZJ.P] at hp
 obtain ⟨p0,p1,p2,p3,p4⟩:=hp
 refine ⟨fun h1=>?_,fun h1=>?_⟩
 ·refine ⟨by first | exact True.intro | assumption | omega | grind [wrap_id],?_⟩
  refine ⟨by intro hπ; first | exact True.intro | assumption | omega | grind [wrap_id],?_⟩
  refine ⟨by intro hπ; first | exact True.intro | assumption | omega | grind [wrap_id],?_⟩
  refine ⟨fun h2=>?_,fun h2=>?_⟩
  ·have e:ZJ.R y0 y1 y2 y3 y4 = (0,(false,(y4,()))):=by unfold ZJ.R; rw [ZJ.S]; exact (cond_t h1).trans <| (cond_t h2).trans <| rfl
   rw [e]
   rfl
  ·have hμ:ZJ.M y0 y1 y2 y3 y4 = ZJ.M y0 y1 y2 y3 (wrap (y4 + 1)) + 1:=by simp only [ZJ.M]; first | omega | grind [wrap_id]
   refine ⟨by simp only [ZJ.P]; refine ⟨(by first | exact True.intro | assumption | omega | grind [wrap_id]),(by first | exact True.intro | assumption | omega | grind [wrap_id]),(by first | exact True.intro | assumption | omega | grind [wrap_id]),(by first | exact True.intro | assumption | omega | grind [wrap_id]),(by first | exact True.intro | assumption | omega | grind [wrap_id])⟩,by omega,?_⟩
   have e:ZJ.R y0 y1 y2 y3 y4 = ZJ.R y0 y1 y2 y3 (wrap (y4 + 1)):=by
    have e1:ZJ.R y0 y1 y2 y3 y4 = ZJ.S (ZJ.M y0 y1 y2 y3 y4) y0 y1 y2 y3 (wrap (y4 + 1)):=by unfold ZJ.R; rw [ZJ.S]; exact (cond_t h1).trans <| (cond_f h2).trans <| rfl
    rw [e1,hμ]
    rfl
   rw [e]
   rfl
 ·have e:ZJ.R y0 y1 y2 y3 y4 = (1,(false,(y4,()))):=by unfold ZJ.R; rw [ZJ.S]; exact (cond_f h1).trans <| rfl
  rw [e]
  rfl
theorem ZJ.g (hG:∀c∈[Zz.c],Good Tryz.prog c):LGood Tryz.prog Tryz.f174.ntmps ZJ.d.ctr (bodyAt Tryz.f174 0):=by
 refine lgoodS (sp:=[]) (LL:=[]) hG (by kernel_rfl) (by rw [show loopsOf (bodyAt Tryz.f174 0) = [] from by kernel_rfl]; exact noL rfl) fun s hp=>?_
 refine Eq.mpr (ZJ.w s.1 s.2.1 s.2.2.1 s.2.2.2.1 s.2.2.2.2.1) ?_
 replace hp:ZJ.P s.1 s.2.1 s.2.2.1 s.2.2.2.1 s.2.2.2.2.1:=hp
 exact ZJ.v _ _ _ _ _ hp
def ZJ.E (y0:St) (y1:Bool) (y2:List Pkt) (y3:Int) (k:Nat) (a:Unit):Option (Nat×Bool×Int×Unit):=bif bif bif bif !(Zz.S (y2.getD k zPkt)) then true else (y2.getD k zPkt).seq != (wrap ((k:Int) + 1)) then true else decide ((y2.getD k zPkt).ver > y0.ver) then true else bif y0.live.getD k false then y0.back.getD k false else false then some (0,(false,((k:Int),()))) else none
def ZJ.A (y0:St) (y1:Bool) (y2:List Pkt) (y3:Int) (k:Nat) (a:Unit):Unit:=bif bif bif bif !(Zz.S (y2.getD k zPkt)) then true else (y2.getD k zPkt).seq != (wrap ((k:Int) + 1)) then true else decide ((y2.getD k zPkt).ver > y0.ver) then true else bif y0.live.getD k false then y0.back.getD k false else false then a else ()
def ZJ.fin (y0:St) (y1:Bool) (y2:List Pkt) (y3:Int) (k:Nat) (a:Unit):Nat×Bool×Int×Unit:=(1,(false,((k:Int),())))
def ZJ.acc (y0:St) (y1:Bool) (y2:List Pkt) (y3:Int) (a:Unit):Nat→Unit
 | 0=>a
 | k + 1=>ZJ.A y0 y1 y2 y3 k (ZJ.acc y0 y1 y2 y3 a k)
theorem ZJ.law (y0:St) (y1:Bool) (y2:List Pkt) (y3:Int) (a:Unit) (n:Nat) (hT:y3 = (n:Int)) (hn:(n:Int)≤9223372036854775807) :
  ((∀k,k < n→ZJ.E y0 y1 y2 y3 k (ZJ.acc y0 y1 y2 y3 a k) = none)∧ZJ.R y0 y1 y2 y3 0 = ZJ.fin y0 y1 y2 y3 n (ZJ.acc y0 y1 y2 y3 a n))∨(∃k r,k < n∧ZJ.E y0 y1 y2 y3 k (ZJ.acc y0 y1 y2 y3 a k) = some r∧(∀j,j < k→ZJ.E y0 y1 y2 y3 j (ZJ.acc y0 y1 y2 y3 a j) = none)∧ZJ.R y0 y1 y2 y3 0 = r):=by
 have hM:ZJ.M y0 y1 y2 y3 0 + 1 = n + 1:=by simp only [ZJ.M]; omega
 unfold ZJ.R
 rw [hM]
 refine loopE (fun m i b=>ZJ.S m y0 y1 y2 y3 i) n hn (ZJ.acc y0 y1 y2 y3 a) (ZJ.E y0 y1 y2 y3 ) (ZJ.fin y0 y1 y2 y3 ) fun m k hk=>?_
 have ha:ZJ.acc y0 y1 y2 y3 a (k + 1) = ZJ.A y0 y1 y2 y3 k (ZJ.acc y0 y1 y2 y3 a k):=rfl
 rw [ha]
 generalize ZJ.acc y0 y1 y2 y3 a k = b
 simp only [ZJ.S,ZJ.E,ZJ.A,ZJ.fin,hT,Int.toNat_natCast]
 all_goals grind
theorem ZK.w (a0:St) (K:AV→List Blk→Prop):evFn (envS [Zz.c] []) [ZJ.d.ctr] [] [] Tryz.f174 [] (ZK.L.enc (a0,())) K = (And (Imp ((bif bif decide ((a0.sent.length:Int) > 8) then true else (a0.live.length:Int) != (a0.sent.length:Int) then true else (a0.back.length:Int) != (a0.sent.length:Int)) = true) (K (.v (.c (.bool false))) ([]))) (Imp ((bif bif decide ((a0.sent.length:Int) > 8) then true else (a0.live.length:Int) != (a0.sent.length:Int) then true else (a0.back.length:Int) != (a0.sent.length:Int)) = false) (And (ZJ.P a0 false a0.sent (a0.sent.length:Int) 0) (And (Imp (Nat.beq (ZJ.R a0 false a0.sent (a0.sent.length:Int) 0).1 0 = true) (K (.v (.c (.bool (ZJ.R a0 false a0.sent (a0.sent.length:Int) 0).2.1))) ([]))) (Imp (Nat.beq (ZJ.R a0 false a0.sent (a0.sent.length:Int) 0).1 0 = false) (K (.v (.c (.bool true))) ([]))))))):=by kernel_rfl
theorem ZK.v (a0:St) (hf:St.fact a0∧True) (K:AV→List Blk→Prop) (hK:K (ZK.enc (ZK.S a0)).1 (ZK.enc (ZK.S a0)).2):And (Imp ((bif bif decide ((a0.sent.length:Int) > 8) then true else (a0.live.length:Int) != (a0.sent.length:Int) then true else (a0.back.length:Int) != (a0.sent.length:Int)) = true) (K (.v (.c (.bool false))) ([]))) (Imp ((bif bif decide ((a0.sent.length:Int) > 8) then true else (a0.live.length:Int) != (a0.sent.length:Int) then true else (a0.back.length:Int) != (a0.sent.length:Int)) = false) (And (ZJ.P a0 false a0.sent (a0.sent.length:Int) 0) (And (Imp (Nat.beq (ZJ.R a0 false a0.sent (a0.sent.length:Int) 0).1 0 = true) (K (.v (.c (.bool (ZJ.R a0 false a0.sent (a0.sent.length:Int) 0).2.1))) ([]))) (Imp (Nat.beq (ZJ.R a0 false a0.sent (a0.sent.length:Int) 0).1 0 = false) (K (.v (.c (.bool true))) ([])))))):=by
 obtain ⟨f0,-⟩:=hf
 obtain ⟨f0_0,f0_1,f0_2,f0_3⟩:=f0
 try simp only [big] at *
 refine ⟨fun h1=>?_,fun h1=>?_⟩
 ·have e:ZK.S a0 = (false):=by unfold ZK.S; exact (cond_t h1).trans <| rfl
  rw [e] at hK
  exact hK
 ·refine ⟨by simp only [ZJ.P]; refine ⟨(by clear hK; first | exact True.intro | assumption | omega | grind [wrap_id]),(by clear hK; first | exact True.intro | assumption | omega | grind [wrap_id]),(by clear hK; first | exact True.intro | assumption | omega | grind [wrap_id]),(by clear hK; first | exact True.intro | assumption | omega | grind [wrap_id]),(by clear hK; first | exact True.intro | assumption | omega | grind [wrap_id])⟩,?_⟩
  refine ⟨fun h2=>?_,fun h2=>?_⟩
  ·have e:ZK.S a0 = ((ZJ.R a0 false a0.sent (a0.sent.length:Int) 0).2.1):=by unfold ZK.S; exact (cond_f h1).trans <| (cond_t h2).trans <| rfl
   rw [e] at hK
   exact hK
  ·have e:ZK.S a0 = (true):=by unfold ZK.S; exact (cond_f h1).trans <| (cond_f h2).trans <| rfl
   rw [e] at hK
   exact hK
theorem ZK.good:Good Tryz.prog ZK.c :=
 vgood (sh:=[]) (sp:=[]) (LL:=[ZJ.d.ctr]) (consG Zz.good noG) (fn:=Tryz.f174) (by kernel_rfl) (by kernel_rfl) (by rw [show loopsOf (bodyOf Tryz.f174) = [(bodyAt Tryz.f174 0)] from by kernel_rfl]; exact consL (l:=ZJ.d.ctr) (by kernel_rfl) (ZJ.g (consG Zz.good noG)) (noL rfl)) fun s hp hf=>by
  exact Eq.mpr (ZK.w (s.1) (fun r bs'=>And (r = (ZK.c.out s).1) (bs' = (ZK.c.out s).2))) (ZK.v (s.1) hf (fun r bs'=>And (r = (ZK.c.out s).1) (bs' = (ZK.c.out s).2)) ⟨rfl,rfl⟩)
def ZL.S (a0:Int):Nat×Bool:=bif a0 == 0 then (242,true) else bif a0 == 1 then (238,true) else bif a0 == 2 then (239,true) else (0,false)
def ZL.enc (r:Nat×Bool):AV×List Blk:=(.tup [.c (.ifc r.1),.c (.bool r.2)],[])
def ZL.L:ShL:=sCons sInt (sNil)
def ZL.c:Ctr:=vctr 195 ZL.L none (fun s=>ZL.enc (ZL.S s.1))
theorem ZL.w (a0:Int) (K:AV→List Blk→Prop):evFn (envS [] []) [] [] [] Tryz.f195 [] (ZL.L.enc (a0,())) K = (And (Imp ((a0 == 0) = true) (K (.tup [.c (.ifc 242),.c (.bool true)]) ([]))) (Imp ((a0 == 0) = false) (And (Imp ((a0 == 1) = true) (K (.tup [.c (.ifc 238),.c (.bool true)]) ([]))) (Imp ((a0 == 1) = false) (And (Imp ((a0 == 2) = true) (K (.tup [.c (.ifc 239),.c (.bool true)]) ([]))) (Imp ((a0 == 2) = false) (K (.tup [.c (.ifc 0),.c (.bool false)]) ([])))))))):=by kernel_rfl
theorem ZL.v (a0:Int) (hf:True∧True) (K:AV→List Blk→Prop) (hK:K (ZL.enc (ZL.S a0)).1 (ZL.enc (ZL.S a0)).2):And (Imp ((a0 == 0) = true) (K (.tup [.c (.ifc 242),.c (.bool true)]) ([]))) (Imp ((a0 == 0) = false) (And (Imp ((a0 == 1) = true) (K (.tup [.c (.ifc 238),.c (.bool true)]) ([]))) (Imp ((a0 == 1) = false) (And (Imp ((a0 == 2) = true) (K (.tup [.c (.ifc 239),.c (.bool true)]) ([]))) (Imp ((a0 == 2) = false) (K (.tup [.c (.ifc 0),.c (.bool false)]) ([]))))))):=by
 clear hf
 refine ⟨fun h1=>?_,fun h1=>?_⟩
 ·have e:ZL.S a0 = (242,true):=by unfold ZL.S; exact (cond_t h1).trans <| rfl
  rw [e] at hK
  exact hK
 ·refine ⟨fun h2=>?_,fun h2=>?_⟩
  ·have e:ZL.S a0 = (238,true):=by unfold ZL.S; exact (cond_f h1).trans <| (cond_t h2).trans <| rfl
   rw [e] at hK
   exact hK
  ·refine ⟨fun h3=>?_,fun h3=>?_⟩
   ·have e:ZL.S a0 = (239,true):=by unfold ZL.S; exact (cond_f h1).trans <| (cond_f h2).trans <| (cond_t h3).trans <| rfl
    rw [e] at hK
    exact hK
   ·have e:ZL.S a0 = (0,false):=by unfold ZL.S; exact (cond_f h1).trans <| (cond_f h2).trans <| (cond_f h3).trans <| rfl
    rw [e] at hK
    exact hK
theorem ZL.good:Good Tryz.prog ZL.c :=
 vgood (sh:=[]) (sp:=[]) (LL:=[]) noG (fn:=Tryz.f195) (by kernel_rfl) (by kernel_rfl) (by rw [show loopsOf (bodyOf Tryz.f195) = [] from by kernel_rfl]; exact noL rfl) fun s hp hf=>by
  exact Eq.mpr (ZL.w (s.1) (fun r bs'=>And (r = (ZL.c.out s).1) (bs' = (ZL.c.out s).2))) (ZL.v (s.1) hf (fun r bs'=>And (r = (ZL.c.out s).1) (bs' = (ZL.c.out s).2)) ⟨rfl,rfl⟩)
def ZM.S:Nat→Bool→(List Int)→Int→Int→Nat×Bool×Int×Unit
 | 0,_,_,_,_=>(0,(false,(0,())))
 | n + 1,y0,y1,y2,y3=>bif decide (y3 < y2) then bif !(ZL.S (y1.getD (y3).toNat 0)).2 then (0,(false,(y3,()))) else ZM.S n y0 y1 y2 (wrap (y3 + 1)) else (1,(false,(y3,())))
def ZM.M (y0:Bool) (y1:List Int) (y2:Int) (y3:Int):Nat:=(y2 - y3).toNat
def ZM.R (y0:Bool) (y1:List Int) (y2:Int) (y3:Int):Nat×Bool×Int×Unit:=ZM.S (ZM.M y0 y1 y2 y3 + 1) y0 y1 y2 y3
def ZM.P (y0:Bool) (y1:List Int) (y2:Int) (y3:Int):Prop:=(0≤y3)∧(y2≤9223372036854775807)∧(y2 = (y1.length:Int))∧((y2 != 8) = false)
def ZM.L:FL:=fCons (fC cBool) (fCons (fC (cArr false kInts)) (fCons (fC cInt) (fCons (fC cInt) (fNil))))
def ZM.o0 (y0:Bool) (y1:List Int) (y2:Int) (y3:Int) (r:Nat×Bool×Int×Unit):Ex×List FV×List Blk:=(.ret,[.c (.bool r.2.1),.c (.arr false (.ints y1)),.c (.int y2),.c (.int r.2.2.1)],[])
def ZM.o1 (y0:Bool) (y1:List Int) (y2:Int) (y3:Int) (r:Nat×Bool×Int×Unit):Ex×List FV×List Blk:=(.exit 0,[.c (.bool y0),.c (.arr false (.ints y1)),.c (.int y2),.c (.int r.2.2.1)],[])
def ZM.o (y0:Bool) (y1:List Int) (y2:Int) (y3:Int) (r:Nat×Bool×Int×Unit):Ex×List FV×List Blk:=pickAlt [(Nat.beq r.1 0,ZM.o0 y0 y1 y2 y3 r)] (ZM.o1 y0 y1 y2 y3 r)
def ZM.d:LDat:=ldat 4 [2,12,13,14] [] ZM.L (fun s=>ZM.P s.1 s.2.1 s.2.2.1 s.2.2.2.1) (fun s=>[(Nat.beq (ZM.R s.1 s.2.1 s.2.2.1 s.2.2.2.1).1 0,ZM.o0 s.1 s.2.1 s.2.2.1 s.2.2.2.1 (ZM.R s.1 s.2.1 s.2.2.1 s.2.2.2.1))]) (fun s=>ZM.o1 s.1 s.2.1 s.2.2.1 s.2.2.2.1 (ZM.R s.1 s.2.1 s.2.2.1 s.2.2.2.1)) (fun s=>ZM.M s.1 s.2.1 s.2.2.1 s.2.2.2.1)
def ZN.S (a0:St):Bool:=bif (a0.got.length:Int) != 8 then (false) else bif Nat.beq (ZM.R false a0.got (a0.got.length:Int) 0).1 0 then ((ZM.R false a0.got (a0.got.length:Int) 0).2.1) else (true)
def ZN.enc (r:Bool):AV×List Blk:=(.v (.c (.bool r)),[])
def ZN.L:ShL:=sCons sSt (sNil)
def ZN.c:Ctr:=vctr 175 ZN.L none (fun s=>ZN.enc (ZN.S s.1))
theorem ZM.w (y0:Bool) (y1:List Int) (y2:Int) (y3:Int):evBody (envS [ZL.c] []) [] (bodyAt Tryz.f175 0) ZM.d (y0,(y1,(y2,(y3,())))) = (And (Imp ((decide (y3 < y2)) = true) (And ((0:Int)≤y3∧y3 < (y1.length:Int)) (And (Imp ((!(ZL.S (y1.getD (y3).toNat 0)).2) = true) (ZM.o y0 y1 y2 y3 (ZM.R y0 y1 y2 y3) = (.ret,[.c (.bool false),.c (.arr false (.ints y1)),.c (.int y2),.c (.int y3)],[]))) (Imp ((!(ZL.S (y1.getD (y3).toNat 0)).2) = false) (And (ZM.P y0 y1 y2 (wrap (y3 + 1))) (And (ZM.M y0 y1 y2 (wrap (y3 + 1)) < ZM.M y0 y1 y2 y3) (ZM.o y0 y1 y2 (wrap (y3 + 1)) (ZM.R y0 y1 y2 (wrap (y3 + 1))) = ZM.o y0 y1 y2 y3 (ZM.R y0 y1 y2 y3)))))))) (Imp ((decide (y3 < y2)) = false) (ZM.o y0 y1 y2 y3 (ZM.R y0 y1 y2 y3) = (.exit 0,[.c (.bool y0),.c (.arr false (.ints y1)),.c (.int y2),.c (.int y3)],[])))):=by kernel_rfl
theorem ZM.v (y0:Bool) (y1:List Int) (y2:Int) (y3:Int) (hp:ZM.P y0 y1 y2 y3):And (Imp ((decide (y3 < y2)) = true) (And ((0:Int)≤y3∧y3 < (y1.length:Int)) (And (Imp ((!(ZL.S (y1.getD (y3).toNat 0)).2) = true) (ZM.o y0 y1 y2 y3 (ZM.R y0 y1 y2 y3) = (.ret,[.c (.bool false),.c (.arr false (.ints y1)),.c (.int y2),.c (.int y3)],[]))) (Imp ((!(ZL.S (y1.getD (y3).toNat 0)).2) = false) (And (ZM.P y0 y1 y2 (wrap (y3 + 1))) (And (ZM.M y0 y1 y2 (wrap (y3 + 1)) < ZM.M y0 y1 y2 y3) (ZM.o y0 y1 y2 (wrap (y3 + 1)) (ZM.R y0 y1 y2 (wrap (y3 + 1))) = ZM.o y0 y1 y2 y3 (ZM.R y0 y1 y2 y3)))))))) (Imp ((decide (y3 < y2)) = false) (ZM.o y0 y1 y2 y3 (ZM.R y0 y1 y2 y3) = (.exit 0,[.c (.bool y0),.c (.arr false (.ints y1)),.c (.int y2),.c (.int y3)],[]))):=by
 simp only [ZM.P] at hp
 obtain ⟨p0,p1,p2,p3⟩:=hp
 refine ⟨fun h1=>?_,fun h1=>?_⟩
 ·refine ⟨by first | exact True.intro | assumption | omega | grind [wrap_id],?_⟩
  refine ⟨fun h2=>?_,fun h2=>?_⟩
  ·have e:ZM.R y0 y1 y2 y3 = (0,(false,(y3,()))):=by unfold ZM.R; rw [ZM.S]; exact (cond_t h1).trans <| (cond_t h2).trans <| rfl
   rw [e]
   rfl
  ·have hμ:ZM.M y0 y1 y2 y3 = ZM.M y0 y1 y2 (wrap (y3 + 1)) + 1:=by simp only [ZM.M]; first | omega | grind [wrap_id]
   refine ⟨by simp only [ZM.P]; refine ⟨(by first | exact True.intro | assumption | omega | grind [wrap_id]),(by first | exact True.intro | assumption | omega | grind [wrap_id]),(by first | exact True.intro | assumption | omega | grind [wrap_id]),(by first | exact True.intro | assumption | omega | grind [wrap_id])⟩,by omega,?_⟩
   have e:ZM.R y0 y1 y2 y3 = ZM.R y0 y1 y2 (wrap (y3 + 1)):=by
    have e1:ZM.R y0 y1 y2 y3 = ZM.S (ZM.M y0 y1 y2 y3) y0 y1 y2 (wrap (y3 + 1)):=by unfold ZM.R; rw [ZM.S]; exact (cond_t h1).trans <| (cond_f h2).trans <| rfl
    rw [e1,hμ]
    rfl
   rw [e]
   rfl
 ·have e:ZM.R y0 y1 y2 y3 = (1,(false,(y3,()))):=by unfold ZM.R; rw [ZM.S]; exact (cond_f h1).trans <| rfl
  rw [e]
  rfl
theorem ZM.g (hG:∀c∈[ZL.c],Good Tryz.prog c):LGood Tryz.prog Tryz.f175.ntmps ZM.d.ctr (bodyAt Tryz.f175 0):=by
 refine lgoodS (sp:=[]) (LL:=[]) hG (by kernel_rfl) (by rw [show loopsOf (bodyAt Tryz.f175 0) = [] from by kernel_rfl]; exact noL rfl) fun s hp=>?_
 refine Eq.mpr (ZM.w s.1 s.2.1 s.2.2.1 s.2.2.2.1) ?_
 replace hp:ZM.P s.1 s.2.1 s.2.2.1 s.2.2.2.1:=hp
 exact ZM.v _ _ _ _ hp
def ZM.E (y0:Bool) (y1:List Int) (y2:Int) (k:Nat) (a:Unit):Option (Nat×Bool×Int×Unit):=bif !(ZL.S (y1.getD k 0)).2 then some (0,(false,((k:Int),()))) else none
def ZM.A (y0:Bool) (y1:List Int) (y2:Int) (k:Nat) (a:Unit):Unit:=bif !(ZL.S (y1.getD k 0)).2 then a else ()
def ZM.fin (y0:Bool) (y1:List Int) (y2:Int) (k:Nat) (a:Unit):Nat×Bool×Int×Unit:=(1,(false,((k:Int),())))
def ZM.acc (y0:Bool) (y1:List Int) (y2:Int) (a:Unit):Nat→Unit
 | 0=>a
 | k + 1=>ZM.A y0 y1 y2 k (ZM.acc y0 y1 y2 a k)
theorem ZM.law (y0:Bool) (y1:List Int) (y2:Int) (a:Unit) (n:Nat) (hT:y2 = (n:Int)) (hn:(n:Int)≤9223372036854775807) :
  ((∀k,k < n→ZM.E y0 y1 y2 k (ZM.acc y0 y1 y2 a k) = none)∧ZM.R y0 y1 y2 0 = ZM.fin y0 y1 y2 n (ZM.acc y0 y1 y2 a n))∨(∃k r,k < n∧ZM.E y0 y1 y2 k (ZM.acc y0 y1 y2 a k) = some r∧(∀j,j < k→ZM.E y0 y1 y2 j (ZM.acc y0 y1 y2 a j) = none)∧ZM.R y0 y1 y2 0 = r):=by
 have hM:ZM.M y0 y1 y2 0 + 1 = n + 1:=by simp only [ZM.M]; omega
 unfold ZM.R
 rw [hM]
 refine loopE (fun m i b=>ZM.S m y0 y1 y2 i) n hn (ZM.acc y0 y1 y2 a) (ZM.E y0 y1 y2 ) (ZM.fin y0 y1 y2 ) fun m k hk=>?_
 have ha:ZM.acc y0 y1 y2 a (k + 1) = ZM.A y0 y1 y2 k (ZM.acc y0 y1 y2 a k):=rfl
 rw [ha]
 generalize ZM.acc y0 y1 y2 a k = b
 simp only [ZM.S,ZM.E,ZM.A,ZM.fin,hT,Int.toNat_natCast]
 all_goals grind
theorem ZN.w (a0:St) (K:AV→List Blk→Prop):evFn (envS [ZL.c] []) [ZM.d.ctr] [] [] Tryz.f175 [] (ZN.L.enc (a0,())) K = (And (Imp (((a0.got.length:Int) != 8) = true) (K (.v (.c (.bool false))) ([]))) (Imp (((a0.got.length:Int) != 8) = false) (And (ZM.P false a0.got (a0.got.length:Int) 0) (And (Imp (Nat.beq (ZM.R false a0.got (a0.got.length:Int) 0).1 0 = true) (K (.v (.c (.bool (ZM.R false a0.got (a0.got.length:Int) 0).2.1))) ([]))) (Imp (Nat.beq (ZM.R false a0.got (a0.got.length:Int) 0).1 0 = false) (K (.v (.c (.bool true))) ([]))))))):=by kernel_rfl
theorem ZN.v (a0:St) (hf:St.fact a0∧True) (K:AV→List Blk→Prop) (hK:K (ZN.enc (ZN.S a0)).1 (ZN.enc (ZN.S a0)).2):And (Imp (((a0.got.length:Int) != 8) = true) (K (.v (.c (.bool false))) ([]))) (Imp (((a0.got.length:Int) != 8) = false) (And (ZM.P false a0.got (a0.got.length:Int) 0) (And (Imp (Nat.beq (ZM.R false a0.got (a0.got.length:Int) 0).1 0 = true) (K (.v (.c (.bool (ZM.R false a0.got (a0.got.length:Int) 0).2.1))) ([]))) (Imp (Nat.beq (ZM.R false a0.got (a0.got.length:Int) 0).1 0 = false) (K (.v (.c (.bool true))) ([])))))):=by
 obtain ⟨f0,-⟩:=hf
 obtain ⟨f0_0,f0_1,f0_2,f0_3⟩:=f0
 try simp only [big] at *
 refine ⟨fun h1=>?_,fun h1=>?_⟩
 ·have e:ZN.S a0 = (false):=by unfold ZN.S; exact (cond_t h1).trans <| rfl
  rw [e] at hK
  exact hK
 ·refine ⟨by simp only [ZM.P]; refine ⟨(by clear hK; first | exact True.intro | assumption | omega | grind [wrap_id]),(by clear hK; first | exact True.intro | assumption | omega | grind [wrap_id]),(by clear hK; first | exact True.intro | assumption | omega | grind [wrap_id]),(by clear hK; first | exact True.intro | assumption | omega | grind [wrap_id])⟩,?_⟩
  refine ⟨fun h2=>?_,fun h2=>?_⟩
  ·have e:ZN.S a0 = ((ZM.R false a0.got (a0.got.length:Int) 0).2.1):=by unfold ZN.S; exact (cond_f h1).trans <| (cond_t h2).trans <| rfl
   rw [e] at hK
   exact hK
  ·have e:ZN.S a0 = (true):=by unfold ZN.S; exact (cond_f h1).trans <| (cond_f h2).trans <| rfl
   rw [e] at hK
   exact hK
theorem ZN.good:Good Tryz.prog ZN.c :=
 vgood (sh:=[]) (sp:=[]) (LL:=[ZM.d.ctr]) (consG ZL.good noG) (fn:=Tryz.f175) (by kernel_rfl) (by kernel_rfl) (by rw [show loopsOf (bodyOf Tryz.f175) = [(bodyAt Tryz.f175 0)] from by kernel_rfl]; exact consL (l:=ZM.d.ctr) (by kernel_rfl) (ZM.g (consG ZL.good noG)) (noL rfl)) fun s hp hf=>by
  exact Eq.mpr (ZN.w (s.1) (fun r bs'=>And (r = (ZN.c.out s).1) (bs' = (ZN.c.out s).2))) (ZN.v (s.1) hf (fun r bs'=>And (r = (ZN.c.out s).1) (bs' = (ZN.c.out s).2)) ⟨rfl,rfl⟩)
def ZO.S (a0:St):Bool:=bif bif bif bif decide (a0.way < 0) then true else decide (a0.way > 4) then true else decide (a0.ver < 1) then true else decide (a0.ver > 9) then (false) else bif a0.way == 4 then bif bif a0.want != (wrap (a0.ver + 1)) then true else decide (a0.want > 9) then (false) else (bif (ZK.S a0) then (ZN.S a0) else false) else bif a0.want != 0 then (false) else (bif (ZK.S a0) then (ZN.S a0) else false)
def ZO.enc (r:Bool):AV×List Blk:=(.v (.c (.bool r)),[])
def ZO.L:ShL:=sCons sSt (sNil)
def ZO.c:Ctr:=vctr 117 ZO.L none (fun s=>ZO.enc (ZO.S s.1))
theorem ZO.w (a0:St) (K:AV→List Blk→Prop):evFn (envS [ZK.c,ZN.c] []) [] [] [] Tryz.f117 [] (ZO.L.enc (a0,())) K = (And (Imp ((bif bif bif decide (a0.way < 0) then true else decide (a0.way > 4) then true else decide (a0.ver < 1) then true else decide (a0.ver > 9)) = true) (K (.v (.c (.bool false))) ([]))) (Imp ((bif bif bif decide (a0.way < 0) then true else decide (a0.way > 4) then true else decide (a0.ver < 1) then true else decide (a0.ver > 9)) = false) (And (Imp ((a0.way == 4) = true) (And (Imp ((bif a0.want != (wrap (a0.ver + 1)) then true else decide (a0.want > 9)) = true) (K (.v (.c (.bool false))) ([]))) (Imp ((bif a0.want != (wrap (a0.ver + 1)) then true else decide (a0.want > 9)) = false) (K (.v (.c (.bool (bif (ZK.S a0) then (ZN.S a0) else false)))) ([]))))) (Imp ((a0.way == 4) = false) (And (Imp ((a0.want != 0) = true) (K (.v (.c (.bool false))) ([]))) (Imp ((a0.want != 0) = false) (K (.v (.c (.bool (bif (ZK.S a0) then (ZN.S a0) else false)))) ([])))))))):=by kernel_rfl
theorem ZO.v (a0:St) (hf:St.fact a0∧True) (K:AV→List Blk→Prop) (hK:K (ZO.enc (ZO.S a0)).1 (ZO.enc (ZO.S a0)).2):And (Imp ((bif bif bif decide (a0.way < 0) then true else decide (a0.way > 4) then true else decide (a0.ver < 1) then true else decide (a0.ver > 9)) = true) (K (.v (.c (.bool false))) ([]))) (Imp ((bif bif bif decide (a0.way < 0) then true else decide (a0.way > 4) then true else decide (a0.ver < 1) then true else decide (a0.ver > 9)) = false) (And (Imp ((a0.way == 4) = true) (And (Imp ((bif a0.want != (wrap (a0.ver + 1)) then true else decide (a0.want > 9)) = true) (K (.v (.c (.bool false))) ([]))) (Imp ((bif a0.want != (wrap (a0.ver + 1)) then true else decide (a0.want > 9)) = false) (K (.v (.c (.bool (bif (ZK.S a0) then (ZN.S a0) else false)))) ([]))))) (Imp ((a0.way == 4) = false) (And (Imp ((a0.want != 0) = true) (K (.v (.c (.bool false))) ([]))) (Imp ((a0.want != 0) = false) (K (.v (.c (.bool (bif (ZK.S a0) then (ZN.S a0) else false)))) ([]))))))):=by
 obtain ⟨f0,-⟩:=hf
 obtain ⟨f0_0,f0_1,f0_2,f0_3⟩:=f0
 try simp only [big] at *
 refine ⟨fun h1=>?_,fun h1=>?_⟩
 ·have e:ZO.S a0 = (false):=by unfold ZO.S; exact (cond_t h1).trans <| rfl
  rw [e] at hK
  exact hK
 ·refine ⟨fun h2=>?_,fun h2=>?_⟩
  ·refine ⟨fun h3=>?_,fun h3=>?_⟩
   ·have e:ZO.S a0 = (false):=by unfold ZO.S; exact (cond_f h1).trans <| (cond_t h2).trans <| (cond_t h3).trans <| rfl
    rw [e] at hK
    exact hK
   ·have e:ZO.S a0 = (bif (ZK.S a0) then (ZN.S a0) else false):=by unfold ZO.S; exact (cond_f h1).trans <| (cond_t h2).trans <| (cond_f h3).trans <| rfl
    rw [e] at hK
    exact hK
  ·refine ⟨fun h3=>?_,fun h3=>?_⟩
   ·have e:ZO.S a0 = (false):=by unfold ZO.S; exact (cond_f h1).trans <| (cond_f h2).trans <| (cond_t h3).trans <| rfl
    rw [e] at hK
    exact hK
   ·have e:ZO.S a0 = (bif (ZK.S a0) then (ZN.S a0) else false):=by unfold ZO.S; exact (cond_f h1).trans <| (cond_f h2).trans <| (cond_f h3).trans <| rfl
    rw [e] at hK
    exact hK
theorem ZO.good:Good Tryz.prog ZO.c :=
 vgood (sh:=[]) (sp:=[]) (LL:=[]) (consG ZK.good (consG ZN.good noG)) (fn:=Tryz.f117) (by kernel_rfl) (by kernel_rfl) (by rw [show loopsOf (bodyOf Tryz.f117) = [] from by kernel_rfl]; exact noL rfl) fun s hp hf=>by
  exact Eq.mpr (ZO.w (s.1) (fun r bs'=>And (r = (ZO.c.out s).1) (bs' = (ZO.c.out s).2))) (ZO.v (s.1) hf (fun r bs'=>And (r = (ZO.c.out s).1) (bs' = (ZO.c.out s).2)) ⟨rfl,rfl⟩)
def ZP.S:Nat→St→Int→Int→Nat×Int×Int×Unit
 | 0,_,_,_=>(0,(0,(0,())))
 | n + 1,y0,y1,y2=>bif decide (y2 < (y0.live.length:Int)) then bif y0.live.getD (y2).toNat false then ZP.S n y0 (wrap (y1 + 1)) (wrap (y2 + 1)) else ZP.S n y0 y1 (wrap (y2 + 1)) else (0,(y1,(y2,())))
def ZP.M (y0:St) (y1:Int) (y2:Int):Nat:=((y0.live.length:Int) - y2).toNat
def ZP.R (y0:St) (y1:Int) (y2:Int):Nat×Int×Int×Unit:=ZP.S (ZP.M y0 y1 y2 + 1) y0 y1 y2
def ZP.P (y0:St) (y1:Int) (y2:Int):Prop:=(0≤y2)∧((y0.live.length:Int)≤9223372036854775807)
def ZP.L:FL:=fCons (fC (cPtr 1 (cStE false) rfl)) (fCons (fC cInt) (fCons (fC cInt) (fNil)))
def ZP.o0 (y0:St) (y1:Int) (y2:Int) (r:Nat×Int×Int×Unit):Ex×List FV×List Blk:=(.exit 0,[.c (.ptr 0 0),.c (.int r.2.1),.c (.int r.2.2.1)],[.raw 1 [.int y0.way,.int y0.ver,.int y0.want,.arr false (.pkts y0.sent),.arr false (.bools y0.live),.arr false (.bools y0.back),.arr false (.ints y0.got)]])
def ZP.o (y0:St) (y1:Int) (y2:Int) (r:Nat×Int×Int×Unit):Ex×List FV×List Blk:=pickAlt [] (ZP.o0 y0 y1 y2 r)
def ZP.d:LDat:=ldat 3 [1,3,4] [] ZP.L (fun s=>ZP.P s.1 s.2.1 s.2.2.1) (fun s=>[]) (fun s=>ZP.o0 s.1 s.2.1 s.2.2.1 (ZP.R s.1 s.2.1 s.2.2.1)) (fun s=>ZP.M s.1 s.2.1 s.2.2.1)
def ZQ.S (a0:St):Int:=((ZP.R a0 0 0).2.1)
def ZQ.enc (r:Int):AV×List Blk:=(.v (.c (.int r)),[])
def ZQ.L:ShL:=sCons sSt (sNil)
def ZQ.c:Ctr:=vctr 183 ZQ.L none (fun s=>ZQ.enc (ZQ.S s.1))
theorem ZP.w (y0:St) (y1:Int) (y2:Int):evBody (envS [] []) [] (bodyAt Tryz.f183 0) ZP.d (y0,(y1,(y2,()))) = (And (Imp ((decide (y2 < (y0.live.length:Int))) = true) (And ((0:Int)≤y2∧y2 < (y0.live.length:Int)) (And (Imp ((y0.live.getD (y2).toNat false) = true) (And (ZP.P y0 (wrap (y1 + 1)) (wrap (y2 + 1))) (And (ZP.M y0 (wrap (y1 + 1)) (wrap (y2 + 1)) < ZP.M y0 y1 y2) (ZP.o y0 (wrap (y1 + 1)) (wrap (y2 + 1)) (ZP.R y0 (wrap (y1 + 1)) (wrap (y2 + 1))) = ZP.o y0 y1 y2 (ZP.R y0 y1 y2))))) (Imp ((y0.live.getD (y2).toNat false) = false) (And (ZP.P y0 y1 (wrap (y2 + 1))) (And (ZP.M y0 y1 (wrap (y2 + 1)) < ZP.M y0 y1 y2) (ZP.o y0 y1 (wrap (y2 + 1)) (ZP.R y0 y1 (wrap (y2 + 1))) = ZP.o y0 y1 y2 (ZP.R y0 y1 y2)))))))) (Imp ((decide (y2 < (y0.live.length:Int))) = false) (ZP.o y0 y1 y2 (ZP.R y0 y1 y2) = (.exit 0,[.c (.ptr 0 0),.c (.int y1),.c (.int y2)],[.raw 1 [.int y0.way,.int y0.ver,.int y0.want,.arr false (.pkts y0.sent),.arr false (.bools y0.live),.arr false (.bools y0.back),.arr false (.ints y0.got)]])))):=by kernel_rfl
theorem ZP.v (y0:St) (y1:Int) (y2:Int) (hp:ZP.P y0 y1 y2):And (Imp ((decide (y2 < (y0.live.length:Int))) = true) (And ((0:Int)≤y2∧y2 < (y0.live.length:Int)) (And (Imp ((y0.live.getD (y2).toNat false) = true) (And (ZP.P y0 (wrap (y1 + 1)) (wrap (y2 + 1))) (And (ZP.M y0 (wrap (y1 + 1)) (wrap (y2 + 1)) < ZP.M y0 y1 y2) (ZP.o y0 (wrap (y1 + 1)) (wrap (y2 + 1)) (ZP.R y0 (wrap (y1 + 1)) (wrap (y2 + 1))) = ZP.o y0 y1 y2 (ZP.R y0 y1 y2))))) (Imp ((y0.live.getD (y2).toNat false) = false) (And (ZP.P y0 y1 (wrap (y2 + 1))) (And (ZP.M y0 y1 (wrap (y2 + 1)) < ZP.M y0 y1 y2) (ZP.o y0 y1 (wrap (y2 + 1)) (ZP.R y0 y1 (wrap (y2 + 1))) = ZP.o y0 y1 y2 (ZP.R y0 y1 y2)))))))) (Imp ((decide (y2 < (y0.live.length:Int))) = false) (ZP.o y0 y1 y2 (ZP.R y0 y1 y2) = (.exit 0,[.c (.ptr 0 0),.c (.int y1),.c (.int y2)],[.raw 1 [.int y0.way,.int y0.ver,.int y0.want,.arr false (.pkts y0.sent),.arr false (.bools y0.live),.arr false (.bools y0.back),.arr false (.ints y0.got)]]))):=by
 simp only [ZP.P] at hp
 obtain ⟨p0,p1⟩:=hp
 refine ⟨fun h1=>?_,fun h1=>?_⟩
 ·refine ⟨by first | exact True.intro | assumption | omega | grind [wrap_id],?_⟩
  refine ⟨fun h2=>?_,fun h2=>?_⟩
  ·have hμ:ZP.M y0 y1 y2 = ZP.M y0 (wrap (y1 + 1)) (wrap (y2 + 1)) + 1:=by simp only [ZP.M]; first | omega | grind [wrap_id]
   refine ⟨by simp only [ZP.P]; refine ⟨(by first | exact True.intro | assumption | omega | grind [wrap_id]),(by first | exact True.intro | assumption | omega | grind [wrap_id])⟩,by omega,?_⟩
   have e:ZP.R y0 y1 y2 = ZP.R y0 (wrap (y1 + 1)) (wrap (y2 + 1)):=by
    have e1:ZP.R y0 y1 y2 = ZP.S (ZP.M y0 y1 y2) y0 (wrap (y1 + 1)) (wrap (y2 + 1)):=by unfold ZP.R; rw [ZP.S]; exact (cond_t h1).trans <| (cond_t h2).trans <| rfl
    rw [e1,hμ]
    rfl
   rw [e]
   rfl
  ·have hμ:ZP.M y0 y1 y2 = ZP.M y0 y1 (wrap (y2 + 1)) + 1:=by simp only [ZP.M]; first | omega | grind [wrap_id]
   refine ⟨by simp only [ZP.P]; refine ⟨(by first | exact True.intro | assumption | omega | grind [wrap_id]),(by first | exact True.intro | assumption | omega | grind [wrap_id])⟩,by omega,?_⟩
   have e:ZP.R y0 y1 y2 = ZP.R y0 y1 (wrap (y2 + 1)):=by
    have e1:ZP.R y0 y1 y2 = ZP.S (ZP.M y0 y1 y2) y0 y1 (wrap (y2 + 1)):=by unfold ZP.R; rw [ZP.S]; exact (cond_t h1).trans <| (cond_f h2).trans <| rfl
    rw [e1,hμ]
    rfl
   rw [e]
   rfl
 ·have e:ZP.R y0 y1 y2 = (0,(y1,(y2,()))):=by unfold ZP.R; rw [ZP.S]; exact (cond_f h1).trans <| rfl
  rw [e]
  rfl
theorem ZP.g (hG:∀c∈[],Good Tryz.prog c):LGood Tryz.prog Tryz.f183.ntmps ZP.d.ctr (bodyAt Tryz.f183 0):=by
 refine lgoodS (sp:=[]) (LL:=[]) hG (by kernel_rfl) (by rw [show loopsOf (bodyAt Tryz.f183 0) = [] from by kernel_rfl]; exact noL rfl) fun s hp=>?_
 refine Eq.mpr (ZP.w s.1 s.2.1 s.2.2.1) ?_
 replace hp:ZP.P s.1 s.2.1 s.2.2.1:=hp
 exact ZP.v _ _ _ hp
def ZP.E (y0:St) (k:Nat) (a:Int):Option (Nat×Int×Int×Unit):=bif y0.live.getD k false then none else none
def ZP.A (y0:St) (k:Nat) (a:Int):Int:=bif y0.live.getD k false then (wrap (a + 1)) else (a)
def ZP.fin (y0:St) (k:Nat) (a:Int):Nat×Int×Int×Unit:=(0,(a,((k:Int),())))
def ZP.acc (y0:St) (a:Int):Nat→Int
 | 0=>a
 | k + 1=>ZP.A y0 k (ZP.acc y0 a k)
theorem ZP.law (y0:St) (a:Int) (n:Nat) (hT:(y0.live.length:Int) = (n:Int)) (hn:(n:Int)≤9223372036854775807) :
  ((∀k,k < n→ZP.E y0 k (ZP.acc y0 a k) = none)∧ZP.R y0 a 0 = ZP.fin y0 n (ZP.acc y0 a n))∨(∃k r,k < n∧ZP.E y0 k (ZP.acc y0 a k) = some r∧(∀j,j < k→ZP.E y0 j (ZP.acc y0 a j) = none)∧ZP.R y0 a 0 = r):=by
 have hM:ZP.M y0 a 0 + 1 = n + 1:=by simp only [ZP.M]; omega
 unfold ZP.R
 rw [hM]
 refine loopE (fun m i b=>ZP.S m y0 b i) n hn (ZP.acc y0 a) (ZP.E y0 ) (ZP.fin y0 ) fun m k hk=>?_
 have ha:ZP.acc y0 a (k + 1) = ZP.A y0 k (ZP.acc y0 a k):=rfl
 rw [ha]
 generalize ZP.acc y0 a k = b
 simp only [ZP.S,ZP.E,ZP.A,ZP.fin,hT,Int.toNat_natCast]
 all_goals grind
theorem ZQ.w (a0:St) (K:AV→List Blk→Prop):evFn (envS [] []) [ZP.d.ctr] [] [] Tryz.f183 [] (ZQ.L.enc (a0,())) K = (And (ZP.P a0 0 0) (K (.v (.c (.int (ZP.R a0 0 0).2.1))) ([]))):=by kernel_rfl
theorem ZQ.v (a0:St) (hf:St.fact a0∧True) (K:AV→List Blk→Prop) (hK:K (ZQ.enc (ZQ.S a0)).1 (ZQ.enc (ZQ.S a0)).2):And (ZP.P a0 0 0) (K (.v (.c (.int (ZP.R a0 0 0).2.1))) ([])):=by
 obtain ⟨f0,-⟩:=hf
 obtain ⟨f0_0,f0_1,f0_2,f0_3⟩:=f0
 try simp only [big] at *
 refine ⟨by simp only [ZP.P]; refine ⟨(by clear hK; first | exact True.intro | assumption | omega | grind [wrap_id]),(by clear hK; first | exact True.intro | assumption | omega | grind [wrap_id])⟩,?_⟩
 have e:ZQ.S a0 = ((ZP.R a0 0 0).2.1):=by unfold ZQ.S; exact rfl
 rw [e] at hK
 exact hK
theorem ZQ.good:Good Tryz.prog ZQ.c :=
 vgood (sh:=[]) (sp:=[]) (LL:=[ZP.d.ctr]) noG (fn:=Tryz.f183) (by kernel_rfl) (by kernel_rfl) (by rw [show loopsOf (bodyOf Tryz.f183) = [(bodyAt Tryz.f183 0)] from by kernel_rfl]; exact consL (l:=ZP.d.ctr) (by kernel_rfl) (ZP.g noG) (noL rfl)) fun s hp hf=>by
  exact Eq.mpr (ZQ.w (s.1) (fun r bs'=>And (r = (ZQ.c.out s).1) (bs' = (ZQ.c.out s).2))) (ZQ.v (s.1) hf (fun r bs'=>And (r = (ZQ.c.out s).1) (bs' = (ZQ.c.out s).2)) ⟨rfl,rfl⟩)
def ZR.S:Nat→Bool→(List Bool)→Int→Int→Nat×Bool×Int×Unit
 | 0,_,_,_,_=>(0,(false,(0,())))
 | n + 1,y0,y1,y2,y3=>bif decide (y3 < y2) then bif y1.getD (y3).toNat false then (0,(false,(y3,()))) else ZR.S n y0 y1 y2 (wrap (y3 + 1)) else (1,(false,(y3,())))
def ZR.M (y0:Bool) (y1:List Bool) (y2:Int) (y3:Int):Nat:=(y2 - y3).toNat
def ZR.R (y0:Bool) (y1:List Bool) (y2:Int) (y3:Int):Nat×Bool×Int×Unit:=ZR.S (ZR.M y0 y1 y2 y3 + 1) y0 y1 y2 y3
def ZR.P (y0:Bool) (y1:List Bool) (y2:Int) (y3:Int):Prop:=(0≤y3)∧(y2≤9223372036854775807)∧(y2 = (y1.length:Int))
def ZR.L:FL:=fCons (fC cBool) (fCons (fC (cArr false kBools)) (fCons (fC cInt) (fCons (fC cInt) (fNil))))
def ZR.o0 (y0:Bool) (y1:List Bool) (y2:Int) (y3:Int) (r:Nat×Bool×Int×Unit):Ex×List FV×List Blk:=(.ret,[.c (.bool r.2.1),.c (.arr false (.bools y1)),.c (.int y2),.c (.int r.2.2.1)],[])
def ZR.o1 (y0:Bool) (y1:List Bool) (y2:Int) (y3:Int) (r:Nat×Bool×Int×Unit):Ex×List FV×List Blk:=(.exit 0,[.c (.bool y0),.c (.arr false (.bools y1)),.c (.int y2),.c (.int r.2.2.1)],[])
def ZR.o (y0:Bool) (y1:List Bool) (y2:Int) (y3:Int) (r:Nat×Bool×Int×Unit):Ex×List FV×List Blk:=pickAlt [(Nat.beq r.1 0,ZR.o0 y0 y1 y2 y3 r)] (ZR.o1 y0 y1 y2 y3 r)
def ZR.d:LDat:=ldat 2 [2,6,7,8] [] ZR.L (fun s=>ZR.P s.1 s.2.1 s.2.2.1 s.2.2.2.1) (fun s=>[(Nat.beq (ZR.R s.1 s.2.1 s.2.2.1 s.2.2.2.1).1 0,ZR.o0 s.1 s.2.1 s.2.2.1 s.2.2.2.1 (ZR.R s.1 s.2.1 s.2.2.1 s.2.2.2.1))]) (fun s=>ZR.o1 s.1 s.2.1 s.2.2.1 s.2.2.2.1 (ZR.R s.1 s.2.1 s.2.2.1 s.2.2.2.1)) (fun s=>ZR.M s.1 s.2.1 s.2.2.1 s.2.2.2.1)
def ZS.S (a0:St):Bool:=bif Nat.beq (ZR.R false a0.live (a0.live.length:Int) 0).1 0 then ((ZR.R false a0.live (a0.live.length:Int) 0).2.1) else (true)
def ZS.enc (r:Bool):AV×List Blk:=(.v (.c (.bool r)),[])
def ZS.L:ShL:=sCons sSt (sNil)
def ZS.c:Ctr:=vctr 212 ZS.L none (fun s=>ZS.enc (ZS.S s.1))
theorem ZR.w (y0:Bool) (y1:List Bool) (y2:Int) (y3:Int):evBody (envS [] []) [] (bodyAt Tryz.f212 0) ZR.d (y0,(y1,(y2,(y3,())))) = (And (Imp ((decide (y3 < y2)) = true) (And ((0:Int)≤y3∧y3 < (y1.length:Int)) (And (Imp ((y1.getD (y3).toNat false) = true) (ZR.o y0 y1 y2 y3 (ZR.R y0 y1 y2 y3) = (.ret,[.c (.bool false),.c (.arr false (.bools y1)),.c (.int y2),.c (.int y3)],[]))) (Imp ((y1.getD (y3).toNat false) = false) (And (ZR.P y0 y1 y2 (wrap (y3 + 1))) (And (ZR.M y0 y1 y2 (wrap (y3 + 1)) < ZR.M y0 y1 y2 y3) (ZR.o y0 y1 y2 (wrap (y3 + 1)) (ZR.R y0 y1 y2 (wrap (y3 + 1))) = ZR.o y0 y1 y2 y3 (ZR.R y0 y1 y2 y3)))))))) (Imp ((decide (y3 < y2)) = false) (ZR.o y0 y1 y2 y3 (ZR.R y0 y1 y2 y3) = (.exit 0,[.c (.bool y0),.c (.arr false (.bools y1)),.c (.int y2),.c (.int y3)],[])))):=by kernel_rfl
theorem ZR.v (y0:Bool) (y1:List Bool) (y2:Int) (y3:Int) (hp:ZR.P y0 y1 y2 y3):And (Imp ((decide (y3 < y2)) = true) (And ((0:Int)≤y3∧y3 < (y1.length:Int)) (And (Imp ((y1.getD (y3).toNat false) = true) (ZR.o y0 y1 y2 y3 (ZR.R y0 y1 y2 y3) = (.ret,[.c (.bool false),.c (.arr false (.bools y1)),.c (.int y2),.c (.int y3)],[]))) (Imp ((y1.getD (y3).toNat false) = false) (And (ZR.P y0 y1 y2 (wrap (y3 + 1))) (And (ZR.M y0 y1 y2 (wrap (y3 + 1)) < ZR.M y0 y1 y2 y3) (ZR.o y0 y1 y2 (wrap (y3 + 1)) (ZR.R y0 y1 y2 (wrap (y3 + 1))) = ZR.o y0 y1 y2 y3 (ZR.R y0 y1 y2 y3)))))))) (Imp ((decide (y3 < y2)) = false) (ZR.o y0 y1 y2 y3 (ZR.R y0 y1 y2 y3) = (.exit 0,[.c (.bool y0),.c (.arr false (.bools y1)),.c (.int y2),.c (.int y3)],[]))):=by
 simp only [ZR.P] at hp
 obtain ⟨p0,p1,p2⟩:=hp
 refine ⟨fun h1=>?_,fun h1=>?_⟩
 ·refine ⟨by first | exact True.intro | assumption | omega | grind [wrap_id],?_⟩
  refine ⟨fun h2=>?_,fun h2=>?_⟩
  ·have e:ZR.R y0 y1 y2 y3 = (0,(false,(y3,()))):=by unfold ZR.R; rw [ZR.S]; exact (cond_t h1).trans <| (cond_t h2).trans <| rfl
   rw [e]
   rfl
  ·have hμ:ZR.M y0 y1 y2 y3 = ZR.M y0 y1 y2 (wrap (y3 + 1)) + 1:=by simp only [ZR.M]; first | omega | grind [wrap_id]
   refine ⟨by simp only [ZR.P]; refine ⟨(by first | exact True.intro | assumption | omega | grind [wrap_id]),(by first | exact True.intro | assumption | omega | grind [wrap_id]),(by first | exact True.intro | assumption | omega | grind [wrap_id])⟩,by omega,?_⟩
   have e:ZR.R y0 y1 y2 y3 = ZR.R y0 y1 y2 (wrap (y3 + 1)):=by
    have e1:ZR.R y0 y1 y2 y3 = ZR.S (ZR.M y0 y1 y2 y3) y0 y1 y2 (wrap (y3 + 1)):=by unfold ZR.R; rw [ZR.S]; exact (cond_t h1).trans <| (cond_f h2).trans <| rfl
    rw [e1,hμ]
    rfl
   rw [e]
   rfl
 ·have e:ZR.R y0 y1 y2 y3 = (1,(false,(y3,()))):=by unfold ZR.R; rw [ZR.S]; exact (cond_f h1).trans <| rfl
  rw [e]
  rfl
theorem ZR.g (hG:∀c∈[],Good Tryz.prog c):LGood Tryz.prog Tryz.f212.ntmps ZR.d.ctr (bodyAt Tryz.f212 0):=by
 refine lgoodS (sp:=[]) (LL:=[]) hG (by kernel_rfl) (by rw [show loopsOf (bodyAt Tryz.f212 0) = [] from by kernel_rfl]; exact noL rfl) fun s hp=>?_
 refine Eq.mpr (ZR.w s.1 s.2.1 s.2.2.1 s.2.2.2.1) ?_
 replace hp:ZR.P s.1 s.2.1 s.2.2.1 s.2.2.2.1:=hp
 exact ZR.v _ _ _ _ hp
def ZR.E (y0:Bool) (y1:List Bool) (y2:Int) (k:Nat) (a:Unit):Option (Nat×Bool×Int×Unit):=bif y1.getD k false then some (0,(false,((k:Int),()))) else none
def ZR.A (y0:Bool) (y1:List Bool) (y2:Int) (k:Nat) (a:Unit):Unit:=bif y1.getD k false then a else ()
def ZR.fin (y0:Bool) (y1:List Bool) (y2:Int) (k:Nat) (a:Unit):Nat×Bool×Int×Unit:=(1,(false,((k:Int),())))
def ZR.acc (y0:Bool) (y1:List Bool) (y2:Int) (a:Unit):Nat→Unit
 | 0=>a
 | k + 1=>ZR.A y0 y1 y2 k (ZR.acc y0 y1 y2 a k)
theorem ZR.law (y0:Bool) (y1:List Bool) (y2:Int) (a:Unit) (n:Nat) (hT:y2 = (n:Int)) (hn:(n:Int)≤9223372036854775807) :
  ((∀k,k < n→ZR.E y0 y1 y2 k (ZR.acc y0 y1 y2 a k) = none)∧ZR.R y0 y1 y2 0 = ZR.fin y0 y1 y2 n (ZR.acc y0 y1 y2 a n))∨(∃k r,k < n∧ZR.E y0 y1 y2 k (ZR.acc y0 y1 y2 a k) = some r∧(∀j,j < k→ZR.E y0 y1 y2 j (ZR.acc y0 y1 y2 a j) = none)∧ZR.R y0 y1 y2 0 = r):=by
 have hM:ZR.M y0 y1 y2 0 + 1 = n + 1:=by simp only [ZR.M]; omega
 unfold ZR.R
 rw [hM]
 refine loopE (fun m i b=>ZR.S m y0 y1 y2 i) n hn (ZR.acc y0 y1 y2 a) (ZR.E y0 y1 y2 ) (ZR.fin y0 y1 y2 ) fun m k hk=>?_
 have ha:ZR.acc y0 y1 y2 a (k + 1) = ZR.A y0 y1 y2 k (ZR.acc y0 y1 y2 a k):=rfl
 rw [ha]
 generalize ZR.acc y0 y1 y2 a k = b
 simp only [ZR.S,ZR.E,ZR.A,ZR.fin,hT,Int.toNat_natCast]
 all_goals grind
theorem ZS.w (a0:St) (K:AV→List Blk→Prop):evFn (envS [] []) [ZR.d.ctr] [] [] Tryz.f212 [] (ZS.L.enc (a0,())) K = (And (ZR.P false a0.live (a0.live.length:Int) 0) (And (Imp (Nat.beq (ZR.R false a0.live (a0.live.length:Int) 0).1 0 = true) (K (.v (.c (.bool (ZR.R false a0.live (a0.live.length:Int) 0).2.1))) ([]))) (Imp (Nat.beq (ZR.R false a0.live (a0.live.length:Int) 0).1 0 = false) (K (.v (.c (.bool true))) ([]))))):=by kernel_rfl
theorem ZS.v (a0:St) (hf:St.fact a0∧True) (K:AV→List Blk→Prop) (hK:K (ZS.enc (ZS.S a0)).1 (ZS.enc (ZS.S a0)).2):And (ZR.P false a0.live (a0.live.length:Int) 0) (And (Imp (Nat.beq (ZR.R false a0.live (a0.live.length:Int) 0).1 0 = true) (K (.v (.c (.bool (ZR.R false a0.live (a0.live.length:Int) 0).2.1))) ([]))) (Imp (Nat.beq (ZR.R false a0.live (a0.live.length:Int) 0).1 0 = false) (K (.v (.c (.bool true))) ([])))):=by
 obtain ⟨f0,-⟩:=hf
 obtain ⟨f0_0,f0_1,f0_2,f0_3⟩:=f0
 try simp only [big] at *
 refine ⟨by simp only [ZR.P]; refine ⟨(by clear hK; first | exact True.intro | assumption | omega | grind [wrap_id]),(by clear hK; first | exact True.intro | assumption | omega | grind [wrap_id]),(by clear hK; first | exact True.intro | assumption | omega | grind [wrap_id])⟩,?_⟩
 refine ⟨fun h1=>?_,fun h1=>?_⟩
 ·have e:ZS.S a0 = ((ZR.R false a0.live (a0.live.length:Int) 0).2.1):=by unfold ZS.S; exact (cond_t h1).trans <| rfl
  rw [e] at hK
  exact hK
 ·have e:ZS.S a0 = (true):=by unfold ZS.S; exact (cond_f h1).trans <| rfl
  rw [e] at hK
  exact hK
theorem ZS.good:Good Tryz.prog ZS.c :=
 vgood (sh:=[]) (sp:=[]) (LL:=[ZR.d.ctr]) noG (fn:=Tryz.f212) (by kernel_rfl) (by kernel_rfl) (by rw [show loopsOf (bodyOf Tryz.f212) = [(bodyAt Tryz.f212 0)] from by kernel_rfl]; exact consL (l:=ZR.d.ctr) (by kernel_rfl) (ZR.g noG) (noL rfl)) fun s hp hf=>by
  exact Eq.mpr (ZS.w (s.1) (fun r bs'=>And (r = (ZS.c.out s).1) (bs' = (ZS.c.out s).2))) (ZS.v (s.1) hf (fun r bs'=>And (r = (ZS.c.out s).1) (bs' = (ZS.c.out s).2)) ⟨rfl,rfl⟩)
end
end Hw
end Go.Proofs.YtklmllaggigkfaaGreat
