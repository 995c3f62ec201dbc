/- Functions that only read, 1: made by gen.py. -/
import Derived.Test.YtklmllaggigkfaaGreatPX22
set_option linter.unusedVariables false
set_option linter.unusedSimpArgs false
set_option maxRecDepth 100000
set_option maxHeartbeats 400000
namespace Go.Proofs.YtklmllaggigkfaaGreat
namespace Hw
open Go
noncomputable section
attribute [local irreducible] evFn evBody wrap wxor
def Zi.S (a0:Int) (a1:Int) (a2:Int):Bool:=(bif decide (a0≥a1) then decide (a0≤a2) else false)
def Zi.enc (r:Bool):AV×List Blk:=(.v (.c (.bool r)),[])
def Zi.L:ShL:=sCons sInt (sCons sInt (sCons sInt (sNil)))
def Zi.c:Ctr:=vctr 38 Zi.L none (fun s=>Zi.enc (Zi.S s.1 s.2.1 s.2.2.1))
theorem Zi.w (a0:Int) (a1:Int) (a2:Int) (K:AV→List Blk→Prop):evFn (envS [] []) [] [] [] Tryz.f38 [] (Zi.L.enc (a0,(a1,(a2,())))) K = (K (.v (.c (.bool (bif decide (a0≥a1) then decide (a0≤a2) else false)))) ([])):=by kernel_rfl
theorem Zi.v (a0:Int) (a1:Int) (a2:Int) (hf:True∧True∧True∧True) (K:AV→List Blk→Prop) (hK:K (Zi.enc (Zi.S a0 a1 a2)).1 (Zi.enc (Zi.S a0 a1 a2)).2):K (.v (.c (.bool (bif decide (a0≥a1) then decide (a0≤a2) else false)))) ([]):=by
 clear hf
 have e:Zi.S a0 a1 a2 = (bif decide (a0≥a1) then decide (a0≤a2) else false):=by unfold Zi.S; exact rfl
 rw [e] at hK
 exact hK
theorem Zi.good:Good Tryz.prog Zi.c :=
 vgood (sh:=[]) (sp:=[]) (LL:=[]) noG (fn:=Tryz.f38) (by kernel_rfl) (by kernel_rfl) (by rw [show loopsOf (bodyOf Tryz.f38) = [] from by kernel_rfl]; exact noL rfl) fun s hp hf=>by
  exact Eq.mpr (Zi.w (s.1) (s.2.1) (s.2.2.1) (fun r bs'=>And (r = (Zi.c.out s).1) (bs' = (Zi.c.out s).2))) (Zi.v (s.1) (s.2.1) (s.2.2.1) hf (fun r bs'=>And (r = (Zi.c.out s).1) (bs' = (Zi.c.out s).2)) ⟨rfl,rfl⟩)
def Zc.S (a0:Int):Bool:=((Zi.S a0 1 3))
def Zc.enc (r:Bool):AV×List Blk:=(.v (.c (.bool r)),[])
def Zc.L:ShL:=sCons sInt (sNil)
def Zc.c:Ctr:=vctr 142 Zc.L none (fun s=>Zc.enc (Zc.S s.1))
theorem Zc.w (a0:Int) (K:AV→List Blk→Prop):evFn (envS [Zi.c] []) [] [] [] Tryz.f142 [] (Zc.L.enc (a0,())) K = (K (.v (.c (.bool (Zi.S a0 1 3)))) ([])):=by kernel_rfl
theorem Zc.v (a0:Int) (hf:True∧True) (K:AV→List Blk→Prop) (hK:K (Zc.enc (Zc.S a0)).1 (Zc.enc (Zc.S a0)).2):K (.v (.c (.bool (Zi.S a0 1 3)))) ([]):=by
 clear hf
 have e:Zc.S a0 = ((Zi.S a0 1 3)):=by unfold Zc.S; exact rfl
 rw [e] at hK
 exact hK
theorem Zc.good:Good Tryz.prog Zc.c :=
 vgood (sh:=[]) (sp:=[]) (LL:=[]) (consG Zi.good noG) (fn:=Tryz.f142) (by kernel_rfl) (by kernel_rfl) (by rw [show loopsOf (bodyOf Tryz.f142) = [] from by kernel_rfl]; exact noL rfl) fun s hp hf=>by
  exact Eq.mpr (Zc.w (s.1) (fun r bs'=>And (r = (Zc.c.out s).1) (bs' = (Zc.c.out s).2))) (Zc.v (s.1) hf (fun r bs'=>And (r = (Zc.c.out s).1) (bs' = (Zc.c.out s).2)) ⟨rfl,rfl⟩)
def Zx.S (a0:Int):Bool:=(bif decide (a0≥1) then decide (a0≤3) else false)
def Zx.enc (r:Bool):AV×List Blk:=(.v (.c (.bool r)),[])
def Zx.L:ShL:=sCons sInt (sNil)
def Zx.c:Ctr:=vctr 91 Zx.L none (fun s=>Zx.enc (Zx.S s.1))
theorem Zx.w (a0:Int) (K:AV→List Blk→Prop):evFn (envS [] []) [] [] [] Tryz.f91 [] (Zx.L.enc (a0,())) K = (K (.v (.c (.bool (bif decide (a0≥1) then decide (a0≤3) else false)))) ([])):=by kernel_rfl
theorem Zx.v (a0:Int) (hf:True∧True) (K:AV→List Blk→Prop) (hK:K (Zx.enc (Zx.S a0)).1 (Zx.enc (Zx.S a0)).2):K (.v (.c (.bool (bif decide (a0≥1) then decide (a0≤3) else false)))) ([]):=by
 clear hf
 have e:Zx.S a0 = (bif decide (a0≥1) then decide (a0≤3) else false):=by unfold Zx.S; exact rfl
 rw [e] at hK
 exact hK
theorem Zx.good:Good Tryz.prog Zx.c :=
 vgood (sh:=[]) (sp:=[]) (LL:=[]) noG (fn:=Tryz.f91) (by kernel_rfl) (by kernel_rfl) (by rw [show loopsOf (bodyOf Tryz.f91) = [] from by kernel_rfl]; exact noL rfl) fun s hp hf=>by
  exact Eq.mpr (Zx.w (s.1) (fun r bs'=>And (r = (Zx.c.out s).1) (bs' = (Zx.c.out s).2))) (Zx.v (s.1) hf (fun r bs'=>And (r = (Zx.c.out s).1) (bs' = (Zx.c.out s).2)) ⟨rfl,rfl⟩)
def Zy.S (a0:Pkt):Bool:=(bif bif bif bif bif bif (Zi.S a0.seq 1 8) then (Zi.S a0.kind 1 2) else false then (Zc.S a0.frm) else false then (Zi.S a0.to 0 3) else false then (Zi.S a0.sum 1 9) else false then (Zi.S a0.til 1 90) else false then (Zi.S a0.ver 1 9) else false)
def Zy.enc (r:Bool):AV×List Blk:=(.v (.c (.bool r)),[])
def Zy.L:ShL:=sCons sPkt (sNil)
def Zy.c:Ctr:=vctr 140 Zy.L none (fun s=>Zy.enc (Zy.S s.1))
theorem Zy.w (a0:Pkt) (K:AV→List Blk→Prop):evFn (envS [Zi.c,Zc.c] []) [] [] [] Tryz.f140 [] (Zy.L.enc (a0,())) K = (K (.v (.c (.bool (bif bif bif bif bif bif (Zi.S a0.seq 1 8) then (Zi.S a0.kind 1 2) else false then (Zc.S a0.frm) else false then (Zi.S a0.to 0 3) else false then (Zi.S a0.sum 1 9) else false then (Zi.S a0.til 1 90) else false then (Zi.S a0.ver 1 9) else false)))) ([])):=by kernel_rfl
theorem Zy.v (a0:Pkt) (hf:True∧True) (K:AV→List Blk→Prop) (hK:K (Zy.enc (Zy.S a0)).1 (Zy.enc (Zy.S a0)).2):K (.v (.c (.bool (bif bif bif bif bif bif (Zi.S a0.seq 1 8) then (Zi.S a0.kind 1 2) else false then (Zc.S a0.frm) else false then (Zi.S a0.to 0 3) else false then (Zi.S a0.sum 1 9) else false then (Zi.S a0.til 1 90) else false then (Zi.S a0.ver 1 9) else false)))) ([]):=by
 clear hf
 have e:Zy.S a0 = (bif bif bif bif bif bif (Zi.S a0.seq 1 8) then (Zi.S a0.kind 1 2) else false then (Zc.S a0.frm) else false then (Zi.S a0.to 0 3) else false then (Zi.S a0.sum 1 9) else false then (Zi.S a0.til 1 90) else false then (Zi.S a0.ver 1 9) else false):=by unfold Zy.S; exact rfl
 rw [e] at hK
 exact hK
theorem Zy.good:Good Tryz.prog Zy.c :=
 vgood (sh:=[]) (sp:=[]) (LL:=[]) (consG Zi.good (consG Zc.good noG)) (fn:=Tryz.f140) (by kernel_rfl) (by kernel_rfl) (by rw [show loopsOf (bodyOf Tryz.f140) = [] from by kernel_rfl]; exact noL rfl) fun s hp hf=>by
  exact Eq.mpr (Zy.w (s.1) (fun r bs'=>And (r = (Zy.c.out s).1) (bs' = (Zy.c.out s).2))) (Zy.v (s.1) hf (fun r bs'=>And (r = (Zy.c.out s).1) (bs' = (Zy.c.out s).2)) ⟨rfl,rfl⟩)
def Zz.S (a0:Pkt):Bool:=bif bif a0.kind != 1 then a0.kind != 2 else false then (false) else bif bif !(Zx.S a0.frm) then true else bif a0.to != 0 then !(Zx.S a0.to) else false then (false) else bif bif bif bif decide (a0.seq < 1) then true else decide (a0.seq > 8) then true else decide (a0.sum < 1) then true else decide (a0.sum > 9) then (false) else (bif bif bif decide (a0.til≥1) then decide (a0.til≤90) else false then decide (a0.ver≥1) else false then decide (a0.ver≤9) else false)
def Zz.enc (r:Bool):AV×List Blk:=(.v (.c (.bool r)),[])
def Zz.L:ShL:=sCons sPkt (sNil)
def Zz.c:Ctr:=vctr 88 Zz.L none (fun s=>Zz.enc (Zz.S s.1))
theorem Zz.w (a0:Pkt) (K:AV→List Blk→Prop):evFn (envS [Zx.c] []) [] [] [] Tryz.f88 [] (Zz.L.enc (a0,())) K = (And (Imp ((bif a0.kind != 1 then a0.kind != 2 else false) = true) (K (.v (.c (.bool false))) ([]))) (Imp ((bif a0.kind != 1 then a0.kind != 2 else false) = false) (And (Imp ((bif !(Zx.S a0.frm) then true else bif a0.to != 0 then !(Zx.S a0.to) else false) = true) (K (.v (.c (.bool false))) ([]))) (Imp ((bif !(Zx.S a0.frm) then true else bif a0.to != 0 then !(Zx.S a0.to) else false) = false) (And (Imp ((bif bif bif decide (a0.seq < 1) then true else decide (a0.seq > 8) then true else decide (a0.sum < 1) then true else decide (a0.sum > 9)) = true) (K (.v (.c (.bool false))) ([]))) (Imp ((bif bif bif decide (a0.seq < 1) then true else decide (a0.seq > 8) then true else decide (a0.sum < 1) then true else decide (a0.sum > 9)) = false) (K (.v (.c (.bool (bif bif bif decide (a0.til≥1) then decide (a0.til≤90) else false then decide (a0.ver≥1) else false then decide (a0.ver≤9) else false)))) ([])))))))):=by kernel_rfl
theorem Zz.v (a0:Pkt) (hf:True∧True) (K:AV→List Blk→Prop) (hK:K (Zz.enc (Zz.S a0)).1 (Zz.enc (Zz.S a0)).2):And (Imp ((bif a0.kind != 1 then a0.kind != 2 else false) = true) (K (.v (.c (.bool false))) ([]))) (Imp ((bif a0.kind != 1 then a0.kind != 2 else false) = false) (And (Imp ((bif !(Zx.S a0.frm) then true else bif a0.to != 0 then !(Zx.S a0.to) else false) = true) (K (.v (.c (.bool false))) ([]))) (Imp ((bif !(Zx.S a0.frm) then true else bif a0.to != 0 then !(Zx.S a0.to) else false) = false) (And (Imp ((bif bif bif decide (a0.seq < 1) then true else decide (a0.seq > 8) then true else decide (a0.sum < 1) then true else decide (a0.sum > 9)) = true) (K (.v (.c (.bool false))) ([]))) (Imp ((bif bif bif decide (a0.seq < 1) then true else decide (a0.seq > 8) then true else decide (a0.sum < 1) then true else decide (a0.sum > 9)) = false) (K (.v (.c (.bool (bif bif bif decide (a0.til≥1) then decide (a0.til≤90) else false then decide (a0.ver≥1) else false then decide (a0.ver≤9) else false)))) ([]))))))):=by
 clear hf
 refine ⟨fun h1=>?_,fun h1=>?_⟩
 ·have e:Zz.S a0 = (false):=by unfold Zz.S; exact (cond_t h1).trans <| rfl
  rw [e] at hK
  exact hK
 ·refine ⟨fun h2=>?_,fun h2=>?_⟩
  ·have e:Zz.S a0 = (false):=by unfold Zz.S; exact (cond_f h1).trans <| (cond_t h2).trans <| rfl
   rw [e] at hK
   exact hK
  ·refine ⟨fun h3=>?_,fun h3=>?_⟩
   ·have e:Zz.S a0 = (false):=by unfold Zz.S; exact (cond_f h1).trans <| (cond_f h2).trans <| (cond_t h3).trans <| rfl
    rw [e] at hK
    exact hK
   ·have e:Zz.S a0 = (bif bif bif decide (a0.til≥1) then decide (a0.til≤90) else false then decide (a0.ver≥1) else false then decide (a0.ver≤9) else false):=by unfold Zz.S; exact (cond_f h1).trans <| (cond_f h2).trans <| (cond_f h3).trans <| rfl
    rw [e] at hK
    exact hK
theorem Zz.good:Good Tryz.prog Zz.c :=
 vgood (sh:=[]) (sp:=[]) (LL:=[]) (consG Zx.good noG) (fn:=Tryz.f88) (by kernel_rfl) (by kernel_rfl) (by rw [show loopsOf (bodyOf Tryz.f88) = [] from by kernel_rfl]; exact noL rfl) fun s hp hf=>by
  exact Eq.mpr (Zz.w (s.1) (fun r bs'=>And (r = (Zz.c.out s).1) (bs' = (Zz.c.out s).2))) (Zz.v (s.1) hf (fun r bs'=>And (r = (Zz.c.out s).1) (bs' = (Zz.c.out s).2)) ⟨rfl,rfl⟩)
def ZA.S:Nat→(List Int)→Int→Int→Nat×Int×Int×Unit
 | 0,_,_,_=>(0,(0,(0,())))
 | n + 1,y0,y1,y2=>bif decide (y2 < (y0.length:Int)) then ZA.S n y0 (wrap (y1 + (y0.getD (y2).toNat 0))) (wrap (y2 + 1)) else (0,(y1,(y2,())))
def ZA.M (y0:List Int) (y1:Int) (y2:Int):Nat:=((y0.length:Int) - y2).toNat
def ZA.R (y0:List Int) (y1:Int) (y2:Int):Nat×Int×Int×Unit:=ZA.S (ZA.M y0 y1 y2 + 1) y0 y1 y2
def ZA.P (y0:List Int) (y1:Int) (y2:Int):Prop:=(0≤y2)∧((y0.length:Int)≤9223372036854775807)
def ZA.L:FL:=fCons (fC (cArr false kInts)) (fCons (fC cInt) (fCons (fC cInt) (fNil)))
def ZA.o0 (y0:List Int) (y1:Int) (y2:Int) (r:Nat×Int×Int×Unit):Ex×List FV×List Blk:=(.exit 0,[.c (.arr false (.ints y0)),.c (.int r.2.1),.c (.int r.2.2.1)],[])
def ZA.o (y0:List Int) (y1:Int) (y2:Int) (r:Nat×Int×Int×Unit):Ex×List FV×List Blk:=pickAlt [] (ZA.o0 y0 y1 y2 r)
def ZA.d:LDat:=ldat 3 [0,3,4] [] ZA.L (fun s=>ZA.P s.1 s.2.1 s.2.2.1) (fun s=>[]) (fun s=>ZA.o0 s.1 s.2.1 s.2.2.1 (ZA.R s.1 s.2.1 s.2.2.1)) (fun s=>ZA.M s.1 s.2.1 s.2.2.1)
def Zu.S (a0:List Int):Int:=((ZA.R a0 0 0).2.1)
def Zu.enc (r:Int):AV×List Blk:=(.v (.c (.int r)),[])
def Zu.L:ShL:=sCons sInts (sNil)
def Zu.c:Ctr:=vctr 171 Zu.L none (fun s=>Zu.enc (Zu.S s.1))
theorem ZA.w (y0:List Int) (y1:Int) (y2:Int):evBody (envS [] []) [] (bodyAt Tryz.f171 0) ZA.d (y0,(y1,(y2,()))) = (And (Imp ((decide (y2 < (y0.length:Int))) = true) (And ((0:Int)≤y2∧y2 < (y0.length:Int)) (And (ZA.P y0 (wrap (y1 + (y0.getD (y2).toNat 0))) (wrap (y2 + 1))) (And (ZA.M y0 (wrap (y1 + (y0.getD (y2).toNat 0))) (wrap (y2 + 1)) < ZA.M y0 y1 y2) (ZA.o y0 (wrap (y1 + (y0.getD (y2).toNat 0))) (wrap (y2 + 1)) (ZA.R y0 (wrap (y1 + (y0.getD (y2).toNat 0))) (wrap (y2 + 1))) = ZA.o y0 y1 y2 (ZA.R y0 y1 y2)))))) (Imp ((decide (y2 < (y0.length:Int))) = false) (ZA.o y0 y1 y2 (ZA.R y0 y1 y2) = (.exit 0,[.c (.arr false (.ints y0)),.c (.int y1),.c (.int y2)],[])))):=by kernel_rfl
theorem ZA.v (y0:List Int) (y1:Int) (y2:Int) (hp:ZA.P y0 y1 y2):And (Imp ((decide (y2 < (y0.length:Int))) = true) (And ((0:Int)≤y2∧y2 < (y0.length:Int)) (And (ZA.P y0 (wrap (y1 + (y0.getD (y2).toNat 0))) (wrap (y2 + 1))) (And (ZA.M y0 (wrap (y1 + (y0.getD (y2).toNat 0))) (wrap (y2 + 1)) < ZA.M y0 y1 y2) (ZA.o y0 (wrap (y1 + (y0.getD (y2).toNat 0))) (wrap (y2 + 1)) (ZA.R y0 (wrap (y1 + (y0.getD (y2).toNat 0))) (wrap (y2 + 1))) = ZA.o y0 y1 y2 (ZA.R y0 y1 y2)))))) (Imp ((decide (y2 < (y0.length:Int))) = false) (ZA.o y0 y1 y2 (ZA.R y0 y1 y2) = (.exit 0,[.c (.arr false (.ints y0)),.c (.int y1),.c (.int y2)],[]))):=by
 simp only [ZA.P] at hp
 obtain ⟨p0,p1⟩:=hp
 refine ⟨fun h1=>?_,fun h1=>?_⟩
 ·refine ⟨by first | exact True.intro | assumption | omega | grind [wrap_id],?_⟩
  have hμ:ZA.M y0 y1 y2 = ZA.M y0 (wrap (y1 + (y0.getD (y2).toNat 0))) (wrap (y2 + 1)) + 1:=by simp only [ZA.M]; first | omega | grind [wrap_id]
  refine ⟨by simp only [ZA.P]; refine ⟨(by first | exact True.intro | assumption | omega | grind [wrap_id]),(by first | exact True.intro | assumption | omega | grind [wrap_id])⟩,by omega,?_⟩
  have e:ZA.R y0 y1 y2 = ZA.R y0 (wrap (y1 + (y0.getD (y2).toNat 0))) (wrap (y2 + 1)):=by
   have e1:ZA.R y0 y1 y2 = ZA.S (ZA.M y0 y1 y2) y0 (wrap (y1 + (y0.getD (y2).toNat 0))) (wrap (y2 + 1)):=by unfold ZA.R; rw [ZA.S]; exact (cond_t h1).trans <| rfl
   rw [e1,hμ]
   rfl
  rw [e]
  rfl
 ·have e:ZA.R y0 y1 y2 = (0,(y1,(y2,()))):=by unfold ZA.R; rw [ZA.S]; exact (cond_f h1).trans <| rfl
  rw [e]
  rfl
theorem ZA.g (hG:∀c∈[],Good Tryz.prog c):LGood Tryz.prog Tryz.f171.ntmps ZA.d.ctr (bodyAt Tryz.f171 0):=by
 refine lgoodS (sp:=[]) (LL:=[]) hG (by kernel_rfl) (by rw [show loopsOf (bodyAt Tryz.f171 0) = [] from by kernel_rfl]; exact noL rfl) fun s hp=>?_
 refine Eq.mpr (ZA.w s.1 s.2.1 s.2.2.1) ?_
 replace hp:ZA.P s.1 s.2.1 s.2.2.1:=hp
 exact ZA.v _ _ _ hp
def ZA.E (y0:List Int) (k:Nat) (a:Int):Option (Nat×Int×Int×Unit):=none
def ZA.A (y0:List Int) (k:Nat) (a:Int):Int:=(wrap (a + (y0.getD k 0)))
def ZA.fin (y0:List Int) (k:Nat) (a:Int):Nat×Int×Int×Unit:=(0,(a,((k:Int),())))
def ZA.acc (y0:List Int) (a:Int):Nat→Int
 | 0=>a
 | k + 1=>ZA.A y0 k (ZA.acc y0 a k)
theorem ZA.law (y0:List Int) (a:Int) (n:Nat) (hT:(y0.length:Int) = (n:Int)) (hn:(n:Int)≤9223372036854775807) :
  ((∀k,k < n→ZA.E y0 k (ZA.acc y0 a k) = none)∧ZA.R y0 a 0 = ZA.fin y0 n (ZA.acc y0 a n))∨(∃k r,k < n∧ZA.E y0 k (ZA.acc y0 a k) = some r∧(∀j,j < k→ZA.E y0 j (ZA.acc y0 a j) = none)∧ZA.R y0 a 0 = r):=by
 have hM:ZA.M y0 a 0 + 1 = n + 1:=by simp only [ZA.M]; omega
 unfold ZA.R
 rw [hM]
 refine loopE (fun m i b=>ZA.S m y0 b i) n hn (ZA.acc y0 a) (ZA.E y0 ) (ZA.fin y0 ) fun m k hk=>?_
 have ha:ZA.acc y0 a (k + 1) = ZA.A y0 k (ZA.acc y0 a k):=rfl
 rw [ha]
 generalize ZA.acc y0 a k = b
 simp only [ZA.S,ZA.E,ZA.A,ZA.fin,hT,Int.toNat_natCast]
 all_goals grind
theorem Zu.w (a0:List Int) (K:AV→List Blk→Prop):evFn (envS [] []) [ZA.d.ctr] [] [] Tryz.f171 [] (Zu.L.enc (a0,())) K = (And (ZA.P a0 0 0) (K (.v (.c (.int (ZA.R a0 0 0).2.1))) ([]))):=by kernel_rfl
theorem Zu.v (a0:List Int) (hf:(a0.length:Int)≤9223372036854775807∧True) (K:AV→List Blk→Prop) (hK:K (Zu.enc (Zu.S a0)).1 (Zu.enc (Zu.S a0)).2):And (ZA.P a0 0 0) (K (.v (.c (.int (ZA.R a0 0 0).2.1))) ([])):=by
 obtain ⟨f0,-⟩:=hf
 try simp only [big] at *
 refine ⟨by simp only [ZA.P]; refine ⟨(by clear hK; first | exact True.intro | assumption | omega | grind [wrap_id]),(by clear hK; first | exact True.intro | assumption | omega | grind [wrap_id])⟩,?_⟩
 have e:Zu.S a0 = ((ZA.R a0 0 0).2.1):=by unfold Zu.S; exact rfl
 rw [e] at hK
 exact hK
theorem Zu.good:Good Tryz.prog Zu.c :=
 vgood (sh:=[]) (sp:=[]) (LL:=[ZA.d.ctr]) noG (fn:=Tryz.f171) (by kernel_rfl) (by kernel_rfl) (by rw [show loopsOf (bodyOf Tryz.f171) = [(bodyAt Tryz.f171 0)] from by kernel_rfl]; exact consL (l:=ZA.d.ctr) (by kernel_rfl) (ZA.g noG) (noL rfl)) fun s hp hf=>by
  exact Eq.mpr (Zu.w (s.1) (fun r bs'=>And (r = (Zu.c.out s).1) (bs' = (Zu.c.out s).2))) (Zu.v (s.1) hf (fun r bs'=>And (r = (Zu.c.out s).1) (bs' = (Zu.c.out s).2)) ⟨rfl,rfl⟩)
def ZB.S:Nat→(List Int)→Bool→Int→Nat×Bool×Int×Unit
 | 0,_,_,_=>(0,(false,(0,())))
 | n + 1,y0,y1,y2=>bif decide (y2 < (y0.length:Int)) then bif !(Zi.S (y0.getD (y2).toNat 0) 0 30) then (0,(false,(y2,()))) else ZB.S n y0 y1 (wrap (y2 + 1)) else (1,(false,(y2,())))
def ZB.M (y0:List Int) (y1:Bool) (y2:Int):Nat:=((y0.length:Int) - y2).toNat
def ZB.R (y0:List Int) (y1:Bool) (y2:Int):Nat×Bool×Int×Unit:=ZB.S (ZB.M y0 y1 y2 + 1) y0 y1 y2
def ZB.P (y0:List Int) (y1:Bool) (y2:Int):Prop:=(0≤y2)∧((y0.length:Int)≤9223372036854775807)
def ZB.L:FL:=fCons (fC (cArr false kInts)) (fCons (fC cBool) (fCons (fC cInt) (fNil)))
def ZB.o0 (y0:List Int) (y1:Bool) (y2:Int) (r:Nat×Bool×Int×Unit):Ex×List FV×List Blk:=(.ret,[.c (.arr false (.ints y0)),.c (.bool r.2.1),.c (.int r.2.2.1)],[])
def ZB.o1 (y0:List Int) (y1:Bool) (y2:Int) (r:Nat×Bool×Int×Unit):Ex×List FV×List Blk:=(.exit 0,[.c (.arr false (.ints y0)),.c (.bool y1),.c (.int r.2.2.1)],[])
def ZB.o (y0:List Int) (y1:Bool) (y2:Int) (r:Nat×Bool×Int×Unit):Ex×List FV×List Blk:=pickAlt [(Nat.beq r.1 0,ZB.o0 y0 y1 y2 r)] (ZB.o1 y0 y1 y2 r)
def ZB.d:LDat:=ldat 2 [0,2,3] [] ZB.L (fun s=>ZB.P s.1 s.2.1 s.2.2.1) (fun s=>[(Nat.beq (ZB.R s.1 s.2.1 s.2.2.1).1 0,ZB.o0 s.1 s.2.1 s.2.2.1 (ZB.R s.1 s.2.1 s.2.2.1))]) (fun s=>ZB.o1 s.1 s.2.1 s.2.2.1 (ZB.R s.1 s.2.1 s.2.2.1)) (fun s=>ZB.M s.1 s.2.1 s.2.2.1)
def ZC.S (a0:List Int):Bool:=bif Nat.beq (ZB.R a0 false 0).1 0 then ((ZB.R a0 false 0).2.1) else ((a0.length:Int) == 3)
def ZC.enc (r:Bool):AV×List Blk:=(.v (.c (.bool r)),[])
def ZC.L:ShL:=sCons sInts (sNil)
def ZC.c:Ctr:=vctr 170 ZC.L none (fun s=>ZC.enc (ZC.S s.1))
theorem ZB.w (y0:List Int) (y1:Bool) (y2:Int):evBody (envS [Zi.c] []) [] (bodyAt Tryz.f170 0) ZB.d (y0,(y1,(y2,()))) = (And (Imp ((decide (y2 < (y0.length:Int))) = true) (And ((0:Int)≤y2∧y2 < (y0.length:Int)) (And (Imp ((!(Zi.S (y0.getD (y2).toNat 0) 0 30)) = true) (ZB.o y0 y1 y2 (ZB.R y0 y1 y2) = (.ret,[.c (.arr false (.ints y0)),.c (.bool false),.c (.int y2)],[]))) (Imp ((!(Zi.S (y0.getD (y2).toNat 0) 0 30)) = false) (And (ZB.P y0 y1 (wrap (y2 + 1))) (And (ZB.M y0 y1 (wrap (y2 + 1)) < ZB.M y0 y1 y2) (ZB.o y0 y1 (wrap (y2 + 1)) (ZB.R y0 y1 (wrap (y2 + 1))) = ZB.o y0 y1 y2 (ZB.R y0 y1 y2)))))))) (Imp ((decide (y2 < (y0.length:Int))) = false) (ZB.o y0 y1 y2 (ZB.R y0 y1 y2) = (.exit 0,[.c (.arr false (.ints y0)),.c (.bool y1),.c (.int y2)],[])))):=by kernel_rfl
theorem ZB.v (y0:List Int) (y1:Bool) (y2:Int) (hp:ZB.P y0 y1 y2):And (Imp ((decide (y2 < (y0.length:Int))) = true) (And ((0:Int)≤y2∧y2 < (y0.length:Int)) (And (Imp ((!(Zi.S (y0.getD (y2).toNat 0) 0 30)) = true) (ZB.o y0 y1 y2 (ZB.R y0 y1 y2) = (.ret,[.c (.arr false (.ints y0)),.c (.bool false),.c (.int y2)],[]))) (Imp ((!(Zi.S (y0.getD (y2).toNat 0) 0 30)) = false) (And (ZB.P y0 y1 (wrap (y2 + 1))) (And (ZB.M y0 y1 (wrap (y2 + 1)) < ZB.M y0 y1 y2) (ZB.o y0 y1 (wrap (y2 + 1)) (ZB.R y0 y1 (wrap (y2 + 1))) = ZB.o y0 y1 y2 (ZB.R y0 y1 y2)))))))) (Imp ((decide (y2 < (y0.length:Int))) = false) (ZB.o y0 y1 y2 (ZB.R y0 y1 y2) = (.exit 0,[.c (.arr false (.ints y0)),.c (.bool y1),.c (.int y2)],[]))):=by
 simp only [ZB.P] at hp
 obtain ⟨p0,p1⟩:=hp
 refine ⟨fun h1=>?_,fun h1=>?_⟩
 ·refine ⟨by first | exact True.intro | assumption | omega | grind [wrap_id],?_⟩
  refine ⟨fun h2=>?_,fun h2=>?_⟩
  ·have e:ZB.R y0 y1 y2 = (0,(false,(y2,()))):=by unfold ZB.R; rw [ZB.S]; exact (cond_t h1).trans <| (cond_t h2).trans <| rfl
   rw [e]
   rfl
  ·have hμ:ZB.M y0 y1 y2 = ZB.M y0 y1 (wrap (y2 + 1)) + 1:=by simp only [ZB.M]; first | omega | grind [wrap_id]
   refine ⟨by simp only [ZB.P]; refine ⟨(by first | exact True.intro | assumption | omega | grind [wrap_id]),(by first | exact True.intro | assumption | omega | grind [wrap_id])⟩,by omega,?_⟩
   have e:ZB.R y0 y1 y2 = ZB.R y0 y1 (wrap (y2 + 1)):=by
    have e1:ZB.R y0 y1 y2 = ZB.S (ZB.M y0 y1 y2) y0 y1 (wrap (y2 + 1)):=by unfold ZB.R; rw [ZB.S]; exact (cond_t h1).trans <| (cond_f h2).trans <| rfl
    rw [e1,hμ]
    rfl
   rw [e]
   rfl
 ·have e:ZB.R y0 y1 y2 = (1,(false,(y2,()))):=by unfold ZB.R; rw [ZB.S]; exact (cond_f h1).trans <| rfl
  rw [e]
  rfl
theorem ZB.g (hG:∀c∈[Zi.c],Good Tryz.prog c):LGood Tryz.prog Tryz.f170.ntmps ZB.d.ctr (bodyAt Tryz.f170 0):=by
 refine lgoodS (sp:=[]) (LL:=[]) hG (by kernel_rfl) (by rw [show loopsOf (bodyAt Tryz.f170 0) = [] from by kernel_rfl]; exact noL rfl) fun s hp=>?_
 refine Eq.mpr (ZB.w s.1 s.2.1 s.2.2.1) ?_
 replace hp:ZB.P s.1 s.2.1 s.2.2.1:=hp
 exact ZB.v _ _ _ hp
def ZB.E (y0:List Int) (y1:Bool) (k:Nat) (a:Unit):Option (Nat×Bool×Int×Unit):=bif !(Zi.S (y0.getD k 0) 0 30) then some (0,(false,((k:Int),()))) else none
def ZB.A (y0:List Int) (y1:Bool) (k:Nat) (a:Unit):Unit:=bif !(Zi.S (y0.getD k 0) 0 30) then a else ()
def ZB.fin (y0:List Int) (y1:Bool) (k:Nat) (a:Unit):Nat×Bool×Int×Unit:=(1,(false,((k:Int),())))
def ZB.acc (y0:List Int) (y1:Bool) (a:Unit):Nat→Unit
 | 0=>a
 | k + 1=>ZB.A y0 y1 k (ZB.acc y0 y1 a k)
theorem ZB.law (y0:List Int) (y1:Bool) (a:Unit) (n:Nat) (hT:(y0.length:Int) = (n:Int)) (hn:(n:Int)≤9223372036854775807) :
  ((∀k,k < n→ZB.E y0 y1 k (ZB.acc y0 y1 a k) = none)∧ZB.R y0 y1 0 = ZB.fin y0 y1 n (ZB.acc y0 y1 a n))∨(∃k r,k < n∧ZB.E y0 y1 k (ZB.acc y0 y1 a k) = some r∧(∀j,j < k→ZB.E y0 y1 j (ZB.acc y0 y1 a j) = none)∧ZB.R y0 y1 0 = r):=by
 have hM:ZB.M y0 y1 0 + 1 = n + 1:=by simp only [ZB.M]; omega
 unfold ZB.R
 rw [hM]
 refine loopE (fun m i b=>ZB.S m y0 y1 i) n hn (ZB.acc y0 y1 a) (ZB.E y0 y1 ) (ZB.fin y0 y1 ) fun m k hk=>?_
 have ha:ZB.acc y0 y1 a (k + 1) = ZB.A y0 y1 k (ZB.acc y0 y1 a k):=rfl
 rw [ha]
 generalize ZB.acc y0 y1 a k = b
 simp only [ZB.S,ZB.E,ZB.A,ZB.fin,hT,Int.toNat_natCast]
 all_goals grind
theorem ZC.w (a0:List Int) (K:AV→List Blk→Prop):evFn (envS [Zi.c] []) [ZB.d.ctr] [] [] Tryz.f170 [] (ZC.L.enc (a0,())) K = (And (ZB.P a0 false 0) (And (Imp (Nat.beq (ZB.R a0 false 0).1 0 = true) (K (.v (.c (.bool (ZB.R a0 false 0).2.1))) ([]))) (Imp (Nat.beq (ZB.R a0 false 0).1 0 = false) (K (.v (.c (.bool ((a0.length:Int) == 3)))) ([]))))):=by kernel_rfl
theorem ZC.v (a0:List Int) (hf:(a0.length:Int)≤9223372036854775807∧True) (K:AV→List Blk→Prop) (hK:K (ZC.enc (ZC.S a0)).1 (ZC.enc (ZC.S a0)).2):And (ZB.P a0 false 0) (And (Imp (Nat.beq (ZB.R a0 false 0).1 0 = true) (K (.v (.c (.bool (ZB.R a0 false 0).2.1))) ([]))) (Imp (Nat.beq (ZB.R a0 false 0).1 0 = false) (K (.v (.c (.bool ((a0.length:Int) == 3)))) ([])))):=by
 obtain ⟨f0,-⟩:=hf
 try simp only [big] at *
 refine ⟨by simp only [ZB.P]; refine ⟨(by clear hK; first | exact True.intro | assumption | omega | grind [wrap_id]),(by clear hK; first | exact True.intro | assumption | omega | grind [wrap_id])⟩,?_⟩
 refine ⟨fun h1=>?_,fun h1=>?_⟩
 ·have e:ZC.S a0 = ((ZB.R a0 false 0).2.1):=by unfold ZC.S; exact (cond_t h1).trans <| rfl
  rw [e] at hK
  exact hK
 ·have e:ZC.S a0 = ((a0.length:Int) == 3):=by unfold ZC.S; exact (cond_f h1).trans <| rfl
  rw [e] at hK
  exact hK
theorem ZC.good:Good Tryz.prog ZC.c :=
 vgood (sh:=[]) (sp:=[]) (LL:=[ZB.d.ctr]) (consG Zi.good noG) (fn:=Tryz.f170) (by kernel_rfl) (by kernel_rfl) (by rw [show loopsOf (bodyOf Tryz.f170) = [(bodyAt Tryz.f170 0)] from by kernel_rfl]; exact consL (l:=ZB.d.ctr) (by kernel_rfl) (ZB.g (consG Zi.good noG)) (noL rfl)) fun s hp hf=>by
  exact Eq.mpr (ZC.w (s.1) (fun r bs'=>And (r = (ZC.c.out s).1) (bs' = (ZC.c.out s).2))) (ZC.v (s.1) hf (fun r bs'=>And (r = (ZC.c.out s).1) (bs' = (ZC.c.out s).2)) ⟨rfl,rfl⟩)
def ZD.S:Nat→Int→Bool→Int→(List Int)→Int→Int→Nat×Int×Bool×Int×Int×Unit
 | 0,_,_,_,_,_,_=>(0,(0,(false,(0,(0,())))))
 | n + 1,y0,y1,y2,y3,y4,y5=>bif decide (y5 < y4) then bif bif decide ((y3.getD (y5).toNat 0) < 0) then true else decide ((y3.getD (y5).toNat 0) > 30) then (0,(0,(false,(y2,(y5,()))))) else ZD.S n y0 y1 (wrap (y2 + (y3.getD (y5).toNat 0))) y3 y4 (wrap (y5 + 1)) else (1,(y2,(false,(y5,(0,())))))
def ZD.M (y0:Int) (y1:Bool) (y2:Int) (y3:List Int) (y4:Int) (y5:Int):Nat:=(y4 - y5).toNat
def ZD.R (y0:Int) (y1:Bool) (y2:Int) (y3:List Int) (y4:Int) (y5:Int):Nat×Int×Bool×Int×Int×Unit:=ZD.S (ZD.M y0 y1 y2 y3 y4 y5 + 1) y0 y1 y2 y3 y4 y5
def ZD.P (y0:Int) (y1:Bool) (y2:Int) (y3:List Int) (y4:Int) (y5:Int):Prop:=(0≤y5)∧(y4≤9223372036854775807)∧(y4 = (y3.length:Int))∧((y4 != 3) = false)
def ZD.L:FL:=fCons (fC cInt) (fCons (fC cBool) (fCons (fC cInt) (fCons (fC (cArr false kInts)) (fCons (fC cInt) (fCons (fC cInt) (fNil))))))
def ZD.o0 (y0:Int) (y1:Bool) (y2:Int) (y3:List Int) (y4:Int) (y5:Int) (r:Nat×Int×Bool×Int×Int×Unit):Ex×List FV×List Blk:=(.ret,[.c (.int r.2.1),.c (.bool r.2.2.1),.c (.int r.2.2.2.1),.c (.arr false (.ints y3)),.c (.int y4),.c (.int r.2.2.2.2.1)],[])
def ZD.o1 (y0:Int) (y1:Bool) (y2:Int) (y3:List Int) (y4:Int) (y5:Int) (r:Nat×Int×Bool×Int×Int×Unit):Ex×List FV×List Blk:=(.exit 0,[.c (.int y0),.c (.bool y1),.c (.int r.2.1),.c (.arr false (.ints y3)),.c (.int y4),.c (.int r.2.2.2.1)],[])
def ZD.o (y0:Int) (y1:Bool) (y2:Int) (y3:List Int) (y4:Int) (y5:Int) (r:Nat×Int×Bool×Int×Int×Unit):Ex×List FV×List Blk:=pickAlt [(Nat.beq r.1 0,ZD.o0 y0 y1 y2 y3 y4 y5 r)] (ZD.o1 y0 y1 y2 y3 y4 y5 r)
def ZD.d:LDat:=ldat 5 [2,3,4,10,11,12] [] ZD.L (fun s=>ZD.P s.1 s.2.1 s.2.2.1 s.2.2.2.1 s.2.2.2.2.1 s.2.2.2.2.2.1) (fun s=>[(Nat.beq (ZD.R s.1 s.2.1 s.2.2.1 s.2.2.2.1 s.2.2.2.2.1 s.2.2.2.2.2.1).1 0,ZD.o0 s.1 s.2.1 s.2.2.1 s.2.2.2.1 s.2.2.2.2.1 s.2.2.2.2.2.1 (ZD.R s.1 s.2.1 s.2.2.1 s.2.2.2.1 s.2.2.2.2.1 s.2.2.2.2.2.1))]) (fun s=>ZD.o1 s.1 s.2.1 s.2.2.1 s.2.2.2.1 s.2.2.2.2.1 s.2.2.2.2.2.1 (ZD.R s.1 s.2.1 s.2.2.1 s.2.2.2.1 s.2.2.2.2.1 s.2.2.2.2.2.1)) (fun s=>ZD.M s.1 s.2.1 s.2.2.1 s.2.2.2.1 s.2.2.2.2.1 s.2.2.2.2.2.1)
def ZE.S (a0:List Int):Int×Bool:=bif (a0.length:Int) != 3 then (0,false) else bif Nat.beq (ZD.R 0 false 0 a0 (a0.length:Int) 0).1 0 then ((ZD.R 0 false 0 a0 (a0.length:Int) 0).2.1,(ZD.R 0 false 0 a0 (a0.length:Int) 0).2.2.1) else ((ZD.R 0 false 0 a0 (a0.length:Int) 0).2.1,true)
def ZE.enc (r:Int×Bool):AV×List Blk:=(.tup [.c (.int r.1),.c (.bool r.2)],[])
def ZE.L:ShL:=sCons sInts (sNil)
def ZE.c:Ctr:=vctr 155 ZE.L none (fun s=>ZE.enc (ZE.S s.1))
theorem ZD.w (y0:Int) (y1:Bool) (y2:Int) (y3:List Int) (y4:Int) (y5:Int):evBody (envS [] []) [] (bodyAt Tryz.f155 0) ZD.d (y0,(y1,(y2,(y3,(y4,(y5,())))))) = (And (Imp ((decide (y5 < y4)) = true) (And ((0:Int)≤y5∧y5 < (y3.length:Int)) (And (Imp ((bif decide ((y3.getD (y5).toNat 0) < 0) then true else decide ((y3.getD (y5).toNat 0) > 30)) = true) (ZD.o y0 y1 y2 y3 y4 y5 (ZD.R y0 y1 y2 y3 y4 y5) = (.ret,[.c (.int 0),.c (.bool false),.c (.int y2),.c (.arr false (.ints y3)),.c (.int y4),.c (.int y5)],[]))) (Imp ((bif decide ((y3.getD (y5).toNat 0) < 0) then true else decide ((y3.getD (y5).toNat 0) > 30)) = false) (And (ZD.P y0 y1 (wrap (y2 + (y3.getD (y5).toNat 0))) y3 y4 (wrap (y5 + 1))) (And (ZD.M y0 y1 (wrap (y2 + (y3.getD (y5).toNat 0))) y3 y4 (wrap (y5 + 1)) < ZD.M y0 y1 y2 y3 y4 y5) (ZD.o y0 y1 (wrap (y2 + (y3.getD (y5).toNat 0))) y3 y4 (wrap (y5 + 1)) (ZD.R y0 y1 (wrap (y2 + (y3.getD (y5).toNat 0))) y3 y4 (wrap (y5 + 1))) = ZD.o y0 y1 y2 y3 y4 y5 (ZD.R y0 y1 y2 y3 y4 y5)))))))) (Imp ((decide (y5 < y4)) = false) (ZD.o y0 y1 y2 y3 y4 y5 (ZD.R y0 y1 y2 y3 y4 y5) = (.exit 0,[.c (.int y0),.c (.bool y1),.c (.int y2),.c (.arr false (.ints y3)),.c (.int y4),.c (.int y5)],[])))):=by kernel_rfl
theorem ZD.v (y0:Int) (y1:Bool) (y2:Int) (y3:List Int) (y4:Int) (y5:Int) (hp:ZD.P y0 y1 y2 y3 y4 y5):And (Imp ((decide (y5 < y4)) = true) (And ((0:Int)≤y5∧y5 < (y3.length:Int)) (And (Imp ((bif decide ((y3.getD (y5).toNat 0) < 0) then true else decide ((y3.getD (y5).toNat 0) > 30)) = true) (ZD.o y0 y1 y2 y3 y4 y5 (ZD.R y0 y1 y2 y3 y4 y5) = (.ret,[.c (.int 0),.c (.bool false),.c (.int y2),.c (.arr false (.ints y3)),.c (.int y4),.c (.int y5)],[]))) (Imp ((bif decide ((y3.getD (y5).toNat 0) < 0) then true else decide ((y3.getD (y5).toNat 0) > 30)) = false) (And (ZD.P y0 y1 (wrap (y2 + (y3.getD (y5).toNat 0))) y3 y4 (wrap (y5 + 1))) (And (ZD.M y0 y1 (wrap (y2 + (y3.getD (y5).toNat 0))) y3 y4 (wrap (y5 + 1)) < ZD.M y0 y1 y2 y3 y4 y5) (ZD.o y0 y1 (wrap (y2 + (y3.getD (y5).toNat 0))) y3 y4 (wrap (y5 + 1)) (ZD.R y0 y1 (wrap (y2 + (y3.getD (y5).toNat 0))) y3 y4 (wrap (y5 + 1))) = ZD.o y0 y1 y2 y3 y4 y5 (ZD.R y0 y1 y2 y3 y4 y5)))))))) (Imp ((decide (y5 < y4)) = false) (ZD.o y0 y1 y2 y3 y4 y5 (ZD.R y0 y1 y2 y3 y4 y5) = (.exit 0,[.c (.int y0),.c (.bool y1),.c (.int y2),.c (.arr false (.ints y3)),.c (.int y4),.c (.int y5)],[]))):=by
 simp only [ZD.P] at hp
 obtain ⟨p0,p1,p2,p3⟩:=hp
 refine ⟨fun h1=>?_,fun h1=>?_⟩
 ·refine ⟨by first | exact True.intro | assumption | omega | grind [wrap_id],?_⟩
  refine ⟨fun h2=>?_,fun h2=>?_⟩
  ·have e:ZD.R y0 y1 y2 y3 y4 y5 = (0,(0,(false,(y2,(y5,()))))):=by unfold ZD.R; rw [ZD.S]; exact (cond_t h1).trans <| (cond_t h2).trans <| rfl
   rw [e]
   rfl
  ·have hμ:ZD.M y0 y1 y2 y3 y4 y5 = ZD.M y0 y1 (wrap (y2 + (y3.getD (y5).toNat 0))) y3 y4 (wrap (y5 + 1)) + 1:=by simp only [ZD.M]; first | omega | grind [wrap_id]
   refine ⟨by simp only [ZD.P]; refine ⟨(by first | exact True.intro | assumption | omega | grind [wrap_id]),(by first | exact True.intro | assumption | omega | grind [wrap_id]),(by first | exact True.intro | assumption | omega | grind [wrap_id]),(by first | exact True.intro | assumption | omega | grind [wrap_id])⟩,by omega,?_⟩
   have e:ZD.R y0 y1 y2 y3 y4 y5 = ZD.R y0 y1 (wrap (y2 + (y3.getD (y5).toNat 0))) y3 y4 (wrap (y5 + 1)):=by
    have e1:ZD.R y0 y1 y2 y3 y4 y5 = ZD.S (ZD.M y0 y1 y2 y3 y4 y5) y0 y1 (wrap (y2 + (y3.getD (y5).toNat 0))) y3 y4 (wrap (y5 + 1)):=by unfold ZD.R; rw [ZD.S]; exact (cond_t h1).trans <| (cond_f h2).trans <| rfl
    rw [e1,hμ]
    rfl
   rw [e]
   rfl
 ·have e:ZD.R y0 y1 y2 y3 y4 y5 = (1,(y2,(false,(y5,(0,()))))):=by unfold ZD.R; rw [ZD.S]; exact (cond_f h1).trans <| rfl
  rw [e]
  rfl
theorem ZD.g (hG:∀c∈[],Good Tryz.prog c):LGood Tryz.prog Tryz.f155.ntmps ZD.d.ctr (bodyAt Tryz.f155 0):=by
 refine lgoodS (sp:=[]) (LL:=[]) hG (by kernel_rfl) (by rw [show loopsOf (bodyAt Tryz.f155 0) = [] from by kernel_rfl]; exact noL rfl) fun s hp=>?_
 refine Eq.mpr (ZD.w s.1 s.2.1 s.2.2.1 s.2.2.2.1 s.2.2.2.2.1 s.2.2.2.2.2.1) ?_
 replace hp:ZD.P s.1 s.2.1 s.2.2.1 s.2.2.2.1 s.2.2.2.2.1 s.2.2.2.2.2.1:=hp
 exact ZD.v _ _ _ _ _ _ hp
def ZD.E (y0:Int) (y1:Bool) (y3:List Int) (y4:Int) (k:Nat) (a:Int):Option (Nat×Int×Bool×Int×Int×Unit):=bif bif decide ((y3.getD k 0) < 0) then true else decide ((y3.getD k 0) > 30) then some (0,(0,(false,(a,((k:Int),()))))) else none
def ZD.A (y0:Int) (y1:Bool) (y3:List Int) (y4:Int) (k:Nat) (a:Int):Int:=bif bif decide ((y3.getD k 0) < 0) then true else decide ((y3.getD k 0) > 30) then a else (wrap (a + (y3.getD k 0)))
def ZD.fin (y0:Int) (y1:Bool) (y3:List Int) (y4:Int) (k:Nat) (a:Int):Nat×Int×Bool×Int×Int×Unit:=(1,(a,(false,((k:Int),(0,())))))
def ZD.acc (y0:Int) (y1:Bool) (y3:List Int) (y4:Int) (a:Int):Nat→Int
 | 0=>a
 | k + 1=>ZD.A y0 y1 y3 y4 k (ZD.acc y0 y1 y3 y4 a k)
theorem ZD.law (y0:Int) (y1:Bool) (y3:List Int) (y4:Int) (a:Int) (n:Nat) (hT:y4 = (n:Int)) (hn:(n:Int)≤9223372036854775807) :
  ((∀k,k < n→ZD.E y0 y1 y3 y4 k (ZD.acc y0 y1 y3 y4 a k) = none)∧ZD.R y0 y1 a y3 y4 0 = ZD.fin y0 y1 y3 y4 n (ZD.acc y0 y1 y3 y4 a n))∨(∃k r,k < n∧ZD.E y0 y1 y3 y4 k (ZD.acc y0 y1 y3 y4 a k) = some r∧(∀j,j < k→ZD.E y0 y1 y3 y4 j (ZD.acc y0 y1 y3 y4 a j) = none)∧ZD.R y0 y1 a y3 y4 0 = r):=by
 have hM:ZD.M y0 y1 a y3 y4 0 + 1 = n + 1:=by simp only [ZD.M]; omega
 unfold ZD.R
 rw [hM]
 refine loopE (fun m i b=>ZD.S m y0 y1 b y3 y4 i) n hn (ZD.acc y0 y1 y3 y4 a) (ZD.E y0 y1 y3 y4 ) (ZD.fin y0 y1 y3 y4 ) fun m k hk=>?_
 have ha:ZD.acc y0 y1 y3 y4 a (k + 1) = ZD.A y0 y1 y3 y4 k (ZD.acc y0 y1 y3 y4 a k):=rfl
 rw [ha]
 generalize ZD.acc y0 y1 y3 y4 a k = b
 simp only [ZD.S,ZD.E,ZD.A,ZD.fin,hT,Int.toNat_natCast]
 all_goals grind
theorem ZE.w (a0:List Int) (K:AV→List Blk→Prop):evFn (envS [] []) [ZD.d.ctr] [] [] Tryz.f155 [] (ZE.L.enc (a0,())) K = (And (Imp (((a0.length:Int) != 3) = true) (K (.tup [.c (.int 0),.c (.bool false)]) ([]))) (Imp (((a0.length:Int) != 3) = false) (And (ZD.P 0 false 0 a0 (a0.length:Int) 0) (And (Imp (Nat.beq (ZD.R 0 false 0 a0 (a0.length:Int) 0).1 0 = true) (K (.tup [.c (.int (ZD.R 0 false 0 a0 (a0.length:Int) 0).2.1),.c (.bool (ZD.R 0 false 0 a0 (a0.length:Int) 0).2.2.1)]) ([]))) (Imp (Nat.beq (ZD.R 0 false 0 a0 (a0.length:Int) 0).1 0 = false) (K (.tup [.c (.int (ZD.R 0 false 0 a0 (a0.length:Int) 0).2.1),.c (.bool true)]) ([]))))))):=by kernel_rfl
theorem ZE.v (a0:List Int) (hf:(a0.length:Int)≤9223372036854775807∧True) (K:AV→List Blk→Prop) (hK:K (ZE.enc (ZE.S a0)).1 (ZE.enc (ZE.S a0)).2):And (Imp (((a0.length:Int) != 3) = true) (K (.tup [.c (.int 0),.c (.bool false)]) ([]))) (Imp (((a0.length:Int) != 3) = false) (And (ZD.P 0 false 0 a0 (a0.length:Int) 0) (And (Imp (Nat.beq (ZD.R 0 false 0 a0 (a0.length:Int) 0).1 0 = true) (K (.tup [.c (.int (ZD.R 0 false 0 a0 (a0.length:Int) 0).2.1),.c (.bool (ZD.R 0 false 0 a0 (a0.length:Int) 0).2.2.1)]) ([]))) (Imp (Nat.beq (ZD.R 0 false 0 a0 (a0.length:Int) 0).1 0 = false) (K (.tup [.c (.int (ZD.R 0 false 0 a0 (a0.length:Int) 0).2.1),.c (.bool true)]) ([])))))):=by
 obtain ⟨f0,-⟩:=hf
 try simp only [big] at *
 refine ⟨fun h1=>?_,fun h1=>?_⟩
 ·have e:ZE.S a0 = (0,false):=by unfold ZE.S; exact (cond_t h1).trans <| rfl
  rw [e] at hK
  exact hK
 ·refine ⟨by simp only [ZD.P]; refine ⟨(by clear hK; first | exact True.intro | assumption | omega | grind [wrap_id]),(by clear hK; first | exact True.intro | assumption | omega | grind [wrap_id]),(by clear hK; first | exact True.intro | assumption | omega | grind [wrap_id]),(by clear hK; first | exact True.intro | assumption | omega | grind [wrap_id])⟩,?_⟩
  refine ⟨fun h2=>?_,fun h2=>?_⟩
  ·have e:ZE.S a0 = ((ZD.R 0 false 0 a0 (a0.length:Int) 0).2.1,(ZD.R 0 false 0 a0 (a0.length:Int) 0).2.2.1):=by unfold ZE.S; exact (cond_f h1).trans <| (cond_t h2).trans <| rfl
   rw [e] at hK
   exact hK
  ·have e:ZE.S a0 = ((ZD.R 0 false 0 a0 (a0.length:Int) 0).2.1,true):=by unfold ZE.S; exact (cond_f h1).trans <| (cond_f h2).trans <| rfl
   rw [e] at hK
   exact hK
theorem ZE.good:Good Tryz.prog ZE.c :=
 vgood (sh:=[]) (sp:=[]) (LL:=[ZD.d.ctr]) noG (fn:=Tryz.f155) (by kernel_rfl) (by kernel_rfl) (by rw [show loopsOf (bodyOf Tryz.f155) = [(bodyAt Tryz.f155 0)] from by kernel_rfl]; exact consL (l:=ZD.d.ctr) (by kernel_rfl) (ZD.g noG) (noL rfl)) fun s hp hf=>by
  exact Eq.mpr (ZE.w (s.1) (fun r bs'=>And (r = (ZE.c.out s).1) (bs' = (ZE.c.out s).2))) (ZE.v (s.1) hf (fun r bs'=>And (r = (ZE.c.out s).1) (bs' = (ZE.c.out s).2)) ⟨rfl,rfl⟩)
def Zw.S (a0:Bk):Bool:=(bif bif bif bif (ZC.S a0.own) then (ZC.S a0.notes) else false then decide (a0.locked≥0) else false then (wrap ((Zu.S a0.own) + a0.locked)) == 30 else false then decide ((Zu.S a0.notes)≤30) else false)
def Zw.enc (r:Bool):AV×List Blk:=(.v (.c (.bool r)),[])
def Zw.L:ShL:=sCons sBk (sNil)
def Zw.c:Ctr:=vctr 109 Zw.L none (fun s=>Zw.enc (Zw.S s.1))
theorem Zw.w (a0:Bk) (K:AV→List Blk→Prop):evFn (envS [ZC.c,Zu.c] []) [] [] [] Tryz.f109 [] (Zw.L.enc (a0,())) K = (K (.v (.c (.bool (bif bif bif bif (ZC.S a0.own) then (ZC.S a0.notes) else false then decide (a0.locked≥0) else false then (wrap ((Zu.S a0.own) + a0.locked)) == 30 else false then decide ((Zu.S a0.notes)≤30) else false)))) ([])):=by kernel_rfl
theorem Zw.v (a0:Bk) (hf:Bk.fact a0∧True) (K:AV→List Blk→Prop) (hK:K (Zw.enc (Zw.S a0)).1 (Zw.enc (Zw.S a0)).2):K (.v (.c (.bool (bif bif bif bif (ZC.S a0.own) then (ZC.S a0.notes) else false then decide (a0.locked≥0) else false then (wrap ((Zu.S a0.own) + a0.locked)) == 30 else false then decide ((Zu.S a0.notes)≤30) else false)))) ([]):=by
 obtain ⟨f0,-⟩:=hf
 obtain ⟨f0_0,f0_1⟩:=f0
 try simp only [big] at *
 have e:Zw.S a0 = (bif bif bif bif (ZC.S a0.own) then (ZC.S a0.notes) else false then decide (a0.locked≥0) else false then (wrap ((Zu.S a0.own) + a0.locked)) == 30 else false then decide ((Zu.S a0.notes)≤30) else false):=by unfold Zw.S; exact rfl
 rw [e] at hK
 exact hK
theorem Zw.good:Good Tryz.prog Zw.c :=
 vgood (sh:=[]) (sp:=[]) (LL:=[]) (consG ZC.good (consG Zu.good noG)) (fn:=Tryz.f109) (by kernel_rfl) (by kernel_rfl) (by rw [show loopsOf (bodyOf Tryz.f109) = [] from by kernel_rfl]; exact noL rfl) fun s hp hf=>by
  exact Eq.mpr (Zw.w (s.1) (fun r bs'=>And (r = (Zw.c.out s).1) (bs' = (Zw.c.out s).2))) (Zw.v (s.1) hf (fun r bs'=>And (r = (Zw.c.out s).1) (bs' = (Zw.c.out s).2)) ⟨rfl,rfl⟩)
def ZF.S (a0:Bk):Bool:=bif !(ZE.S a0.own).2 then (false) else bif !(ZE.S a0.notes).2 then (false) else (bif bif decide (a0.locked≥0) then a0.locked == (wrap (30 - (ZE.S a0.own).1)) else false then decide ((ZE.S a0.notes).1≤30) else false)
def ZF.enc (r:Bool):AV×List Blk:=(.v (.c (.bool r)),[])
def ZF.L:ShL:=sCons sBk (sNil)
def ZF.c:Ctr:=vctr 92 ZF.L none (fun s=>ZF.enc (ZF.S s.1))
theorem ZF.w (a0:Bk) (K:AV→List Blk→Prop):evFn (envS [ZE.c] []) [] [] [] Tryz.f92 [] (ZF.L.enc (a0,())) K = (And (Imp ((!(ZE.S a0.own).2) = true) (K (.v (.c (.bool false))) ([]))) (Imp ((!(ZE.S a0.own).2) = false) (And (Imp ((!(ZE.S a0.notes).2) = true) (K (.v (.c (.bool false))) ([]))) (Imp ((!(ZE.S a0.notes).2) = false) (K (.v (.c (.bool (bif bif decide (a0.locked≥0) then a0.locked == (wrap (30 - (ZE.S a0.own).1)) else false then decide ((ZE.S a0.notes).1≤30) else false)))) ([])))))):=by kernel_rfl
theorem ZF.v (a0:Bk) (hf:Bk.fact a0∧True) (K:AV→List Blk→Prop) (hK:K (ZF.enc (ZF.S a0)).1 (ZF.enc (ZF.S a0)).2):And (Imp ((!(ZE.S a0.own).2) = true) (K (.v (.c (.bool false))) ([]))) (Imp ((!(ZE.S a0.own).2) = false) (And (Imp ((!(ZE.S a0.notes).2) = true) (K (.v (.c (.bool false))) ([]))) (Imp ((!(ZE.S a0.notes).2) = false) (K (.v (.c (.bool (bif bif decide (a0.locked≥0) then a0.locked == (wrap (30 - (ZE.S a0.own).1)) else false then decide ((ZE.S a0.notes).1≤30) else false)))) ([]))))):=by
 obtain ⟨f0,-⟩:=hf
 obtain ⟨f0_0,f0_1⟩:=f0
 try simp only [big] at *
 refine ⟨fun h1=>?_,fun h1=>?_⟩
 ·have e:ZF.S a0 = (false):=by unfold ZF.S; exact (cond_t h1).trans <| rfl
  rw [e] at hK
  exact hK
 ·refine ⟨fun h2=>?_,fun h2=>?_⟩
  ·have e:ZF.S a0 = (false):=by unfold ZF.S; exact (cond_f h1).trans <| (cond_t h2).trans <| rfl
   rw [e] at hK
   exact hK
  ·have e:ZF.S a0 = (bif bif decide (a0.locked≥0) then a0.locked == (wrap (30 - (ZE.S a0.own).1)) else false then decide ((ZE.S a0.notes).1≤30) else false):=by unfold ZF.S; exact (cond_f h1).trans <| (cond_f h2).trans <| rfl
   rw [e] at hK
   exact hK
theorem ZF.good:Good Tryz.prog ZF.c :=
 vgood (sh:=[]) (sp:=[]) (LL:=[]) (consG ZE.good noG) (fn:=Tryz.f92) (by kernel_rfl) (by kernel_rfl) (by rw [show loopsOf (bodyOf Tryz.f92) = [] from by kernel_rfl]; exact noL rfl) fun s hp hf=>by
  exact Eq.mpr (ZF.w (s.1) (fun r bs'=>And (r = (ZF.c.out s).1) (bs' = (ZF.c.out s).2))) (ZF.v (s.1) hf (fun r bs'=>And (r = (ZF.c.out s).1) (bs' = (ZF.c.out s).2)) ⟨rfl,rfl⟩)
end
end Hw
end Go.Proofs.YtklmllaggigkfaaGreat
