/- States, by the program: made by gen.py. -/
import Derived.Test.YtklmllaggigkfaaGreatPJ3
set_option linter.unusedVariables false
set_option linter.unusedSimpArgs false
set_option maxRecDepth 100000
set_option maxHeartbeats 400000
namespace Go.Proofs.YtklmllaggigkfaaGreat
namespace Hw
open Go
noncomputable section
attribute [local irreducible] evFn evBody wrap wxor
theorem stWant {s:St} (h:StOk s):(s.way = 4→s.want = s.ver + 1)∧(¬ s.way = 4→s.want = 0)∧1≤s.ver∧s.ver≤9:=by
 obtain ⟨h1,h2,_,_,_,_,_,_,h9⟩:=h
 split at h9 <;> omega
theorem stK {s:St} (h:StOk s) {i:Int} (h0:0≤i) (h1:i < (s.sent.length:Int)):PktOk (s.sent.getD i.toNat zPkt)∧(s.sent.getD i.toNat zPkt).seq = i + 1∧(s.live.getD i.toNat false = true→s.back.getD i.toNat false = false)∧(s.sent.getD i.toNat zPkt).ver≤s.ver:=by
 have:=h.2.2.2.2.2.2.1 i.toNat (by omega)
 refine ⟨this.1,by have:=this.2.1; omega,this.2.2.1,this.2.2.2⟩
theorem getD_set {α:Type} {l:List α} {i k:Nat} {x d:α} (hi:i < l.length):(l.set i x).getD k d = if k = i then x else l.getD k d:=by
 simp only [List.getD_eq_getElem?_getD,List.getElem?_set]
 by_cases h:k = i
 ·subst h; simp [hi]
 ·rw [if_neg (fun e=>h e.symm),if_neg h]
abbrev GotQ (s:St) (n r:Int):Prop:=(StOk s→1≤n→n≤8→r = s.got.getD (n - 1).toNat 0)∧(¬(StOk s∧1≤n∧n≤8)→r = 0)
theorem got_rng {s:St} (h:StOk s) {n:Int} (h0:1≤n) (h1:n≤8):0≤s.got.getD (n - 1).toNat 0∧s.got.getD (n - 1).toNat 0≤2:=h.2.2.2.2.2.2.2.1 _ (by have:=h.2.2.2.2.2.1; omega)
abbrev HasP (s:St) (p:Pkt):Prop:=StOk s∧(1≤p.seq∧p.seq≤(s.sent.length:Int))∧s.sent.getD (p.seq - 1).toNat zPkt = p∧s.live.getD (p.seq - 1).toNat false = true
theorem stL {s:St} (h:StOk s):s.sent.length≤8∧s.live.length = s.sent.length∧s.back.length = s.sent.length∧s.got.length = 8:=⟨h.2.2.1,h.2.2.2.1,h.2.2.2.2.1,h.2.2.2.2.2.1⟩
theorem stL4 {s:St} (h:StOk s):s.got.length = 8:=h.2.2.2.2.2.1
theorem gotQ_eq {s:St} {n a b:Int} (h:GotQ s n a) (h':GotQ s n b):a = b:=by
 by_cases hs:StOk s∧1≤n∧n≤8
 ·exact (h.1 hs.1 hs.2.1 hs.2.2).trans (h'.1 hs.1 hs.2.1 hs.2.2).symm
 ·exact (h.2 hs).trans (h'.2 hs).symm
abbrev StlQ (s:St) (n r:Int):Prop:=(StOk s→1≤n→n≤(s.sent.length:Int)→r = if s.live.getD (n - 1).toNat false = true then 1 else if s.back.getD (n - 1).toNat false = true then 3 else 2)∧(¬(StOk s∧1≤n∧n≤(s.sent.length:Int))→r = 0)
def Zcw.L:FL:=fCons (fSh sSt) (fCons (fSh sInt) (fNil))
def Zcw:St×Int×Unit→FR (Int):=fun (a0,a1,())=>⟨True,fun X=>Lt (bif !(ZO.S a0) then true else decide (a1 < 1)) fun x1=>Lt (bif x1 then true else decide (a1 > (a0.sent.length:Int))) fun x2=>And (Imp (x2 = true) (X 0)) (Imp (x2 = false) (Lt (wrap (a1 - 1)) fun x3=>And ((0:Int)≤x3∧x3 < (a0.live.length:Int)) (And (Imp ((a0.live.getD (x3).toNat false) = true) (X 1)) (Imp ((a0.live.getD (x3).toNat false) = false) (And ((0:Int)≤x3∧x3 < (a0.back.length:Int)) (And (Imp ((a0.back.getD (x3).toNat false) = true) (X 3)) (Imp ((a0.back.getD (x3).toNat false) = false) (X 2)))))))),fun r=>(StlQ a0 a1 r)∧True,fun r=>(.v (.c (.int r)),[])⟩
theorem Zcw.X:XF Zcw:=mkF (0) fun (a0,a1,()) hp=>by
 clear hp
 have hl:=fun h=>stL (s:=a0) h
 dsimp only [Zcw]
 refine May.lp (B.or (B.not (implSt)) (B.dec)) fun x1 e1=>May.lp (B.or (e1) (B.dec)) fun x2 e2=>May.iff (e2) (fun h1=>?_) (fun h1=>?_)
 refine May.ret ⟨?_,trivial⟩; rotate_left 1
 refine May.lw ⟨?_,?_⟩ fun x3 e3=>May.chk ?_ fun c1=>May.iff (Iff.rfl) (fun h2=>?_) (fun h2=>?_); rotate_left 3
 refine May.ret ⟨?_,trivial⟩; rotate_left 1
 refine May.chk ?_ fun c2=>May.iff (Iff.rfl) (fun h3=>?_) (fun h3=>?_); rotate_left 1
 refine May.ret ⟨?_,trivial⟩; rotate_left 1
 refine May.ret ⟨?_,trivial⟩
 all_goals try dsimp only
 all_goals first | with_reducible assumption | omega | rfl | assumption | (simp only [List.length_append,List.length_cons,List.length_nil,List.length_set,List.length_replicate,Int.natCast_add,Int.natCast_one] at *; omega) | grind
abbrev Zcw.S:=Classical.choose Zcw.X
def Zcw.c:Ctr:=fc0 191 [true,false] Zcw.L Zcw Zcw.S
theorem Zcw.good:Good Tryz.prog Zcw.c:=mkFG0 (fn:=Tryz.f191) {} Zcw.X (consG ZO.good noG) (by kernel_rfl) (by kernel_rfl) (l0 (by kernel_rfl)) (c0 (by kernel_rfl)) (fun _=>trivial) fun s K=>by kernel_rfl
def entryOf (k:Nat):Int:=if k = 238 then 1 else if k = 239 then 2 else 0
theorem fateBack {n:Int} (h0:0≤n) (h1:n≤2):entryOf (ZL.S n).1 = n:=by
 have:n = 0∨n = 1∨n = 2:=by omega
 rcases this with rfl | rfl | rfl <;> rfl
def Zct.L:FL:=fCons (fSh sSt) (fCons (fSh sInt) (fNil))
def Zct:St×Int×Unit→FR (Nat):=fun (a0,a1,())=>⟨(a0.got.length = 8)∧(1≤a1)∧(a1≤8)∧True,fun X=>Lt (wrap (a1 - 1)) fun x1=>And ((0:Int)≤x1∧x1 < (a0.got.length:Int)) (X (ZL.S (a0.got.getD (x1).toNat 0)).1),fun r=>(r = (ZL.S (a0.got.getD (a1 - 1).toNat 0)).1)∧True,fun r=>(.v (.c (.ifc r)),[])⟩
theorem Zct.X:XF Zct:=mkF (0) fun (a0,a1,()) hp=>by
 obtain ⟨p0,p1,p2,-⟩:=hp
 dsimp only [Zct]
 refine May.lw ⟨?_,?_⟩ fun x1 e1=>May.chk ?_ fun c1=>May.ret ⟨?_,trivial⟩
 all_goals try dsimp only
 all_goals first | with_reducible assumption | omega | rfl | assumption | (simp only [List.length_append,List.length_cons,List.length_nil,List.length_set,List.length_replicate,Int.natCast_add,Int.natCast_one] at *; omega) | grind
abbrev Zct.S:=Classical.choose Zct.X
def Zct.c:Ctr:=fc 192 [true,false] Zct.L Zct Zct.S
theorem Zct.good:Good Tryz.prog Zct.c:=mkFG (fn:=Tryz.f192) {} Zct.X (consG ZL.good noG) (by kernel_rfl) (by kernel_rfl) (l0 (by kernel_rfl)) (c0 (by kernel_rfl)) fun s K=>by kernel_rfl
def Zcu.L:FL:=fCons (fSh sIfc) (fNil)
def Zcu:Nat×Unit→FR (Int):=fun (a0,())=>⟨True,fun X=>And (Imp ((Nat.beq a0 238) = true) (X 1)) (Imp ((Nat.beq a0 238) = false) (And (Imp ((Nat.beq a0 239) = true) (X 2)) (Imp ((Nat.beq a0 239) = false) (X 0)))),fun r=>(r = entryOf a0)∧True,fun r=>(.v (.c (.int r)),[])⟩
theorem Zcu.X:XF Zcu:=mkF (0) fun (a0,()) hp=>by
 clear hp
 dsimp only [Zcu]
 refine May.iff (B.nbeq) (fun h1=>?_) (fun h1=>?_)
 refine May.ret ⟨?_,trivial⟩; rotate_left 1
 refine May.iff (B.nbeq) (fun h2=>?_) (fun h2=>?_)
 refine May.ret ⟨?_,trivial⟩; rotate_left 1
 refine May.ret ⟨?_,trivial⟩
 all_goals try dsimp only
 all_goals first | with_reducible assumption | omega | rfl | assumption | (simp only [List.length_append,List.length_cons,List.length_nil,List.length_set,List.length_replicate,Int.natCast_add,Int.natCast_one] at *; omega) | grind [entryOf]
abbrev Zcu.S:=Classical.choose Zcu.X
def Zcu.c:Ctr:=fc0 193 [false] Zcu.L Zcu Zcu.S
theorem Zcu.good:Good Tryz.prog Zcu.c:=mkFG0 (fn:=Tryz.f193) {} Zcu.X noG (by kernel_rfl) (by kernel_rfl) (l0 (by kernel_rfl)) (c0 (by kernel_rfl)) (fun _=>trivial) fun s K=>by kernel_rfl
def Zcv.L:FL:=fCons (fSh sSt) (fCons (fSh sInt) (fNil))
def Zcv:St×Int×Unit→FR (Int):=fun (a0,a1,())=>⟨True,fun X=>Lt (bif bif decide (a1 < 1) then true else decide (a1 > 8) then true else !(ZO.S a0)) fun x1=>And (Imp (x1 = true) (X 0)) (Imp (x1 = false) (Call Zct.X (a0,a1,()) fun x2=>Call0 Zcu.X (x2,()) fun x3=>X x3)),fun r=>(GotQ a0 a1 r)∧True,fun r=>(.v (.c (.int r)),[])⟩
theorem Zcv.X:XF Zcv:=mkF (0) fun (a0,a1,()) hp=>by
 clear hp
 dsimp only [Zcv]
 refine May.lp (B.or (B.or (B.dec) (B.dec)) (B.not (implSt))) fun x1 e1=>May.iff (e1) (fun h1=>?_) (fun h1=>?_)
 refine May.ret ⟨?_,trivial⟩; rotate_left 1
 refine May.call ⟨?_,?_,?_,trivial⟩ fun x2 q2=>have q2:=q2.1; May.call0 trivial fun x3 q3=>have q3:=q3.1; May.ret ⟨?_,trivial⟩
 all_goals try dsimp only
 all_goals first | with_reducible assumption | omega | (have ho:=(show StOk a0 by grind); have hl:=stL4 ho; have hg:=got_rng ho (n:=a1) (by grind) (by grind); have hb:=fateBack hg.1 hg.2; first | exact hl | (rw [q3,q2]; exact ⟨fun _ _ _=>hb,fun h=>absurd ⟨ho,by omega,by omega⟩ h⟩); done) | (simp only [List.length_append,List.length_cons,List.length_nil,List.length_set,List.length_replicate,Int.natCast_add,Int.natCast_one] at *; omega) | grind
abbrev Zcv.S:=Classical.choose Zcv.X
def Zcv.c:Ctr:=fc0 162 [true,false] Zcv.L Zcv Zcv.S
theorem Zcv.good:Good Tryz.prog Zcv.c:=mkFG0 (fn:=Tryz.f162) {} Zcv.X (consG ZO.good (consG Zct.good (consG Zcu.good noG))) (by kernel_rfl) (by kernel_rfl) (l0 (by kernel_rfl)) (c0 (by kernel_rfl)) (fun _=>trivial) fun s K=>by kernel_rfl
def Zbf.L:FL:=fCons (fSh sSt) (fCons (fSh sPkt) (fNil))
def Zbf:St×Pkt×Unit→FR (Bool):=fun (a0,a1,())=>⟨True,fun X=>Lt (bif !(ZO.S a0) then true else decide (a1.seq < 1)) fun x1=>Lt (bif x1 then true else decide (a1.seq > (a0.sent.length:Int))) fun x2=>And (Imp (x2 = true) (X false)) (Imp (x2 = false) (Lt (wrap (a1.seq - 1)) fun x3=>And ((0:Int)≤x3∧x3 < (a0.sent.length:Int)) (And (Imp (And ((decide ((a0.sent.getD (x3).toNat zPkt) = a1)) = true) (True)) ((0:Int)≤x3∧x3 < (a0.live.length:Int))) (Lt (bif decide ((a0.sent.getD (x3).toNat zPkt) = a1) then a0.live.getD (x3).toNat false else false) fun x4=>X x4)))),fun r=>(r = true↔HasP a0 a1)∧True,fun r=>(.v (.c (.bool r)),[])⟩
theorem Zbf.X:XF Zbf:=mkF (false) fun (a0,a1,()) hp=>by
 clear hp
 dsimp only [Zbf]
 refine May.lp (B.or (B.not (implSt)) (B.dec)) fun x1 e1=>May.lp (B.or (e1) (B.dec)) fun x2 e2=>May.iff (e2) (fun h1=>?_) (fun h1=>?_)
 refine May.ret ⟨?_,trivial⟩; rotate_left 1
 refine May.lw ⟨?_,?_⟩ fun x3 e3=>May.chk ?_ fun c1=>May.chk (fun hπ=>have g1:=Iff.mp (B.dec) hπ.1; ?_) fun c2=>May.lp (B.and (B.dec) (Iff.rfl)) fun x4 e4=>May.ret ⟨?_,trivial⟩
 all_goals try dsimp only
 all_goals first | with_reducible assumption | omega | (simp only [List.length_append,List.length_cons,List.length_nil,List.length_set,List.length_replicate,Int.natCast_add,Int.natCast_one] at *; omega) | grind [stL]
abbrev Zbf.S:=Classical.choose Zbf.X
def Zbf.c:Ctr:=fc0 190 [true,false] Zbf.L Zbf Zbf.S
theorem Zbf.good:Good Tryz.prog Zbf.c:=mkFG0 (fn:=Tryz.f190) {} Zbf.X (consG ZO.good noG) (by kernel_rfl) (by kernel_rfl) (l0 (by kernel_rfl)) (c0 (by kernel_rfl)) (fun _=>trivial) fun s K=>by kernel_rfl
def ZaQ.L:FL:=fNil
def ZaQ:Unit→FR (St):=fun ()=>⟨True,fun X=>And ((8:Int) = 8∧(0:Int)≤8∧(8:Int)≤4294967296) (X (⟨0,1,0,[],[],[],List.replicate 8 0⟩:St)),fun r=>(r = ⟨0,1,0,[],[],[],List.replicate 8 0⟩)∧True,fun r=>(.v (.agg [.int r.way,.int r.ver,.int r.want,.own 0 7 46,.own 1 1 4,.own 2 1 4,.own 3 1 3]),[.arr (.pkts r.sent),.arr (.bools r.live),.arr (.bools r.back),.arr (.ints r.got)])⟩
theorem ZaQ.X:XF ZaQ:=mkF (zSt) fun () hp=>by
 clear hp
 dsimp only [ZaQ]
 refine May.chk ?_ fun c1=>May.ret ⟨?_,trivial⟩
 all_goals try dsimp only
 all_goals first | with_reducible assumption | omega | rfl | assumption | (simp only [List.length_append,List.length_cons,List.length_nil,List.length_set,List.length_replicate,Int.natCast_add,Int.natCast_one] at *; omega) | grind
abbrev ZaQ.S:=Classical.choose ZaQ.X
def ZaQ.c:Ctr:=fc0 84 [] ZaQ.L ZaQ ZaQ.S
theorem ZaQ.good:Good Tryz.prog ZaQ.c:=mkFG0 (fn:=Tryz.f84) {sh:=[[none,none,none,some (.pkt,46),some (.bool,4),some (.bool,4),some (.int,3)]]} ZaQ.X noG (by kernel_rfl) (by kernel_rfl) (l0 (by kernel_rfl)) (c0 (by kernel_rfl)) (fun _=>trivial) fun s K=>by kernel_rfl
end
end Hw
end Go.Proofs.YtklmllaggigkfaaGreat
set_option linter.unusedVariables false
set_option linter.unusedSimpArgs false
set_option maxRecDepth 100000
set_option maxHeartbeats 400000
namespace Go.Proofs.YtklmllaggigkfaaGreat
namespace Hw
open Go
noncomputable section
attribute [local irreducible] evFn evBody wrap wxor
def steps:List Ws:=[⟨1,some 199,some 200⟩,⟨2,some 201,some 202⟩,⟨3,some 203,some 204⟩,⟨4,some 205,some 206⟩,⟨5,some 207,some 208⟩,⟨6,some 209,some 208⟩,⟨7,some 210,some 211⟩]
theorem steps_at {i:Int} (h0:0≤i) (h1:i < 7):(steps.getD i.toNat zWs).step = i + 1:=by
 have:i = 0∨i = 1∨i = 2∨i = 3∨i = 4∨i = 5∨i = 6:=by omega
 rcases this with rfl | rfl | rfl | rfl | rfl | rfl | rfl <;> rfl
abbrev mayOf (k:Int):Option Nat:=(steps.getD (k - 1).toNat zWs).may
abbrev actOf (k:Int):Option Nat:=(steps.getD (k - 1).toNat zWs).act
abbrev FindQ (k:Int) (w:Ws) (b:Bool):Prop:=(b = true→(1≤k∧k≤7)∧w.may = mayOf k∧w.act = actOf k)∧(¬ b = true→¬ (1≤k∧k≤7))
theorem find_y {i k:Int} (h0:0≤i) (h1:i < (steps.length:Int)) (h:(steps.getD i.toNat zWs).step = k):FindQ k (steps.getD i.toNat zWs) true:=by
 have h2:i < 7:=h1
 have h3:=steps_at h0 h2
 have e:(k - 1).toNat = i.toNat:=by omega
 exact ⟨fun _=>⟨⟨by omega,by omega⟩,by rw [mayOf,e],by rw [actOf,e]⟩,fun h'=>absurd rfl h'⟩
theorem idleIff {s:St} (hl:(s.live.length:Int)≤9223372036854775807):ZS.S s = true↔IdleS s:=by
 have e:(Nat.beq (ZR.R false s.live (s.live.length:Int) 0).1 0 = true∧(ZR.R false s.live (s.live.length:Int) 0).2.1 = false∧¬ IdleS s)∨(Nat.beq (ZR.R false s.live (s.live.length:Int) 0).1 0 = false∧IdleS s):=by
  rcases ZR.law false s.live (s.live.length:Int) () s.live.length rfl hl with ⟨h1,h2⟩ | ⟨k,r,hk,h1,-,h2⟩
  ·rw [h2]
   refine .inr ⟨rfl,fun k hk=>?_⟩
   have h3:=h1 k hk
   simp only [ZR.E,E_none,reduceCtorEq,and_false,false_or,and_true] at h3
   exact h3
  ·rw [h2]
   simp only [ZR.E,E_some,reduceCtorEq,and_false,or_false,Option.some.injEq] at h1
   obtain ⟨h3,rfl⟩:=h1
   refine .inl ⟨rfl,rfl,fun h=>?_⟩
   have:=h k hk
   rw [h3] at this
   cases this
 unfold ZS.S
 rw [loopB e]
 simp
theorem may_at {k j:Int} {w:Ws} {b:Bool} {f:Option Nat} (q:FindQ k w b) (hb:b = true) (hk:k = j) (hf:mayOf j = f):w.may = f:=by
 subst hk
 exact (q.1 hb).2.1.trans hf
theorem mayK_rng {s o:St} {k:Int} (h:MayK s o k):1≤k∧k≤7:=by
 unfold MayK at h
 rcases h with h | h | h | h | h | h | h <;> omega
theorem mayK1 {s o:St}:MayK s o 1↔s.way = 0:=by unfold MayK; grind
theorem mayK2 {s o:St} (h:StOk s):MayK s o 2↔(s.way = 0∨s.way = 1)∧(o.way = 1∨o.way = 2):=by have:=h.1; unfold MayK; grind
theorem mayK3 {s o:St}:MayK s o 3↔s.way = 1∧2≤o.way:=by unfold MayK; grind
theorem mayK4 {s o:St}:MayK s o 4↔s.way = 2∧2≤o.way:=by unfold MayK; grind
theorem mayK5 {s o:St}:MayK s o 5↔s.way = 3∧s.ver < 9:=by unfold MayK; grind
theorem mayK6 {s o:St}:MayK s o 6↔s.way = 3∧o.way = 4∧o.want = wrap (s.ver + 1):=by unfold MayK; grind
theorem mayK7 {s o:St}:MayK s o 7↔s.way = 4∧IdleS s∧(o.way = 4∧o.want = s.want∧IdleS o∨o.ver = s.want):=by unfold MayK; grind
theorem live8 {s:St} (h:StOk s):s.live.length≤8:=by
 have:=stL h
 omega
def ZaR.L:FL:=fCons (fSh sSt) (fCons (fSh sSt) (fNil))
def ZaR:St×St×Unit→FR (Unit):=fun (a0,a1,())=>⟨True,fun X=>X (),fun r=>True,fun r=>(.v (.c (.bool (a0.way == 0))),[])⟩
theorem ZaR.X:XF ZaR:=mkF () fun (a0,a1,()) hp=>by
 clear hp
 dsimp only [ZaR]
 refine May.ret trivial
 all_goals try dsimp only
 all_goals first | with_reducible assumption | omega | rfl | assumption | (simp only [List.length_append,List.length_cons,List.length_nil,List.length_set,List.length_replicate,Int.natCast_add,Int.natCast_one] at *; omega) | grind
abbrev ZaR.S:=Classical.choose ZaR.X
def ZaR.c:Ctr:=fc0 199 [true,true] ZaR.L ZaR ZaR.S
theorem ZaR.good:Good Tryz.prog ZaR.c:=mkFG0 (fn:=Tryz.f199) {} ZaR.X noG (by kernel_rfl) (by kernel_rfl) (l0 (by kernel_rfl)) (c0 (by kernel_rfl)) (fun _=>trivial) fun s K=>by kernel_rfl
def ZaS.L:FL:=fCons (fSh sSt) (fCons (fSh sSt) (fNil))
def ZaS:St×St×Unit→FR (Bool):=fun (a0,a1,())=>⟨True,fun X=>Lt (bif bif a0.way == 0 then true else a0.way == 1 then bif a1.way == 1 then true else a1.way == 2 else false) fun x1=>X x1,fun r=>(r = true↔(a0.way = 0∨a0.way = 1)∧(a1.way = 1∨a1.way = 2))∧True,fun r=>(.v (.c (.bool r)),[])⟩
theorem ZaS.X:XF ZaS:=mkF (false) fun (a0,a1,()) hp=>by
 clear hp
 dsimp only [ZaS]
 refine May.lp (B.and (B.or (B.eq) (B.eq)) (B.or (B.eq) (B.eq))) fun x1 e1=>May.ret ⟨?_,trivial⟩
 all_goals try dsimp only
 all_goals first | with_reducible assumption | omega | rfl | assumption | (simp only [List.length_append,List.length_cons,List.length_nil,List.length_set,List.length_replicate,Int.natCast_add,Int.natCast_one] at *; omega) | grind
abbrev ZaS.S:=Classical.choose ZaS.X
def ZaS.c:Ctr:=fc0 201 [true,true] ZaS.L ZaS ZaS.S
theorem ZaS.good:Good Tryz.prog ZaS.c:=mkFG0 (fn:=Tryz.f201) {} ZaS.X noG (by kernel_rfl) (by kernel_rfl) (l0 (by kernel_rfl)) (c0 (by kernel_rfl)) (fun _=>trivial) fun s K=>by kernel_rfl
def ZaT.L:FL:=fCons (fSh sSt) (fCons (fSh sSt) (fNil))
def ZaT:St×St×Unit→FR (Bool):=fun (a0,a1,())=>⟨True,fun X=>Lt (bif a0.way == 1 then decide (a1.way≥2) else false) fun x1=>X x1,fun r=>(r = true↔a0.way = 1∧2≤a1.way)∧True,fun r=>(.v (.c (.bool r)),[])⟩
theorem ZaT.X:XF ZaT:=mkF (false) fun (a0,a1,()) hp=>by
 clear hp
 dsimp only [ZaT]
 refine May.lp (B.and (B.eq) (B.dec)) fun x1 e1=>May.ret ⟨?_,trivial⟩
 all_goals try dsimp only
 all_goals first | with_reducible assumption | omega | rfl | assumption | (simp only [List.length_append,List.length_cons,List.length_nil,List.length_set,List.length_replicate,Int.natCast_add,Int.natCast_one] at *; omega) | grind
abbrev ZaT.S:=Classical.choose ZaT.X
def ZaT.c:Ctr:=fc0 203 [true,true] ZaT.L ZaT ZaT.S
theorem ZaT.good:Good Tryz.prog ZaT.c:=mkFG0 (fn:=Tryz.f203) {} ZaT.X noG (by kernel_rfl) (by kernel_rfl) (l0 (by kernel_rfl)) (c0 (by kernel_rfl)) (fun _=>trivial) fun s K=>by kernel_rfl
def ZaU.L:FL:=fCons (fSh sSt) (fCons (fSh sSt) (fNil))
def ZaU:St×St×Unit→FR (Bool):=fun (a0,a1,())=>⟨True,fun X=>Lt (bif a0.way == 2 then decide (a1.way≥2) else false) fun x1=>X x1,fun r=>(r = true↔a0.way = 2∧2≤a1.way)∧True,fun r=>(.v (.c (.bool r)),[])⟩
theorem ZaU.X:XF ZaU:=mkF (false) fun (a0,a1,()) hp=>by
 clear hp
 dsimp only [ZaU]
 refine May.lp (B.and (B.eq) (B.dec)) fun x1 e1=>May.ret ⟨?_,trivial⟩
 all_goals try dsimp only
 all_goals first | with_reducible assumption | omega | rfl | assumption | (simp only [List.length_append,List.length_cons,List.length_nil,List.length_set,List.length_replicate,Int.natCast_add,Int.natCast_one] at *; omega) | grind
abbrev ZaU.S:=Classical.choose ZaU.X
def ZaU.c:Ctr:=fc0 205 [true,true] ZaU.L ZaU ZaU.S
theorem ZaU.good:Good Tryz.prog ZaU.c:=mkFG0 (fn:=Tryz.f205) {} ZaU.X noG (by kernel_rfl) (by kernel_rfl) (l0 (by kernel_rfl)) (c0 (by kernel_rfl)) (fun _=>trivial) fun s K=>by kernel_rfl
def ZaV.L:FL:=fCons (fSh sSt) (fCons (fSh sSt) (fNil))
def ZaV:St×St×Unit→FR (Bool):=fun (a0,a1,())=>⟨True,fun X=>Lt (bif a0.way == 3 then decide (a0.ver < 9) else false) fun x1=>X x1,fun r=>(r = true↔a0.way = 3∧a0.ver < 9)∧True,fun r=>(.v (.c (.bool r)),[])⟩
theorem ZaV.X:XF ZaV:=mkF (false) fun (a0,a1,()) hp=>by
 clear hp
 dsimp only [ZaV]
 refine May.lp (B.and (B.eq) (B.dec)) fun x1 e1=>May.ret ⟨?_,trivial⟩
 all_goals try dsimp only
 all_goals first | with_reducible assumption | omega | rfl | assumption | (simp only [List.length_append,List.length_cons,List.length_nil,List.length_set,List.length_replicate,Int.natCast_add,Int.natCast_one] at *; omega) | grind
abbrev ZaV.S:=Classical.choose ZaV.X
def ZaV.c:Ctr:=fc0 207 [true,true] ZaV.L ZaV ZaV.S
theorem ZaV.good:Good Tryz.prog ZaV.c:=mkFG0 (fn:=Tryz.f207) {} ZaV.X noG (by kernel_rfl) (by kernel_rfl) (l0 (by kernel_rfl)) (c0 (by kernel_rfl)) (fun _=>trivial) fun s K=>by kernel_rfl
def ZaW.L:FL:=fCons (fSh sSt) (fCons (fSh sSt) (fNil))
def ZaW:St×St×Unit→FR (Bool):=fun (a0,a1,())=>⟨True,fun X=>Lt (bif bif a0.way == 3 then a1.way == 4 else false then a1.want == (wrap (a0.ver + 1)) else false) fun x1=>X x1,fun r=>(r = true↔a0.way = 3∧a1.way = 4∧a1.want = wrap (a0.ver + 1))∧True,fun r=>(.v (.c (.bool r)),[])⟩
theorem ZaW.X:XF ZaW:=mkF (false) fun (a0,a1,()) hp=>by
 clear hp
 dsimp only [ZaW]
 refine May.lp (B.and (B.and (B.eq) (B.eq)) (B.eq)) fun x1 e1=>May.ret ⟨?_,trivial⟩
 all_goals try dsimp only
 all_goals first | with_reducible assumption | omega | rfl | assumption | (simp only [List.length_append,List.length_cons,List.length_nil,List.length_set,List.length_replicate,Int.natCast_add,Int.natCast_one] at *; omega) | grind
abbrev ZaW.S:=Classical.choose ZaW.X
def ZaW.c:Ctr:=fc0 209 [true,true] ZaW.L ZaW ZaW.S
theorem ZaW.good:Good Tryz.prog ZaW.c:=mkFG0 (fn:=Tryz.f209) {} ZaW.X noG (by kernel_rfl) (by kernel_rfl) (l0 (by kernel_rfl)) (c0 (by kernel_rfl)) (fun _=>trivial) fun s K=>by kernel_rfl
def ZaX.L:FL:=fCons (fSh sSt) (fCons (fSh sSt) (fNil))
def ZaX:St×St×Unit→FR (Bool):=fun (a0,a1,())=>⟨(a0.live.length≤8)∧(a1.live.length≤8)∧True,fun X=>Lt (bif a0.way != 4 then true else !(ZS.S a0)) fun x1=>And (Imp (x1 = true) (X false)) (Imp (x1 = false) (And (Imp ((a1.ver == a0.want) = true) (X true)) (Imp ((a1.ver == a0.want) = false) (Lt (bif bif a1.way == 4 then a1.want == a0.want else false then (ZS.S a1) else false) fun x2=>X x2)))),fun r=>(r = true↔a0.way = 4∧IdleS a0∧(a1.way = 4∧a1.want = a0.want∧IdleS a1∨a1.ver = a0.want))∧True,fun r=>(.v (.c (.bool r)),[])⟩
theorem ZaX.X:XF ZaX:=mkF (false) fun (a0,a1,()) hp=>by
 obtain ⟨p0,p1,-⟩:=hp
 dsimp only [ZaX]
 refine May.lp (B.or (B.ne) (B.not (idleIff (by omega)))) fun x1 e1=>May.iff (e1) (fun h1=>?_) (fun h1=>?_)
 refine May.ret ⟨?_,trivial⟩; rotate_left 1
 refine May.iff (B.eq) (fun h2=>?_) (fun h2=>?_)
 refine May.ret ⟨?_,trivial⟩; rotate_left 1
 refine May.lp (B.and (B.and (B.eq) (B.eq)) (idleIff (by omega))) fun x2 e2=>May.ret ⟨?_,trivial⟩
 all_goals try dsimp only
 all_goals first | with_reducible assumption | omega | rfl | assumption | (simp only [List.length_append,List.length_cons,List.length_nil,List.length_set,List.length_replicate,Int.natCast_add,Int.natCast_one] at *; omega) | grind
abbrev ZaX.S:=Classical.choose ZaX.X
def ZaX.c:Ctr:=fc 210 [true,true] ZaX.L ZaX ZaX.S
theorem ZaX.good:Good Tryz.prog ZaX.c:=mkFG (fn:=Tryz.f210) {} ZaX.X (consG ZS.good noG) (by kernel_rfl) (by kernel_rfl) (l0 (by kernel_rfl)) (c0 (by kernel_rfl)) fun s K=>by kernel_rfl
def ZaY.L:FL:=fNil
def ZaY:Unit→FR ((List Ws)):=fun ()=>⟨True,fun X=>Lt ([(⟨1,some 199,some 200⟩:Ws),(⟨2,some 201,some 202⟩:Ws),(⟨3,some 203,some 204⟩:Ws),(⟨4,some 205,some 206⟩:Ws),(⟨5,some 207,some 208⟩:Ws),(⟨6,some 209,some 208⟩:Ws),(⟨7,some 210,some 211⟩:Ws)]) fun x1=>X x1,fun r=>(r = steps)∧True,fun r=>(.v (.c (.own 0 3 232)),[.arr (.wss r)])⟩
theorem ZaY.X:XF ZaY:=mkF ([]) fun () hp=>by
 clear hp
 dsimp only [ZaY]
 refine May.lt fun x1 e1=>May.ret ⟨?_,trivial⟩
 all_goals try dsimp only
 all_goals first | with_reducible assumption | omega | (exact e1; done) | (simp only [List.length_append,List.length_cons,List.length_nil,List.length_set,List.length_replicate,Int.natCast_add,Int.natCast_one] at *; omega) | grind
abbrev ZaY.S:=Classical.choose ZaY.X
def ZaY.c:Ctr:=fc0 198 [] ZaY.L ZaY ZaY.S
theorem ZaY.good:Good Tryz.prog ZaY.c:=mkFG0 (fn:=Tryz.f198) {sh:=[[some (.ws,232)]]} ZaY.X noG (by kernel_rfl) (by kernel_rfl) (l0 (by kernel_rfl)) (c0 (by kernel_rfl)) (fun _=>trivial) fun s K=>by kernel_rfl
theorem ZaZ.G:GG [ZaY.c]:=(consG ZaY.good noG)
def Za0.L:FL:=fCons (fC cInt) (fCons (fC (cPtr 1 cWs rfl)) (fCons (fC cBool) (fCons (fC (cOwn kWss 232)) (fCons (fC cInt) (fCons (fC cInt) (fNil))))))
def Za0:Int×Ws×Bool×List Ws×Int×Int×Unit→LR (Int×Ws×Bool×List Ws×Int×Int×Unit) (Nat×Ws×Bool×Unit):=fun (y0,y1,y2,y3,y4,y5,())=>⟨(0≤y5)∧(y4≤9223372036854775807)∧(y4 = (y3.length:Int))∧(y3 = steps)∧(y4 = 7)∧(y5≤7)∧(¬ (1≤y0∧y0≤y5))∧True,(y4 - y5).toNat,fun X=>And (Imp ((decide (y5 < y4)) = true) (And ((0:Int)≤y5∧y5 < (y3.length:Int)) (And ((y5).toNat < y3.length) (And (Imp (((y3.getD (y5).toNat zWs).step == y0) = true) (X (.inr (0,(y3.getD (y5).toNat zWs),true,())))) (Imp (((y3.getD (y5).toNat zWs).step == y0) = false) (Lt (wrap (y5 + 1)) fun x2=>X (.inl (y0,y1,y2,y3,y4,x2,())))))))) (Imp ((decide (y5 < y4)) = false) (X (.inr (1,zWs,false,())))),fun r=>(r.1 = 0→FindQ y0 r.2.1 r.2.2.1)∧(¬ r.1 = 0→¬ (1≤y0∧y0≤7))∧True,fun r=>[(Nat.beq r.1 0,(.ret,[.c (.ptr 0 0),.c (.bool r.2.2.1)],[.raw 1 [.int r.2.1.step,.fnv r.2.1.may,.fnv r.2.1.act]]))],fun r=>(.exit 0,[.c (.ptr 0 0)],[.raw 1 [.int y1.step,.fnv y1.may,.fnv y1.act]])⟩
theorem Za0.X:XL Za0:=mkL (0,zWs,false,()) fun (y0,y1,y2,y3,y4,y5,()) hp=>by
 obtain ⟨p0,p1,p2,p3,p4,p5,p6,-⟩:=hp
 unfold ML; dsimp only [Za0]
 refine May.iff (B.dec) (fun h1=>?_) (fun h1=>?_)
 refine May.chk ?_ fun c1=>May.chk ?_ fun c2=>May.iff (B.eq) (fun h2=>?_) (fun h2=>?_); rotate_left 2
 refine May.ex ⟨?_,?_,trivial⟩; rotate_left 2
 refine May.lw ⟨?_,?_⟩ fun x2 e2=>May.nx ⟨?_,?_,?_,?_,?_,?_,?_,trivial⟩ ?_ ?_ fun r=>rfl; rotate_left 11
 refine May.ex ⟨?_,?_,trivial⟩
 all_goals try dsimp only [Za0]
 all_goals first | with_reducible assumption | omega | exact fun _ q=>q | (rw [show x1 = steps from q1]; rfl; done) | (rw [show x1 = steps from q1]; decide; done) | (rw [p3]; exact fun _=>find_y p0 (by show y5 < 7; omega) (by rw [← p3]; exact h2); done) | (have:=steps_at p0 (by omega); rw [p3] at h2; omega; done) | rfl | assumption | (simp only [List.length_append,List.length_cons,List.length_nil,List.length_set,List.length_replicate,Int.natCast_add,Int.natCast_one] at *; omega) | grind
abbrev Za0.R:=Classical.choose Za0.X
def Za0.k:LCtr:=(ld 2 [0,2,3,6,7,8] [] Za0.L Za0 0 (fun e=>match e with | .ret=>[2,3] | _=>[2]) (fun _=>[]) Za0.R).ctr
theorem Za0.g:LGood Tryz.prog Tryz.f194.ntmps Za0.k (bodyAt Tryz.f194 0):=mkLG {} Za0.X ZaZ.G (by kernel_rfl) (l0 (by kernel_rfl)) (c0 (by kernel_rfl)) fun S s=>by kernel_rfl
def ZaZ.L:FL:=fCons (fSh sInt) (fNil)
def ZaZ:Int×Unit→FR (Ws×Bool):=fun (a0,())=>⟨True,fun X=>Call0 ZaY.X () fun x1=>CallL Za0.X (a0,(⟨0,none,none⟩:Ws),false,x1,(x1.length:Int),0,()) fun x3=>And (Imp (Nat.beq x3.1 0 = true) (X (x3.2.1,x3.2.2.1))) (Imp (Nat.beq x3.1 0 = false) (X ((⟨0,none,none⟩:Ws),false))),fun r=>(FindQ a0 r.1 r.2)∧True,fun r=>(.tup [.agg [.int r.1.step,.fnv r.1.may,.fnv r.1.act],.c (.bool r.2)],[])⟩
theorem ZaZ.X:XF ZaZ:=mkF (zWs,false) fun (a0,()) hp=>by
 clear hp
 dsimp only [ZaZ]
 refine May.call0 trivial fun x1 q1=>have q1:=q1.1; May.loop ⟨?_,?_,?_,?_,?_,?_,?_,trivial⟩ fun x3 q3=>have q3_0:=q3.1; have q3_1:=q3.2.1; May.iff B.nbeq (fun h1=>?_) (fun h1=>?_); rotate_left 7
 refine May.ret ⟨?_,trivial⟩; rotate_left 1
 refine May.ret ⟨?_,trivial⟩
 all_goals try dsimp only
 all_goals first | with_reducible assumption | omega | (rw [show x1 = steps from q1]; rfl; done) | (rw [show x1 = steps from q1]; decide; done) | rfl | assumption | (simp only [List.length_append,List.length_cons,List.length_nil,List.length_set,List.length_replicate,Int.natCast_add,Int.natCast_one] at *; omega) | grind
abbrev ZaZ.S:=Classical.choose ZaZ.X
def ZaZ.c:Ctr:=fc0 194 [false] ZaZ.L ZaZ ZaZ.S
theorem ZaZ.good:Good Tryz.prog ZaZ.c:=mkFG0 (fn:=Tryz.f194) {LL:=[Za0.k]} ZaZ.X ZaZ.G (by kernel_rfl) (by kernel_rfl) (lG (by kernel_rfl) (consL (by kernel_rfl) Za0.g (noL rfl))) (c0 (by kernel_rfl)) (fun _=>trivial) fun s K=>by kernel_rfl
def ZaM.L:FL:=fCons (fSh sInts) (fNil)
def ZaM:List Int×Unit→FR (Unit):=fun (a0,())=>⟨(a0.length≤4294967296)∧True,fun X=>And (((a0.length:Int):Int) = (a0.length:Int)∧(0:Int)≤(a0.length:Int)∧((a0.length:Int):Int)≤4294967296) (And ((Arr.rep .int ((a0.length:Int)).toNat).len = a0.length) (X ())),fun r=>True,fun r=>(.v (.c (.own 0 1 3)),[.arr (.ints a0)])⟩
theorem ZaM.X:XF ZaM:=mkF () fun (a0,()) hp=>by
 obtain ⟨p0,-⟩:=hp
 dsimp only [ZaM]
 refine May.chk ?_ fun c1=>May.chk ?_ fun c2=>May.ret trivial
 all_goals try dsimp only
 all_goals first | with_reducible assumption | omega | (exact (rep_spec _ _).1.trans (by omega); done) | rfl | assumption | (simp only [List.length_append,List.length_cons,List.length_nil,List.length_set,List.length_replicate,Int.natCast_add,Int.natCast_one] at *; omega) | grind
abbrev ZaM.S:=Classical.choose ZaM.X
def ZaM.c:Ctr:=fc 133 [true] ZaM.L ZaM ZaM.S
theorem ZaM.good:Good Tryz.prog ZaM.c:=mkFG (fn:=Tryz.f133) {sh:=[[some (.int,3)]]} ZaM.X noG (by kernel_rfl) (by kernel_rfl) (l0 (by kernel_rfl)) (c0 (by kernel_rfl)) fun s K=>by kernel_rfl
def ZaN.L:FL:=fCons (fSh sBools) (fNil)
def ZaN:List Bool×Unit→FR (Unit):=fun (a0,())=>⟨(a0.length≤4294967296)∧True,fun X=>And (((a0.length:Int):Int) = (a0.length:Int)∧(0:Int)≤(a0.length:Int)∧((a0.length:Int):Int)≤4294967296) (And ((Arr.rep .bool ((a0.length:Int)).toNat).len = a0.length) (X ())),fun r=>True,fun r=>(.v (.c (.own 0 1 4)),[.arr (.bools a0)])⟩
theorem ZaN.X:XF ZaN:=mkF () fun (a0,()) hp=>by
 obtain ⟨p0,-⟩:=hp
 dsimp only [ZaN]
 refine May.chk ?_ fun c1=>May.chk ?_ fun c2=>May.ret trivial
 all_goals try dsimp only
 all_goals first | with_reducible assumption | omega | (exact (rep_spec _ _).1.trans (by omega); done) | rfl | assumption | (simp only [List.length_append,List.length_cons,List.length_nil,List.length_set,List.length_replicate,Int.natCast_add,Int.natCast_one] at *; omega) | grind
abbrev ZaN.S:=Classical.choose ZaN.X
def ZaN.c:Ctr:=fc 181 [true] ZaN.L ZaN ZaN.S
theorem ZaN.good:Good Tryz.prog ZaN.c:=mkFG (fn:=Tryz.f181) {sh:=[[some (.bool,4)]]} ZaN.X noG (by kernel_rfl) (by kernel_rfl) (l0 (by kernel_rfl)) (c0 (by kernel_rfl)) fun s K=>by kernel_rfl
def ZaO.L:FL:=fCons (fSh sPkts) (fNil)
def ZaO:List Pkt×Unit→FR (Unit):=fun (a0,())=>⟨(a0.length≤4294967296)∧True,fun X=>And (((a0.length:Int):Int) = (a0.length:Int)∧(0:Int)≤(a0.length:Int)∧((a0.length:Int):Int)≤4294967296) (And ((Arr.rep .pkt ((a0.length:Int)).toNat).len = a0.length) (X ())),fun r=>True,fun r=>(.v (.c (.own 0 7 46)),[.arr (.pkts a0)])⟩
theorem ZaO.X:XF ZaO:=mkF () fun (a0,()) hp=>by
 obtain ⟨p0,-⟩:=hp
 dsimp only [ZaO]
 refine May.chk ?_ fun c1=>May.chk ?_ fun c2=>May.ret trivial
 all_goals try dsimp only
 all_goals first | with_reducible assumption | omega | (exact (rep_spec _ _).1.trans (by omega); done) | rfl | assumption | (simp only [List.length_append,List.length_cons,List.length_nil,List.length_set,List.length_replicate,Int.natCast_add,Int.natCast_one] at *; omega) | grind
abbrev ZaO.S:=Classical.choose ZaO.X
def ZaO.c:Ctr:=fc 180 [true] ZaO.L ZaO ZaO.S
theorem ZaO.good:Good Tryz.prog ZaO.c:=mkFG (fn:=Tryz.f180) {sh:=[[some (.pkt,46)]]} ZaO.X noG (by kernel_rfl) (by kernel_rfl) (l0 (by kernel_rfl)) (c0 (by kernel_rfl)) fun s K=>by kernel_rfl
def ZaP.L:FL:=fCons (fSh sSt) (fNil)
def ZaP:St×Unit→FR (Unit):=fun (a0,())=>⟨(a0.sm)∧True,fun X=>And ((ZaO (a0.sent,())).P) (And ((ZaN (a0.live,())).P) (And ((ZaN (a0.back,())).P) (And ((ZaM (a0.got,())).P) (X ())))),fun r=>True,fun r=>(.v (.agg [.int a0.way,.int a0.ver,.int a0.want,.own 0 7 46,.own 1 1 4,.own 2 1 4,.own 3 1 3]),[.arr (.pkts a0.sent),.arr (.bools a0.live),.arr (.bools a0.back),.arr (.ints a0.got)])⟩
theorem ZaP.X:XF ZaP:=mkF () fun (a0,()) hp=>by
 obtain ⟨p0,-⟩:=hp
 dsimp only [ZaP]
 refine May.chk ⟨?_,trivial⟩ fun c1=>May.chk ⟨?_,trivial⟩ fun c2=>May.chk ⟨?_,trivial⟩ fun c3=>May.chk ⟨?_,trivial⟩ fun c4=>May.ret trivial
 all_goals try dsimp only
 all_goals first | with_reducible assumption | omega | rfl | assumption | (simp only [List.length_append,List.length_cons,List.length_nil,List.length_set,List.length_replicate,Int.natCast_add,Int.natCast_one] at *; omega) | grind [St.sm]
abbrev ZaP.S:=Classical.choose ZaP.X
def ZaP.c:Ctr:=fc 132 [true] ZaP.L ZaP ZaP.S
theorem ZaP.good:Good Tryz.prog ZaP.c:=mkFG (fn:=Tryz.f132) {sh:=[[none,none,none,some (.pkt,46),some (.bool,4),some (.bool,4),some (.int,3)]]} ZaP.X (consG ZaO.good (consG ZaN.good (consG ZaM.good noG))) (by kernel_rfl) (by kernel_rfl) (l0 (by kernel_rfl)) (c0 (by kernel_rfl)) fun s K=>by kernel_rfl
def Za8.L:FL:=fCons (fC (cPtr 1 cStO rfl)) (fNil)
def Za8:St×Unit→FR (St):=fun (a0,())=>⟨True,fun X=>X (⟨1,a0.ver,a0.want,a0.sent,a0.live,a0.back,a0.got⟩:St),fun r=>(r = ⟨1,a0.ver,a0.want,a0.sent,a0.live,a0.back,a0.got⟩)∧True,fun r=>(.tup [],[.raw 1 [.int r.way,.int r.ver,.int r.want,.own 1 7 46,.own 2 1 4,.own 3 1 4,.own 4 1 3],.arr (.pkts r.sent),.arr (.bools r.live),.arr (.bools r.back),.arr (.ints r.got)])⟩
theorem Za8.X:XF Za8:=mkF (zSt) fun (a0,()) hp=>by
 clear hp
 dsimp only [Za8]
 refine May.ret ⟨?_,trivial⟩
 all_goals try dsimp only
 all_goals first | with_reducible assumption | omega | rfl | assumption | (simp only [List.length_append,List.length_cons,List.length_nil,List.length_set,List.length_replicate,Int.natCast_add,Int.natCast_one] at *; omega) | grind
abbrev Za8.S:=Classical.choose Za8.X
def Za8.c:Ctr:=fc0 200 [false] Za8.L Za8 Za8.S
theorem Za8.good:Good Tryz.prog Za8.c:=mkFG0 (fn:=Tryz.f200) {} Za8.X noG (by kernel_rfl) (by kernel_rfl) (l0 (by kernel_rfl)) (c0 (by kernel_rfl)) (fun _=>trivial) fun s K=>by kernel_rfl
def Za9.L:FL:=fCons (fC (cPtr 1 cStO rfl)) (fNil)
def Za9:St×Unit→FR (St):=fun (a0,())=>⟨True,fun X=>X (⟨2,a0.ver,a0.want,a0.sent,a0.live,a0.back,a0.got⟩:St),fun r=>(r = ⟨2,a0.ver,a0.want,a0.sent,a0.live,a0.back,a0.got⟩)∧True,fun r=>(.tup [],[.raw 1 [.int r.way,.int r.ver,.int r.want,.own 1 7 46,.own 2 1 4,.own 3 1 4,.own 4 1 3],.arr (.pkts r.sent),.arr (.bools r.live),.arr (.bools r.back),.arr (.ints r.got)])⟩
theorem Za9.X:XF Za9:=mkF (zSt) fun (a0,()) hp=>by
 clear hp
 dsimp only [Za9]
 refine May.ret ⟨?_,trivial⟩
 all_goals try dsimp only
 all_goals first | with_reducible assumption | omega | rfl | assumption | (simp only [List.length_append,List.length_cons,List.length_nil,List.length_set,List.length_replicate,Int.natCast_add,Int.natCast_one] at *; omega) | grind
abbrev Za9.S:=Classical.choose Za9.X
def Za9.c:Ctr:=fc0 202 [false] Za9.L Za9 Za9.S
theorem Za9.good:Good Tryz.prog Za9.c:=mkFG0 (fn:=Tryz.f202) {} Za9.X noG (by kernel_rfl) (by kernel_rfl) (l0 (by kernel_rfl)) (c0 (by kernel_rfl)) (fun _=>trivial) fun s K=>by kernel_rfl
def Zba.L:FL:=fCons (fC (cPtr 1 cStO rfl)) (fNil)
def Zba:St×Unit→FR (St):=fun (a0,())=>⟨True,fun X=>X (⟨3,a0.ver,a0.want,a0.sent,a0.live,a0.back,a0.got⟩:St),fun r=>(r = ⟨3,a0.ver,a0.want,a0.sent,a0.live,a0.back,a0.got⟩)∧True,fun r=>(.tup [],[.raw 1 [.int r.way,.int r.ver,.int r.want,.own 1 7 46,.own 2 1 4,.own 3 1 4,.own 4 1 3],.arr (.pkts r.sent),.arr (.bools r.live),.arr (.bools r.back),.arr (.ints r.got)])⟩
theorem Zba.X:XF Zba:=mkF (zSt) fun (a0,()) hp=>by
 clear hp
 dsimp only [Zba]
 refine May.ret ⟨?_,trivial⟩
 all_goals try dsimp only
 all_goals first | with_reducible assumption | omega | rfl | assumption | (simp only [List.length_append,List.length_cons,List.length_nil,List.length_set,List.length_replicate,Int.natCast_add,Int.natCast_one] at *; omega) | grind
abbrev Zba.S:=Classical.choose Zba.X
def Zba.c:Ctr:=fc0 204 [false] Zba.L Zba Zba.S
theorem Zba.good:Good Tryz.prog Zba.c:=mkFG0 (fn:=Tryz.f204) {} Zba.X noG (by kernel_rfl) (by kernel_rfl) (l0 (by kernel_rfl)) (c0 (by kernel_rfl)) (fun _=>trivial) fun s K=>by kernel_rfl
def Zbb.L:FL:=fCons (fC (cPtr 1 cStO rfl)) (fNil)
def Zbb:St×Unit→FR (St):=fun (a0,())=>⟨True,fun X=>X (⟨3,a0.ver,a0.want,a0.sent,a0.live,a0.back,a0.got⟩:St),fun r=>(r = ⟨3,a0.ver,a0.want,a0.sent,a0.live,a0.back,a0.got⟩)∧True,fun r=>(.tup [],[.raw 1 [.int r.way,.int r.ver,.int r.want,.own 1 7 46,.own 2 1 4,.own 3 1 4,.own 4 1 3],.arr (.pkts r.sent),.arr (.bools r.live),.arr (.bools r.back),.arr (.ints r.got)])⟩
theorem Zbb.X:XF Zbb:=mkF (zSt) fun (a0,()) hp=>by
 clear hp
 dsimp only [Zbb]
 refine May.ret ⟨?_,trivial⟩
 all_goals try dsimp only
 all_goals first | with_reducible assumption | omega | rfl | assumption | (simp only [List.length_append,List.length_cons,List.length_nil,List.length_set,List.length_replicate,Int.natCast_add,Int.natCast_one] at *; omega) | grind
abbrev Zbb.S:=Classical.choose Zbb.X
def Zbb.c:Ctr:=fc0 206 [false] Zbb.L Zbb Zbb.S
theorem Zbb.good:Good Tryz.prog Zbb.c:=mkFG0 (fn:=Tryz.f206) {} Zbb.X noG (by kernel_rfl) (by kernel_rfl) (l0 (by kernel_rfl)) (c0 (by kernel_rfl)) (fun _=>trivial) fun s K=>by kernel_rfl
def Zbc.L:FL:=fCons (fC (cPtr 1 cStO rfl)) (fNil)
def Zbc:St×Unit→FR (St):=fun (a0,())=>⟨True,fun X=>X (⟨4,a0.ver,wrap (a0.ver + 1),a0.sent,a0.live,a0.back,a0.got⟩:St),fun r=>(r = ⟨4,a0.ver,wrap (a0.ver + 1),a0.sent,a0.live,a0.back,a0.got⟩)∧True,fun r=>(.tup [],[.raw 1 [.int r.way,.int r.ver,.int r.want,.own 1 7 46,.own 2 1 4,.own 3 1 4,.own 4 1 3],.arr (.pkts r.sent),.arr (.bools r.live),.arr (.bools r.back),.arr (.ints r.got)])⟩
theorem Zbc.X:XF Zbc:=mkF (zSt) fun (a0,()) hp=>by
 clear hp
 dsimp only [Zbc]
 refine May.ret ⟨?_,trivial⟩
 all_goals try dsimp only
 all_goals first | with_reducible assumption | omega | rfl | assumption | (simp only [List.length_append,List.length_cons,List.length_nil,List.length_set,List.length_replicate,Int.natCast_add,Int.natCast_one] at *; omega) | grind
abbrev Zbc.S:=Classical.choose Zbc.X
def Zbc.c:Ctr:=fc0 208 [false] Zbc.L Zbc Zbc.S
theorem Zbc.good:Good Tryz.prog Zbc.c:=mkFG0 (fn:=Tryz.f208) {} Zbc.X noG (by kernel_rfl) (by kernel_rfl) (l0 (by kernel_rfl)) (c0 (by kernel_rfl)) (fun _=>trivial) fun s K=>by kernel_rfl
def Zbd.L:FL:=fCons (fC (cPtr 1 cStO rfl)) (fNil)
def Zbd:St×Unit→FR (St):=fun (a0,())=>⟨True,fun X=>X (⟨3,a0.want,0,a0.sent,a0.live,a0.back,a0.got⟩:St),fun r=>(r = ⟨3,a0.want,0,a0.sent,a0.live,a0.back,a0.got⟩)∧True,fun r=>(.tup [],[.raw 1 [.int r.way,.int r.ver,.int r.want,.own 1 7 46,.own 2 1 4,.own 3 1 4,.own 4 1 3],.arr (.pkts r.sent),.arr (.bools r.live),.arr (.bools r.back),.arr (.ints r.got)])⟩
theorem Zbd.X:XF Zbd:=mkF (zSt) fun (a0,()) hp=>by
 clear hp
 dsimp only [Zbd]
 refine May.ret ⟨?_,trivial⟩
 all_goals try dsimp only
 all_goals first | with_reducible assumption | omega | rfl | assumption | (simp only [List.length_append,List.length_cons,List.length_nil,List.length_set,List.length_replicate,Int.natCast_add,Int.natCast_one] at *; omega) | grind
abbrev Zbd.S:=Classical.choose Zbd.X
def Zbd.c:Ctr:=fc0 211 [false] Zbd.L Zbd Zbd.S
theorem Zbd.good:Good Tryz.prog Zbd.c:=mkFG0 (fn:=Tryz.f211) {} Zbd.X noG (by kernel_rfl) (by kernel_rfl) (l0 (by kernel_rfl)) (c0 (by kernel_rfl)) (fun _=>trivial) fun s K=>by kernel_rfl
end
end Hw
end Go.Proofs.YtklmllaggigkfaaGreat
set_option linter.unusedVariables false
set_option linter.unusedSimpArgs false
set_option maxRecDepth 100000
set_option maxHeartbeats 400000
namespace Go.Proofs.YtklmllaggigkfaaGreat
namespace Hw
open Go
noncomputable section
attribute [local irreducible] evFn evBody wrap wxor
def after (s:St) (k:Int):St :=
 if k = 1 then ⟨1,s.ver,s.want,s.sent,s.live,s.back,s.got⟩ else if k = 2 then ⟨2,s.ver,s.want,s.sent,s.live,s.back,s.got⟩ else if k = 3∨k = 4 then ⟨3,s.ver,s.want,s.sent,s.live,s.back,s.got⟩
 else if k = 5∨k = 6 then ⟨4,s.ver,wrap (s.ver + 1),s.sent,s.live,s.back,s.got⟩ else ⟨3,s.want,0,s.sent,s.live,s.back,s.got⟩
abbrev DoQ (s o:St) (k:Int) (r:St) (b:Bool):Prop:=(b = true↔MayW s o k)∧(b = true→r = after s k)∧(¬ b = true→r = zSt)
theorem act_at {k j:Int} {w:Ws} {b:Bool} {f:Option Nat} (q:FindQ k w b) (hb:b = true) (hk:k = j) (hf:actOf j = f):w.act = f:=by
 subst hk
 exact (q.1 hb).2.2.trans hf
theorem ok_of {b:Bool} {p q y:Prop} (h:¬(((¬b = true∨¬p)∨¬q)∨¬y)):(b = true∧p∧q)∧y :=
 ⟨⟨Classical.byContradiction fun g=>h (.inl (.inl (.inl g))),Classical.byContradiction fun g=>h (.inl (.inl (.inr g))),Classical.byContradiction fun g=>h (.inl (.inr g))⟩,Classical.byContradiction fun g=>h (.inr g)⟩
theorem ok_of' {b:Bool} {p q:Prop} (h:¬((¬b = true∨¬p)∨¬q)):b = true∧p∧q :=
 ⟨Classical.byContradiction fun g=>h (.inl (.inl g)),Classical.byContradiction fun g=>h (.inl (.inr g)),Classical.byContradiction fun g=>h (.inr g)⟩
theorem ok_sm {s:St} (h:StOk s):s.sm:=sin_sm (stOk_in h)
theorem do_t {s o r:St} {k j:Int} {b:Bool} {y:Prop} (h:¬(((¬b = true∨¬StOk s)∨¬StOk o)∨¬y)) (hk:k = j) (hy:StOk s→StOk o→(y↔MayK s o j)) (hr:r = after s j):DoQ s o k r true:=by
 subst hk
 obtain ⟨⟨_,h1,h2⟩,h3⟩:=ok_of h
 exact ⟨⟨fun _=>⟨⟨h1,h2⟩,(hy h1 h2).1 h3⟩,fun _=>rfl⟩,fun _=>hr,fun h=>absurd rfl h⟩
theorem do_f {s o:St} {k j:Int} {w:Ws} {b:Bool} {y:Prop} (q:FindQ k w b) (h:((¬b = true∨¬StOk s)∨¬StOk o)∨¬y) (hk:b = true→k = j) (hy:StOk s→StOk o→(y↔MayK s o j)):DoQ s o k zSt false:=by
 refine ⟨⟨fun h'=>absurd h' (by simp),fun h'=>?_⟩,fun h'=>absurd h' (by simp),fun _=>rfl⟩
 rcases h with ((h | h) | h) | h
 ·exact absurd (mayK_rng h'.2) (q.2 h)
 ·exact absurd h'.1.1 h
 ·exact absurd h'.1.2 h
 ·by_cases hb:b = true
  ·obtain rfl:=hk hb
   exact absurd ((hy h'.1.1 h'.1.2).2 h'.2) h
  ·exact absurd (mayK_rng h'.2) (q.2 hb)
def Zbe.L:FL:=fCons (fSh sSt) (fCons (fSh sSt) (fCons (fSh sInt) (fNil)))
def Zbe:St×St×Int×Unit→FR (St×Bool):=fun (a0,a1,a2,())=>⟨True,fun X=>Call0 ZaZ.X (a2,()) fun x1=>Or (Lt (bif bif !x1.2 then true else !(ZO.S a0) then true else !(ZO.S a1)) fun x2=>And (Imp (And (x2 = false) (True)) (x1.1.may = some 199)) (And (Imp ((bif x2 then true else !(a0.way == 0)) = true) (X ((⟨0,0,0,[],[],[],[]⟩:St),false))) (Imp ((bif x2 then true else !(a0.way == 0)) = false) (And ((ZaP (a0,())).P) (Or (And (x1.1.act = some 200) (Lt ((Za8.S (a0,()))) fun x3=>X (x3,true))) (Or (And (x1.1.act = some 202) (Lt ((Za9.S (a0,()))) fun x4=>X (x4,true))) (Or (And (x1.1.act = some 204) (Lt ((Zba.S (a0,()))) fun x5=>X (x5,true))) (Or (And (x1.1.act = some 206) (Lt ((Zbb.S (a0,()))) fun x6=>X (x6,true))) (Or (And (x1.1.act = some 208) (Lt ((Zbc.S (a0,()))) fun x7=>X (x7,true))) (And (x1.1.act = some 211) (Lt ((Zbd.S (a0,()))) fun x8=>X (x8,true)))))))))))) (Or (Lt (bif bif !x1.2 then true else !(ZO.S a0) then true else !(ZO.S a1)) fun x9=>And (Imp (And (x9 = false) (True)) (x1.1.may = some 201)) (Lt ((ZaS.S (a0,a1,()))) fun x10=>And (Imp ((bif x9 then true else !x10) = true) (X ((⟨0,0,0,[],[],[],[]⟩:St),false))) (Imp ((bif x9 then true else !x10) = false) (And ((ZaP (a0,())).P) (Or (And (x1.1.act = some 200) (Lt ((Za8.S (a0,()))) fun x11=>X (x11,true))) (Or (And (x1.1.act = some 202) (Lt ((Za9.S (a0,()))) fun x12=>X (x12,true))) (Or (And (x1.1.act = some 204) (Lt ((Zba.S (a0,()))) fun x13=>X (x13,true))) (Or (And (x1.1.act = some 206) (Lt ((Zbb.S (a0,()))) fun x14=>X (x14,true))) (Or (And (x1.1.act = some 208) (Lt ((Zbc.S (a0,()))) fun x15=>X (x15,true))) (And (x1.1.act = some 211) (Lt ((Zbd.S (a0,()))) fun x16=>X (x16,true)))))))))))) (Or (Lt (bif bif !x1.2 then true else !(ZO.S a0) then true else !(ZO.S a1)) fun x17=>And (Imp (And (x17 = false) (True)) (x1.1.may = some 203)) (Lt ((ZaT.S (a0,a1,()))) fun x18=>And (Imp ((bif x17 then true else !x18) = true) (X ((⟨0,0,0,[],[],[],[]⟩:St),false))) (Imp ((bif x17 then true else !x18) = false) (And ((ZaP (a0,())).P) (Or (And (x1.1.act = some 200) (Lt ((Za8.S (a0,()))) fun x19=>X (x19,true))) (Or (And (x1.1.act = some 202) (Lt ((Za9.S (a0,()))) fun x20=>X (x20,true))) (Or (And (x1.1.act = some 204) (Lt ((Zba.S (a0,()))) fun x21=>X (x21,true))) (Or (And (x1.1.act = some 206) (Lt ((Zbb.S (a0,()))) fun x22=>X (x22,true))) (Or (And (x1.1.act = some 208) (Lt ((Zbc.S (a0,()))) fun x23=>X (x23,true))) (And (x1.1.act = some 211) (Lt ((Zbd.S (a0,()))) fun x24=>X (x24,true)))))))))))) (Or (Lt (bif bif !x1.2 then true else !(ZO.S a0) then true else !(ZO.S a1)) fun x25=>And (Imp (And (x25 = false) (True)) (x1.1.may = some 205)) (Lt ((ZaU.S (a0,a1,()))) fun x26=>And (Imp ((bif x25 then true else !x26) = true) (X ((⟨0,0,0,[],[],[],[]⟩:St),false))) (Imp ((bif x25 then true else !x26) = false) (And ((ZaP (a0,())).P) (Or (And (x1.1.act = some 200) (Lt ((Za8.S (a0,()))) fun x27=>X (x27,true))) (Or (And (x1.1.act = some 202) (Lt ((Za9.S (a0,()))) fun x28=>X (x28,true))) (Or (And (x1.1.act = some 204) (Lt ((Zba.S (a0,()))) fun x29=>X (x29,true))) (Or (And (x1.1.act = some 206) (Lt ((Zbb.S (a0,()))) fun x30=>X (x30,true))) (Or (And (x1.1.act = some 208) (Lt ((Zbc.S (a0,()))) fun x31=>X (x31,true))) (And (x1.1.act = some 211) (Lt ((Zbd.S (a0,()))) fun x32=>X (x32,true)))))))))))) (Or (Lt (bif bif !x1.2 then true else !(ZO.S a0) then true else !(ZO.S a1)) fun x33=>And (Imp (And (x33 = false) (True)) (x1.1.may = some 207)) (Lt ((ZaV.S (a0,a1,()))) fun x34=>And (Imp ((bif x33 then true else !x34) = true) (X ((⟨0,0,0,[],[],[],[]⟩:St),false))) (Imp ((bif x33 then true else !x34) = false) (And ((ZaP (a0,())).P) (Or (And (x1.1.act = some 200) (Lt ((Za8.S (a0,()))) fun x35=>X (x35,true))) (Or (And (x1.1.act = some 202) (Lt ((Za9.S (a0,()))) fun x36=>X (x36,true))) (Or (And (x1.1.act = some 204) (Lt ((Zba.S (a0,()))) fun x37=>X (x37,true))) (Or (And (x1.1.act = some 206) (Lt ((Zbb.S (a0,()))) fun x38=>X (x38,true))) (Or (And (x1.1.act = some 208) (Lt ((Zbc.S (a0,()))) fun x39=>X (x39,true))) (And (x1.1.act = some 211) (Lt ((Zbd.S (a0,()))) fun x40=>X (x40,true)))))))))))) (Or (Lt (bif bif !x1.2 then true else !(ZO.S a0) then true else !(ZO.S a1)) fun x41=>And (Imp (And (x41 = false) (True)) (x1.1.may = some 209)) (Lt ((ZaW.S (a0,a1,()))) fun x42=>And (Imp ((bif x41 then true else !x42) = true) (X ((⟨0,0,0,[],[],[],[]⟩:St),false))) (Imp ((bif x41 then true else !x42) = false) (And ((ZaP (a0,())).P) (Or (And (x1.1.act = some 200) (Lt ((Za8.S (a0,()))) fun x43=>X (x43,true))) (Or (And (x1.1.act = some 202) (Lt ((Za9.S (a0,()))) fun x44=>X (x44,true))) (Or (And (x1.1.act = some 204) (Lt ((Zba.S (a0,()))) fun x45=>X (x45,true))) (Or (And (x1.1.act = some 206) (Lt ((Zbb.S (a0,()))) fun x46=>X (x46,true))) (Or (And (x1.1.act = some 208) (Lt ((Zbc.S (a0,()))) fun x47=>X (x47,true))) (And (x1.1.act = some 211) (Lt ((Zbd.S (a0,()))) fun x48=>X (x48,true)))))))))))) (Lt (bif bif !x1.2 then true else !(ZO.S a0) then true else !(ZO.S a1)) fun x49=>And (Imp (And (x49 = false) (True)) (And ((ZaX (a0,a1,())).P) (x1.1.may = some 210))) (Lt ((ZaX.S (a0,a1,()))) fun x50=>And (Imp ((bif x49 then true else !x50) = true) (X ((⟨0,0,0,[],[],[],[]⟩:St),false))) (Imp ((bif x49 then true else !x50) = false) (And ((ZaP (a0,())).P) (Or (And (x1.1.act = some 200) (Lt ((Za8.S (a0,()))) fun x51=>X (x51,true))) (Or (And (x1.1.act = some 202) (Lt ((Za9.S (a0,()))) fun x52=>X (x52,true))) (Or (And (x1.1.act = some 204) (Lt ((Zba.S (a0,()))) fun x53=>X (x53,true))) (Or (And (x1.1.act = some 206) (Lt ((Zbb.S (a0,()))) fun x54=>X (x54,true))) (Or (And (x1.1.act = some 208) (Lt ((Zbc.S (a0,()))) fun x55=>X (x55,true))) (And (x1.1.act = some 211) (Lt ((Zbd.S (a0,()))) fun x56=>X (x56,true))))))))))))))))),fun r=>(DoQ a0 a1 a2 r.1 r.2)∧True,fun r=>(.tup [.agg [.int r.1.way,.int r.1.ver,.int r.1.want,.own 0 7 46,.own 1 1 4,.own 2 1 4,.own 3 1 3],.c (.bool r.2)],[.arr (.pkts r.1.sent),.arr (.bools r.1.live),.arr (.bools r.1.back),.arr (.ints r.1.got)])⟩
theorem Zbe.X:XF Zbe:=mkF (zSt,false) fun (a0,a1,a2,()) hp=>by
 clear hp
 dsimp only [Zbe]
 refine May.call0 trivial fun x1 q1=>have q1:=q1.1; May.alt (c:=a2 == 1) (B.eq) (fun h1=>?_) (fun h1=>May.alt (c:=a2 == 2) (B.eq) (fun h2=>?_) (fun h2=>May.alt (c:=a2 == 3) (B.eq) (fun h3=>?_) (fun h3=>May.alt (c:=a2 == 4) (B.eq) (fun h4=>?_) (fun h4=>May.alt (c:=a2 == 5) (B.eq) (fun h5=>?_) (fun h5=>May.alt (c:=a2 == 6) (B.eq) (fun h6=>?_) (fun h6=>?_))))))
 refine May.lp (B.or (B.or (B.not (Iff.rfl)) (B.not (implSt))) (B.not (implSt))) fun x2 e2=>May.chk (fun hπ=>have g1:=B.neg (e2) hπ.1; ?_) fun c1=>May.iff (B.or (e2) (B.not (B.eq))) (fun h2=>?_) (fun h2=>?_); rotate_left 1
 refine May.ret ⟨?_,trivial⟩; rotate_left 1
 refine May.chk ⟨?_,trivial⟩ fun c2=>May.alt (c:=a2 == 1) (B.eq) (fun h3=>?_) (fun h3=>May.alt (c:=a2 == 2) (B.eq) (fun h4=>?_) (fun h4=>May.alt (c:=a2 == 3) (B.eq) (fun h5=>?_) (fun h5=>May.alt (c:=a2 == 4) (B.eq) (fun h6=>?_) (fun h6=>May.alt (c:=bif a2 == 5 then true else a2 == 6) (B.or (B.eq) (B.eq)) (fun h7=>?_) (fun h7=>?_))))); rotate_left 1
 refine May.chk ?_ fun c3=>May.clqe trivial fun x3 e3 q3=>have q3:=q3.1; May.ret ⟨?_,trivial⟩; rotate_left 2
 refine May.chk ?_ fun c4=>May.clqe trivial fun x4 e4 q4=>have q4:=q4.1; May.ret ⟨?_,trivial⟩; rotate_left 2
 refine May.chk ?_ fun c5=>May.clqe trivial fun x5 e5 q5=>have q5:=q5.1; May.ret ⟨?_,trivial⟩; rotate_left 2
 refine May.chk ?_ fun c6=>May.clqe trivial fun x6 e6 q6=>have q6:=q6.1; May.ret ⟨?_,trivial⟩; rotate_left 2
 refine May.chk ?_ fun c7=>May.clqe trivial fun x7 e7 q7=>have q7:=q7.1; May.ret ⟨?_,trivial⟩; rotate_left 2
 refine May.chk ?_ fun c8=>May.clqe trivial fun x8 e8 q8=>have q8:=q8.1; May.ret ⟨?_,trivial⟩; rotate_left 2
 refine May.lp (B.or (B.or (B.not (Iff.rfl)) (B.not (implSt))) (B.not (implSt))) fun x9 e9=>May.chk (fun hπ=>have g1:=B.neg (e9) hπ.1; ?_) fun c9=>May.clqe trivial fun x10 e10 q10=>have q10:=q10.1; May.iff (B.or (e9) (B.not (Iff.rfl))) (fun h3=>?_) (fun h3=>?_); rotate_left 1
 refine May.ret ⟨?_,trivial⟩; rotate_left 1
 refine May.chk ⟨?_,trivial⟩ fun c10=>May.alt (c:=a2 == 1) (B.eq) (fun h4=>?_) (fun h4=>May.alt (c:=a2 == 2) (B.eq) (fun h5=>?_) (fun h5=>May.alt (c:=a2 == 3) (B.eq) (fun h6=>?_) (fun h6=>May.alt (c:=a2 == 4) (B.eq) (fun h7=>?_) (fun h7=>May.alt (c:=bif a2 == 5 then true else a2 == 6) (B.or (B.eq) (B.eq)) (fun h8=>?_) (fun h8=>?_))))); rotate_left 1
 refine May.chk ?_ fun c11=>May.clqe trivial fun x11 e11 q11=>have q11:=q11.1; May.ret ⟨?_,trivial⟩; rotate_left 2
 refine May.chk ?_ fun c12=>May.clqe trivial fun x12 e12 q12=>have q12:=q12.1; May.ret ⟨?_,trivial⟩; rotate_left 2
 refine May.chk ?_ fun c13=>May.clqe trivial fun x13 e13 q13=>have q13:=q13.1; May.ret ⟨?_,trivial⟩; rotate_left 2
 refine May.chk ?_ fun c14=>May.clqe trivial fun x14 e14 q14=>have q14:=q14.1; May.ret ⟨?_,trivial⟩; rotate_left 2
 refine May.chk ?_ fun c15=>May.clqe trivial fun x15 e15 q15=>have q15:=q15.1; May.ret ⟨?_,trivial⟩; rotate_left 2
 refine May.chk ?_ fun c16=>May.clqe trivial fun x16 e16 q16=>have q16:=q16.1; May.ret ⟨?_,trivial⟩; rotate_left 2
 refine May.lp (B.or (B.or (B.not (Iff.rfl)) (B.not (implSt))) (B.not (implSt))) fun x17 e17=>May.chk (fun hπ=>have g1:=B.neg (e17) hπ.1; ?_) fun c17=>May.clqe trivial fun x18 e18 q18=>have q18:=q18.1; May.iff (B.or (e17) (B.not (Iff.rfl))) (fun h4=>?_) (fun h4=>?_); rotate_left 1
 refine May.ret ⟨?_,trivial⟩; rotate_left 1
 refine May.chk ⟨?_,trivial⟩ fun c18=>May.alt (c:=a2 == 1) (B.eq) (fun h5=>?_) (fun h5=>May.alt (c:=a2 == 2) (B.eq) (fun h6=>?_) (fun h6=>May.alt (c:=a2 == 3) (B.eq) (fun h7=>?_) (fun h7=>May.alt (c:=a2 == 4) (B.eq) (fun h8=>?_) (fun h8=>May.alt (c:=bif a2 == 5 then true else a2 == 6) (B.or (B.eq) (B.eq)) (fun h9=>?_) (fun h9=>?_))))); rotate_left 1
 refine May.chk ?_ fun c19=>May.clqe trivial fun x19 e19 q19=>have q19:=q19.1; May.ret ⟨?_,trivial⟩; rotate_left 2
 refine May.chk ?_ fun c20=>May.clqe trivial fun x20 e20 q20=>have q20:=q20.1; May.ret ⟨?_,trivial⟩; rotate_left 2
 refine May.chk ?_ fun c21=>May.clqe trivial fun x21 e21 q21=>have q21:=q21.1; May.ret ⟨?_,trivial⟩; rotate_left 2
 refine May.chk ?_ fun c22=>May.clqe trivial fun x22 e22 q22=>have q22:=q22.1; May.ret ⟨?_,trivial⟩; rotate_left 2
 refine May.chk ?_ fun c23=>May.clqe trivial fun x23 e23 q23=>have q23:=q23.1; May.ret ⟨?_,trivial⟩; rotate_left 2
 refine May.chk ?_ fun c24=>May.clqe trivial fun x24 e24 q24=>have q24:=q24.1; May.ret ⟨?_,trivial⟩; rotate_left 2
 refine May.lp (B.or (B.or (B.not (Iff.rfl)) (B.not (implSt))) (B.not (implSt))) fun x25 e25=>May.chk (fun hπ=>have g1:=B.neg (e25) hπ.1; ?_) fun c25=>May.clqe trivial fun x26 e26 q26=>have q26:=q26.1; May.iff (B.or (e25) (B.not (Iff.rfl))) (fun h5=>?_) (fun h5=>?_); rotate_left 1
 refine May.ret ⟨?_,trivial⟩; rotate_left 1
 refine May.chk ⟨?_,trivial⟩ fun c26=>May.alt (c:=a2 == 1) (B.eq) (fun h6=>?_) (fun h6=>May.alt (c:=a2 == 2) (B.eq) (fun h7=>?_) (fun h7=>May.alt (c:=a2 == 3) (B.eq) (fun h8=>?_) (fun h8=>May.alt (c:=a2 == 4) (B.eq) (fun h9=>?_) (fun h9=>May.alt (c:=bif a2 == 5 then true else a2 == 6) (B.or (B.eq) (B.eq)) (fun h10=>?_) (fun h10=>?_))))); rotate_left 1
 refine May.chk ?_ fun c27=>May.clqe trivial fun x27 e27 q27=>have q27:=q27.1; May.ret ⟨?_,trivial⟩; rotate_left 2
 refine May.chk ?_ fun c28=>May.clqe trivial fun x28 e28 q28=>have q28:=q28.1; May.ret ⟨?_,trivial⟩; rotate_left 2
 refine May.chk ?_ fun c29=>May.clqe trivial fun x29 e29 q29=>have q29:=q29.1; May.ret ⟨?_,trivial⟩; rotate_left 2
 refine May.chk ?_ fun c30=>May.clqe trivial fun x30 e30 q30=>have q30:=q30.1; May.ret ⟨?_,trivial⟩; rotate_left 2
 refine May.chk ?_ fun c31=>May.clqe trivial fun x31 e31 q31=>have q31:=q31.1; May.ret ⟨?_,trivial⟩; rotate_left 2
 refine May.chk ?_ fun c32=>May.clqe trivial fun x32 e32 q32=>have q32:=q32.1; May.ret ⟨?_,trivial⟩; rotate_left 2
 refine May.lp (B.or (B.or (B.not (Iff.rfl)) (B.not (implSt))) (B.not (implSt))) fun x33 e33=>May.chk (fun hπ=>have g1:=B.neg (e33) hπ.1; ?_) fun c33=>May.clqe trivial fun x34 e34 q34=>have q34:=q34.1; May.iff (B.or (e33) (B.not (Iff.rfl))) (fun h6=>?_) (fun h6=>?_); rotate_left 1
 refine May.ret ⟨?_,trivial⟩; rotate_left 1
 refine May.chk ⟨?_,trivial⟩ fun c34=>May.alt (c:=a2 == 1) (B.eq) (fun h7=>?_) (fun h7=>May.alt (c:=a2 == 2) (B.eq) (fun h8=>?_) (fun h8=>May.alt (c:=a2 == 3) (B.eq) (fun h9=>?_) (fun h9=>May.alt (c:=a2 == 4) (B.eq) (fun h10=>?_) (fun h10=>May.alt (c:=bif a2 == 5 then true else a2 == 6) (B.or (B.eq) (B.eq)) (fun h11=>?_) (fun h11=>?_))))); rotate_left 1
 refine May.chk ?_ fun c35=>May.clqe trivial fun x35 e35 q35=>have q35:=q35.1; May.ret ⟨?_,trivial⟩; rotate_left 2
 refine May.chk ?_ fun c36=>May.clqe trivial fun x36 e36 q36=>have q36:=q36.1; May.ret ⟨?_,trivial⟩; rotate_left 2
 refine May.chk ?_ fun c37=>May.clqe trivial fun x37 e37 q37=>have q37:=q37.1; May.ret ⟨?_,trivial⟩; rotate_left 2
 refine May.chk ?_ fun c38=>May.clqe trivial fun x38 e38 q38=>have q38:=q38.1; May.ret ⟨?_,trivial⟩; rotate_left 2
 refine May.chk ?_ fun c39=>May.clqe trivial fun x39 e39 q39=>have q39:=q39.1; May.ret ⟨?_,trivial⟩; rotate_left 2
 refine May.chk ?_ fun c40=>May.clqe trivial fun x40 e40 q40=>have q40:=q40.1; May.ret ⟨?_,trivial⟩; rotate_left 2
 refine May.lp (B.or (B.or (B.not (Iff.rfl)) (B.not (implSt))) (B.not (implSt))) fun x41 e41=>May.chk (fun hπ=>have g1:=B.neg (e41) hπ.1; ?_) fun c41=>May.clqe trivial fun x42 e42 q42=>have q42:=q42.1; May.iff (B.or (e41) (B.not (Iff.rfl))) (fun h7=>?_) (fun h7=>?_); rotate_left 1
 refine May.ret ⟨?_,trivial⟩; rotate_left 1
 refine May.chk ⟨?_,trivial⟩ fun c42=>May.alt (c:=a2 == 1) (B.eq) (fun h8=>?_) (fun h8=>May.alt (c:=a2 == 2) (B.eq) (fun h9=>?_) (fun h9=>May.alt (c:=a2 == 3) (B.eq) (fun h10=>?_) (fun h10=>May.alt (c:=a2 == 4) (B.eq) (fun h11=>?_) (fun h11=>May.alt (c:=bif a2 == 5 then true else a2 == 6) (B.or (B.eq) (B.eq)) (fun h12=>?_) (fun h12=>?_))))); rotate_left 1
 refine May.chk ?_ fun c43=>May.clqe trivial fun x43 e43 q43=>have q43:=q43.1; May.ret ⟨?_,trivial⟩; rotate_left 2
 refine May.chk ?_ fun c44=>May.clqe trivial fun x44 e44 q44=>have q44:=q44.1; May.ret ⟨?_,trivial⟩; rotate_left 2
 refine May.chk ?_ fun c45=>May.clqe trivial fun x45 e45 q45=>have q45:=q45.1; May.ret ⟨?_,trivial⟩; rotate_left 2
 refine May.chk ?_ fun c46=>May.clqe trivial fun x46 e46 q46=>have q46:=q46.1; May.ret ⟨?_,trivial⟩; rotate_left 2
 refine May.chk ?_ fun c47=>May.clqe trivial fun x47 e47 q47=>have q47:=q47.1; May.ret ⟨?_,trivial⟩; rotate_left 2
 refine May.chk ?_ fun c48=>May.clqe trivial fun x48 e48 q48=>have q48:=q48.1; May.ret ⟨?_,trivial⟩; rotate_left 2
 refine May.lp (B.or (B.or (B.not (Iff.rfl)) (B.not (implSt))) (B.not (implSt))) fun x49 e49=>May.chk (fun hπ=>have g1:=B.neg (e49) hπ.1; ?_) fun c49=>May.cq fun x50 q50=>have q50:=gq2 q50; have q50:=fun h=>(q50 h).1; May.iff (B.or (e49) (B.not (Iff.rfl))) (fun h7=>?_) (fun h7=>?_); rotate_left 1
 refine May.ret ⟨?_,trivial⟩; rotate_left 1
 refine May.chk ⟨?_,trivial⟩ fun c50=>May.alt (c:=a2 == 1) (B.eq) (fun h8=>?_) (fun h8=>May.alt (c:=a2 == 2) (B.eq) (fun h9=>?_) (fun h9=>May.alt (c:=a2 == 3) (B.eq) (fun h10=>?_) (fun h10=>May.alt (c:=a2 == 4) (B.eq) (fun h11=>?_) (fun h11=>May.alt (c:=bif a2 == 5 then true else a2 == 6) (B.or (B.eq) (B.eq)) (fun h12=>?_) (fun h12=>?_))))); rotate_left 1
 refine May.chk ?_ fun c51=>May.clqe trivial fun x51 e51 q51=>have q51:=q51.1; May.ret ⟨?_,trivial⟩; rotate_left 2
 refine May.chk ?_ fun c52=>May.clqe trivial fun x52 e52 q52=>have q52:=q52.1; May.ret ⟨?_,trivial⟩; rotate_left 2
 refine May.chk ?_ fun c53=>May.clqe trivial fun x53 e53 q53=>have q53:=q53.1; May.ret ⟨?_,trivial⟩; rotate_left 2
 refine May.chk ?_ fun c54=>May.clqe trivial fun x54 e54 q54=>have q54:=q54.1; May.ret ⟨?_,trivial⟩; rotate_left 2
 refine May.chk ?_ fun c55=>May.clqe trivial fun x55 e55 q55=>have q55:=q55.1; May.ret ⟨?_,trivial⟩; rotate_left 2
 refine May.chk ?_ fun c56=>May.clqe trivial fun x56 e56 q56=>have q56:=q56.1; May.ret ⟨?_,trivial⟩
 all_goals try dsimp only
 all_goals first | with_reducible assumption | omega | (exact may_at q1 (ok_of' g1).1 h1 rfl; done) | (exact act_at q1 (ok_of h2).1.1 h1 rfl; done) | (exact do_t h2 h1 (fun _ _=>mayK1.symm) q3; done) | (exact do_f q1 h2 (fun _=>h1) (fun _ _=>mayK1.symm); done) | (exact ok_sm (ok_of h2).1.2.1; done) | (exact may_at q1 (ok_of' g1).1 h2 rfl; done) | (exact act_at q1 (ok_of h3).1.1 h2 rfl; done) | (exact do_t h3 h2 (fun h _=>q10.trans (mayK2 h).symm) q12; done) | (exact do_f q1 h3 (fun _=>h2) (fun h _=>q10.trans (mayK2 h).symm); done) | (exact ok_sm (ok_of h3).1.2.1; done) | (exact may_at q1 (ok_of' g1).1 h3 rfl; done) | (exact act_at q1 (ok_of h4).1.1 h3 rfl; done) | (exact do_t h4 h3 (fun _ _=>q18.trans mayK3.symm) q21; done) | (exact do_f q1 h4 (fun _=>h3) (fun _ _=>q18.trans mayK3.symm); done) | (exact ok_sm (ok_of h4).1.2.1; done) | (exact may_at q1 (ok_of' g1).1 h4 rfl; done) | (exact act_at q1 (ok_of h5).1.1 h4 rfl; done) | (exact do_t h5 h4 (fun _ _=>q26.trans mayK4.symm) q30; done) | (exact do_f q1 h5 (fun _=>h4) (fun _ _=>q26.trans mayK4.symm); done) | (exact ok_sm (ok_of h5).1.2.1; done) | (exact may_at q1 (ok_of' g1).1 h5 rfl; done) | (exact act_at q1 (ok_of h6).1.1 h5 rfl; done) | (exact do_t h6 h5 (fun _ _=>q34.trans mayK5.symm) q39; done) | (exact do_f q1 h6 (fun _=>h5) (fun _ _=>q34.trans mayK5.symm); done) | (exact ok_sm (ok_of h6).1.2.1; done) | (exact may_at q1 (ok_of' g1).1 h6 rfl; done) | (exact act_at q1 (ok_of h7).1.1 h6 rfl; done) | (exact do_t h7 h6 (fun _ _=>q42.trans mayK6.symm) q47; done) | (exact do_f q1 h7 (fun _=>h6) (fun _ _=>q42.trans mayK6.symm); done) | (exact ok_sm (ok_of h7).1.2.1; done) | (exact ⟨⟨live8 (ok_of' g1).2.1,live8 (ok_of' g1).2.2,trivial⟩,may_at q1 (ok_of' g1).1 (by have:=(q1.1 (ok_of' g1).1).1; omega) (j:=7) rfl⟩; done) | (exact act_at q1 (ok_of h7).1.1 (by have:=(q1.1 (ok_of h7).1.1).1; omega) (j:=7) rfl; done) | (exact do_t h7 (by have:=(q1.1 (ok_of h7).1.1).1; omega) (j:=7) (fun h h'=>(q50 ⟨live8 h,live8 h'⟩).trans mayK7.symm) q56; done) | (exact do_f q1 h7 (fun h=>by have:=(q1.1 h).1; omega) (j:=7) (fun h h'=>(q50 ⟨live8 h,live8 h'⟩).trans mayK7.symm); done) | (exact ok_sm (ok_of h7).1.2.1; done)
abbrev Zbe.S:=Classical.choose Zbe.X
def Zbe.c:Ctr:=fc0 165 [true,true,false] Zbe.L Zbe Zbe.S
theorem Zbe.good:Good Tryz.prog Zbe.c:=mkFG0 (fn:=Tryz.f165) {sp:=[(2,[[(33,0)],[(33,1)],[(33,2)],[(33,3)],[(33,4)],[(33,5)],[(33,6)]]),(5,[[(41,7)],[(41,8)],[(41,9)],[(41,10)],[(41,11)],[(41,12)]])],sh:=[[none,none,none,some (.pkt,46),some (.bool,4),some (.bool,4),some (.int,3)],[]]} Zbe.X (consG ZaR.good (consG ZaS.good (consG ZaT.good (consG ZaU.good (consG ZaV.good (consG ZaW.good (consG ZaX.good (consG Za8.good (consG Za9.good (consG Zba.good (consG Zbb.good (consG Zbc.good (consG Zbd.good (consG ZaZ.good (consG ZO.good (consG ZaP.good noG)))))))))))))))) (by kernel_rfl) (by kernel_rfl) (l0 (by kernel_rfl)) (c0 (by kernel_rfl)) (fun _=>trivial) fun s K=>by kernel_rfl
end
end Hw
end Go.Proofs.YtklmllaggigkfaaGreat
