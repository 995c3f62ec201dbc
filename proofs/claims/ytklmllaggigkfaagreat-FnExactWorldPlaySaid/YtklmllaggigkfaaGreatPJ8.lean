/- Coins, by the program: made by gen.py. -/
import Derived.Test.YtklmllaggigkfaaGreatPJ0
set_option linter.unusedVariables false
set_option linter.unusedSimpArgs false
set_option maxRecDepth 100000
set_option maxHeartbeats 400000
namespace Go.Proofs.YtklmllaggigkfaaGreat
namespace Hw
open Go
noncomputable section
attribute [local irreducible] evFn evBody wrap wxor
theorem mp_put {l:List Int} {j x:Int} (h:j = (l.length:Int) + 1):mpSet l j x = l ++ [x]:=by
 unfold mpSet
 rw [decide_eq_false (by omega)]
 rfl
theorem mp_set {l:List Int} {j x:Int} (h:j≤(l.length:Int)):mpSet l j x = l.set (j - 1).toNat x:=by
 unfold mpSet
 rw [decide_eq_true h]
 rfl
abbrev CoinQ (k:Int) (f:Option Nat) (b:Bool):Prop:=(b = true↔k = 1∨k = 2)∧(k = 1→f = some 153)∧(k = 2→f = some 154)
theorem mp_take {a b:List Int} {i x n:Int} (h0:0≤i) (h1:i < n) (hn:n = (b.length:Int)) (p:a = b.take i.toNat) (e:x = i + 1):mpSet a x (b.getD i.toNat 0) = b.take x.toNat:=by
 have hi:i.toNat < b.length:=by omega
 have hl:a.length = i.toNat:=by rw [p,List.length_take]; omega
 rw [mp_put (by omega),p,show x.toNat = i.toNat + 1 by omega,List.take_add_one,List.getD_eq_getElem?_getD,List.getElem?_eq_getElem hi]
 rfl
theorem mp_rng {a b:List Int} {i x n:Int} (h0:0≤i) (h1:i < n) (hn:n = (b.length:Int)) (p:a = b.take i.toNat) (e:x = i + 1):1≤x∧x≤(a.length:Int) + 1:=by
 have hl:a.length = i.toNat:=by rw [p,List.length_take]; omega
 omega
theorem mp_end {a b:List Int} {i n:Int} (h1:¬ i < n) (hn:n = (b.length:Int)) (p:a = b.take i.toNat):a = b:=by
 rw [p,List.take_of_length_le (by omega)]
theorem row_step {a b:List Int} {i x:Int} (h0:0≤i) (hb:b.length = 3) (hi:i < 3) (p:∀k:Nat,(k:Int) < i→b.getD k 0 = a.getD k 0) (e:x = i + 1):∀k:Nat,(k:Int) < x→(b.set i.toNat (a.getD (x - 1).toNat 0)).getD k 0 = a.getD k 0:=by
 intro k hk
 rw [List.getD_eq_getElem?_getD,List.getElem?_set]
 split
 ·rename_i h
  rw [if_pos (by omega),show (x - 1).toNat = k by omega]
  rfl
 ·rw [← List.getD_eq_getElem?_getD]
  exact p k (by omega)
theorem row_end {a b:List Int} {i:Int} (ha:a.length = 3) (hb:b.length = 3) (hi:¬ i < 3) (p:∀k:Nat,(k:Int) < i→b.getD k 0 = a.getD k 0):b = a:=by
 refine List.ext_getElem (by omega) fun k h1 h2=>?_
 have:=p k (by omega)
 simpa only [List.getD_eq_getElem?_getD,List.getElem?_eq_getElem h1,List.getElem?_eq_getElem h2,Option.getD_some] using this
theorem bk_of {b:Bk} {x y:List Int} (h1:x = b.own) (h2:y = b.notes):(⟨x,y,b.locked⟩:Bk) = b:=by
 rw [h1,h2]
theorem aw_user {f:Int}:Zx.S f = true↔1≤f∧f≤3:=by
 unfold Zx.S
 grind
theorem parts_at {l:List Int} (h:Parts l) {f:Int} (hf:1≤f∧f≤3):0≤l.getD (f - 1).toNat 0∧l.getD (f - 1).toNat 0≤30:=h.2 _ (by rw [h.1]; omega)
theorem bk_rng {b x:Bk} (e:x = b) (h:BkOk b) {f:Int} (hf:1≤f∧f≤3):x.own.length = 3∧x.notes.length = 3∧(0≤x.own.getD (f - 1).toNat 0∧x.own.getD (f - 1).toNat 0≤30)∧(0≤x.notes.getD (f - 1).toNat 0∧x.notes.getD (f - 1).toNat 0≤30)∧0≤x.locked∧x.locked≤30:=by
 subst e
 obtain ⟨h1,h2,h3,h4,h5⟩:=h
 have t:=h1.three
 refine ⟨h1.1,h2.1,parts_at h1 hf,parts_at h2 hf,h3,?_⟩
 unfold tot at h4
 omega
theorem put_len {l:List Int} {f v:Int} (hl:l.length = 3) (hf:1≤f∧f≤3):(mpSet l f v).length = 3:=by
 rw [mp_set (by omega),List.length_set,hl]
def Zb7.L:FL:=fCons (fAgg cLdg) (fNil)
def Zb7:Bk×Unit→FR (Unit):=fun (a0,())=>⟨True,fun X=>X (),fun r=>True,fun r=>(.v (.c (.mp 0)),[.mp a0.own,.mp a0.notes])⟩
theorem Zb7.X:XF Zb7:=mkF () fun (a0,()) hp=>by
 clear hp
 dsimp only [Zb7]
 refine May.ret trivial
 all_goals try dsimp only
 all_goals first | with_reducible assumption | omega | rfl | assumption | (simp only [List.length_append,List.length_cons,List.length_nil,List.length_set,List.length_replicate,Int.natCast_add,Int.natCast_one] at *; omega) | grind
abbrev Zb7.S:=Classical.choose Zb7.X
def Zb7.c:Ctr:=fc0 153 [false] Zb7.L Zb7 Zb7.S
theorem Zb7.good:Good Tryz.prog Zb7.c:=mkFG0 (fn:=Tryz.f153) {} Zb7.X noG (by kernel_rfl) (by kernel_rfl) (l0 (by kernel_rfl)) (c0 (by kernel_rfl)) (fun _=>trivial) fun s K=>by kernel_rfl
def Zb8.L:FL:=fCons (fAgg cLdg) (fNil)
def Zb8:Bk×Unit→FR (Unit):=fun (a0,())=>⟨True,fun X=>X (),fun r=>True,fun r=>(.v (.c (.mp 1)),[.mp a0.own,.mp a0.notes])⟩
theorem Zb8.X:XF Zb8:=mkF () fun (a0,()) hp=>by
 clear hp
 dsimp only [Zb8]
 refine May.ret trivial
 all_goals try dsimp only
 all_goals first | with_reducible assumption | omega | rfl | assumption | (simp only [List.length_append,List.length_cons,List.length_nil,List.length_set,List.length_replicate,Int.natCast_add,Int.natCast_one] at *; omega) | grind
abbrev Zb8.S:=Classical.choose Zb8.X
def Zb8.c:Ctr:=fc0 154 [false] Zb8.L Zb8 Zb8.S
theorem Zb8.good:Good Tryz.prog Zb8.c:=mkFG0 (fn:=Tryz.f154) {} Zb8.X noG (by kernel_rfl) (by kernel_rfl) (l0 (by kernel_rfl)) (c0 (by kernel_rfl)) (fun _=>trivial) fun s K=>by kernel_rfl
theorem Zb9.G:GG []:=noG
def Zca.L:FL:=fCons (fC cMap) (fCons (fC (cArr false kInts)) (fCons (fC cInt) (fCons (fC cInt) (fNil))))
def Zca:List Int×List Int×Int×Int×Unit→LR (List Int×List Int×Int×Int×Unit) (Nat×(List Int)×Unit):=fun (y0,y1,y2,y3,())=>⟨(0≤y3)∧(y2≤9223372036854775807)∧(y2 = (y1.length:Int))∧(y0 = y1.take y3.toNat)∧(y3≤(y1.length:Int))∧True,(y2 - y3).toNat,fun X=>And (Imp ((decide (y3 < y2)) = true) (And ((0:Int)≤y3∧y3 < (y1.length:Int)) (Lt (wrap (y3 + 1)) fun x1=>And ((1:Int)≤x1∧x1≤(y0.length:Int) + 1) (X (.inl (mpSet y0 x1 (y1.getD (y3).toNat 0),y1,y2,x1,())))))) (Imp ((decide (y3 < y2)) = false) (X (.inr (0,y0,())))),fun r=>(r.2.1 = y1)∧True,fun r=>[],fun r=>(.exit 0,[.c (.mp 0)],[.mp r.2.1])⟩
theorem Zca.X:XL Zca:=mkL (0,[],()) fun (y0,y1,y2,y3,()) hp=>by
 obtain ⟨p0,p1,p2,p3,p4,-⟩:=hp
 unfold ML; dsimp only [Zca]
 refine May.iff (B.dec) (fun h1=>?_) (fun h1=>?_)
 refine May.chk ?_ fun c1=>May.lw ⟨?_,?_⟩ fun x1 e1=>May.chk ?_ fun c2=>May.nx ⟨?_,?_,?_,?_,?_,trivial⟩ ?_ ?_ fun r=>rfl; rotate_left 11
 refine May.ex ⟨?_,trivial⟩
 all_goals try dsimp only [Zca]
 all_goals first | with_reducible assumption | omega | exact fun _ q=>q | (exact mp_end h1 p2 p3; done) | (exact mp_rng p0 h1 p2 p3 e1; done) | (exact mp_take p0 h1 p2 p3 e1; done)
abbrev Zca.R:=Classical.choose Zca.X
def Zca.k:LCtr:=(ld 3 [3,7,8,9] [] Zca.L Zca 0 (fun _=>[3]) (fun _=>[]) Zca.R).ctr
theorem Zca.g:LGood Tryz.prog Tryz.f156.ntmps Zca.k (bodyAt Tryz.f156 0):=mkLG {} Zca.X Zb9.G (by kernel_rfl) (l0 (by kernel_rfl)) (c0 (by kernel_rfl)) fun S s=>by kernel_rfl
def Zb9.L:FL:=fCons (fSh sInts) (fNil)
def Zb9:List Int×Unit→FR ((List Int)):=fun (a0,())=>⟨(a0.length≤1000)∧True,fun X=>CallL Zca.X ([],a0,(a0.length:Int),0,()) fun x2=>X x2.2.1,fun r=>(r = a0)∧True,fun r=>(.v (.c (.mp 0)),[.mp r])⟩
theorem Zb9.X:XF Zb9:=mkF ([]) fun (a0,()) hp=>by
 obtain ⟨p0,-⟩:=hp
 dsimp only [Zb9]
 refine May.loop ⟨?_,?_,?_,?_,?_,trivial⟩ fun x2 q2=>have q2:=q2.1; May.ret ⟨?_,trivial⟩
 all_goals try dsimp only
 all_goals first | with_reducible assumption | omega | (with_reducible rfl; done) | (exact rfl; done)
abbrev Zb9.S:=Classical.choose Zb9.X
def Zb9.c:Ctr:=fc 156 [true] Zb9.L Zb9 Zb9.S
theorem Zb9.good:Good Tryz.prog Zb9.c:=mkFG (fn:=Tryz.f156) {LL:=[Zca.k]} Zb9.X Zb9.G (by kernel_rfl) (by kernel_rfl) (lG (by kernel_rfl) (consL (by kernel_rfl) Zca.g (noL rfl))) (c0 (by kernel_rfl)) fun s K=>by kernel_rfl
theorem Zcb.G:GG []:=noG
def Zcc.L:FL:=fCons (fC cMap) (fCons (fC (cOwn kInts 3)) (fCons (fC cInt) (fCons (fC cInt) (fNil))))
def Zcc:List Int×List Int×Int×Int×Unit→LR (List Int×List Int×Int×Int×Unit) (Nat×(List Int)×Unit):=fun (y0,y1,y2,y3,())=>⟨(0≤y3)∧(y2≤9223372036854775807)∧(y0.length = 3)∧(y1.length = 3)∧(y2 = 3)∧(∀k:Nat,(k:Int) < y3→y1.getD k 0 = y0.getD k 0)∧True,(y2 - y3).toNat,fun X=>And (Imp ((decide (y3 < y2)) = true) (Lt (wrap (y3 + 1)) fun x1=>And ((1:Int)≤x1) (And ((0:Int)≤y3∧y3 < (y1.length:Int)) (And ((y3).toNat < y1.length) (X (.inl (y0,y1.set (y3).toNat (y0.getD (x1 - 1).toNat 0),y2,x1,()))))))) (Imp ((decide (y3 < y2)) = false) (X (.inr (0,y1,())))),fun r=>(r.2.1 = y0)∧True,fun r=>[],fun r=>(.exit 0,[.c (.own 0 1 3)],[.arr (.ints r.2.1)])⟩
theorem Zcc.X:XL Zcc:=mkL (0,[],()) fun (y0,y1,y2,y3,()) hp=>by
 obtain ⟨p0,p1,p2,p3,p4,p5,-⟩:=hp
 unfold ML; dsimp only [Zcc]
 refine May.iff (B.dec) (fun h1=>?_) (fun h1=>?_)
 refine May.lw ⟨?_,?_⟩ fun x1 e1=>May.chk ?_ fun c1=>May.chk ?_ fun c2=>May.chk ?_ fun c3=>May.nx ⟨?_,?_,?_,?_,?_,?_,trivial⟩ ?_ ?_ fun r=>rfl; rotate_left 13
 refine May.ex ⟨?_,trivial⟩
 all_goals try dsimp only [Zcc]
 all_goals first | with_reducible assumption | omega | exact fun _ q=>q | (exact row_end p2 p3 (by omega) p5; done) | (rw [List.length_set]; exact p3; done) | (exact row_step p0 p3 (by omega) p5 e1; done)
abbrev Zcc.R:=Classical.choose Zcc.X
def Zcc.k:LCtr:=(ld 3 [0,3,7,8] [] Zcc.L Zcc 0 (fun _=>[3]) (fun _=>[]) Zcc.R).ctr
theorem Zcc.g:LGood Tryz.prog Tryz.f157.ntmps Zcc.k (bodyAt Tryz.f157 0):=mkLG {} Zcc.X Zcb.G (by kernel_rfl) (l0 (by kernel_rfl)) (c0 (by kernel_rfl)) fun S s=>by kernel_rfl
def Zcb.L:FL:=fCons (fC cMap) (fNil)
def Zcb:List Int×Unit→FR ((List Int)):=fun (a0,())=>⟨(a0.length = 3)∧True,fun X=>And ((3:Int) = 3∧(0:Int)≤3∧(3:Int)≤4294967296) (CallL Zcc.X (a0,List.replicate 3 0,((List.replicate 3 0).length:Int),0,()) fun x2=>X x2.2.1),fun r=>(r = a0)∧True,fun r=>(.v (.c (.own 1 1 3)),[.dead,.arr (.ints r)])⟩
theorem Zcb.X:XF Zcb:=mkF ([]) fun (a0,()) hp=>by
 obtain ⟨p0,-⟩:=hp
 dsimp only [Zcb]
 refine May.chk ?_ fun c1=>May.loop ⟨?_,?_,?_,?_,?_,?_,trivial⟩ fun x2 q2=>have q2:=q2.1; May.ret ⟨?_,trivial⟩
 all_goals try dsimp only
 all_goals first | with_reducible assumption | omega | (exact rfl; done) | (exact (by decide:((List.replicate 3 (0:Int)).length:Int)≤9223372036854775807); done) | (intro k hk; omega; done)
abbrev Zcb.S:=Classical.choose Zcb.X
def Zcb.c:Ctr:=fc 157 [false] Zcb.L Zcb Zcb.S
theorem Zcb.good:Good Tryz.prog Zcb.c:=mkFG (fn:=Tryz.f157) {LL:=[Zcc.k],sh:=[[some (.int,3)]]} Zcb.X Zcb.G (by kernel_rfl) (by kernel_rfl) (lG (by kernel_rfl) (consL (by kernel_rfl) Zcc.g (noL rfl))) (c0 (by kernel_rfl)) fun s K=>by kernel_rfl
def Zcd.L:FL:=fCons (fSh sBk) (fNil)
def Zcd:Bk×Unit→FR (Bk):=fun (a0,())=>⟨(a0.own.length≤1000)∧(a0.notes.length≤1000)∧True,fun X=>Call Zb9.X (a0.own,()) fun x1=>Call Zb9.X (a0.notes,()) fun x2=>X (⟨x1,x2,a0.locked⟩:Bk),fun r=>(r = a0)∧True,fun r=>(.v (.agg [.mp 0,.mp 1,.int r.locked]),[.mp r.own,.mp r.notes])⟩
theorem Zcd.X:XF Zcd:=mkF (zBk) fun (a0,()) hp=>by
 obtain ⟨p0,p1,-⟩:=hp
 dsimp only [Zcd]
 refine May.call ⟨?_,trivial⟩ fun x1 q1=>have q1:=q1.1; May.call ⟨?_,trivial⟩ fun x2 q2=>have q2:=q2.1; May.ret ⟨?_,trivial⟩
 all_goals try dsimp only
 all_goals first | with_reducible assumption | omega | (exact bk_of q1 q2; done)
abbrev Zcd.S:=Classical.choose Zcd.X
def Zcd.c:Ctr:=fc 93 [true] Zcd.L Zcd Zcd.S
theorem Zcd.good:Good Tryz.prog Zcd.c:=mkFG (fn:=Tryz.f93) {} Zcd.X (consG Zb9.good noG) (by kernel_rfl) (by kernel_rfl) (l0 (by kernel_rfl)) (c0 (by kernel_rfl)) fun s K=>by kernel_rfl
def Zce.L:FL:=fCons (fAgg cLdg) (fNil)
def Zce:Bk×Unit→FR (Bk):=fun (a0,())=>⟨(a0.own.length = 3)∧(a0.notes.length = 3)∧True,fun X=>Call Zcb.X (a0.own,()) fun x1=>Call Zcb.X (a0.notes,()) fun x2=>X (⟨x1,x2,a0.locked⟩:Bk),fun r=>(r = a0)∧True,fun r=>(.v (.agg [.own 2 1 3,.own 3 1 3,.int r.locked]),[.dead,.dead,.arr (.ints r.own),.arr (.ints r.notes)])⟩
theorem Zce.X:XF Zce:=mkF (zBk) fun (a0,()) hp=>by
 obtain ⟨p0,p1,-⟩:=hp
 dsimp only [Zce]
 refine May.call ⟨?_,trivial⟩ fun x1 q1=>have q1:=q1.1; May.call ⟨?_,trivial⟩ fun x2 q2=>have q2:=q2.1; May.ret ⟨?_,trivial⟩
 all_goals try dsimp only
 all_goals first | with_reducible assumption | omega | (exact bk_of q1 q2; done)
abbrev Zce.S:=Classical.choose Zce.X
def Zce.c:Ctr:=fc 94 [false] Zce.L Zce Zce.S
theorem Zce.good:Good Tryz.prog Zce.c:=mkFG (fn:=Tryz.f94) {sh:=[[some (.int,3),some (.int,3),none]]} Zce.X (consG Zcb.good noG) (by kernel_rfl) (by kernel_rfl) (l0 (by kernel_rfl)) (c0 (by kernel_rfl)) fun s K=>by kernel_rfl
def Zcf.L:FL:=fCons (fSh sInt) (fNil)
def Zcf:Int×Unit→FR ((Option Nat)×Bool):=fun (a0,())=>⟨True,fun X=>And (Imp ((a0 == 1) = true) (X (some 153,true))) (Imp ((a0 == 1) = false) (And (Imp ((a0 == 2) = true) (X (some 154,true))) (Imp ((a0 == 2) = false) (X (none,false))))),fun r=>(CoinQ a0 r.1 r.2)∧True,fun r=>(.tup [.c (.fnv r.1),.c (.bool r.2)],[])⟩
theorem Zcf.X:XF Zcf:=mkF (none,false) fun (a0,()) hp=>by
 clear hp
 dsimp only [Zcf]
 refine May.iff (B.eq) (fun h1=>?_) (fun h1=>?_)
 refine May.ret ⟨?_,trivial⟩; rotate_left 1
 refine May.iff (B.eq) (fun h2=>?_) (fun h2=>?_)
 refine May.ret ⟨?_,trivial⟩; rotate_left 1
 refine May.ret ⟨?_,trivial⟩
 all_goals try dsimp only
 all_goals first | with_reducible assumption | omega | (exact ⟨⟨fun g=>(by cases g),fun g=>(by omega)⟩,fun g=>(by omega),fun g=>(by omega)⟩; done) | (exact ⟨⟨fun _=>.inl h1,fun _=>rfl⟩,fun _=>rfl,fun g=>(by omega)⟩; done) | (exact ⟨⟨fun _=>.inr h2,fun _=>rfl⟩,fun g=>(by omega),fun _=>rfl⟩; done)
abbrev Zcf.S:=Classical.choose Zcf.X
def Zcf.c:Ctr:=fc0 90 [false] Zcf.L Zcf Zcf.S
theorem Zcf.good:Good Tryz.prog Zcf.c:=mkFG0 (fn:=Tryz.f90) {} Zcf.X noG (by kernel_rfl) (by kernel_rfl) (l0 (by kernel_rfl)) (c0 (by kernel_rfl)) (fun _=>trivial) fun s K=>by kernel_rfl
def MayAway (b:Bk) (k f s:Int):Prop:=BkOk b∧(k = 1∨k = 2)∧(1≤f∧f≤3)∧0≤s∧s≤(lstK b k).getD (f - 1).toNat 0
def awayB (b:Bk) (k f s:Int):Bk:=if k = 1 then ⟨b.own.set (f - 1).toNat (b.own.getD (f - 1).toNat 0 - s),b.notes,b.locked + s⟩ else ⟨b.own,b.notes.set (f - 1).toNat (b.notes.getD (f - 1).toNat 0 - s),b.locked⟩
abbrev AwayQ (b:Bk) (k f s:Int) (r:Bk) (t:Bool):Prop:=(t = true↔MayAway b k f s)∧(t = true→r = awayB b k f s)∧(¬ t = true→r = zBk)
theorem aw_ok {k f s:Int} {b:Bk} {x:Option Nat×Bool} (q:CoinQ k x.1 x.2) (h:¬(((¬x.2 = true∨¬Zx.S f = true)∨s < 0)∨¬ZF.S b = true)):((k = 1∨k = 2)∧(1≤f∧f≤3)∧0≤s)∧BkOk b:=by
 have h1:x.2 = true:=Classical.byContradiction fun g=>h (.inl (.inl (.inl g)))
 have h2:Zx.S f = true:=Classical.byContradiction fun g=>h (.inl (.inl (.inr g)))
 have h3:¬ s < 0:=fun g=>h (.inl (.inr g))
 have h4:ZF.S b = true:=Classical.byContradiction fun g=>h (.inr g)
 exact ⟨⟨q.1.1 h1,aw_user.1 h2,by omega⟩,implBk.1 h4⟩
theorem aw_t1 {k f s v u:Int} {b x y:Bk} (h:((k = 1∨k = 2)∧(1≤f∧f≤3)∧0≤s)∧BkOk b) (e:x = b) (hk:k = 1) (hs:¬ x.own.getD (f - 1).toNat 0 < s) (ev:v = x.own.getD (f - 1).toNat 0 - s) (eu:u = x.locked + s) (ey:y = ⟨mpSet x.own f v,x.notes,u⟩):AwayQ b k f s y true:=by
 subst e
 have hl:=h.2.1.1
 refine ⟨⟨fun _=>⟨h.2,h.1.1,h.1.2.1,h.1.2.2,?_⟩,fun _=>rfl⟩,fun _=>?_,fun g=>absurd rfl g⟩
 ·unfold lstK
  rw [if_pos hk]
  omega
 ·rw [ey,ev,eu,mp_set (by omega)]
  unfold awayB
  rw [if_pos hk]
theorem aw_t2 {k f s v:Int} {b x y:Bk} (h:((k = 1∨k = 2)∧(1≤f∧f≤3)∧0≤s)∧BkOk b) (e:x = b) (hk:¬ k = 1) (hs:¬ x.notes.getD (f - 1).toNat 0 < s) (ev:v = x.notes.getD (f - 1).toNat 0 - s) (ey:y = ⟨x.own,mpSet x.notes f v,x.locked⟩):AwayQ b k f s y true:=by
 subst e
 have hl:=h.2.2.1.1
 refine ⟨⟨fun _=>⟨h.2,h.1.1,h.1.2.1,h.1.2.2,?_⟩,fun _=>rfl⟩,fun _=>?_,fun g=>absurd rfl g⟩
 ·unfold lstK
  rw [if_neg hk]
  omega
 ·rw [ey,ev,mp_set (by omega)]
  unfold awayB
  rw [if_neg hk]
theorem awQ_f {k f s:Int} {b:Bk} (h:¬ MayAway b k f s):AwayQ b k f s zBk false:=⟨⟨fun g=>(by cases g),fun g=>absurd g h⟩,fun g=>(by cases g),fun _=>rfl⟩
theorem aw_f1 {k f s:Int} {b x:Bk} (e:x = b) (hk:k = 1) (hs:x.own.getD (f - 1).toNat 0 < s):¬ MayAway b k f s:=by
 subst e
 intro h
 have:=h.2.2.2.2
 unfold lstK at this
 rw [if_pos hk] at this
 omega
theorem aw_f2 {k f s:Int} {b x:Bk} (e:x = b) (hk:¬ k = 1) (hs:x.notes.getD (f - 1).toNat 0 < s):¬ MayAway b k f s:=by
 subst e
 intro h
 have:=h.2.2.2.2
 unfold lstK at this
 rw [if_neg hk] at this
 omega
theorem aw_f0 {k f s:Int} {b:Bk} {x:Option Nat×Bool} (q:CoinQ k x.1 x.2) (h:((¬x.2 = true∨¬Zx.S f = true)∨s < 0)∨¬ZF.S b = true):¬ MayAway b k f s:=by
 intro m
 rcases h with ((h | h) | h) | h
 ·exact h (q.1.2 m.2.1)
 ·exact h (aw_user.2 m.2.2.1)
 ·have:=m.2.2.2.1
  omega
 ·exact h (implBk.2 m.1)
def Zcg.L:FL:=fCons (fSh sBk) (fCons (fSh sInt) (fCons (fSh sInt) (fCons (fSh sInt) (fNil))))
def Zcg:Bk×Int×Int×Int×Unit→FR (Bk×Bool):=fun (a0,a1,a2,a3,())=>⟨True,fun X=>Call0 Zcf.X (a1,()) fun x1=>Lt (bif bif !x1.2 then true else !(Zx.S a2) then true else decide (a3 < 0)) fun x2=>And (Imp ((bif x2 then true else !(ZF.S a0)) = true) (X ((⟨[],[],0⟩:Bk),false))) (Imp ((bif x2 then true else !(ZF.S a0)) = false) (Call Zcd.X (a0,()) fun x3=>Or (And (x1.1 = some 153) (And ((1:Int)≤a2) (And (Imp ((decide ((x3.own.getD (a2 - 1).toNat 0) < a3)) = true) (X ((⟨[],[],0⟩:Bk),false))) (Imp ((decide ((x3.own.getD (a2 - 1).toNat 0) < a3)) = false) (And ((1:Int)≤a2) (Lt (wrap ((x3.own.getD (a2 - 1).toNat 0) - a3)) fun x4=>And ((1:Int)≤a2∧a2≤(x3.own.length:Int) + 1) (And (Imp ((a1 == 1) = true) (Lt (wrap (x3.locked + a3)) fun x5=>Call Zce.X ((⟨mpSet x3.own a2 x4,x3.notes,x5⟩:Bk),()) fun x6=>X (x6,true))) (Imp ((a1 == 1) = false) (Call Zce.X ((⟨mpSet x3.own a2 x4,x3.notes,x3.locked⟩:Bk),()) fun x7=>X (x7,true)))))))))) (And (x1.1 = some 154) (And ((1:Int)≤a2) (And (Imp ((decide ((x3.notes.getD (a2 - 1).toNat 0) < a3)) = true) (X ((⟨[],[],0⟩:Bk),false))) (Imp ((decide ((x3.notes.getD (a2 - 1).toNat 0) < a3)) = false) (And ((1:Int)≤a2) (Lt (wrap ((x3.notes.getD (a2 - 1).toNat 0) - a3)) fun x8=>And ((1:Int)≤a2∧a2≤(x3.notes.length:Int) + 1) (And (Imp ((a1 == 1) = true) (Lt (wrap (x3.locked + a3)) fun x9=>Call Zce.X ((⟨x3.own,mpSet x3.notes a2 x8,x9⟩:Bk),()) fun x10=>X (x10,true))) (Imp ((a1 == 1) = false) (Call Zce.X ((⟨x3.own,mpSet x3.notes a2 x8,x3.locked⟩:Bk),()) fun x11=>X (x11,true)))))))))))),fun r=>(AwayQ a0 a1 a2 a3 r.1 r.2)∧True,fun r=>(.tup [.agg [.own 0 1 3,.own 1 1 3,.int r.1.locked],.c (.bool r.2)],[.arr (.ints r.1.own),.arr (.ints r.1.notes)])⟩
theorem Zcg.X:XF Zcg:=mkF (zBk,false) fun (a0,a1,a2,a3,()) hp=>by
 clear hp
 dsimp only [Zcg]
 refine May.call0 trivial fun x1 q1=>have q1:=q1.1; May.lp (B.or (B.or (B.not (Iff.rfl)) (B.not (Iff.rfl))) (B.dec)) fun x2 e2=>May.iff (B.or (e2) (B.not (Iff.rfl))) (fun h1=>?_) (fun h1=>?_)
 refine May.ret ⟨?_,trivial⟩; rotate_left 1
 refine May.call ⟨?_,?_,trivial⟩ fun x3 q3=>have q3:=q3.1; May.alt (c:=a1 == 1) (B.eq) (fun h2=>?_) (fun h2=>?_); rotate_left 2
 refine May.chk ?_ fun c1=>May.chk ?_ fun c2=>May.iff (B.dec) (fun h3=>?_) (fun h3=>?_); rotate_left 2
 refine May.ret ⟨?_,trivial⟩; rotate_left 1
 refine May.chk ?_ fun c3=>May.lw ⟨?_,?_⟩ fun x4 e4=>May.chk ?_ fun c4=>May.iff (B.eq) (fun h4=>?_) (fun h4=>?_); rotate_left 4
 refine May.lw ⟨?_,?_⟩ fun x5 e5=>May.call ⟨?_,?_,trivial⟩ fun x6 q6=>have q6:=q6.1; May.ret ⟨?_,trivial⟩; rotate_left 5
 refine May.no ?_; rotate_left 1
 refine May.chk ?_ fun c5=>May.chk ?_ fun c6=>May.iff (B.dec) (fun h3=>?_) (fun h3=>?_); rotate_left 2
 refine May.ret ⟨?_,trivial⟩; rotate_left 1
 refine May.chk ?_ fun c7=>May.lw ⟨?_,?_⟩ fun x8 e8=>May.chk ?_ fun c8=>May.iff (B.eq) (fun h4=>?_) (fun h4=>?_); rotate_left 4
 refine May.no ?_; rotate_left 1
 refine May.call ⟨?_,?_,trivial⟩ fun x11 q11=>have q11:=q11.1; May.ret ⟨?_,trivial⟩
 all_goals try dsimp only
 all_goals first | with_reducible assumption | omega | (have:=bk_rng q3 (aw_ok q1 h1).2 (aw_ok q1 h1).1.2.1; have:=(aw_ok q1 h1).1; omega; done) | (have:=bk_rng rfl (aw_ok q1 h1).2 (aw_ok q1 h1).1.2.1; omega; done) | (exact put_len (bk_rng q3 (aw_ok q1 h1).2 (aw_ok q1 h1).1.2.1).1 (aw_ok q1 h1).1.2.1; done) | (exact put_len (bk_rng q3 (aw_ok q1 h1).2 (aw_ok q1 h1).1.2.1).2.1 (aw_ok q1 h1).1.2.1; done) | (exact aw_t2 (aw_ok q1 h1) q3 h2 h3 e8 q11; done) | (exact awQ_f (aw_f0 q1 h1); done) | (exact q1.2.1 h2; done) | (exact q1.2.2 (by have:=(aw_ok q1 h1).1; omega); done) | (exact awQ_f (aw_f1 q3 h2 h3); done) | (exact awQ_f (aw_f2 q3 h2 h3); done) | (exact aw_t1 (aw_ok q1 h1) q3 h2 h3 e4 e5 q6; done)
abbrev Zcg.S:=Classical.choose Zcg.X
def Zcg.c:Ctr:=fc0 89 [true,false,false,false] Zcg.L Zcg Zcg.S
theorem Zcg.good:Good Tryz.prog Zcg.c:=mkFG0 (fn:=Tryz.f89) {sp:=[(5,[[(40,0)],[(40,1)]])],sh:=[[some (.int,3),some (.int,3),none],[]]} Zcg.X (consG Zb7.good (consG Zb8.good (consG Zcf.good (consG Zx.good (consG ZF.good (consG Zcd.good (consG Zce.good noG))))))) (by kernel_rfl) (by kernel_rfl) (l0 (by kernel_rfl)) (c0 (by kernel_rfl)) (fun _=>trivial) fun s K=>by kernel_rfl
def MayBack (b:Bk) (k f s:Int):Prop:=BkOk b∧(k = 1∨k = 2)∧(1≤f∧f≤3)∧(0≤s∧s≤30)∧(k = 1→s≤b.locked)∧(k = 2→tot b.notes + s≤30)
def backB (b:Bk) (k f s:Int):Bk:=if k = 1 then ⟨b.own.set (f - 1).toNat (b.own.getD (f - 1).toNat 0 + s),b.notes,b.locked - s⟩ else ⟨b.own,b.notes.set (f - 1).toNat (b.notes.getD (f - 1).toNat 0 + s),b.locked⟩
abbrev BackQ (b:Bk) (k f s:Int) (r:Bk) (t:Bool):Prop:=(t = true↔MayBack b k f s)∧(t = true→r = backB b k f s)∧(¬ t = true→r = zBk)
theorem bb_ok {k f s:Int} {b:Bk} {x:Option Nat×Bool} (q:CoinQ k x.1 x.2) (h:¬((((¬x.2 = true∨¬Zx.S f = true)∨s < 0)∨s > 30)∨¬ZF.S b = true)):((k = 1∨k = 2)∧(1≤f∧f≤3)∧0≤s∧s≤30)∧BkOk b:=by
 have h1:x.2 = true:=Classical.byContradiction fun g=>h (.inl (.inl (.inl (.inl g))))
 have h2:Zx.S f = true:=Classical.byContradiction fun g=>h (.inl (.inl (.inl (.inr g))))
 have h3:¬ s < 0:=fun g=>h (.inl (.inl (.inr g)))
 have h5:¬ s > 30:=fun g=>h (.inl (.inr g))
 have h4:ZF.S b = true:=Classical.byContradiction fun g=>h (.inr g)
 exact ⟨⟨q.1.1 h1,aw_user.1 h2,by omega,by omega⟩,implBk.1 h4⟩
theorem bkQ_f {k f s:Int} {b:Bk} (h:¬ MayBack b k f s):BackQ b k f s zBk false:=⟨⟨fun g=>(by cases g),fun g=>absurd g h⟩,fun g=>(by cases g),fun _=>rfl⟩
theorem bb_f0 {k f s:Int} {b:Bk} {x:Option Nat×Bool} (q:CoinQ k x.1 x.2) (h:(((¬x.2 = true∨¬Zx.S f = true)∨s < 0)∨s > 30)∨¬ZF.S b = true):¬ MayBack b k f s:=by
 intro m
 obtain ⟨m1,m2,m3,m4,m5,m6⟩:=m
 rcases h with (((h | h) | h) | h) | h
 ·exact h (q.1.2 m2)
 ·exact h (aw_user.2 m3)
 ·omega
 ·omega
 ·exact h (implBk.2 m1)
theorem bb_f1 {k f s:Int} {b x:Bk} (e:x = b) (hk:k = 1) (hs:x.locked < s):¬ MayBack b k f s:=by
 subst e
 intro h
 have:=h.2.2.2.2.1 hk
 omega
theorem bb_tot {b:Bk} (h:BkOk b):(ZE.S b.notes).1 = tot b.notes∧0≤tot b.notes∧tot b.notes≤30:=by
 refine ⟨implTotal.2 h.2.1,?_,h.2.2.2.2⟩
 have:=h.2.1.three
 unfold tot
 omega
theorem bb_f2 {k f s n:Int} {b:Bk} (h:BkOk b) (hk:¬ k = 1) (en:n = (ZE.S b.notes).1 + s) (hs:n > 30):¬ MayBack b k f s:=by
 intro m
 have:=m.2.2.2.2.2 (by have:=m.2.1; omega)
 have:=(bb_tot h).1
 omega
theorem bb_t1 {k f s v u:Int} {b x y:Bk} (h:((k = 1∨k = 2)∧(1≤f∧f≤3)∧0≤s∧s≤30)∧BkOk b) (e:x = b) (hk:k = 1) (hs:¬ x.locked < s) (eu:u = x.locked - s) (ev:v = x.own.getD (f - 1).toNat 0 + s) (ey:y = ⟨mpSet x.own f v,x.notes,u⟩):BackQ b k f s y true:=by
 subst e
 have hl:=h.2.1.1
 refine ⟨⟨fun _=>⟨h.2,h.1.1,h.1.2.1,h.1.2.2,fun _=>(by omega),fun _=>(by omega)⟩,fun _=>rfl⟩,fun _=>?_,fun g=>absurd rfl g⟩
 rw [ey,ev,eu,mp_set (by omega)]
 unfold backB
 rw [if_pos hk]
theorem bb_t2 {k f s v n:Int} {b x y:Bk} (h:((k = 1∨k = 2)∧(1≤f∧f≤3)∧0≤s∧s≤30)∧BkOk b) (e:x = b) (hk:¬ k = 1) (en:n = (ZE.S b.notes).1 + s) (hs:¬ n > 30) (ev:v = x.notes.getD (f - 1).toNat 0 + s) (ey:y = ⟨x.own,mpSet x.notes f v,x.locked⟩):BackQ b k f s y true:=by
 subst e
 have hl:=h.2.2.1.1
 have ht:=(bb_tot h.2).1
 refine ⟨⟨fun _=>⟨h.2,h.1.1,h.1.2.1,h.1.2.2,fun _=>(by omega),fun _=>(by omega)⟩,fun _=>rfl⟩,fun _=>?_,fun g=>absurd rfl g⟩
 rw [ey,ev,mp_set (by omega)]
 unfold backB
 rw [if_neg hk]
def Zch.L:FL:=fCons (fSh sBk) (fCons (fSh sInt) (fCons (fSh sInt) (fCons (fSh sInt) (fNil))))
def Zch:Bk×Int×Int×Int×Unit→FR (Bk×Bool):=fun (a0,a1,a2,a3,())=>⟨True,fun X=>Call0 Zcf.X (a1,()) fun x1=>Lt (bif bif !x1.2 then true else !(Zx.S a2) then true else decide (a3 < 0)) fun x2=>Lt (bif bif x2 then true else decide (a3 > 30) then true else !(ZF.S a0)) fun x3=>And (Imp (x3 = true) (X ((⟨[],[],0⟩:Bk),false))) (Imp (x3 = false) (Call Zcd.X (a0,()) fun x4=>And (Imp ((a1 == 1) = true) (And (Imp ((decide (x4.locked < a3)) = true) (X ((⟨[],[],0⟩:Bk),false))) (Imp ((decide (x4.locked < a3)) = false) (Lt (wrap (x4.locked - a3)) fun x5=>Or (And (x1.1 = some 153) (And ((1:Int)≤a2) (Lt (wrap (((⟨x4.own,x4.notes,x5⟩:Bk).own.getD (a2 - 1).toNat 0) + a3)) fun x6=>And ((1:Int)≤a2∧a2≤((⟨x4.own,x4.notes,x5⟩:Bk).own.length:Int) + 1) (Call Zce.X ((⟨mpSet (⟨x4.own,x4.notes,x5⟩:Bk).own a2 x6,(⟨x4.own,x4.notes,x5⟩:Bk).notes,x5⟩:Bk),()) fun x7=>X (x7,true))))) (And (x1.1 = some 154) (And ((1:Int)≤a2) (Lt (wrap (((⟨x4.own,x4.notes,x5⟩:Bk).notes.getD (a2 - 1).toNat 0) + a3)) fun x8=>And ((1:Int)≤a2∧a2≤((⟨x4.own,x4.notes,x5⟩:Bk).notes.length:Int) + 1) (Call Zce.X ((⟨(⟨x4.own,x4.notes,x5⟩:Bk).own,mpSet (⟨x4.own,x4.notes,x5⟩:Bk).notes a2 x8,x5⟩:Bk),()) fun x9=>X (x9,true))))))))) (Imp ((a1 == 1) = false) (Lt (wrap ((ZE.S a0.notes).1 + a3)) fun x10=>And (Imp ((decide (x10 > 30)) = true) (X ((⟨[],[],0⟩:Bk),false))) (Imp ((decide (x10 > 30)) = false) (Or (And (x1.1 = some 153) (And ((1:Int)≤a2) (Lt (wrap ((x4.own.getD (a2 - 1).toNat 0) + a3)) fun x11=>And ((1:Int)≤a2∧a2≤(x4.own.length:Int) + 1) (Call Zce.X ((⟨mpSet x4.own a2 x11,x4.notes,x4.locked⟩:Bk),()) fun x12=>X (x12,true))))) (And (x1.1 = some 154) (And ((1:Int)≤a2) (Lt (wrap ((x4.notes.getD (a2 - 1).toNat 0) + a3)) fun x13=>And ((1:Int)≤a2∧a2≤(x4.notes.length:Int) + 1) (Call Zce.X ((⟨x4.own,mpSet x4.notes a2 x13,x4.locked⟩:Bk),()) fun x14=>X (x14,true))))))))))),fun r=>(BackQ a0 a1 a2 a3 r.1 r.2)∧True,fun r=>(.tup [.agg [.own 0 1 3,.own 1 1 3,.int r.1.locked],.c (.bool r.2)],[.arr (.ints r.1.own),.arr (.ints r.1.notes)])⟩
theorem Zch.X:XF Zch:=mkF (zBk,false) fun (a0,a1,a2,a3,()) hp=>by
 clear hp
 dsimp only [Zch]
 refine May.call0 trivial fun x1 q1=>have q1:=q1.1; May.lp (B.or (B.or (B.not (Iff.rfl)) (B.not (Iff.rfl))) (B.dec)) fun x2 e2=>May.lp (B.or (B.or (e2) (B.dec)) (B.not (Iff.rfl))) fun x3 e3=>May.iff (e3) (fun h1=>?_) (fun h1=>?_)
 refine May.ret ⟨?_,trivial⟩; rotate_left 1
 refine May.call ⟨?_,?_,trivial⟩ fun x4 q4=>have q4:=q4.1; May.iff (B.eq) (fun h2=>?_) (fun h2=>?_); rotate_left 2
 refine May.iff (B.dec) (fun h3=>?_) (fun h3=>?_)
 refine May.ret ⟨?_,trivial⟩; rotate_left 1
 refine May.lw ⟨?_,?_⟩ fun x5 e5=>May.alt (c:=a1 == 1) (B.eq) (fun h4=>?_) (fun h4=>?_); rotate_left 2
 refine May.chk ?_ fun c1=>May.chk ?_ fun c2=>May.lw ⟨?_,?_⟩ fun x6 e6=>May.chk ?_ fun c3=>May.call ⟨?_,?_,trivial⟩ fun x7 q7=>have q7:=q7.1; May.ret ⟨?_,trivial⟩; rotate_left 8
 refine May.chk ?_ fun c4=>May.chk ?_ fun c5=>May.lw ⟨?_,?_⟩ fun x8 e8=>May.chk ?_ fun c6=>May.call ⟨?_,?_,trivial⟩ fun x9 q9=>have q9:=q9.1; May.ret ⟨?_,trivial⟩; rotate_left 8
 refine May.lw ⟨?_,?_⟩ fun x10 e10=>May.iff (B.dec) (fun h3=>?_) (fun h3=>?_); rotate_left 2
 refine May.ret ⟨?_,trivial⟩; rotate_left 1
 refine May.alt (c:=a1 == 1) (B.eq) (fun h4=>?_) (fun h4=>?_)
 refine May.chk ?_ fun c7=>May.chk ?_ fun c8=>May.lw ⟨?_,?_⟩ fun x11 e11=>May.chk ?_ fun c9=>May.call ⟨?_,?_,trivial⟩ fun x12 q12=>have q12:=q12.1; May.ret ⟨?_,trivial⟩; rotate_left 8
 refine May.chk ?_ fun c10=>May.chk ?_ fun c11=>May.lw ⟨?_,?_⟩ fun x13 e13=>May.chk ?_ fun c12=>May.call ⟨?_,?_,trivial⟩ fun x14 q14=>have q14:=q14.1; May.ret ⟨?_,trivial⟩
 all_goals try dsimp only
 all_goals first | with_reducible assumption | omega | (have:=bk_rng q4 (bb_ok q1 h1).2 (bb_ok q1 h1).1.2.1; have:=(bb_ok q1 h1).1; omega; done) | (have:=bk_rng rfl (bb_ok q1 h1).2 (bb_ok q1 h1).1.2.1; omega; done) | (have:=bb_tot (bb_ok q1 h1).2; have:=(bb_ok q1 h1).1; omega; done) | (exact put_len (bk_rng q4 (bb_ok q1 h1).2 (bb_ok q1 h1).1.2.1).1 (bb_ok q1 h1).1.2.1; done) | (exact put_len (bk_rng q4 (bb_ok q1 h1).2 (bb_ok q1 h1).1.2.1).2.1 (bb_ok q1 h1).1.2.1; done) | (exact bb_t2 (bb_ok q1 h1) q4 h2 e10 h3 e13 q14; done) | (exact bkQ_f (bb_f0 q1 h1); done) | (exact q1.2.1 h2; done) | (exact q1.2.2 (by have:=(bb_ok q1 h1).1; omega); done) | (exact bkQ_f (bb_f1 q4 h2 h3); done) | (exact bkQ_f (bb_f2 (bb_ok q1 h1).2 h2 e10 h3); done) | (exact bb_t1 (bb_ok q1 h1) q4 h2 h3 e5 e6 q7; done)
abbrev Zch.S:=Classical.choose Zch.X
def Zch.c:Ctr:=fc0 160 [true,false,false,false] Zch.L Zch Zch.S
theorem Zch.good:Good Tryz.prog Zch.c:=mkFG0 (fn:=Tryz.f160) {sp:=[(12,[[(68,0)],[(68,1)]])],sh:=[[some (.int,3),some (.int,3),none],[]]} Zch.X (consG Zb7.good (consG Zb8.good (consG Zcf.good (consG Zx.good (consG ZF.good (consG Zcd.good (consG ZE.good (consG Zce.good noG)))))))) (by kernel_rfl) (by kernel_rfl) (l0 (by kernel_rfl)) (c0 (by kernel_rfl)) (fun _=>trivial) fun s K=>by kernel_rfl
end
end Hw
end Go.Proofs.YtklmllaggigkfaaGreat
set_option linter.unusedVariables false
set_option linter.unusedSimpArgs false
set_option maxRecDepth 100000
set_option maxHeartbeats 400000
namespace Go.Proofs.YtklmllaggigkfaaGreat
namespace Hw
open Go
noncomputable section
attribute [local irreducible] evFn evBody wrap wxor
abbrev MvOk (b:Bk) (k f t s:Int):Prop:=((k = 1∨k = 2)∧(1≤f∧f≤3)∧(1≤t∧t≤3)∧0≤s)∧BkOk b
theorem mv_ok {k f t s:Int} {b:Bk} {x:Option Nat×Bool} (q:CoinQ k x.1 x.2) (h:¬((((¬x.2 = true∨¬Zx.S f = true)∨¬Zx.S t = true)∨s < 0)∨¬ZF.S b = true)):MvOk b k f t s:=by
 have h1:x.2 = true:=Classical.byContradiction fun g=>h (.inl (.inl (.inl (.inl g))))
 have h2:Zx.S f = true:=Classical.byContradiction fun g=>h (.inl (.inl (.inl (.inr g))))
 have h5:Zx.S t = true:=Classical.byContradiction fun g=>h (.inl (.inl (.inr g)))
 have h3:¬ s < 0:=fun g=>h (.inl (.inr g))
 have h4:ZF.S b = true:=Classical.byContradiction fun g=>h (.inr g)
 exact ⟨⟨q.1.1 h1,aw_user.1 h2,aw_user.1 h5,by omega⟩,implBk.1 h4⟩
theorem mv_f0 {k f t s:Int} {b:Bk} {x:Option Nat×Bool} (q:CoinQ k x.1 x.2) (h:(((¬x.2 = true∨¬Zx.S f = true)∨¬Zx.S t = true)∨s < 0)∨¬ZF.S b = true):¬ MayMove b k f t s:=by
 intro m
 rcases h with (((h | h) | h) | h) | h
 ·exact h (q.1.2 m.2.1)
 ·exact h (aw_user.2 m.2.2.1)
 ·exact h (aw_user.2 m.2.2.2.1)
 ·have:=m.2.2.2.2.1
  omega
 ·exact h (implBk.2 m.1)
theorem mvQ_f {k f t s:Int} {b:Bk} (h:¬ MayMove b k f t s):MoveQ b k f t s zBk false:=⟨⟨fun g=>(by cases g),fun g=>absurd g h⟩,fun g=>(by cases g),fun _=>rfl⟩
theorem mv_f1 {k f t s:Int} {b x:Bk} (e:x = b) (hk:k = 1) (hs:x.own.getD (f - 1).toNat 0 < s):¬ MayMove b k f t s:=by
 subst e
 intro h
 have:=h.2.2.2.2.2
 unfold lstK at this
 rw [if_pos hk] at this
 omega
theorem mv_f2 {k f t s:Int} {b x:Bk} (e:x = b) (hk:¬ k = 1) (hs:x.notes.getD (f - 1).toNat 0 < s):¬ MayMove b k f t s:=by
 subst e
 intro h
 have:=h.2.2.2.2.2
 unfold lstK at this
 rw [if_neg hk] at this
 omega
theorem mv_rng {l:List Int} {f t s v:Int} (h:Parts l) (hf:1≤f∧f≤3) (ht:1≤t∧t≤3) (hs:0≤s) (h1:¬ l.getD (f - 1).toNat 0 < s) (ev:v = l.getD (f - 1).toNat 0 - s):0≤(mpSet l f v).getD (t - 1).toNat 0∧(mpSet l f v).getD (t - 1).toNat 0≤30∧s≤30:=by
 have a:=parts_at h hf
 have b:=parts_at h ht
 have hl:=h.1
 rw [mp_set (by omega),List.getD_eq_getElem?_getD,List.getElem?_set]
 split
 ·rw [if_pos (by omega)]
  simp only [Option.getD_some]
  omega
 ·rw [← List.getD_eq_getElem?_getD]
  omega
theorem mv_t1 {k f t s v u:Int} {b x y:Bk} (h:MvOk b k f t s) (e:x = b) (hk:k = 1) (hs:¬ x.own.getD (f - 1).toNat 0 < s) (ev:v = x.own.getD (f - 1).toNat 0 - s) (eu:u = (mpSet x.own f v).getD (t - 1).toNat 0 + s) (ey:y = ⟨mpSet (mpSet x.own f v) t u,x.notes,x.locked⟩):MoveQ b k f t s y true:=by
 subst e
 have hl:=h.2.1.1
 have hl2:=put_len (v:=v) hl h.1.2.1
 refine ⟨⟨fun _=>⟨h.2,h.1.1,h.1.2.1,h.1.2.2.1,h.1.2.2.2,?_⟩,fun _=>rfl⟩,fun _=>?_,fun g=>absurd rfl g⟩
 ·unfold lstK
  rw [if_pos hk]
  omega
 ·rw [ey,eu,mp_set (l:=mpSet x.own f v) (by omega),mp_set (by omega),ev]
  unfold moveB movL
  rw [if_pos hk]
theorem mv_t2 {k f t s v u:Int} {b x y:Bk} (h:MvOk b k f t s) (e:x = b) (hk:¬ k = 1) (hs:¬ x.notes.getD (f - 1).toNat 0 < s) (ev:v = x.notes.getD (f - 1).toNat 0 - s) (eu:u = (mpSet x.notes f v).getD (t - 1).toNat 0 + s) (ey:y = ⟨x.own,mpSet (mpSet x.notes f v) t u,x.locked⟩):MoveQ b k f t s y true:=by
 subst e
 have hl:=h.2.2.1.1
 have hl2:=put_len (v:=v) hl h.1.2.1
 refine ⟨⟨fun _=>⟨h.2,h.1.1,h.1.2.1,h.1.2.2.1,h.1.2.2.2,?_⟩,fun _=>rfl⟩,fun _=>?_,fun g=>absurd rfl g⟩
 ·unfold lstK
  rw [if_neg hk]
  omega
 ·rw [ey,eu,mp_set (l:=mpSet x.notes f v) (by omega),mp_set (by omega),ev]
  unfold moveB movL
  rw [if_neg hk]
def Zek.L:FL:=fCons (fSh sBk) (fCons (fSh sInt) (fCons (fSh sInt) (fCons (fSh sInt) (fCons (fSh sInt) (fNil)))))
def Zek:Bk×Int×Int×Int×Int×Unit→FR (Bk×Bool):=fun (a0,a1,a2,a3,a4,())=>⟨True,fun X=>Call0 Zcf.X (a1,()) fun x1=>Lt (bif bif !x1.2 then true else !(Zx.S a2) then true else !(Zx.S a3)) fun x2=>Lt (bif bif x2 then true else decide (a4 < 0) then true else !(ZF.S a0)) fun x3=>And (Imp (x3 = true) (X ((⟨[],[],0⟩:Bk),false))) (Imp (x3 = false) (Call Zcd.X (a0,()) fun x4=>Or (And (x1.1 = some 153) (And ((1:Int)≤a2) (And (Imp ((decide ((x4.own.getD (a2 - 1).toNat 0) < a4)) = true) (X ((⟨[],[],0⟩:Bk),false))) (Imp ((decide ((x4.own.getD (a2 - 1).toNat 0) < a4)) = false) (And ((1:Int)≤a2) (Lt (wrap ((x4.own.getD (a2 - 1).toNat 0) - a4)) fun x5=>And ((1:Int)≤a2∧a2≤(x4.own.length:Int) + 1) (And ((1:Int)≤a3) (Lt (wrap (((mpSet x4.own a2 x5).getD (a3 - 1).toNat 0) + a4)) fun x6=>And ((1:Int)≤a3∧a3≤((mpSet x4.own a2 x5).length:Int) + 1) (Call Zce.X ((⟨mpSet (mpSet x4.own a2 x5) a3 x6,x4.notes,x4.locked⟩:Bk),()) fun x7=>X (x7,true)))))))))) (And (x1.1 = some 154) (And ((1:Int)≤a2) (And (Imp ((decide ((x4.notes.getD (a2 - 1).toNat 0) < a4)) = true) (X ((⟨[],[],0⟩:Bk),false))) (Imp ((decide ((x4.notes.getD (a2 - 1).toNat 0) < a4)) = false) (And ((1:Int)≤a2) (Lt (wrap ((x4.notes.getD (a2 - 1).toNat 0) - a4)) fun x8=>And ((1:Int)≤a2∧a2≤(x4.notes.length:Int) + 1) (And ((1:Int)≤a3) (Lt (wrap (((mpSet x4.notes a2 x8).getD (a3 - 1).toNat 0) + a4)) fun x9=>And ((1:Int)≤a3∧a3≤((mpSet x4.notes a2 x8).length:Int) + 1) (Call Zce.X ((⟨x4.own,mpSet (mpSet x4.notes a2 x8) a3 x9,x4.locked⟩:Bk),()) fun x10=>X (x10,true)))))))))))),fun r=>(MoveQ a0 a1 a2 a3 a4 r.1 r.2)∧True,fun r=>(.tup [.agg [.own 0 1 3,.own 1 1 3,.int r.1.locked],.c (.bool r.2)],[.arr (.ints r.1.own),.arr (.ints r.1.notes)])⟩
theorem Zek.X:XF Zek:=mkF (zBk,false) fun (a0,a1,a2,a3,a4,()) hp=>by
 clear hp
 dsimp only [Zek]
 refine May.call0 trivial fun x1 q1=>have q1:=q1.1; May.lp (B.or (B.or (B.not (Iff.rfl)) (B.not (Iff.rfl))) (B.not (Iff.rfl))) fun x2 e2=>May.lp (B.or (B.or (e2) (B.dec)) (B.not (Iff.rfl))) fun x3 e3=>May.iff (e3) (fun h1=>?_) (fun h1=>?_)
 refine May.ret ⟨?_,trivial⟩; rotate_left 1
 refine May.call ⟨?_,?_,trivial⟩ fun x4 q4=>have q4:=q4.1; May.alt (c:=a1 == 1) (B.eq) (fun h2=>?_) (fun h2=>?_); rotate_left 2
 refine May.chk ?_ fun c1=>May.chk ?_ fun c2=>May.iff (B.dec) (fun h3=>?_) (fun h3=>?_); rotate_left 2
 refine May.ret ⟨?_,trivial⟩; rotate_left 1
 refine May.chk ?_ fun c3=>May.lw ⟨?_,?_⟩ fun x5 e5=>May.chk ?_ fun c4=>May.chk ?_ fun c5=>May.lw ⟨?_,?_⟩ fun x6 e6=>May.chk ?_ fun c6=>May.call ⟨?_,?_,trivial⟩ fun x7 q7=>have q7:=q7.1; May.ret ⟨?_,trivial⟩; rotate_left 11
 refine May.chk ?_ fun c7=>May.chk ?_ fun c8=>May.iff (B.dec) (fun h3=>?_) (fun h3=>?_); rotate_left 2
 refine May.ret ⟨?_,trivial⟩; rotate_left 1
 refine May.chk ?_ fun c9=>May.lw ⟨?_,?_⟩ fun x8 e8=>May.chk ?_ fun c10=>May.chk ?_ fun c11=>May.lw ⟨?_,?_⟩ fun x9 e9=>May.chk ?_ fun c12=>May.call ⟨?_,?_,trivial⟩ fun x10 q10=>have q10:=q10.1; May.ret ⟨?_,trivial⟩
 all_goals try dsimp only
 all_goals first | with_reducible assumption | omega | (exact mvQ_f (mv_f0 q1 h1); done) | (exact q1.2.1 h2; done) | (exact q1.2.2 (by have:=(mv_ok q1 h1).1; omega); done) | (exact mvQ_f (mv_f1 q4 h2 h3); done) | (exact mvQ_f (mv_f2 q4 h2 h3); done) | (exact mv_t2 (mv_ok q1 h1) q4 h2 h3 e8 e9 q10; done) | (exact mv_t1 (mv_ok q1 h1) q4 h2 h3 e5 e6 q7; done) | ((have m:=mv_ok q1 h1; have z:=bk_rng q4 m.2 m.1.2.1; omega); done) | ((have m:=mv_ok q1 h1; have z:=bk_rng rfl m.2 m.1.2.1; omega); done) | ((have m:=mv_ok q1 h1; have z:=bk_rng q4 m.2 m.1.2.1; subst q4; have y:=mv_rng m.2.2.1 m.1.2.1 m.1.2.2.1 m.1.2.2.2 h3 e8; omega); done) | ((have m:=mv_ok q1 h1; have z:=bk_rng q4 m.2 m.1.2.1; subst q4; have y:=mv_rng m.2.1 m.1.2.1 m.1.2.2.1 m.1.2.2.2 h3 e5; omega); done) | ((have m:=mv_ok q1 h1; have z:=bk_rng q4 m.2 m.1.2.1; have y:=put_len (v:=x8) z.2.1 m.1.2.1; omega); done) | ((have m:=mv_ok q1 h1; have z:=bk_rng q4 m.2 m.1.2.1; have y:=put_len (v:=x5) z.1 m.1.2.1; omega); done) | ((have m:=mv_ok q1 h1; have z:=bk_rng q4 m.2 m.1.2.1; exact put_len (put_len z.2.1 m.1.2.1) m.1.2.2.1); done) | ((have m:=mv_ok q1 h1; have z:=bk_rng q4 m.2 m.1.2.1; exact put_len (put_len z.1 m.1.2.1) m.1.2.2.1); done)
abbrev Zek.S:=Classical.choose Zek.X
def Zek.c:Ctr:=fc0 50 [true,false,false,false,false] Zek.L Zek Zek.S
theorem Zek.good:Good Tryz.prog Zek.c:=mkFG0 (fn:=Tryz.f50) {sp:=[(5,[[(47,0)],[(47,1)]])],sh:=[[some (.int,3),some (.int,3),none],[]]} Zek.X (consG Zb7.good (consG Zb8.good (consG Zcf.good (consG Zx.good (consG ZF.good (consG Zcd.good (consG Zce.good noG))))))) (by kernel_rfl) (by kernel_rfl) (l0 (by kernel_rfl)) (c0 (by kernel_rfl)) (fun _=>trivial) fun s K=>by kernel_rfl
end
end Hw
end Go.Proofs.YtklmllaggigkfaaGreat
