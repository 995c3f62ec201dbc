/- What happens, by the reference: made by gen.py. -/
import Derived.Test.YtklmllaggigkfaaGreatPJ3
set_option linter.unusedVariables false
set_option linter.unusedSimpArgs false
set_option maxRecDepth 100000
set_option maxHeartbeats 400000
namespace Go.Proofs.YtklmllaggigkfaaGreat
namespace Hw
open Go
noncomputable section
attribute [local irreducible] evFn evBody wrap wxor
def lows (h:Int) (l:List Int):List Int:=l.filter fun y=>decide (y < h)
def highs (h:Int) (l:List Int):List Int:=l.filter fun y=>decide (y > h)
theorem filt_t {p:Int→Bool} {l:List Int} {i j:Int} (hj:j = i + 1) (h0:0≤i) (h:i < (l.length:Int)) (hp:p (l.getD i.toNat 0) = true):(l.take i.toNat).filter p ++ [l.getD i.toNat 0] = (l.take j.toNat).filter p:=by
 rw [hj,← take_snoc (d:=0) h0 h,List.filter_append,List.filter_cons,if_pos hp]
 rfl
theorem filt_f {p:Int→Bool} {l:List Int} {i j:Int} (hj:j = i + 1) (h0:0≤i) (h:i < (l.length:Int)) (hp:¬ p (l.getD i.toNat 0) = true):(l.take i.toNat).filter p = (l.take j.toNat).filter p:=by
 rw [hj,← take_snoc (d:=0) h0 h,List.filter_append,List.filter_cons,if_neg hp,List.filter_nil,List.append_nil]
theorem filt_len {p:Int→Bool} {l:List Int} {k:Nat}:((l.take k).filter p).length≤l.length:=Nat.le_trans (List.length_filter_le _ _) (List.length_take_le' _ _)
theorem low_high (h:Int):∀l:List Int,(lows h l).length + (highs h l).length≤l.length
 | []=>Nat.le_refl 0
 | x :: l=>by
  have:=low_high h l
  unfold lows highs at *
  simp only [List.filter_cons,List.length_cons]
  split <;> split <;> (try simp only [List.length_cons]) <;> simp only [decide_eq_true_eq] at * <;> omega
theorem know_len {c:Ch} {h:Int}:(lows h c.knows ++ [h] ++ highs h c.knows).length≤c.knows.length + 1:=by
 have:=low_high h c.knows
 simp only [List.length_append,List.length_cons,List.length_nil]
 omega
theorem getD_mem {l:List Int} {k:Nat} (h:k < l.length):l.getD k 0∈l:=by
 rw [List.getD_eq_getElem?_getD,List.getElem?_eq_getElem h]
 exact List.getElem_mem h
theorem mem_getD {l:List Int} {x:Int} (h:x∈l):∃k,k < l.length∧l.getD k 0 = x:=by
 obtain ⟨k,hk,rfl⟩:=List.getElem_of_mem h
 exact ⟨k,hk,by rw [List.getD_eq_getElem?_getD,List.getElem?_eq_getElem hk]; rfl⟩
theorem cin_know {c:Ch} {h i:Int} (hc:CIn c) (hl:c.knows.length≤900000) (h1:1≤h):CIn ⟨i,c.bank,c.st,c.past,lows h c.knows ++ [h] ++ highs h c.knows⟩:=by
 refine ⟨hc.1,hc.2.1,hc.2.2.1,hc.2.2.2.1,Nat.le_trans know_len (by omega),fun k hk=>?_⟩
 have hm:∀x∈lows h c.knows ++ [h] ++ highs h c.knows,1≤x:=by
  intro x hx
  have key:x∈c.knows→1≤x:=fun hx=>by
   obtain ⟨k,hk,rfl⟩:=mem_getD hx
   exact hc.2.2.2.2.2 k hk
  simp only [List.mem_append,List.mem_cons,List.not_mem_nil,or_false] at hx
  rcases hx with (hx | hx) | hx
  ·exact key (List.mem_filter.1 hx).1
  ·omega
  ·exact key (List.mem_filter.1 hx).1
 exact hm _ (getD_mem hk)
def Knw (c:Ch) (h:Int):Prop:=∃k,k < c.knows.length∧c.knows.getD k 0 = h
def knowL (c:Ch) (h:Int):Ch:=⟨c.id,c.bank,c.st,c.past,lows h c.knows ++ [h] ++ highs h c.knows⟩
abbrev KnowQ (c o:Ch) (h:Int) (r:Ch):Prop:=((1≤h∧h≤(o.past.length:Int))∧¬ Knw c h→r = knowL c h)∧(¬ ((1≤h∧h≤(o.past.length:Int))∧¬ Knw c h)→r = c)
structure ByS (c:Ch) (s:St) (e:Ev) (r:Ch):Prop where
 get:e.kind = 4→PktOk e.pkt→∃t,GetQ c s e.pkt r t
 bad:e.kind = 4→¬ PktOk e.pkt→r = c
 tell:e.kind = 5→∃t,TellQ c s e.n r t
 late:e.kind = 6→∃t,LateQ c s e.height e.n r t
 step:e.kind = 7→∃t,StpQ c s e.n r t
 none:¬ (4≤e.kind∧e.kind≤7)→r = c
def KnA (c o:Ch) (h:Int):Prop:=Knw c h∧h≤(o.past.length:Int)
abbrev RlyS (c o:Ch) (e:Ev) (r:Ch):Prop:=(KnA c o e.height→ByS c (o.past.getD (e.height - 1).toNat zSt) e r)∧(¬ KnA c o e.height→r = c)
def bkC (c:Ch) (b:Bk):Ch:=⟨c.id,b,c.st,c.past,c.knows⟩
abbrev MvS (c:Ch) (p:Pkt) (r:Ch):Prop:=∃b t,MoveQ c.bank p.kind p.frm p.to p.sum b t∧(t = true→r = bkC c b)∧(¬ t = true→r = c)
def newS:St:=⟨0,1,0,[],[],[],List.replicate 8 0⟩
def frS (e:Ev):Prop:=e.kind = 7∧(e.n = 1∨e.n = 5)
structure ChnS (c o:Ch) (e:Ev) (r:Ch):Prop where
 blk:e.kind = 1→r = blkC c
 know:e.kind = 2→KnowQ c o e.height r
 send:e.kind = 3→∃n t,SndW c e.pkt.kind e.pkt.frm e.pkt.to e.pkt.sum e.pkt.til r n t
 move:e.kind = 8→MvS c e.pkt r
 fresh:frS e→∃t,StpQ c newS e.n r t
 rely:¬ e.kind = 1→¬ e.kind = 2→¬ e.kind = 3→¬ e.kind = 8→¬ frS e→RlyS c o e r
structure DoS (a b:Ch) (e:Ev) (x y:Ch):Prop where
 one:e.chain = 1→ChnS a b e x∧y = b
 two:e.chain = 2→ChnS b a e y∧x = a
 none:¬ (1≤e.chain∧e.chain≤2)→x = a∧y = b
inductive PlayS:List Ev→Ch→Ch→Prop where
 | nil:PlayS [] (newC 1) (newC 2)
 | snoc {es:List Ev} {e:Ev} {a b x y:Ch}:PlayS es a b→DoS a b e x y→PlayS (es ++ [e]) x y
theorem know_y {c o:Ch} {h:Int} {l:List Int} {x:Bool} (h1:¬ (¬ (1≤h∧h≤(o.past.length:Int))∨x = true)) (q:x = true↔∃k,k < c.knows.length∧c.knows.getD k 0 = h) (e:l = lows h c.knows ++ [h] ++ highs h c.knows):KnowQ c o h ⟨c.id,c.bank,c.st,c.past,l⟩:=by
 subst e
 exact ⟨fun _=>rfl,fun g=>absurd ⟨Classical.byContradiction fun g'=>h1 (.inl g'),fun g'=>h1 (.inr (q.2 g'))⟩ g⟩
theorem know_n {c o:Ch} {h:Int} {x:Bool} (h1:¬ (1≤h∧h≤(o.past.length:Int))∨x = true) (q:x = true↔∃k,k < c.knows.length∧c.knows.getD k 0 = h):KnowQ c o h c :=
 ⟨fun g=>h1.elim (fun h=>absurd g.1 h) fun h=>absurd (q.1 h) g.2,fun _=>rfl⟩
theorem rlyS_n {c o:Ch} {e:Ev} {x:Bool} (q:x = true↔∃k,k < c.knows.length∧c.knows.getD k 0 = e.height) (h:¬ x = true∨e.height > (o.past.length:Int)):RlyS c o e c :=
 ⟨fun g=>h.elim (fun h=>absurd (q.2 g.1) h) fun h=>absurd g.2 (by omega),fun _=>rfl⟩
theorem rlyS_y {c o r:Ch} {e:Ev} {x:Bool} {i:Int} (q:x = true↔∃k,k < c.knows.length∧c.knows.getD k 0 = e.height) (h:¬ (¬ x = true∨e.height > (o.past.length:Int))) (ei:i = e.height - 1) (b:ByS c (o.past.getD i.toNat zSt) e r):RlyS c o e r:=by
 subst ei
 exact ⟨fun _=>b,fun g=>absurd ⟨q.1 (Classical.byContradiction fun g=>h (.inl g)),Int.not_lt.1 fun g=>h (.inr g)⟩ g⟩
theorem knw_pos {c:Ch} {h l:Int} {x:Bool} (p:∀k,k < c.knows.length→1≤c.knows.getD k 0) (q:x = true↔∃k,k < c.knows.length∧c.knows.getD k 0 = h) (g:¬ (¬ x = true∨h > l)):1≤h∧h≤l:=by
 obtain ⟨k,hk,e⟩:=q.1 (Classical.byContradiction fun g'=>g (.inl g'))
 have:=p k hk
 have:¬ h > l:=fun g'=>g (.inr g')
 omega
theorem byS_g {c r:Ch} {s:St} {e:Ev} {t:Bool} (h:e.kind = 4) (hp:PktOk e.pkt) (q:GetQ c s e.pkt r t):ByS c s e r:=⟨fun _ _=>⟨t,q⟩,fun _ g=>absurd hp g,fun g=>by omega,fun g=>by omega,fun g=>by omega,fun g=>by omega⟩
theorem byS_b {c:Ch} {s:St} {e:Ev} (h:e.kind = 4) (hp:¬ PktOk e.pkt):ByS c s e c:=⟨fun _ g=>absurd g hp,fun _ _=>rfl,fun g=>by omega,fun g=>by omega,fun g=>by omega,fun g=>by omega⟩
theorem byS_t {c r:Ch} {s:St} {e:Ev} {t:Bool} (h:e.kind = 5) (q:TellQ c s e.n r t):ByS c s e r:=⟨fun g=>by omega,fun g=>by omega,fun _=>⟨t,q⟩,fun g=>by omega,fun g=>by omega,fun g=>by omega⟩
theorem byS_l {c r:Ch} {s:St} {e:Ev} {t:Bool} (h:e.kind = 6) (q:LateQ c s e.height e.n r t):ByS c s e r:=⟨fun g=>by omega,fun g=>by omega,fun g=>by omega,fun _=>⟨t,q⟩,fun g=>by omega,fun g=>by omega⟩
theorem byS_s {c r:Ch} {s:St} {e:Ev} {t:Bool} (h:e.kind = 7) (q:StpQ c s e.n r t):ByS c s e r:=⟨fun g=>by omega,fun g=>by omega,fun g=>by omega,fun g=>by omega,fun _=>⟨t,q⟩,fun g=>by omega⟩
theorem byS_n {c:Ch} {s:St} {e:Ev} (h4:¬ e.kind = 4) (h5:¬ e.kind = 5) (h6:¬ e.kind = 6) (h7:¬ e.kind = 7):ByS c s e c:=⟨fun g=>by omega,fun g=>by omega,fun g=>by omega,fun g=>by omega,fun g=>by omega,fun _=>rfl⟩
theorem chS_b {c o r:Ch} {e:Ev} (h:e.kind = 1) (q:r = blkC c):ChnS c o e r:=⟨fun _=>q,fun g=>by omega,fun g=>by omega,fun g=>by omega,fun g=>by have:=g.1; omega,fun g=>absurd h g⟩
theorem chS_k {c o r:Ch} {e:Ev} (h:e.kind = 2) (q:KnowQ c o e.height r):ChnS c o e r:=⟨fun g=>by omega,fun _=>q,fun g=>by omega,fun g=>by omega,fun g=>by have:=g.1; omega,fun _ g=>absurd h g⟩
theorem chS_s {c o r:Ch} {e:Ev} {n:Int} {t:Bool} (h:e.kind = 3) (q:SndW c e.pkt.kind e.pkt.frm e.pkt.to e.pkt.sum e.pkt.til r n t):ChnS c o e r:=⟨fun g=>by omega,fun g=>by omega,fun _=>⟨n,t,q⟩,fun g=>by omega,fun g=>by have:=g.1; omega,fun _ _ g=>absurd h g⟩
theorem chS_m {c o r:Ch} {e:Ev} {b:Bk} {t:Bool} (h:e.kind = 8) (q:MoveQ c.bank e.pkt.kind e.pkt.frm e.pkt.to e.pkt.sum b t) (h1:t = true→r = bkC c b) (h2:¬ t = true→r = c):ChnS c o e r:=⟨fun g=>by omega,fun g=>by omega,fun g=>by omega,fun _=>⟨b,t,q,h1,h2⟩,fun g=>by have:=g.1; omega,fun _ _ _ g=>absurd h g⟩
theorem chS_f {c o r:Ch} {e:Ev} {s:St} {t:Bool} (h:e.kind = 7∧(e.n = 1∨e.n = 5)) (hs:s = newS) (q:StpQ c s e.n r t):ChnS c o e r:=⟨fun g=>by omega,fun g=>by omega,fun g=>by omega,fun g=>by omega,fun _=>⟨t,by rw [← hs]; exact q⟩,fun _ _ _ _ g=>absurd h g⟩
theorem chS_r {c o r:Ch} {e:Ev} (h1:¬ e.kind = 1) (h2:¬ e.kind = 2) (h3:¬ e.kind = 3) (h4:¬ e.kind = 8) (h5:¬ (e.kind = 7∧(e.n = 1∨e.n = 5))) (q:RlyS c o e r):ChnS c o e r:=⟨fun g=>absurd g h1,fun g=>absurd g h2,fun g=>absurd g h3,fun g=>absurd g h4,fun g=>absurd g h5,fun _ _ _ _ _=>q⟩
theorem Zao.G:GG [Zi.c,Z9.c]:=(consG Zi.good (consG Z9.good noG))
def Zap.L:FL:=fCons (fC cInt) (fCons (fC (cPtr 1 cChO rfl)) (fCons (fC (cPtr 1 (cCons cInt (cCons cNilS (cCons cNilS (cCons cInt (cCons cInt (cCons cInt (cCons cInt (cCons cNilS (cCons cNilS (cCons cNilS (cCons cNilS (cCons cNilS (cCons cNilS (cNil)))))))))))))) rfl)) (fCons (fC (cOwn kInts 3)) (fCons (fC cInt) (fNil)))))
def Zap:Int×Ch×(Int×Unit×Unit×Int×Int×Int×Int×Unit×Unit×Unit×Unit×Unit×Unit×Unit)×List Int×Int×Unit→LR (Int×Ch×(Int×Unit×Unit×Int×Int×Int×Int×Unit×Unit×Unit×Unit×Unit×Unit×Unit)×List Int×Int×Unit) (Nat×(List Int)×Unit):=fun (y0,y1,(y2,(),(),y3,y4,y5,y6,(),(),(),(),(),(),()),y7,y8,())=>⟨(0≤y8)∧((y1.knows.length:Int)≤9223372036854775807)∧(y1.knows.length≤900000)∧(y7 = (y1.knows.take y8.toNat).filter (fun y=>decide (y < y0)))∧True,((y1.knows.length:Int) - y8).toNat,fun X=>And (Imp ((decide (y8 < (y1.knows.length:Int))) = true) (And ((0:Int)≤y8∧y8 < (y1.knows.length:Int)) (And ((y8).toNat < y1.knows.length) (And (Imp ((decide ((y1.knows.getD (y8).toNat 0) < y0)) = true) (And ((0:Int)≤y8∧y8 < (y1.knows.length:Int)) (And ((y8).toNat < y1.knows.length) (And ((y7 ++ ([y1.knows.getD (y8).toNat 0])).length≤4294967296) (Lt (wrap (y8 + 1)) fun x3=>X (.inl (y0,y1,(y2,(),(),y3,y4,y5,y6,(),(),(),(),(),(),()),(y7 ++ ([y1.knows.getD (y8).toNat 0])),x3,()))))))) (Imp ((decide ((y1.knows.getD (y8).toNat 0) < y0)) = false) (Lt (wrap (y8 + 1)) fun x4=>X (.inl (y0,y1,(y2,(),(),y3,y4,y5,y6,(),(),(),(),(),(),()),y7,x4,())))))))) (Imp ((decide (y8 < (y1.knows.length:Int))) = false) (X (.inr (0,y7,())))),fun r=>(r.2.1 = lows y0 y1.knows)∧True,fun r=>[],fun r=>(.exit 0,[.c (.int y0),.c (.ptr 0 0),.c (.ptr 9 0),.c (.own 10 1 3)],[.raw 1 [.int y1.id,.own 1 1 3,.own 2 1 3,.int y1.bank.locked,.int y1.st.way,.int y1.st.ver,.int y1.st.want,.own 3 7 46,.own 4 1 4,.own 5 1 4,.own 6 1 3,.own 7 7 75,.own 8 1 3],.arr (.ints y1.bank.own),.arr (.ints y1.bank.notes),.arr (.pkts y1.st.sent),.arr (.bools y1.st.live),.arr (.bools y1.st.back),.arr (.ints y1.st.got),.arr (.sts y1.past),.arr (.ints y1.knows),.raw 1 [.int y2,.nilS,.nilS,.int y3,.int y4,.int y5,.int y6,.nilS,.nilS,.nilS,.nilS,.nilS,.nilS],.arr (.ints r.2.1)])⟩
theorem Zap.X:XL Zap:=mkL (0,[],()) fun (y0,y1,(y2,(),(),y3,y4,y5,y6,(),(),(),(),(),(),()),y7,y8,()) hp=>by
 obtain ⟨p0,p1,p2,p3,-⟩:=hp
 unfold ML; dsimp only [Zap]
 refine May.iff (B.dec) (fun h1=>?_) (fun h1=>?_)
 refine May.chk ?_ fun c1=>May.chk ?_ fun c2=>May.iff (B.dec) (fun h2=>?_) (fun h2=>?_); rotate_left 2
 refine May.chk ?_ fun c3=>May.chk ?_ fun c4=>May.chk ?_ fun c5=>May.lw ⟨?_,?_⟩ fun x3 e3=>May.nx ⟨?_,?_,?_,?_,trivial⟩ ?_ ?_ fun r=>rfl; rotate_left 11
 refine May.lw ⟨?_,?_⟩ fun x4 e4=>May.nx ⟨?_,?_,?_,?_,trivial⟩ ?_ ?_ fun r=>rfl; rotate_left 8
 refine May.ex ⟨?_,trivial⟩
 all_goals try dsimp only [Zap]
 all_goals first | with_reducible assumption | omega | exact fun _ q=>q | (exact know_y h1 q1 q9; done) | (exact know_n h1 q1; done) | (exact rfl; done) | (rw [q5,q9]; exact cin_know p0 (by assumption) (by omega); done) | (rw [q9]; exact cin_know p0 (by assumption) (by omega); done) | (rw [q9]; exact know_len; done) | (rw [q5]; have:=low_high a2 a0.knows; simp only [List.length_append,List.length_cons,List.length_nil]; omega; done) | (rw [q5]; simp only [List.take_zero,Int.toNat_zero,List.filter_nil,List.append_nil]; done) | (rw [p3]; exact filt_t (by assumption) (by omega) (by omega) (by simpa using h2); done) | (rw [p3]; exact filt_f (by assumption) (by omega) (by omega) (by simpa using h2); done) | (rw [p3,List.append_assoc]; rw [filt_t (by assumption) (by omega) (by omega) (by simpa using h2)]; done) | (rw [p3,filt_f (by assumption) (by omega) (by omega) (by simpa using h2)]; done) | (rw [p3]; simp only [List.length_append,List.length_cons,List.length_nil]; exact Nat.le_trans (Nat.succ_le_succ filt_len) (by omega); done) | ((show y7 = lows y0 y1.knows); rw [p3,take_all h1]; rfl; done)
abbrev Zap.R:=Classical.choose Zap.X
def Zap.k:LCtr:=(ld 5 [2,3,6,7,8] [] Zap.L Zap 0 (fun _=>[2,3,6,7]) (fun _=>[]) Zap.R).ctr
theorem Zap.g:LGood Tryz.prog Tryz.f78.ntmps Zap.k (bodyAt Tryz.f78 0):=mkLG {} Zap.X Zao.G (by kernel_rfl) (l0 (by kernel_rfl)) (c0 (by kernel_rfl)) fun S s=>by kernel_rfl
def Zaq.L:FL:=fCons (fC cInt) (fCons (fC (cPtr 1 cChO rfl)) (fCons (fC (cPtr 1 (cCons cInt (cCons cNilS (cCons cNilS (cCons cInt (cCons cInt (cCons cInt (cCons cInt (cCons cNilS (cCons cNilS (cCons cNilS (cCons cNilS (cCons cNilS (cCons cNilS (cNil)))))))))))))) rfl)) (fCons (fC (cOwn kInts 3)) (fCons (fC cInt) (fNil)))))
def Zaq:Int×Ch×(Int×Unit×Unit×Int×Int×Int×Int×Unit×Unit×Unit×Unit×Unit×Unit×Unit)×List Int×Int×Unit→LR (Int×Ch×(Int×Unit×Unit×Int×Int×Int×Int×Unit×Unit×Unit×Unit×Unit×Unit×Unit)×List Int×Int×Unit) (Nat×(List Int)×Unit):=fun (y0,y1,(y2,(),(),y3,y4,y5,y6,(),(),(),(),(),(),()),y7,y8,())=>⟨(0≤y8)∧((y1.knows.length:Int)≤9223372036854775807)∧(y1.knows.length≤900000)∧(y7 = lows y0 y1.knows ++ [y0] ++ (y1.knows.take y8.toNat).filter (fun y=>decide (y > y0)))∧True,((y1.knows.length:Int) - y8).toNat,fun X=>And (Imp ((decide (y8 < (y1.knows.length:Int))) = true) (And ((0:Int)≤y8∧y8 < (y1.knows.length:Int)) (And ((y8).toNat < y1.knows.length) (Lt (decide ((y1.knows.getD (y8).toNat 0) > y0)) fun x6=>And (Imp (x6 = true) (And ((0:Int)≤y8∧y8 < (y1.knows.length:Int)) (And ((y8).toNat < y1.knows.length) (And ((y7 ++ ([y1.knows.getD (y8).toNat 0])).length≤4294967296) (Lt (wrap (y8 + 1)) fun x7=>X (.inl (y0,y1,(y2,(),(),y3,y4,y5,y6,(),(),(),(),(),(),()),(y7 ++ ([y1.knows.getD (y8).toNat 0])),x7,()))))))) (Imp (x6 = false) (Lt (wrap (y8 + 1)) fun x8=>X (.inl (y0,y1,(y2,(),(),y3,y4,y5,y6,(),(),(),(),(),(),()),y7,x8,())))))))) (Imp ((decide (y8 < (y1.knows.length:Int))) = false) (X (.inr (0,y7,())))),fun r=>(r.2.1 = lows y0 y1.knows ++ [y0] ++ highs y0 y1.knows)∧True,fun r=>[],fun r=>(.exit 2,[.c (.ptr 0 0),.c (.ptr 9 0),.c (.own 10 1 3)],[.raw 1 [.int y1.id,.own 1 1 3,.own 2 1 3,.int y1.bank.locked,.int y1.st.way,.int y1.st.ver,.int y1.st.want,.own 3 7 46,.own 4 1 4,.own 5 1 4,.own 6 1 3,.own 7 7 75,.own 8 1 3],.arr (.ints y1.bank.own),.arr (.ints y1.bank.notes),.arr (.pkts y1.st.sent),.arr (.bools y1.st.live),.arr (.bools y1.st.back),.arr (.ints y1.st.got),.arr (.sts y1.past),.arr (.ints y1.knows),.raw 1 [.int y2,.nilS,.nilS,.int y3,.int y4,.int y5,.int y6,.nilS,.nilS,.nilS,.nilS,.nilS,.nilS],.arr (.ints r.2.1)])⟩
theorem Zaq.X:XL Zaq:=mkL (0,[],()) fun (y0,y1,(y2,(),(),y3,y4,y5,y6,(),(),(),(),(),(),()),y7,y8,()) hp=>by
 obtain ⟨p0,p1,p2,p3,-⟩:=hp
 unfold ML; dsimp only [Zaq]
 refine May.iff (B.dec) (fun h1=>?_) (fun h1=>?_)
 refine May.chk ?_ fun c1=>May.chk ?_ fun c2=>May.lp (B.dec) fun x6 e6=>May.iff (e6) (fun h2=>?_) (fun h2=>?_); rotate_left 2
 refine May.chk ?_ fun c3=>May.chk ?_ fun c4=>May.chk ?_ fun c5=>May.lw ⟨?_,?_⟩ fun x7 e7=>May.nx ⟨?_,?_,?_,?_,trivial⟩ ?_ ?_ fun r=>rfl; rotate_left 11
 refine May.lw ⟨?_,?_⟩ fun x8 e8=>May.nx ⟨?_,?_,?_,?_,trivial⟩ ?_ ?_ fun r=>rfl; rotate_left 8
 refine May.ex ⟨?_,trivial⟩
 all_goals try dsimp only [Zaq]
 all_goals first | with_reducible assumption | omega | exact fun _ q=>q | (exact know_y h1 q1 q9; done) | (exact know_n h1 q1; done) | (exact rfl; done) | (rw [q5,q9]; exact cin_know p0 (by assumption) (by omega); done) | (rw [q9]; exact cin_know p0 (by assumption) (by omega); done) | (rw [q9]; exact know_len; done) | (rw [q5]; have:=low_high a2 a0.knows; simp only [List.length_append,List.length_cons,List.length_nil]; omega; done) | (rw [q5]; simp only [List.take_zero,Int.toNat_zero,List.filter_nil,List.append_nil]; done) | (rw [p3]; exact filt_t (by assumption) (by omega) (by omega) (by simpa using h2); done) | (rw [p3]; exact filt_f (by assumption) (by omega) (by omega) (by simpa using h2); done) | (rw [p3,List.append_assoc]; rw [filt_t (by assumption) (by omega) (by omega) (by simpa using h2)]; done) | (rw [p3,filt_f (by assumption) (by omega) (by omega) (by simpa using h2)]; done) | (rw [p3]; simp only [List.length_append,List.length_cons,List.length_nil]; exact Nat.le_trans (Nat.succ_le_succ filt_len) (by omega); done) | ((show y7 = lows y0 y1.knows ++ [y0] ++ highs y0 y1.knows); rw [p3,take_all h1]; rfl; done) | (rw [p3]; simp only [List.length_append,List.length_cons,List.length_nil]; have:=low_high y0 y1.knows; have:=filt_len (p:=fun y=>decide (y > y0)) (l:=y1.knows) (k:=y8.toNat); omega; done)
abbrev Zaq.R:=Classical.choose Zaq.X
def Zaq.k:LCtr:=(ld 11 [2,3,6,7,9] [] Zaq.L Zaq 0 (fun _=>[3,6,7]) (fun _=>[]) Zaq.R).ctr
theorem Zaq.g:LGood Tryz.prog Tryz.f78.ntmps Zaq.k (bodyAt Tryz.f78 1):=mkLG {} Zaq.X Zao.G (by kernel_rfl) (l0 (by kernel_rfl)) (c0 (by kernel_rfl)) fun S s=>by kernel_rfl
def Zao.L:FL:=fCons (fAgg cChO) (fCons (fSh sCh) (fCons (fSh sInt) (fNil)))
def Zao:Ch×Ch×Int×Unit→FR (Ch):=fun (a0,a1,a2,())=>⟨(CIn a0)∧(CIn a1)∧(a0.knows.length≤900000)∧True,fun X=>And (Imp (And ((!(Zi.S a2 1 (a1.past.length:Int))) = false) (True)) ((Z9 (a0.knows,a2,())).P)) (Lt ((Z9.S (a0.knows,a2,()))) fun x1=>Lt (bif !(Zi.S a2 1 (a1.past.length:Int)) then true else x1) fun x2=>And (Imp (x2 = true) (X a0)) (Imp (x2 = false) (CallL Zap.X (a2,a0,(0,(),(),0,0,0,0,(),(),(),(),(),(),()),[],0,()) fun x5=>And ((x5.2.1 ++ ([a2])).length≤4294967296) (CallL Zaq.X (a2,a0,(0,(),(),0,0,0,0,(),(),(),(),(),(),()),(x5.2.1 ++ ([a2])),0,()) fun x9=>X (⟨a0.id,a0.bank,a0.st,a0.past,x9.2.1⟩:Ch))))),fun r=>(CIn r)∧(r.knows.length≤a0.knows.length + 1)∧(KnowQ a0 a1 a2 r)∧True,fun r=>(.v (.agg [.int r.id,.own 8 1 3,.own 9 1 3,.int r.bank.locked,.int r.st.way,.int r.st.ver,.int r.st.want,.own 10 7 46,.own 11 1 4,.own 12 1 4,.own 13 1 3,.own 14 7 75,.own 15 1 3]),[.dead,.dead,.dead,.dead,.dead,.dead,.dead,.dead,.arr (.ints r.bank.own),.arr (.ints r.bank.notes),.arr (.pkts r.st.sent),.arr (.bools r.st.live),.arr (.bools r.st.back),.arr (.ints r.st.got),.arr (.sts r.past),.arr (.ints r.knows)])⟩
theorem Zao.X:XF Zao:=mkF (zCh) fun (a0,a1,a2,()) hp=>by
 obtain ⟨p0,p1,p2,-⟩:=hp
 obtain ⟨p0b,p0s,p0l,p0p,p0k,p0q⟩:=id p0
 obtain ⟨p0s1,p0s2,p0s3,p0s4,p0s5⟩:=id p0s
 dsimp only [Zao]
 refine May.chk (fun hπ=>have g1:=B.neg (B.not (in_iff)) hπ.1; ⟨?_,trivial⟩) fun c1=>May.clq ⟨?_,trivial⟩ fun x1 q1=>have q1:=q1.1; May.lp (B.or (B.not (in_iff)) (Iff.rfl)) fun x2 e2=>May.iff (e2) (fun h1=>?_) (fun h1=>?_); rotate_left 2
 refine May.ret ⟨?_,?_,?_,trivial⟩; rotate_left 3
 refine May.loop ⟨?_,?_,?_,?_,trivial⟩ fun x5 q5=>have q5:=q5.1; May.chk ?_ fun c2=>May.loop ⟨?_,?_,?_,?_,trivial⟩ fun x9 q9=>have q9:=q9.1; May.ret ⟨?_,?_,?_,trivial⟩
 all_goals try dsimp only
 all_goals first | with_reducible assumption | omega | (exact know_y h1 q1 q9; done) | (exact know_n h1 q1; done) | (exact rfl; done) | (rw [q5,q9]; exact cin_know p0 (by assumption) (by omega); done) | (rw [q9]; exact cin_know p0 (by assumption) (by omega); done) | (rw [q9]; exact know_len; done) | (rw [q5]; have:=low_high a2 a0.knows; simp only [List.length_append,List.length_cons,List.length_nil]; omega; done) | (rw [q5]; simp only [List.take_zero,Int.toNat_zero,List.filter_nil,List.append_nil]; done)
abbrev Zao.S:=Classical.choose Zao.X
def Zao.c:Ctr:=fc 78 [false,true,false] Zao.L Zao Zao.S
theorem Zao.good:Good Tryz.prog Zao.c:=mkFG (fn:=Tryz.f78) {LL:=[Zap.k,Zaq.k],sh:=[[none,some (.int,3),some (.int,3),none,none,none,none,some (.pkt,46),some (.bool,4),some (.bool,4),some (.int,3),some (.st,75),some (.int,3)]],tk:=[0,1,2,3,4,5,6,7]} Zao.X Zao.G (by kernel_rfl) (by kernel_rfl) (lG (by kernel_rfl) (consL (by kernel_rfl) Zap.g (consL (by kernel_rfl) Zaq.g (noL rfl)))) (c0 (by kernel_rfl)) fun s K=>by kernel_rfl
def Zar.L:FL:=fCons (fAgg cChO) (fCons (fSh sCh) (fCons (fSh sEv) (fNil)))
def Zar:Ch×Ch×Ev×Unit→FR (Ch):=fun (a0,a1,a2,())=>⟨(CIn a0)∧(CIn a1)∧True,fun X=>Call Z9.X (a0.knows,a2.height,()) fun x1=>Lt (bif !x1 then true else decide (a2.height > (a1.past.length:Int))) fun x2=>And (Imp (x2 = true) (X a0)) (Imp (x2 = false) (Lt (wrap (a2.height - 1)) fun x3=>And ((0:Int)≤x3∧x3 < (a1.past.length:Int)) (And (Imp ((a2.kind == 4) = true) (And (Imp ((Zy.S a2.pkt) = true) (Call Zak.X (a0,(a1.past.getD (x3).toNat zSt),a2.pkt,()) fun x4=>X x4.1)) (Imp ((Zy.S a2.pkt) = false) (X a0)))) (Imp ((a2.kind == 4) = false) (And (Imp ((a2.kind == 5) = true) (Call Zam.X (a0,(a1.past.getD (x3).toNat zSt),a2.n,()) fun x5=>X x5.1)) (Imp ((a2.kind == 5) = false) (And (Imp ((a2.kind == 6) = true) (Call Zan.X (a0,(a1.past.getD (x3).toNat zSt),a2.height,a2.n,()) fun x6=>X x6.1)) (Imp ((a2.kind == 6) = false) (And (Imp ((a2.kind == 7) = true) (Call Zai.X (a0,(a1.past.getD (x3).toNat zSt),a2.n,()) fun x7=>X x7.1)) (Imp ((a2.kind == 7) = false) (X a0))))))))))),fun r=>(CIn r)∧(r.knows = a0.knows)∧(RlyS a0 a1 a2 r)∧True,fun r=>(.v (.agg [.int r.id,.own 0 1 3,.own 1 1 3,.int r.bank.locked,.int r.st.way,.int r.st.ver,.int r.st.want,.own 2 7 46,.own 3 1 4,.own 4 1 4,.own 5 1 3,.own 6 7 75,.own 7 1 3]),[.arr (.ints r.bank.own),.arr (.ints r.bank.notes),.arr (.pkts r.st.sent),.arr (.bools r.st.live),.arr (.bools r.st.back),.arr (.ints r.st.got),.arr (.sts r.past),.arr (.ints r.knows)])⟩
theorem Zar.X:XF Zar:=mkF (zCh) fun (a0,a1,a2,()) hp=>by
 obtain ⟨p0,p1,-⟩:=hp
 obtain ⟨p0b,p0s,p0l,p0p,p0k,p0q⟩:=id p0
 obtain ⟨p0s1,p0s2,p0s3,p0s4,p0s5⟩:=id p0s
 obtain ⟨p1b,p1s,p1l,p1p,p1k,p1q⟩:=id p1
 obtain ⟨p1s1,p1s2,p1s3,p1s4,p1s5⟩:=id p1s
 dsimp only [Zar]
 refine May.call ⟨?_,trivial⟩ fun x1 q1=>have q1:=q1.1; May.lp (B.or (B.not (Iff.rfl)) (B.dec)) fun x2 e2=>May.iff (e2) (fun h1=>?_) (fun h1=>?_); rotate_left 1
 refine May.ret ⟨?_,?_,?_,trivial⟩; rotate_left 3
 refine May.lw ⟨?_,?_⟩ fun x3 e3=>May.chk ?_ fun c1=>May.iff (B.eq) (fun h2=>?_) (fun h2=>?_); rotate_left 3
 refine May.iff (specPkt) (fun h3=>?_) (fun h3=>?_)
 refine May.call ⟨?_,?_,?_,trivial⟩ fun x4 q4=>have q4_0:=q4.1; have q4_1:=q4.2.1; have q4_2:=q4.2.2.1; May.ret ⟨?_,?_,?_,trivial⟩; rotate_left 6
 refine May.ret ⟨?_,?_,?_,trivial⟩; rotate_left 3
 refine May.iff (B.eq) (fun h3=>?_) (fun h3=>?_)
 refine May.call ⟨?_,?_,trivial⟩ fun x5 q5=>have q5_0:=q5.1; have q5_1:=q5.2.1; have q5_2:=q5.2.2.1; May.ret ⟨?_,?_,?_,trivial⟩; rotate_left 5
 refine May.iff (B.eq) (fun h4=>?_) (fun h4=>?_)
 refine May.call ⟨?_,?_,trivial⟩ fun x6 q6=>have q6_0:=q6.1; have q6_1:=q6.2.1; have q6_2:=q6.2.2.1; May.ret ⟨?_,?_,?_,trivial⟩; rotate_left 5
 refine May.iff (B.eq) (fun h5=>?_) (fun h5=>?_)
 refine May.call ⟨?_,?_,trivial⟩ fun x7 q7=>have q7_0:=q7.1; have q7_1:=q7.2.1; have q7_2:=q7.2.2.1; May.ret ⟨?_,?_,?_,trivial⟩; rotate_left 5
 refine May.ret ⟨?_,?_,?_,trivial⟩
 all_goals try dsimp only
 all_goals first | with_reducible assumption | omega | (exact rlyS_y q1 h1 e3 (byS_n h2 h3 h4 h5); done) | (exact rlyS_y q1 h1 e3 (byS_b h2 h3); done) | (exact rlyS_y q1 h1 e3 (byS_g h2 h3 q4_2); done) | (exact rlyS_y q1 h1 e3 (byS_t h3 q5_2); done) | (exact rlyS_y q1 h1 e3 (byS_l h4 q6_2); done) | (exact rlyS_y q1 h1 e3 (byS_s h5 q7_2); done) | (exact rlyS_n q1 h1; done) | ((have z:=knw_pos p0q q1 h1; omega); done) | (exact sin_get p1 (by have z:=knw_pos p0q q1 h1; omega) (by have z:=knw_pos p0q q1 h1; omega); done) | (exact pok_in (by assumption); done)
abbrev Zar.S:=Classical.choose Zar.X
def Zar.c:Ctr:=fc 82 [false,true,false] Zar.L Zar Zar.S
theorem Zar.good:Good Tryz.prog Zar.c:=mkFG (fn:=Tryz.f82) {sh:=[[none,some (.int,3),some (.int,3),none,none,none,none,some (.pkt,46),some (.bool,4),some (.bool,4),some (.int,3),some (.st,75),some (.int,3)]]} Zar.X (consG Z9.good (consG Zy.good (consG Zak.good (consG Zam.good (consG Zan.good (consG Zai.good noG)))))) (by kernel_rfl) (by kernel_rfl) (l0 (by kernel_rfl)) (c0 (by kernel_rfl)) fun s K=>by kernel_rfl
def Zas.L:FL:=fCons (fAgg cChO) (fCons (fSh sCh) (fCons (fSh sEv) (fNil)))
def Zas:Ch×Ch×Ev×Unit→FR (Ch):=fun (a0,a1,a2,())=>⟨(CIn a0)∧(CIn a1)∧(a0.knows.length≤900000)∧True,fun X=>And (Imp ((a2.kind == 1) = true) (Call Zaf.X (a0,()) fun x1=>X x1)) (Imp ((a2.kind == 1) = false) (And (Imp ((a2.kind == 2) = true) (Call Zao.X (a0,a1,a2.height,()) fun x2=>X x2)) (Imp ((a2.kind == 2) = false) (And (Imp ((a2.kind == 3) = true) (Call Zag.X (a0,a2.pkt.kind,a2.pkt.frm,a2.pkt.to,a2.pkt.sum,a2.pkt.til,()) fun x3=>X x3.1)) (Imp ((a2.kind == 3) = false) (And (Imp ((a2.kind == 8) = true) (Call Zv.X (a0.bank,a2.pkt.kind,a2.pkt.frm,a2.pkt.to,a2.pkt.sum,()) fun x4=>And (Imp (x4.2 = true) (X (⟨a0.id,x4.1,a0.st,a0.past,a0.knows⟩:Ch))) (Imp (x4.2 = false) (X a0)))) (Imp ((a2.kind == 8) = false) (Lt (bif a2.kind == 7 then bif a2.n == 1 then true else a2.n == 5 else false) fun x5=>And (Imp (x5 = true) (Call0 Zg.X () fun x6=>Call Zai.X (a0,x6,a2.n,()) fun x7=>X x7.1)) (Imp (x5 = false) (Call Zar.X (a0,a1,a2,()) fun x8=>X x8)))))))))),fun r=>(CIn r)∧(r.knows.length≤a0.knows.length + 1)∧(ChnS a0 a1 a2 r)∧True,fun r=>(.v (.agg [.int r.id,.own 8 1 3,.own 9 1 3,.int r.bank.locked,.int r.st.way,.int r.st.ver,.int r.st.want,.own 10 7 46,.own 11 1 4,.own 12 1 4,.own 13 1 3,.own 14 7 75,.own 15 1 3]),[.dead,.dead,.dead,.dead,.dead,.dead,.dead,.dead,.arr (.ints r.bank.own),.arr (.ints r.bank.notes),.arr (.pkts r.st.sent),.arr (.bools r.st.live),.arr (.bools r.st.back),.arr (.ints r.st.got),.arr (.sts r.past),.arr (.ints r.knows)])⟩
theorem Zas.X:XF Zas:=mkF (zCh) fun (a0,a1,a2,()) hp=>by
 obtain ⟨p0,p1,p2,-⟩:=hp
 obtain ⟨p0b,p0s,p0l,p0p,p0k,p0q⟩:=id p0
 obtain ⟨p0s1,p0s2,p0s3,p0s4,p0s5⟩:=id p0s
 dsimp only [Zas]
 refine May.iff (B.eq) (fun h1=>?_) (fun h1=>?_)
 refine May.call ⟨?_,trivial⟩ fun x1 q1=>have q1_0:=q1.1; have q1_1:=q1.2.1; have q1_2:=q1.2.2.1; May.ret ⟨?_,?_,?_,trivial⟩; rotate_left 4
 refine May.iff (B.eq) (fun h2=>?_) (fun h2=>?_)
 refine May.call ⟨?_,?_,?_,trivial⟩ fun x2 q2=>have q2_0:=q2.1; have q2_1:=q2.2.1; have q2_2:=q2.2.2.1; May.ret ⟨?_,?_,?_,trivial⟩; rotate_left 6
 refine May.iff (B.eq) (fun h3=>?_) (fun h3=>?_)
 refine May.call ⟨?_,trivial⟩ fun x3 q3=>have q3_0:=q3.1; have q3_1:=q3.2.1; have q3_2:=q3.2.2.1; May.ret ⟨?_,?_,?_,trivial⟩; rotate_left 4
 refine May.iff (B.eq) (fun h4=>?_) (fun h4=>?_)
 refine May.call ⟨?_,trivial⟩ fun x4 q4=>have q4_0:=q4.1; have q4_1:=q4.2.1; May.iff (Iff.rfl) (fun h5=>?_) (fun h5=>?_); rotate_left 1
 refine May.ret ⟨?_,?_,?_,trivial⟩; rotate_left 3
 refine May.ret ⟨?_,?_,?_,trivial⟩; rotate_left 3
 refine May.lp (B.and (B.eq) (B.or (B.eq) (B.eq))) fun x5 e5=>May.iff (e5) (fun h5=>?_) (fun h5=>?_)
 refine May.call0 trivial fun x6 q6=>have q6_0:=q6.1; have q6_1:=q6.2.1; May.call ⟨?_,?_,trivial⟩ fun x7 q7=>have q7_0:=q7.1; have q7_1:=q7.2.1; have q7_2:=q7.2.2.1; May.ret ⟨?_,?_,?_,trivial⟩; rotate_left 5
 refine May.call ⟨?_,?_,trivial⟩ fun x8 q8=>have q8_0:=q8.1; have q8_1:=q8.2.1; have q8_2:=q8.2.2.1; May.ret ⟨?_,?_,?_,trivial⟩
 all_goals try dsimp only
 all_goals first | with_reducible assumption | omega | (exact chS_r h1 h2 h3 h4 h5 q8_2; done) | (exact chS_b h1 q1_2; done) | (exact chS_k h2 q2_2; done) | (exact chS_s h3 q3_2; done) | (exact chS_m h4 q4_1 (fun _=>rfl) (fun g=>absurd h5 g); done) | (exact chS_m h4 q4_1 (fun g=>absurd g h5) (fun _=>rfl); done) | (exact chS_f h5 q6_1 q7_2; done) | (rw [q8_1]; omega; done) | (rw [q1_1]; omega; done) | (rw [q3_1]; omega; done) | (rw [q7_1]; omega; done) | (exact cin_mk p0 (q4_0 h5) p0s; done)
abbrev Zas.S:=Classical.choose Zas.X
def Zas.c:Ctr:=fc 43 [false,true,false] Zas.L Zas Zas.S
theorem Zas.good:Good Tryz.prog Zas.c:=mkFG (fn:=Tryz.f43) {sh:=[[none,some (.int,3),some (.int,3),none,none,none,none,some (.pkt,46),some (.bool,4),some (.bool,4),some (.int,3),some (.st,75),some (.int,3)]],tk:=[0,1,2,3,4,5,6,7]} Zas.X (consG Zaf.good (consG Zao.good (consG Zag.good (consG Zv.good (consG Zg.good (consG Zai.good (consG Zar.good noG))))))) (by kernel_rfl) (by kernel_rfl) (l0 (by kernel_rfl)) (c0 (by kernel_rfl)) fun s K=>by kernel_rfl
def Zat.L:FL:=fCons (fAgg (cCons (cRow 2 13 78 (cApp cChO cChO) rfl) (cNil))) (fCons (fSh sEv) (fNil))
def Zat:(((Ch)×Ch)×Unit)×Ev×Unit→FR (Ch×Ch):=fun (((a0,a1),()),a2,())=>⟨(CIn a0)∧(CIn a1)∧(a0.knows.length≤900000)∧(a1.knows.length≤900000)∧True,fun X=>And (Imp ((!(Zi.S a2.chain 1 2)) = true) (X (a0,a1))) (Imp ((!(Zi.S a2.chain 1 2)) = false) (Or (Lt (wrap (a2.chain - 1)) fun x1=>And (x1 = (0:Int)) (Lt (wrap (2 - a2.chain)) fun x2=>And (x2 = (1:Int)) (And ((Zas (a0,a1,a2,())).P) (Lt ((Zas.S (a0,a1,a2,()))) fun x3=>And (x1 = (0:Int)) (X (x3,a1)))))) (Lt (wrap (a2.chain - 1)) fun x4=>And (x4 = (1:Int)) (Lt (wrap (2 - a2.chain)) fun x5=>And (x5 = (0:Int)) (And ((Zas (a1,a0,a2,())).P) (Lt ((Zas.S (a1,a0,a2,()))) fun x6=>And (x4 = (1:Int)) (X (a0,x6)))))))),fun r=>(CIn r.1)∧(CIn r.2)∧(r.1.knows.length≤a0.knows.length + 1)∧(r.2.knows.length≤a1.knows.length + 1)∧(DoS a0 a1 a2 r.1 r.2)∧True,fun r=>(.v (.agg [.own 17 13 78]),[.dead,.dead,.dead,.dead,.dead,.dead,.dead,.dead,.dead,.dead,.dead,.dead,.dead,.dead,.dead,.dead,.dead,.raw 2 [.int r.1.id,.own 18 1 3,.own 19 1 3,.int r.1.bank.locked,.int r.1.st.way,.int r.1.st.ver,.int r.1.st.want,.own 20 7 46,.own 21 1 4,.own 22 1 4,.own 23 1 3,.own 24 7 75,.own 25 1 3,.int r.2.id,.own 26 1 3,.own 27 1 3,.int r.2.bank.locked,.int r.2.st.way,.int r.2.st.ver,.int r.2.st.want,.own 28 7 46,.own 29 1 4,.own 30 1 4,.own 31 1 3,.own 32 7 75,.own 33 1 3],.arr (.ints r.1.bank.own),.arr (.ints r.1.bank.notes),.arr (.pkts r.1.st.sent),.arr (.bools r.1.st.live),.arr (.bools r.1.st.back),.arr (.ints r.1.st.got),.arr (.sts r.1.past),.arr (.ints r.1.knows),.arr (.ints r.2.bank.own),.arr (.ints r.2.bank.notes),.arr (.pkts r.2.st.sent),.arr (.bools r.2.st.live),.arr (.bools r.2.st.back),.arr (.ints r.2.st.got),.arr (.sts r.2.past),.arr (.ints r.2.knows)])⟩
theorem Zat.X:XF Zat:=mkF (zCh,zCh) fun (((a0,a1),()),a2,()) hp=>by
 obtain ⟨p0,p1,p2,p3,-⟩:=hp
 dsimp only [Zat]
 refine May.iff (B.not (in_iff)) (fun h1=>?_) (fun h1=>?_)
 refine May.ret ⟨?_,?_,?_,?_,?_,trivial⟩; rotate_left 5
 refine May.alt (c:=a2.chain == 1) (B.eq) (fun h2=>?_) (fun h2=>?_)
 refine May.lw ⟨?_,?_⟩ fun x1 e1=>May.chk ?_ fun c1=>May.lw ⟨?_,?_⟩ fun x2 e2=>May.chk ?_ fun c2=>May.chk ⟨?_,?_,?_,trivial⟩ fun c3=>May.clqe ⟨?_,?_,?_,trivial⟩ fun x3 e3 q3=>have q3_0:=q3.1; have q3_1:=q3.2.1; have q3_2:=q3.2.2.1; May.chk ?_ fun c4=>May.ret ⟨?_,?_,?_,?_,?_,trivial⟩; rotate_left 18
 refine May.lw ⟨?_,?_⟩ fun x4 e4=>May.chk ?_ fun c5=>May.lw ⟨?_,?_⟩ fun x5 e5=>May.chk ?_ fun c6=>May.chk ⟨?_,?_,?_,trivial⟩ fun c7=>May.clqe ⟨?_,?_,?_,trivial⟩ fun x6 e6 q6=>have q6_0:=q6.1; have q6_1:=q6.2.1; have q6_2:=q6.2.2.1; May.chk ?_ fun c8=>May.ret ⟨?_,?_,?_,?_,?_,trivial⟩
 all_goals try dsimp only
 all_goals first | with_reducible assumption | omega | (exact ⟨fun g=>absurd g h2,fun _=>⟨q6_2,rfl⟩,fun g=>absurd g h1⟩; done) | (exact ⟨fun g=>by omega,fun g=>by omega,fun _=>⟨rfl,rfl⟩⟩; done) | (exact ⟨fun _=>⟨q3_2,rfl⟩,fun g=>by omega,fun g=>absurd h2 (by omega)⟩; done)
abbrev Zat.S:=Classical.choose Zat.X
def Zat.c:Ctr:=fc 23 [false,false] Zat.L Zat Zat.S
theorem Zat.good:Good Tryz.prog Zat.c:=mkFG (fn:=Tryz.f23) {sp:=[(3,[[(20,0),(27,1),(31,0)],[(20,1),(27,0),(31,1)]])],sh:=[[some (.ch,78)]],tk:=[0,1,2,3,4,5,6,7,8,9,10,11,12,13,14,15,16]} Zat.X (consG Zi.good (consG Zas.good noG)) (by kernel_rfl) (by kernel_rfl) (l0 (by kernel_rfl)) (c0 (by kernel_rfl)) fun s K=>by kernel_rfl
end
end Hw
end Go.Proofs.YtklmllaggigkfaaGreat
