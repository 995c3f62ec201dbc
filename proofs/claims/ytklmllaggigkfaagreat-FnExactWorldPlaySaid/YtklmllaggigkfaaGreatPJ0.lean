/- Plain bounds: made by gen.py. -/
import Derived.Test.YtklmllaggigkfaaGreatPZ0
import Derived.Test.YtklmllaggigkfaaGreatPX27
set_option linter.unusedVariables false
set_option linter.unusedSimpArgs false
set_option maxRecDepth 100000
set_option maxHeartbeats 400000
namespace Go.Proofs.YtklmllaggigkfaaGreat
namespace Hw
open Go
noncomputable section
attribute [local irreducible] evFn evBody wrap wxor
def PIn (p:Pkt):Prop:=(1≤p.frm∧p.frm≤3)∧(0≤p.to∧p.to≤3)
def SIn (s:St):Prop:=s.sent.length≤8∧s.live.length = s.sent.length∧s.back.length = s.sent.length∧s.got.length = 8∧∀k,k < s.sent.length→PIn (s.sent.getD k zPkt)
def BIn (b:Bk):Prop:=b.own.length = 3∧b.notes.length = 3∧inI b.locked
theorem wrap_inI (n:Int):inI (wrap n):=by
 have e1:(2:Int) ^ IntKind.i64.bits = 18446744073709551616:=by decide
 have e2:(2:Int) ^ (IntKind.i64.bits - 1) = 9223372036854775808:=by decide
 unfold inI wrap IntKind.wrap
 simp only [Bool.and_eq_true,decide_eq_true_eq,ge_iff_le]
 simp only [e1,e2,show IntKind.i64.signed = true from rfl,true_and]
 split <;> omega
theorem bin_rows {b c:Bk} (h:BIn b) (h':BIn c):BIn ⟨b.own,b.notes,c.locked⟩:=⟨h.1,h.2.1,h'.2.2⟩
theorem bin_mk {o n:List Int} {l:Int} (ho:o.length = 3) (hn:n.length = 3) (hl:inI l):BIn ⟨o,n,l⟩:=⟨ho,hn,hl⟩
def CIn (c:Ch):Prop:=BIn c.bank∧SIn c.st∧c.past.length≤90∧(∀k,k < c.past.length→SIn (c.past.getD k zSt))∧c.knows.length≤1000000∧∀k,k < c.knows.length→1≤c.knows.getD k 0
theorem user_iff {n:Int}:Zc.S n = true↔1≤n∧n≤3:=in_iff
theorem take_snoc {α:Type} {l:List α} {d:α} {i:Int} (h0:0≤i) (h:i < (l.length:Int)):l.take i.toNat ++ [l.getD i.toNat d] = l.take (i + 1).toNat:=by
 have h':i.toNat < l.length:=by omega
 rw [show (i + 1).toNat = i.toNat + 1 by omega,List.take_add_one,List.getD_eq_getElem?_getD,List.getElem?_eq_getElem h']
 rfl
theorem take_all {α:Type} {l:List α} {i:Int} (h:¬ i < (l.length:Int)):l.take i.toNat = l:=List.take_of_length_le (by omega)
end
end Hw
end Go.Proofs.YtklmllaggigkfaaGreat
set_option linter.unusedVariables false
set_option linter.unusedSimpArgs false
set_option maxRecDepth 100000
set_option maxHeartbeats 400000
namespace Go.Proofs.YtklmllaggigkfaaGreat
namespace Hw
open Go
noncomputable section
attribute [local irreducible] evFn evBody wrap wxor
def Zf.L:FL:=fNil
def Zf:Unit→FR (Bk):=fun ()=>⟨True,fun X=>X (⟨[10,10,10],[0,0,0],0⟩:Bk),fun r=>(BIn r)∧(r = ⟨[10,10,10],[0,0,0],0⟩)∧True,fun r=>(.v (.agg [.own 0 1 3,.own 1 1 3,.int r.locked]),[.arr (.ints r.own),.arr (.ints r.notes)])⟩
theorem Zf.X:XF Zf:=mkF (zBk) fun () hp=>by
 clear hp
 dsimp only [Zf]
 refine May.ret ⟨?_,?_,trivial⟩
 all_goals try dsimp only
 all_goals first | with_reducible assumption | omega | rfl | assumption | (simp only [List.length_append,List.length_cons,List.length_nil,List.length_set,List.length_replicate,Int.natCast_add,Int.natCast_one] at *; omega) | grind [BIn,inI]
abbrev Zf.S:=Classical.choose Zf.X
def Zf.c:Ctr:=fc0 75 [] Zf.L Zf Zf.S
theorem Zf.good:Good Tryz.prog Zf.c:=mkFG0 (fn:=Tryz.f75) {sh:=[[some (.int,3),some (.int,3),none]]} Zf.X noG (by kernel_rfl) (by kernel_rfl) (l0 (by kernel_rfl)) (c0 (by kernel_rfl)) (fun _=>trivial) fun s K=>by kernel_rfl
def Zg.L:FL:=fNil
def Zg:Unit→FR (St):=fun ()=>⟨True,fun X=>And ((8:Int) = 8∧(0:Int)≤8∧(8:Int)≤4294967296) (X (⟨0,1,0,[],[],[],List.replicate 8 0⟩:St)),fun r=>(SIn r)∧(r = ⟨0,1,0,[],[],[],List.replicate 8 0⟩)∧True,fun r=>(.v (.agg [.int r.way,.int r.ver,.int r.want,.own 0 7 46,.own 1 1 4,.own 2 1 4,.own 3 1 3]),[.arr (.pkts r.sent),.arr (.bools r.live),.arr (.bools r.back),.arr (.ints r.got)])⟩
theorem Zg.X:XF Zg:=mkF (zSt) fun () hp=>by
 clear hp
 dsimp only [Zg]
 refine May.chk ?_ fun c1=>May.ret ⟨?_,?_,trivial⟩
 all_goals try dsimp only
 all_goals first | with_reducible assumption | omega | (refine ⟨by decide,by decide,by decide,by decide,fun k hk=>?_⟩; exact absurd hk (Nat.not_lt_zero k); done) | rfl | assumption | (simp only [List.length_append,List.length_cons,List.length_nil,List.length_set,List.length_replicate,Int.natCast_add,Int.natCast_one] at *; omega) | grind
abbrev Zg.S:=Classical.choose Zg.X
def Zg.c:Ctr:=fc0 76 [] Zg.L Zg Zg.S
theorem Zg.good:Good Tryz.prog Zg.c:=mkFG0 (fn:=Tryz.f76) {sh:=[[none,none,none,some (.pkt,46),some (.bool,4),some (.bool,4),some (.int,3)]]} Zg.X noG (by kernel_rfl) (by kernel_rfl) (l0 (by kernel_rfl)) (c0 (by kernel_rfl)) (fun _=>trivial) fun s K=>by kernel_rfl
def newC (i:Int):Ch:=⟨i,⟨[10,10,10],[0,0,0],0⟩,⟨0,1,0,[],[],[],List.replicate 8 0⟩,[],[]⟩
def Zh.L:FL:=fCons (fSh sInt) (fNil)
def Zh:Int×Unit→FR (Ch×Bool):=fun (a0,())=>⟨True,fun X=>And (Imp ((!(Zi.S a0 1 2)) = true) (X ((⟨0,(⟨[],[],0⟩:Bk),(⟨0,0,0,[],[],[],[]⟩:St),[],[]⟩:Ch),false))) (Imp ((!(Zi.S a0 1 2)) = false) (Call0 Zf.X () fun x1=>Call0 Zg.X () fun x2=>X ((⟨a0,x1,x2,[],[]⟩:Ch),true))),fun r=>(1≤a0∧a0≤2→CIn r.1∧r.1 = newC a0)∧True,fun r=>(.tup [.agg [.int r.1.id,.own 0 1 3,.own 1 1 3,.int r.1.bank.locked,.int r.1.st.way,.int r.1.st.ver,.int r.1.st.want,.own 2 7 46,.own 3 1 4,.own 4 1 4,.own 5 1 3,.own 6 7 75,.own 7 1 3],.c (.bool r.2)],[.arr (.ints r.1.bank.own),.arr (.ints r.1.bank.notes),.arr (.pkts r.1.st.sent),.arr (.bools r.1.st.live),.arr (.bools r.1.st.back),.arr (.ints r.1.st.got),.arr (.sts r.1.past),.arr (.ints r.1.knows)])⟩
theorem Zh.X:XF Zh:=mkF (zCh,false) fun (a0,()) hp=>by
 clear hp
 dsimp only [Zh]
 refine May.iff (B.not (in_iff)) (fun h1=>?_) (fun h1=>?_)
 refine May.ret ⟨?_,trivial⟩; rotate_left 1
 refine May.call0 trivial fun x1 q1=>have q1_0:=q1.1; have q1_1:=q1.2.1; May.call0 trivial fun x2 q2=>have q2_0:=q2.1; have q2_1:=q2.2.1; May.ret ⟨?_,trivial⟩
 all_goals try dsimp only
 all_goals first | with_reducible assumption | omega | rfl | assumption | (simp only [List.length_append,List.length_cons,List.length_nil,List.length_set,List.length_replicate,Int.natCast_add,Int.natCast_one] at *; omega) | grind [CIn,newC]
abbrev Zh.S:=Classical.choose Zh.X
def Zh.c:Ctr:=fc0 42 [false] Zh.L Zh Zh.S
theorem Zh.good:Good Tryz.prog Zh.c:=mkFG0 (fn:=Tryz.f42) {sh:=[[none,some (.int,3),some (.int,3),none,none,none,none,some (.pkt,46),some (.bool,4),some (.bool,4),some (.int,3),some (.st,75),some (.int,3)],[]]} Zh.X (consG Zi.good (consG Zf.good (consG Zg.good noG))) (by kernel_rfl) (by kernel_rfl) (l0 (by kernel_rfl)) (c0 (by kernel_rfl)) (fun _=>trivial) fun s K=>by kernel_rfl
def Zj.L:FL:=fNil
def Zj:Unit→FR (Ch×Ch):=fun ()=>⟨True,fun X=>Call0 Zh.X (1,()) fun x1=>Call0 Zh.X (2,()) fun x2=>X (x1.1,x2.1),fun r=>(CIn r.1)∧(CIn r.2)∧(r.1 = newC 1)∧(r.2 = newC 2)∧True,fun r=>(.v (.agg [.own 0 13 78]),[.raw 2 [.int r.1.id,.own 1 1 3,.own 2 1 3,.int r.1.bank.locked,.int r.1.st.way,.int r.1.st.ver,.int r.1.st.want,.own 3 7 46,.own 4 1 4,.own 5 1 4,.own 6 1 3,.own 7 7 75,.own 8 1 3,.int r.2.id,.own 9 1 3,.own 10 1 3,.int r.2.bank.locked,.int r.2.st.way,.int r.2.st.ver,.int r.2.st.want,.own 11 7 46,.own 12 1 4,.own 13 1 4,.own 14 1 3,.own 15 7 75,.own 16 1 3],.arr (.ints r.1.bank.own),.arr (.ints r.1.bank.notes),.arr (.pkts r.1.st.sent),.arr (.bools r.1.st.live),.arr (.bools r.1.st.back),.arr (.ints r.1.st.got),.arr (.sts r.1.past),.arr (.ints r.1.knows),.arr (.ints r.2.bank.own),.arr (.ints r.2.bank.notes),.arr (.pkts r.2.st.sent),.arr (.bools r.2.st.live),.arr (.bools r.2.st.back),.arr (.ints r.2.st.got),.arr (.sts r.2.past),.arr (.ints r.2.knows)])⟩
theorem Zj.X:XF Zj:=mkF (zCh,zCh) fun () hp=>by
 clear hp
 dsimp only [Zj]
 refine May.call0 trivial fun x1 q1=>have q1:=q1.1; May.call0 trivial fun x2 q2=>have q2:=q2.1; May.ret ⟨?_,?_,?_,?_,trivial⟩
 all_goals try dsimp only
 all_goals first | with_reducible assumption | omega | rfl | assumption | (simp only [List.length_append,List.length_cons,List.length_nil,List.length_set,List.length_replicate,Int.natCast_add,Int.natCast_one] at *; omega) | grind
abbrev Zj.S:=Classical.choose Zj.X
def Zj.c:Ctr:=fc0 22 [] Zj.L Zj Zj.S
theorem Zj.good:Good Tryz.prog Zj.c:=mkFG0 (fn:=Tryz.f22) {sh:=[[some (.ch,78)]]} Zj.X (consG Zh.good noG) (by kernel_rfl) (by kernel_rfl) (l0 (by kernel_rfl)) (c0 (by kernel_rfl)) (fun _=>trivial) fun s K=>by kernel_rfl
def Zk.L:FL:=fCons (fSh sSt) (fNil)
def Zk:St×Unit→FR (St):=fun (a0,())=>⟨(a0.sm)∧True,fun X=>And (([] ++ a0.sent).length≤4294967296) (And (([] ++ a0.live).length≤4294967296) (And (([] ++ a0.back).length≤4294967296) (And (([] ++ a0.got).length≤4294967296) (X (⟨a0.way,a0.ver,a0.want,([] ++ a0.sent),([] ++ a0.live),([] ++ a0.back),([] ++ a0.got)⟩:St))))),fun r=>(r = a0)∧True,fun r=>(.v (.agg [.int r.way,.int r.ver,.int r.want,.own 0 7 46,.own 1 1 4,.own 2 1 4,.own 3 1 3]),[.arr (.pkts r.sent),.arr (.bools r.live),.arr (.bools r.back),.arr (.ints r.got)])⟩
theorem Zk.X:XF Zk:=mkF (zSt) fun (a0,()) hp=>by
 obtain ⟨p0,-⟩:=hp
 dsimp only [Zk]
 refine May.chk ?_ fun c1=>May.chk ?_ fun c2=>May.chk ?_ fun c3=>May.chk ?_ fun c4=>May.ret ⟨?_,trivial⟩
 all_goals try dsimp only
 all_goals first | with_reducible assumption | omega | rfl | assumption | (simp only [List.length_append,List.length_cons,List.length_nil,List.length_set,List.length_replicate,Int.natCast_add,Int.natCast_one] at *; omega) | grind [St.sm]
abbrev Zk.S:=Classical.choose Zk.X
def Zk.c:Ctr:=fc 111 [true] Zk.L Zk Zk.S
theorem Zk.good:Good Tryz.prog Zk.c:=mkFG (fn:=Tryz.f111) {sh:=[[none,none,none,some (.pkt,46),some (.bool,4),some (.bool,4),some (.int,3)]]} Zk.X noG (by kernel_rfl) (by kernel_rfl) (l0 (by kernel_rfl)) (c0 (by kernel_rfl)) fun s K=>by kernel_rfl
def Zl.L:FL:=fCons (fSh sBk) (fNil)
def Zl:Bk×Unit→FR (Bk):=fun (a0,())=>⟨(a0.sm)∧True,fun X=>And (([] ++ a0.own).length≤4294967296) (And (([] ++ a0.notes).length≤4294967296) (X (⟨([] ++ a0.own),([] ++ a0.notes),a0.locked⟩:Bk))),fun r=>(r = a0)∧True,fun r=>(.v (.agg [.own 0 1 3,.own 1 1 3,.int r.locked]),[.arr (.ints r.own),.arr (.ints r.notes)])⟩
theorem Zl.X:XF Zl:=mkF (zBk) fun (a0,()) hp=>by
 obtain ⟨p0,-⟩:=hp
 dsimp only [Zl]
 refine May.chk ?_ fun c1=>May.chk ?_ fun c2=>May.ret ⟨?_,trivial⟩
 all_goals try dsimp only
 all_goals first | with_reducible assumption | omega | rfl | assumption | (simp only [List.length_append,List.length_cons,List.length_nil,List.length_set,List.length_replicate,Int.natCast_add,Int.natCast_one] at *; omega) | grind [Bk.sm]
abbrev Zl.S:=Classical.choose Zl.X
def Zl.c:Ctr:=fc 112 [true] Zl.L Zl Zl.S
theorem Zl.good:Good Tryz.prog Zl.c:=mkFG (fn:=Tryz.f112) {sh:=[[some (.int,3),some (.int,3),none]]} Zl.X noG (by kernel_rfl) (by kernel_rfl) (l0 (by kernel_rfl)) (c0 (by kernel_rfl)) fun s K=>by kernel_rfl
end
end Hw
end Go.Proofs.YtklmllaggigkfaaGreat
set_option linter.unusedVariables false
set_option linter.unusedSimpArgs false
set_option maxRecDepth 100000
set_option maxHeartbeats 400000
namespace Go.Proofs.YtklmllaggigkfaaGreat
namespace Hw
open Go
noncomputable section
attribute [local irreducible] evFn evBody wrap wxor
def lstK (b:Bk) (k:Int):List Int:=if k = 1 then b.own else b.notes
def awayW (b:Bk) (k f s:Int):Bk:=if k = 1 then ⟨b.own.set (f - 1).toNat (wrap (b.own.getD (f - 1).toNat 0 - s)),b.notes,wrap (b.locked + s)⟩ else ⟨b.own,b.notes.set (f - 1).toNat (wrap (b.notes.getD (f - 1).toNat 0 - s)),b.locked⟩
abbrev AwW (b:Bk) (k f s:Int) (r:Bk) (t:Bool):Prop:=(t = true↔¬ (lstK b k).getD (f - 1).toNat 0 < s)∧(t = true→r = awayW b k f s)∧(¬ t = true→r = b)
def backW (b:Bk) (k f s:Int):Bk:=if k = 1 then ⟨b.own.set (f - 1).toNat (wrap (b.own.getD (f - 1).toNat 0 + s)),b.notes,wrap (b.locked - s)⟩ else ⟨b.own,b.notes.set (f - 1).toNat (wrap (b.notes.getD (f - 1).toNat 0 + s)),b.locked⟩
abbrev BkW (b:Bk) (k f s:Int) (r:Bk) (t:Bool):Prop:=(t = true↔¬ (k = 1∧b.locked < s∨k = 2∧wrap (Zu.S b.notes + s) > 30))∧(t = true→r = backW b k f s)∧(¬ t = true→r = b)
theorem aww_f1 {k f s i:Int} {b:Bk} {n:List Int} (hk:k = 1) (e:i = f - 1) (h:b.own.getD i.toNat 0 < s) (hn:n = b.notes):AwW b k f s ⟨b.own,n,b.locked⟩ false:=by
 subst hn
 refine ⟨⟨fun g=>(by cases g),fun g=>?_⟩,fun g=>(by cases g),fun _=>rfl⟩
 unfold lstK at g
 rw [if_pos hk,← e] at g
 exact absurd h g
theorem aww_f2 {k f s i:Int} {b:Bk} {n:List Int} (hk:¬ k = 1) (e:i = f - 1) (h:b.notes.getD i.toNat 0 < s) (hn:n = b.own):AwW b k f s ⟨n,b.notes,b.locked⟩ false:=by
 subst hn
 refine ⟨⟨fun g=>(by cases g),fun g=>?_⟩,fun g=>(by cases g),fun _=>rfl⟩
 unfold lstK at g
 rw [if_neg hk,← e] at g
 exact absurd h g
theorem aww_t1 {k f s i:Int} {b:Bk} {n:List Int} (hk:k = 1) (e:i = f - 1) (h:¬ b.own.getD i.toNat 0 < s) (hn:n = b.notes):AwW b k f s ⟨b.own.set i.toNat (wrap (b.own.getD i.toNat 0 - s)),n,wrap (b.locked + s)⟩ true:=by
 subst hn e
 refine ⟨⟨fun _=>?_,fun _=>rfl⟩,fun _=>?_,fun g=>absurd rfl g⟩
 ·unfold lstK
  rw [if_pos hk]
  exact h
 ·unfold awayW
  rw [if_pos hk]
theorem aww_t2 {k f s i:Int} {b:Bk} {n:List Int} (hk:¬ k = 1) (e:i = f - 1) (h:¬ b.notes.getD i.toNat 0 < s) (hn:n = b.own):AwW b k f s ⟨n,b.notes.set i.toNat (wrap (b.notes.getD i.toNat 0 - s)),b.locked⟩ true:=by
 subst hn e
 refine ⟨⟨fun _=>?_,fun _=>rfl⟩,fun _=>?_,fun g=>absurd rfl g⟩
 ·unfold lstK
  rw [if_neg hk]
  exact h
 ·unfold awayW
  rw [if_neg hk]
theorem bkw_f {k f s:Int} {b:Bk} (h:k = 1∧b.locked < s∨k = 2∧wrap (Zu.S b.notes + s) > 30):BkW b k f s b false:=⟨⟨fun g=>(by cases g),fun g=>absurd h g⟩,fun g=>(by cases g),fun _=>rfl⟩
theorem bkw_t1 {k f s i:Int} {b:Bk} {n:List Int} (h:¬ (k = 1∧b.locked < s∨k = 2∧wrap (Zu.S b.notes + s) > 30)) (hk:k = 1) (e:i = f - 1) (hn:n = b.notes):BkW b k f s ⟨b.own.set i.toNat (wrap (b.own.getD i.toNat 0 + s)),n,wrap (b.locked - s)⟩ true:=by
 subst hn e
 refine ⟨⟨fun _=>h,fun _=>rfl⟩,fun _=>?_,fun g=>absurd rfl g⟩
 unfold backW
 rw [if_pos hk]
theorem bkw_t2 {k f s i:Int} {b:Bk} {n:List Int} (h:¬ (k = 1∧b.locked < s∨k = 2∧wrap (Zu.S b.notes + s) > 30)) (hk:¬ k = 1) (e:i = f - 1) (hn:n = b.own):BkW b k f s ⟨n,b.notes.set i.toNat (wrap (b.notes.getD i.toNat 0 + s)),b.locked⟩ true:=by
 subst hn e
 refine ⟨⟨fun _=>h,fun _=>rfl⟩,fun _=>?_,fun g=>absurd rfl g⟩
 unfold backW
 rw [if_neg hk]
def Zo.S (a0:Bk) (a1:Int):(List Int):=(a0.notes)
def Zo.enc (a0:Bk) (a1:Int) (r:(List Int)):AV×List Blk:=(.v (.c (.own 0 1 3)),[.arr (.ints a0.own),.arr (.ints r)])
def Zo.P (a0:Bk) (a1:Int):Prop:=(a1 = 1)
def Zo.L:FL:=fCons (fAgg cBkO) (fCons (fSh sInt) (fNil))
def Zo.c:Ctr:=hctr 143 [false,false] Zo.L (some fun s=>Zo.P s.1 s.2.1) (fun s=>Zo.enc s.1 s.2.1 (Zo.S s.1 s.2.1))
theorem Zo.w (a0:Bk) (a1:Int) (K:AV→List Blk→Prop):evFn (envS [] []) [] [[some (.int,3)]] [] Tryz.f143 (Zo.L.inp (a0,(a1,()))).1 (Zo.L.inp (a0,(a1,()))).2 K = (And (Imp ((a1 == 1) = true) (K (.v (.c (.own 0 1 3))) ([.arr (.ints a0.own),.arr (.ints a0.notes)]))) (Imp ((a1 == 1) = false) (K (.v (.c (.own 1 1 3))) ([.arr (.ints a0.own),.arr (.ints a0.notes)])))):=by kernel_rfl
theorem Zo.v (a0:Bk) (a1:Int) (hp:Zo.P a0 a1) (K:AV→List Blk→Prop) (hK:K (Zo.enc a0 a1 (Zo.S a0 a1)).1 (Zo.enc a0 a1 (Zo.S a0 a1)).2):And (Imp ((a1 == 1) = true) (K (.v (.c (.own 0 1 3))) ([.arr (.ints a0.own),.arr (.ints a0.notes)]))) (Imp ((a1 == 1) = false) (K (.v (.c (.own 1 1 3))) ([.arr (.ints a0.own),.arr (.ints a0.notes)]))):=by
 simp only [Zo.P] at hp
 refine ⟨fun h1=>?_,fun h1=>?_⟩
 ·have e:Zo.S a0 a1 = (a0.notes):=by unfold Zo.S; exact rfl
  rw [e] at hK
  exact hK
 ·exfalso; grind
theorem Zo.good:Good Tryz.prog Zo.c :=
 hgood (sh:=[[some (.int,3)]]) (tk:=[]) (sp:=[]) (LL:=[]) noG (fn:=Tryz.f143) (by kernel_rfl) (by kernel_rfl) (by rw [show loopsOf (bodyOf Tryz.f143) = [] from by kernel_rfl]; exact noL rfl) fun s hp=>by
  exact Eq.mpr (Zo.w s.1 s.2.1 (fun r bs'=>And (r = (Zo.c.out s).1) (bs' = (Zo.c.out s).2))) (Zo.v s.1 s.2.1 (hp _ rfl) (fun r bs'=>And (r = (Zo.c.out s).1) (bs' = (Zo.c.out s).2)) ⟨rfl,rfl⟩)
def Zp.S (a0:Bk) (a1:Int):(List Int):=(a0.own)
def Zp.enc (a0:Bk) (a1:Int) (r:(List Int)):AV×List Blk:=(.v (.c (.own 1 1 3)),[.arr (.ints r),.arr (.ints a0.notes)])
def Zp.P (a0:Bk) (a1:Int):Prop:=(a1≠1)
def Zp.L:FL:=fCons (fAgg cBkO) (fCons (fSh sInt) (fNil))
def Zp.c:Ctr:=hctr 143 [false,false] Zp.L (some fun s=>Zp.P s.1 s.2.1) (fun s=>Zp.enc s.1 s.2.1 (Zp.S s.1 s.2.1))
theorem Zp.w (a0:Bk) (a1:Int) (K:AV→List Blk→Prop):evFn (envS [] []) [] [[some (.int,3)]] [] Tryz.f143 (Zp.L.inp (a0,(a1,()))).1 (Zp.L.inp (a0,(a1,()))).2 K = (And (Imp ((a1 == 1) = true) (K (.v (.c (.own 0 1 3))) ([.arr (.ints a0.own),.arr (.ints a0.notes)]))) (Imp ((a1 == 1) = false) (K (.v (.c (.own 1 1 3))) ([.arr (.ints a0.own),.arr (.ints a0.notes)])))):=by kernel_rfl
theorem Zp.v (a0:Bk) (a1:Int) (hp:Zp.P a0 a1) (K:AV→List Blk→Prop) (hK:K (Zp.enc a0 a1 (Zp.S a0 a1)).1 (Zp.enc a0 a1 (Zp.S a0 a1)).2):And (Imp ((a1 == 1) = true) (K (.v (.c (.own 0 1 3))) ([.arr (.ints a0.own),.arr (.ints a0.notes)]))) (Imp ((a1 == 1) = false) (K (.v (.c (.own 1 1 3))) ([.arr (.ints a0.own),.arr (.ints a0.notes)]))):=by
 simp only [Zp.P] at hp
 refine ⟨fun h1=>?_,fun h1=>?_⟩
 ·exfalso; grind
 ·have e:Zp.S a0 a1 = (a0.own):=by unfold Zp.S; exact rfl
  rw [e] at hK
  exact hK
theorem Zp.good:Good Tryz.prog Zp.c :=
 hgood (sh:=[[some (.int,3)]]) (tk:=[]) (sp:=[]) (LL:=[]) noG (fn:=Tryz.f143) (by kernel_rfl) (by kernel_rfl) (by rw [show loopsOf (bodyOf Tryz.f143) = [] from by kernel_rfl]; exact noL rfl) fun s hp=>by
  exact Eq.mpr (Zp.w s.1 s.2.1 (fun r bs'=>And (r = (Zp.c.out s).1) (bs' = (Zp.c.out s).2))) (Zp.v s.1 s.2.1 (hp _ rfl) (fun r bs'=>And (r = (Zp.c.out s).1) (bs' = (Zp.c.out s).2)) ⟨rfl,rfl⟩)
def Zq.S (a0:Bk) (a1:Int):(List Int):=(a0.own)
def Zq.enc (a0:Bk) (a1:Int) (r:(List Int)):AV×List Blk:=(.v (.c (.arr false (.ints r))),[])
def Zq.P (a0:Bk) (a1:Int):Prop:=(a1 = 1)
def Zq.L:FL:=fCons (fAgg (cBk false)) (fCons (fSh sInt) (fNil))
def Zq.c:Ctr:=hctr 143 [false,false] Zq.L (some fun s=>Zq.P s.1 s.2.1) (fun s=>Zq.enc s.1 s.2.1 (Zq.S s.1 s.2.1))
theorem Zq.w (a0:Bk) (a1:Int) (K:AV→List Blk→Prop):evFn (envS [] []) [] [] [] Tryz.f143 (Zq.L.inp (a0,(a1,()))).1 (Zq.L.inp (a0,(a1,()))).2 K = (And (Imp ((a1 == 1) = true) (K (.v (.c (.arr false (.ints a0.own)))) ([]))) (Imp ((a1 == 1) = false) (K (.v (.c (.arr false (.ints a0.notes)))) ([])))):=by kernel_rfl
theorem Zq.v (a0:Bk) (a1:Int) (hp:Zq.P a0 a1) (K:AV→List Blk→Prop) (hK:K (Zq.enc a0 a1 (Zq.S a0 a1)).1 (Zq.enc a0 a1 (Zq.S a0 a1)).2):And (Imp ((a1 == 1) = true) (K (.v (.c (.arr false (.ints a0.own)))) ([]))) (Imp ((a1 == 1) = false) (K (.v (.c (.arr false (.ints a0.notes)))) ([]))):=by
 simp only [Zq.P] at hp
 refine ⟨fun h1=>?_,fun h1=>?_⟩
 ·have e:Zq.S a0 a1 = (a0.own):=by unfold Zq.S; exact rfl
  rw [e] at hK
  exact hK
 ·exfalso; grind
theorem Zq.good:Good Tryz.prog Zq.c :=
 hgood (sh:=[]) (tk:=[]) (sp:=[]) (LL:=[]) noG (fn:=Tryz.f143) (by kernel_rfl) (by kernel_rfl) (by rw [show loopsOf (bodyOf Tryz.f143) = [] from by kernel_rfl]; exact noL rfl) fun s hp=>by
  exact Eq.mpr (Zq.w s.1 s.2.1 (fun r bs'=>And (r = (Zq.c.out s).1) (bs' = (Zq.c.out s).2))) (Zq.v s.1 s.2.1 (hp _ rfl) (fun r bs'=>And (r = (Zq.c.out s).1) (bs' = (Zq.c.out s).2)) ⟨rfl,rfl⟩)
def Zr.S (a0:Bk) (a1:Int):(List Int):=(a0.notes)
def Zr.enc (a0:Bk) (a1:Int) (r:(List Int)):AV×List Blk:=(.v (.c (.arr false (.ints r))),[])
def Zr.P (a0:Bk) (a1:Int):Prop:=(a1≠1)
def Zr.L:FL:=fCons (fAgg (cBk false)) (fCons (fSh sInt) (fNil))
def Zr.c:Ctr:=hctr 143 [false,false] Zr.L (some fun s=>Zr.P s.1 s.2.1) (fun s=>Zr.enc s.1 s.2.1 (Zr.S s.1 s.2.1))
theorem Zr.w (a0:Bk) (a1:Int) (K:AV→List Blk→Prop):evFn (envS [] []) [] [] [] Tryz.f143 (Zr.L.inp (a0,(a1,()))).1 (Zr.L.inp (a0,(a1,()))).2 K = (And (Imp ((a1 == 1) = true) (K (.v (.c (.arr false (.ints a0.own)))) ([]))) (Imp ((a1 == 1) = false) (K (.v (.c (.arr false (.ints a0.notes)))) ([])))):=by kernel_rfl
theorem Zr.v (a0:Bk) (a1:Int) (hp:Zr.P a0 a1) (K:AV→List Blk→Prop) (hK:K (Zr.enc a0 a1 (Zr.S a0 a1)).1 (Zr.enc a0 a1 (Zr.S a0 a1)).2):And (Imp ((a1 == 1) = true) (K (.v (.c (.arr false (.ints a0.own)))) ([]))) (Imp ((a1 == 1) = false) (K (.v (.c (.arr false (.ints a0.notes)))) ([]))):=by
 simp only [Zr.P] at hp
 refine ⟨fun h1=>?_,fun h1=>?_⟩
 ·exfalso; grind
 ·have e:Zr.S a0 a1 = (a0.notes):=by unfold Zr.S; exact rfl
  rw [e] at hK
  exact hK
theorem Zr.good:Good Tryz.prog Zr.c :=
 hgood (sh:=[]) (tk:=[]) (sp:=[]) (LL:=[]) noG (fn:=Tryz.f143) (by kernel_rfl) (by kernel_rfl) (by rw [show loopsOf (bodyOf Tryz.f143) = [] from by kernel_rfl]; exact noL rfl) fun s hp=>by
  exact Eq.mpr (Zr.w s.1 s.2.1 (fun r bs'=>And (r = (Zr.c.out s).1) (bs' = (Zr.c.out s).2))) (Zr.v s.1 s.2.1 (hp _ rfl) (fun r bs'=>And (r = (Zr.c.out s).1) (bs' = (Zr.c.out s).2)) ⟨rfl,rfl⟩)
def Zs.L:FL:=fCons (fAgg cBkO) (fCons (fSh sInt) (fCons (fSh sInt) (fCons (fSh sInt) (fNil))))
def Zs:Bk×Int×Int×Int×Unit→FR (Bk×Bool):=fun (a0,a1,a2,a3,())=>⟨(BIn a0)∧(1≤a2∧a2≤3)∧True,fun X=>Or (And (Zo.P a0 a1) (Lt (wrap (a2 - 1)) fun x1=>And ((0:Int)≤x1∧x1 < (a0.own.length:Int)) (And ((x1).toNat < a0.own.length) (And (Imp ((decide ((a0.own.getD (x1).toNat 0) < a3)) = true) (X ((⟨a0.own,(Zo.S a0 a1),a0.locked⟩:Bk),false))) (Imp ((decide ((a0.own.getD (x1).toNat 0) < a3)) = false) (And ((0:Int)≤x1∧x1 < (a0.own.length:Int)) (And ((x1).toNat < a0.own.length) (And ((0:Int)≤x1∧x1 < (a0.own.length:Int)) (And ((x1).toNat < a0.own.length) (And (Imp ((a1 == 1) = true) (X ((⟨a0.own.set (x1).toNat (wrap ((a0.own.getD (x1).toNat 0) - a3)),(Zo.S a0 a1),wrap (a0.locked + a3)⟩:Bk),true))) (Imp ((a1 == 1) = false) (X ((⟨a0.own.set (x1).toNat (wrap ((a0.own.getD (x1).toNat 0) - a3)),(Zo.S a0 a1),a0.locked⟩:Bk),true))))))))))))) (And (Zp.P a0 a1) (Lt (wrap (a2 - 1)) fun x2=>And ((0:Int)≤x2∧x2 < (a0.notes.length:Int)) (And ((x2).toNat < a0.notes.length) (And (Imp ((decide ((a0.notes.getD (x2).toNat 0) < a3)) = true) (X ((⟨(Zp.S a0 a1),a0.notes,a0.locked⟩:Bk),false))) (Imp ((decide ((a0.notes.getD (x2).toNat 0) < a3)) = false) (And ((0:Int)≤x2∧x2 < (a0.notes.length:Int)) (And ((x2).toNat < a0.notes.length) (And ((0:Int)≤x2∧x2 < (a0.notes.length:Int)) (And ((x2).toNat < a0.notes.length) (And (Imp ((a1 == 1) = true) (X ((⟨(Zp.S a0 a1),a0.notes.set (x2).toNat (wrap ((a0.notes.getD (x2).toNat 0) - a3)),wrap (a0.locked + a3)⟩:Bk),true))) (Imp ((a1 == 1) = false) (X ((⟨(Zp.S a0 a1),a0.notes.set (x2).toNat (wrap ((a0.notes.getD (x2).toNat 0) - a3)),a0.locked⟩:Bk),true))))))))))))),fun r=>(BIn r.1)∧(AwW a0 a1 a2 a3 r.1 r.2)∧True,fun r=>(.tup [.agg [.own 0 1 3,.own 1 1 3,.int r.1.locked],.c (.bool r.2)],[.arr (.ints r.1.own),.arr (.ints r.1.notes)])⟩
theorem Zs.X:XF Zs:=mkF (zBk,false) fun (a0,a1,a2,a3,()) hp=>by
 obtain ⟨p0,p1,-⟩:=hp
 have p2:=p0.1
 have p3:=p0.2.1
 have p4:=p0.2.2
 have p5:=@wrap_inI
 dsimp only [Zs]
 refine May.alt (c:=(a1 == 1)) (B.eq) (fun h1=>?_) (fun h1=>?_)
 refine May.chk ?_ fun c1=>May.lw ⟨?_,?_⟩ fun x1 e1=>May.chk ?_ fun c2=>May.chk ?_ fun c3=>May.iff (B.dec) (fun h2=>?_) (fun h2=>?_); rotate_left 5
 refine May.ret ⟨?_,?_,trivial⟩; rotate_left 2
 refine May.chk ?_ fun c4=>May.chk ?_ fun c5=>May.chk ?_ fun c6=>May.chk ?_ fun c7=>May.iff (B.eq) (fun h3=>?_) (fun h3=>?_); rotate_left 4
 refine May.ret ⟨?_,?_,trivial⟩; rotate_left 2
 refine May.no ?_; rotate_left 1
 refine May.chk ?_ fun c8=>May.lw ⟨?_,?_⟩ fun x2 e2=>May.chk ?_ fun c9=>May.chk ?_ fun c10=>May.iff (B.dec) (fun h2=>?_) (fun h2=>?_); rotate_left 5
 refine May.ret ⟨?_,?_,trivial⟩; rotate_left 2
 refine May.chk ?_ fun c11=>May.chk ?_ fun c12=>May.chk ?_ fun c13=>May.chk ?_ fun c14=>May.iff (B.eq) (fun h3=>?_) (fun h3=>?_); rotate_left 4
 refine May.no ?_; rotate_left 1
 refine May.ret ⟨?_,?_,trivial⟩
 all_goals try dsimp only
 all_goals first | with_reducible assumption | omega | (exact bin_mk (by (try simp only [List.length_set]); assumption) (by (try simp only [List.length_set]); assumption) (by first | exact wrap_inI _ | assumption); done) | (exact h1; done) | (exact aww_f1 h1 e1 h2 rfl; done) | (exact aww_f2 h1 e2 h2 rfl; done) | (exact aww_t1 h1 e1 h2 rfl; done) | (exact aww_t2 h1 e2 h2 rfl; done) | ((simp only [List.length_set]; omega); done) | ((show List.length (_:List Int) = 3; assumption); done) | (exact absurd h1 h3; done) | (exact absurd h3 h1; done) | (exact absurd h2 h3; done) | (exact absurd h3 h2; done)
abbrev Zs.S:=Classical.choose Zs.X
def Zs.c:Ctr:=fc 141 [false,false,false,false] Zs.L Zs Zs.S
theorem Zs.good:Good Tryz.prog Zs.c:=mkFG (fn:=Tryz.f141) {sp:=[(1,[[(13,0)],[(13,1)]])],sh:=[[some (.int,3),some (.int,3),none],[]]} Zs.X (consG Zo.good (consG Zp.good (consG Zq.good (consG Zr.good noG)))) (by kernel_rfl) (by kernel_rfl) (l0 (by kernel_rfl)) (c0 (by kernel_rfl)) fun s K=>by kernel_rfl
def Zt.L:FL:=fCons (fAgg cBkO) (fCons (fSh sInt) (fCons (fSh sInt) (fCons (fSh sInt) (fNil))))
def Zt:Bk×Int×Int×Int×Unit→FR (Bk×Bool):=fun (a0,a1,a2,a3,())=>⟨(BIn a0)∧(1≤a2∧a2≤3)∧True,fun X=>Lt (bif a1 == 1 then decide (a0.locked < a3) else false) fun x1=>Lt (decide ((wrap ((Zu.S a0.notes) + a3)) > 30)) fun x2=>Lt (bif x1 then true else bif a1 == 2 then x2 else false) fun x3=>And (Imp (x3 = true) (X (a0,false))) (Imp (x3 = false) (Or (And (Zo.P a0 a1) (Lt (wrap (a2 - 1)) fun x4=>And ((0:Int)≤x4∧x4 < (a0.own.length:Int)) (And ((x4).toNat < a0.own.length) (And ((0:Int)≤x4∧x4 < (a0.own.length:Int)) (And ((x4).toNat < a0.own.length) (And (Imp ((a1 == 1) = true) (X ((⟨a0.own.set (x4).toNat (wrap ((a0.own.getD (x4).toNat 0) + a3)),(Zo.S a0 a1),wrap (a0.locked - a3)⟩:Bk),true))) (Imp ((a1 == 1) = false) (X ((⟨a0.own.set (x4).toNat (wrap ((a0.own.getD (x4).toNat 0) + a3)),(Zo.S a0 a1),a0.locked⟩:Bk),true))))))))) (And (Zp.P a0 a1) (Lt (wrap (a2 - 1)) fun x5=>And ((0:Int)≤x5∧x5 < (a0.notes.length:Int)) (And ((x5).toNat < a0.notes.length) (And ((0:Int)≤x5∧x5 < (a0.notes.length:Int)) (And ((x5).toNat < a0.notes.length) (And (Imp ((a1 == 1) = true) (X ((⟨(Zp.S a0 a1),a0.notes.set (x5).toNat (wrap ((a0.notes.getD (x5).toNat 0) + a3)),wrap (a0.locked - a3)⟩:Bk),true))) (Imp ((a1 == 1) = false) (X ((⟨(Zp.S a0 a1),a0.notes.set (x5).toNat (wrap ((a0.notes.getD (x5).toNat 0) + a3)),a0.locked⟩:Bk),true))))))))))),fun r=>(BIn r.1)∧(BkW a0 a1 a2 a3 r.1 r.2)∧True,fun r=>(.tup [.agg [.own 0 1 3,.own 1 1 3,.int r.1.locked],.c (.bool r.2)],[.arr (.ints r.1.own),.arr (.ints r.1.notes)])⟩
theorem Zt.X:XF Zt:=mkF (zBk,false) fun (a0,a1,a2,a3,()) hp=>by
 obtain ⟨p0,p1,-⟩:=hp
 have p2:=p0.1
 have p3:=p0.2.1
 have p4:=p0.2.2
 have p5:=@wrap_inI
 dsimp only [Zt]
 refine May.lp (B.and (B.eq) (B.dec)) fun x1 e1=>May.lp (B.dec) fun x2 e2=>May.lp (B.or (e1) (B.and (B.eq) (e2))) fun x3 e3=>May.iff (e3) (fun h1=>?_) (fun h1=>?_)
 refine May.ret ⟨?_,?_,trivial⟩; rotate_left 2
 refine May.alt (c:=(a1 == 1)) (B.eq) (fun h2=>?_) (fun h2=>?_)
 refine May.chk ?_ fun c1=>May.lw ⟨?_,?_⟩ fun x4 e4=>May.chk ?_ fun c2=>May.chk ?_ fun c3=>May.chk ?_ fun c4=>May.chk ?_ fun c5=>May.iff (B.eq) (fun h3=>?_) (fun h3=>?_); rotate_left 7
 refine May.ret ⟨?_,?_,trivial⟩; rotate_left 2
 refine May.no ?_; rotate_left 1
 refine May.chk ?_ fun c6=>May.lw ⟨?_,?_⟩ fun x5 e5=>May.chk ?_ fun c7=>May.chk ?_ fun c8=>May.chk ?_ fun c9=>May.chk ?_ fun c10=>May.iff (B.eq) (fun h3=>?_) (fun h3=>?_); rotate_left 7
 refine May.no ?_; rotate_left 1
 refine May.ret ⟨?_,?_,trivial⟩
 all_goals try dsimp only
 all_goals first | with_reducible assumption | omega | (exact bin_mk (by (try simp only [List.length_set]); assumption) (by (try simp only [List.length_set]); assumption) (by first | exact wrap_inI _ | assumption); done) | (exact h2; done) | (exact bkw_f h1; done) | (exact bkw_t1 h1 h2 e4 rfl; done) | (exact bkw_t2 h1 h2 e5 rfl; done) | ((simp only [List.length_set]; omega); done) | ((show List.length (_:List Int) = 3; assumption); done) | (exact absurd h1 h3; done) | (exact absurd h3 h1; done) | (exact absurd h2 h3; done) | (exact absurd h3 h2; done)
abbrev Zt.S:=Classical.choose Zt.X
def Zt.c:Ctr:=fc 196 [false,false,false,false] Zt.L Zt Zt.S
theorem Zt.good:Good Tryz.prog Zt.c:=mkFG (fn:=Tryz.f196) {sp:=[(3,[[(34,0)],[(34,1)]])],sh:=[[some (.int,3),some (.int,3),none],[]]} Zt.X (consG Zu.good (consG Zo.good (consG Zp.good (consG Zq.good (consG Zr.good noG))))) (by kernel_rfl) (by kernel_rfl) (l0 (by kernel_rfl)) (c0 (by kernel_rfl)) fun s K=>by kernel_rfl
def movL (l:List Int) (f t s:Int):List Int:=(l.set (f - 1).toNat (l.getD (f - 1).toNat 0 - s)).set (t - 1).toNat ((l.set (f - 1).toNat (l.getD (f - 1).toNat 0 - s)).getD (t - 1).toNat 0 + s)
def moveB (b:Bk) (k f t s:Int):Bk:=if k = 1 then ⟨movL b.own f t s,b.notes,b.locked⟩ else ⟨b.own,movL b.notes f t s,b.locked⟩
def MayMove (b:Bk) (k f t s:Int):Prop:=BkOk b∧(k = 1∨k = 2)∧(1≤f∧f≤3)∧(1≤t∧t≤3)∧0≤s∧s≤(lstK b k).getD (f - 1).toNat 0
abbrev MoveQ (b:Bk) (k f t s:Int) (r:Bk) (o:Bool):Prop:=(o = true↔MayMove b k f t s)∧(o = true→r = moveB b k f t s)∧(¬ o = true→r = zBk)
abbrev MvC (b:Bk) (k f t s:Int) (l:List Int) (x:Int):Prop:=((((¬Zw.S b = true∨¬(1≤k∧k≤2))∨¬(1≤f∧f≤3))∨¬(1≤t∧t≤3))∨s < 0)∨l.getD x.toNat 0 < s
theorem bin_fact {b:Bk} (h:BIn b):b.fact:=by
 unfold BIn at h
 unfold Bk.fact big
 omega
theorem mvs_f {b:Bk} {k f t s x:Int} {l:List Int} (p:BIn b) (h:MvC b k f t s l x) (e:-9223372036854775808≤f - 1∧f - 1≤9223372036854775807→x = f - 1) (hl:l = lstK b k):MoveQ b k f t s zBk false:=by
 refine ⟨⟨fun g=>(by cases g),fun m=>?_⟩,fun g=>(by cases g),fun _=>rfl⟩
 obtain ⟨m1,m2,m3,m4,m5,m6⟩:=m
 rcases h with ((((h | h) | h) | h) | h) | h
 ·exact absurd ((specBk (bin_fact p) p.2.2).2 m1) h
 ·omega
 ·omega
 ·omega
 ·omega
 ·rw [hl,e (by omega)] at h
  omega
theorem mvs_in {b:Bk} {k f t s x:Int} {l:List Int} (p:BIn b) (h:¬ MvC b k f t s l x):(1≤k∧k≤2)∧(1≤f∧f≤3)∧(1≤t∧t≤3)∧0≤s∧BkOk b∧¬ l.getD x.toNat 0 < s :=
 ⟨Classical.byContradiction fun g=>h (.inl (.inl (.inl (.inl (.inr g))))),Classical.byContradiction fun g=>h (.inl (.inl (.inl (.inr g)))),Classical.byContradiction fun g=>h (.inl (.inl (.inr g))),Int.not_lt.1 fun g=>h (.inl (.inr g)),(specBk (bin_fact p) p.2.2).1 (Classical.byContradiction fun g=>h (.inl (.inl (.inl (.inl (.inl g)))))),fun g=>h (.inr g)⟩
theorem mv_wrap {l:List Int} {f t s x y z:Int} (h:Parts l) (hf:1≤f∧f≤3) (ht:1≤t∧t≤3) (hs:0≤s) (h1:¬ l.getD x.toNat 0 < s) (ex:x = f - 1) (ey:y = t - 1) (ez:z = (l.set x.toNat (wrap (l.getD x.toNat 0 - s))).getD y.toNat 0):(l.set x.toNat (wrap (l.getD x.toNat 0 - s))).set y.toNat (wrap (z + s)) = movL l f t s:=by
 have a:0≤l.getD x.toNat 0∧l.getD x.toNat 0≤30:=h.2 _ (by rw [h.1]; omega)
 have b:0≤l.getD y.toNat 0∧l.getD y.toNat 0≤30:=h.2 _ (by rw [h.1]; omega)
 have hl:=h.1
 rw [wrap_id (n:=l.getD x.toNat 0 - s) (by omega) (by omega)] at ez ⊢
 have hz:0≤z∧z≤30:=by
  rw [ez,List.getD_eq_getElem?_getD,List.getElem?_set]
  split
  ·rw [if_pos (by omega)]
   simp only [Option.getD_some]
   omega
  ·rw [← List.getD_eq_getElem?_getD]
   omega
 rw [wrap_id (n:=z + s) (by omega) (by omega),ez,ex,ey]
 rfl
theorem mvs_t1 {b x6:Bk} {k f t s x x7 x8:Int} {x9 n:List Int} (p:BIn b) (h:¬ MvC b k f t s b.own x) (hk:k = 1) (e:-9223372036854775808≤f - 1∧f - 1≤9223372036854775807→x = f - 1) (q6:x6 = b) (e7:x7 = t - 1) (e8:x8 = (x6.own.set x.toNat (wrap (x6.own.getD x.toNat 0 - s))).getD x7.toNat 0) (e9:x9 = (x6.own.set x.toNat (wrap (x6.own.getD x.toNat 0 - s))).set x7.toNat (wrap (x8 + s))) (hn:n = x6.notes) :
  BIn ⟨x9,n,x6.locked⟩∧MoveQ b k f t s ⟨x9,n,x6.locked⟩ true:=by
 subst q6
 obtain ⟨h1,h2,h3,h4,h5,h6⟩:=mvs_in p h
 refine ⟨⟨?_,by rw [hn]; exact p.2.1,p.2.2⟩,⟨fun _=>⟨h5,by omega,h2,h3,h4,?_⟩,fun _=>rfl⟩,fun _=>?_,fun g=>absurd rfl g⟩
 ·rw [e9]
  simp only [List.length_set]
  exact p.1
 ·unfold lstK
  rw [if_pos hk,← e (by omega)]
  omega
 ·rw [e9,mv_wrap h5.1 h2 h3 h4 h6 (e (by omega)) e7 e8,hn]
  unfold moveB
  rw [if_pos hk]
theorem mvs_t2 {b x6:Bk} {k f t s x x7 x8:Int} {x9 n:List Int} (p:BIn b) (h:¬ MvC b k f t s b.notes x) (hk:¬ k = 1) (e:-9223372036854775808≤f - 1∧f - 1≤9223372036854775807→x = f - 1) (q6:x6 = b) (e7:x7 = t - 1) (e8:x8 = (x6.notes.set x.toNat (wrap (x6.notes.getD x.toNat 0 - s))).getD x7.toNat 0) (e9:x9 = (x6.notes.set x.toNat (wrap (x6.notes.getD x.toNat 0 - s))).set x7.toNat (wrap (x8 + s))) (hn:n = x6.own) :
  BIn ⟨n,x9,x6.locked⟩∧MoveQ b k f t s ⟨n,x9,x6.locked⟩ true:=by
 subst q6
 obtain ⟨h1,h2,h3,h4,h5,h6⟩:=mvs_in p h
 refine ⟨⟨by rw [hn]; exact p.1,?_,p.2.2⟩,⟨fun _=>⟨h5,by omega,h2,h3,h4,?_⟩,fun _=>rfl⟩,fun _=>?_,fun g=>absurd rfl g⟩
 ·rw [e9]
  simp only [List.length_set]
  exact p.2.1
 ·unfold lstK
  rw [if_neg hk,← e (by omega)]
  omega
 ·rw [e9,mv_wrap h5.2.1 h2 h3 h4 h6 (e (by omega)) e7 e8,hn]
  unfold moveB
  rw [if_neg hk]
def Zv.L:FL:=fCons (fSh sBk) (fCons (fSh sInt) (fCons (fSh sInt) (fCons (fSh sInt) (fCons (fSh sInt) (fNil)))))
def Zv:Bk×Int×Int×Int×Int×Unit→FR (Bk×Bool):=fun (a0,a1,a2,a3,a4,())=>⟨(BIn a0)∧True,fun X=>Or (Lt (bif !(Zw.S a0) then true else !(Zi.S a1 1 2)) fun x1=>Lt (bif bif x1 then true else !(Zc.S a2) then true else !(Zc.S a3)) fun x2=>And (Imp (And ((bif x2 then true else decide (a4 < 0)) = false) (True)) (Zq.P a0 a1)) (Lt (wrap (a2 - 1)) fun x3=>And (Imp (And ((bif x2 then true else decide (a4 < 0)) = false) (True)) ((0:Int)≤x3∧x3 < ((Zq.S a0 a1).length:Int))) (Lt (decide (((Zq.S a0 a1).getD (x3).toNat 0) < a4)) fun x4=>Lt (bif bif x2 then true else decide (a4 < 0) then true else x4) fun x5=>And (Imp (x5 = true) (X ((⟨[],[],0⟩:Bk),false))) (Imp (x5 = false) (Call Zl.X (a0,()) fun x6=>Or (And (Zo.P x6 a1) (And ((0:Int)≤x3∧x3 < (x6.own.length:Int)) (And ((x3).toNat < x6.own.length) (And ((0:Int)≤x3∧x3 < (x6.own.length:Int)) (And ((x3).toNat < x6.own.length) (Lt (wrap (a3 - 1)) fun x7=>And ((0:Int)≤x7∧x7 < ((x6.own.set (x3).toNat (wrap ((x6.own.getD (x3).toNat 0) - a4))).length:Int)) (And ((x7).toNat < (x6.own.set (x3).toNat (wrap ((x6.own.getD (x3).toNat 0) - a4))).length) (Lt ((x6.own.set (x3).toNat (wrap ((x6.own.getD (x3).toNat 0) - a4))).getD (x7).toNat 0) fun x8=>And ((0:Int)≤x7∧x7 < ((x6.own.set (x3).toNat (wrap ((x6.own.getD (x3).toNat 0) - a4))).length:Int)) (And ((x7).toNat < (x6.own.set (x3).toNat (wrap ((x6.own.getD (x3).toNat 0) - a4))).length) (Lt ((x6.own.set (x3).toNat (wrap ((x6.own.getD (x3).toNat 0) - a4))).set (x7).toNat (wrap (x8 + a4))) fun x9=>X ((⟨x9,(Zo.S x6 a1),x6.locked⟩:Bk),true))))))))))) (And (Zp.P x6 a1) (And ((0:Int)≤x3∧x3 < (x6.notes.length:Int)) (And ((x3).toNat < x6.notes.length) (And ((0:Int)≤x3∧x3 < (x6.notes.length:Int)) (And ((x3).toNat < x6.notes.length) (Lt (wrap (a3 - 1)) fun x10=>And ((0:Int)≤x10∧x10 < ((x6.notes.set (x3).toNat (wrap ((x6.notes.getD (x3).toNat 0) - a4))).length:Int)) (And ((x10).toNat < (x6.notes.set (x3).toNat (wrap ((x6.notes.getD (x3).toNat 0) - a4))).length) (Lt ((x6.notes.set (x3).toNat (wrap ((x6.notes.getD (x3).toNat 0) - a4))).getD (x10).toNat 0) fun x11=>And ((0:Int)≤x10∧x10 < ((x6.notes.set (x3).toNat (wrap ((x6.notes.getD (x3).toNat 0) - a4))).length:Int)) (And ((x10).toNat < (x6.notes.set (x3).toNat (wrap ((x6.notes.getD (x3).toNat 0) - a4))).length) (Lt ((x6.notes.set (x3).toNat (wrap ((x6.notes.getD (x3).toNat 0) - a4))).set (x10).toNat (wrap (x11 + a4))) fun x12=>X ((⟨(Zp.S x6 a1),x12,x6.locked⟩:Bk),true)))))))))))))))) (Lt (bif !(Zw.S a0) then true else !(Zi.S a1 1 2)) fun x13=>Lt (bif bif x13 then true else !(Zc.S a2) then true else !(Zc.S a3)) fun x14=>And (Imp (And ((bif x14 then true else decide (a4 < 0)) = false) (True)) (Zr.P a0 a1)) (Lt (wrap (a2 - 1)) fun x15=>And (Imp (And ((bif x14 then true else decide (a4 < 0)) = false) (True)) ((0:Int)≤x15∧x15 < ((Zr.S a0 a1).length:Int))) (Lt (decide (((Zr.S a0 a1).getD (x15).toNat 0) < a4)) fun x16=>Lt (bif bif x14 then true else decide (a4 < 0) then true else x16) fun x17=>And (Imp (x17 = true) (X ((⟨[],[],0⟩:Bk),false))) (Imp (x17 = false) (Call Zl.X (a0,()) fun x18=>Or (And (Zo.P x18 a1) (And ((0:Int)≤x15∧x15 < (x18.own.length:Int)) (And ((x15).toNat < x18.own.length) (And ((0:Int)≤x15∧x15 < (x18.own.length:Int)) (And ((x15).toNat < x18.own.length) (Lt (wrap (a3 - 1)) fun x19=>And ((0:Int)≤x19∧x19 < ((x18.own.set (x15).toNat (wrap ((x18.own.getD (x15).toNat 0) - a4))).length:Int)) (And ((x19).toNat < (x18.own.set (x15).toNat (wrap ((x18.own.getD (x15).toNat 0) - a4))).length) (Lt ((x18.own.set (x15).toNat (wrap ((x18.own.getD (x15).toNat 0) - a4))).getD (x19).toNat 0) fun x20=>And ((0:Int)≤x19∧x19 < ((x18.own.set (x15).toNat (wrap ((x18.own.getD (x15).toNat 0) - a4))).length:Int)) (And ((x19).toNat < (x18.own.set (x15).toNat (wrap ((x18.own.getD (x15).toNat 0) - a4))).length) (Lt ((x18.own.set (x15).toNat (wrap ((x18.own.getD (x15).toNat 0) - a4))).set (x19).toNat (wrap (x20 + a4))) fun x21=>X ((⟨x21,(Zo.S x18 a1),x18.locked⟩:Bk),true))))))))))) (And (Zp.P x18 a1) (And ((0:Int)≤x15∧x15 < (x18.notes.length:Int)) (And ((x15).toNat < x18.notes.length) (And ((0:Int)≤x15∧x15 < (x18.notes.length:Int)) (And ((x15).toNat < x18.notes.length) (Lt (wrap (a3 - 1)) fun x22=>And ((0:Int)≤x22∧x22 < ((x18.notes.set (x15).toNat (wrap ((x18.notes.getD (x15).toNat 0) - a4))).length:Int)) (And ((x22).toNat < (x18.notes.set (x15).toNat (wrap ((x18.notes.getD (x15).toNat 0) - a4))).length) (Lt ((x18.notes.set (x15).toNat (wrap ((x18.notes.getD (x15).toNat 0) - a4))).getD (x22).toNat 0) fun x23=>And ((0:Int)≤x22∧x22 < ((x18.notes.set (x15).toNat (wrap ((x18.notes.getD (x15).toNat 0) - a4))).length:Int)) (And ((x22).toNat < (x18.notes.set (x15).toNat (wrap ((x18.notes.getD (x15).toNat 0) - a4))).length) (Lt ((x18.notes.set (x15).toNat (wrap ((x18.notes.getD (x15).toNat 0) - a4))).set (x22).toNat (wrap (x23 + a4))) fun x24=>X ((⟨(Zp.S x18 a1),x24,x18.locked⟩:Bk),true)))))))))))))))),fun r=>(r.2 = true→BIn r.1)∧(MoveQ a0 a1 a2 a3 a4 r.1 r.2)∧True,fun r=>(.tup [.agg [.own 0 1 3,.own 1 1 3,.int r.1.locked],.c (.bool r.2)],[.arr (.ints r.1.own),.arr (.ints r.1.notes)])⟩
theorem Zv.X:XF Zv:=mkF (zBk,false) fun (a0,a1,a2,a3,a4,()) hp=>by
 obtain ⟨p0,-⟩:=hp
 have p1:=p0.1
 have p2:=p0.2.1
 have p4:=p0.2.2
 dsimp only [Zv]
 refine May.alt (c:=(a1 == 1)) (B.eq) (fun h1=>?_) (fun h1=>?_)
 refine May.lp (B.or (B.not (Iff.rfl)) (B.not (in_iff))) fun x1 e1=>May.lp (B.or (B.or (e1) (B.not (user_iff))) (B.not (user_iff))) fun x2 e2=>May.chk (fun hπ=>have g1:=B.neg (B.or (e2) (B.dec)) hπ.1; ?_) fun c1=>May.lwi fun x3 e3=>May.chk (fun hπ=>have g1:=B.neg (B.or (e2) (B.dec)) hπ.1; ?_) fun c2=>May.lp (B.dec) fun x4 e4=>May.lp (B.or (B.or (e2) (B.dec)) (e4)) fun x5 e5=>May.iff (e5) (fun h2=>?_) (fun h2=>?_); rotate_left 2
 refine May.ret ⟨?_,?_,trivial⟩; rotate_left 2
 refine May.call ⟨?_,trivial⟩ fun x6 q6=>have q6:=q6.1; May.alt (c:=(a1 == 1)) (B.eq) (fun h3=>?_) (fun h3=>?_); rotate_left 1
 refine May.chk ?_ fun c3=>May.chk ?_ fun c4=>May.chk ?_ fun c5=>May.chk ?_ fun c6=>May.chk ?_ fun c7=>May.lw ⟨?_,?_⟩ fun x7 e7=>May.chk ?_ fun c8=>May.chk ?_ fun c9=>?_; rotate_left 9
 refine May.lt fun x8 e8=>May.chk ?_ fun c10=>May.chk ?_ fun c11=>May.lt fun x9 e9=>May.ret ⟨?_,?_,trivial⟩; rotate_left 4
 refine May.chk ?_ fun c12=>May.chk ?_ fun c13=>May.chk ?_ fun c14=>May.chk ?_ fun c15=>May.chk ?_ fun c16=>May.lw ⟨?_,?_⟩ fun x10 e10=>May.chk ?_ fun c17=>May.chk ?_ fun c18=>?_; rotate_left 9
 refine May.lt fun x11 e11=>May.chk ?_ fun c19=>May.chk ?_ fun c20=>May.lt fun x12 e12=>May.ret ⟨?_,?_,trivial⟩; rotate_left 4
 refine May.lp (B.or (B.not (Iff.rfl)) (B.not (in_iff))) fun x13 e13=>May.lp (B.or (B.or (e13) (B.not (user_iff))) (B.not (user_iff))) fun x14 e14=>May.chk (fun hπ=>have g1:=B.neg (B.or (e14) (B.dec)) hπ.1; ?_) fun c21=>May.lwi fun x15 e15=>May.chk (fun hπ=>have g1:=B.neg (B.or (e14) (B.dec)) hπ.1; ?_) fun c22=>May.lp (B.dec) fun x16 e16=>May.lp (B.or (B.or (e14) (B.dec)) (e16)) fun x17 e17=>May.iff (e17) (fun h2=>?_) (fun h2=>?_); rotate_left 2
 refine May.ret ⟨?_,?_,trivial⟩; rotate_left 2
 refine May.call ⟨?_,trivial⟩ fun x18 q18=>have q18:=q18.1; May.alt (c:=(a1 == 1)) (B.eq) (fun h3=>?_) (fun h3=>?_); rotate_left 1
 refine May.chk ?_ fun c23=>May.chk ?_ fun c24=>May.chk ?_ fun c25=>May.chk ?_ fun c26=>May.chk ?_ fun c27=>May.lw ⟨?_,?_⟩ fun x19 e19=>May.chk ?_ fun c28=>May.chk ?_ fun c29=>?_; rotate_left 9
 refine May.lt fun x20 e20=>May.chk ?_ fun c30=>May.chk ?_ fun c31=>May.lt fun x21 e21=>May.ret ⟨?_,?_,trivial⟩; rotate_left 4
 refine May.chk ?_ fun c32=>May.chk ?_ fun c33=>May.chk ?_ fun c34=>May.chk ?_ fun c35=>May.chk ?_ fun c36=>May.lw ⟨?_,?_⟩ fun x22 e22=>May.chk ?_ fun c37=>May.chk ?_ fun c38=>?_; rotate_left 9
 refine May.lt fun x23 e23=>May.chk ?_ fun c39=>May.chk ?_ fun c40=>May.lt fun x24 e24=>May.ret ⟨?_,?_,trivial⟩
 all_goals try dsimp only
 all_goals first | with_reducible assumption | omega | (exact h1; done) | (exact h3; done) | (intro h; cases h; done) | (exact mvs_f p0 h2 e3 (by unfold lstK; rw [if_pos h1]; rfl); done) | (exact mvs_f p0 h2 e15 (by unfold lstK; rw [if_neg h1]; rfl); done) | (exact fun _=>(mvs_t1 p0 h2 h1 e3 q6 e7 e8 e9 rfl).1; done) | (exact (mvs_t1 p0 h2 h1 e3 q6 e7 e8 e9 rfl).2; done) | (exact fun _=>(mvs_t2 p0 h2 h1 e15 q18 e22 e23 e24 rfl).1; done) | (exact (mvs_t2 p0 h2 h1 e15 q18 e22 e23 e24 rfl).2; done) | ((unfold Bk.sm; omega); done) | ((have u:=Classical.byContradiction fun g=>g1 (.inl (.inl (.inr g))); have e:=e3 (by omega); show 0≤x3∧x3 < (a0.own.length:Int); omega); done) | ((have u:=Classical.byContradiction fun g=>g1 (.inl (.inl (.inr g))); have e:=e15 (by omega); show 0≤x15∧x15 < (a0.notes.length:Int); omega); done) | ((have m:=mvs_in p0 h2; have e:=e3 (by omega); rw [q6]; omega); done) | ((have m:=mvs_in p0 h2; have e:=e15 (by omega); rw [q18]; omega); done) | ((have m:=mvs_in p0 h2; rw [List.length_set,q6]; omega); done) | ((have m:=mvs_in p0 h2; rw [List.length_set,q18]; omega); done)
abbrev Zv.S:=Classical.choose Zv.X
def Zv.c:Ctr:=fc 80 [true,false,false,false,false] Zv.L Zv Zv.S
theorem Zv.good:Good Tryz.prog Zv.c:=mkFG (fn:=Tryz.f80) {sp:=[(1,[[(39,2)],[(39,3)]]),(4,[[(52,0)],[(52,1)]])],sh:=[[some (.int,3),some (.int,3),none],[]]} Zv.X (consG Zw.good (consG Zi.good (consG Zc.good (consG Zo.good (consG Zp.good (consG Zq.good (consG Zr.good (consG Zl.good noG)))))))) (by kernel_rfl) (by kernel_rfl) (l0 (by kernel_rfl)) (c0 (by kernel_rfl)) fun s K=>by kernel_rfl
end
end Hw
end Go.Proofs.YtklmllaggigkfaaGreat
