/- Chains, by the reference: made by gen.py. -/
import Derived.Test.YtklmllaggigkfaaGreatPJ0
set_option linter.unusedVariables false
set_option linter.unusedSimpArgs false
set_option maxRecDepth 100000
set_option maxHeartbeats 400000
namespace Go.Proofs.YtklmllaggigkfaaGreat
namespace Hw
open Go
noncomputable section
attribute [local irreducible] evFn evBody wrap wxor
theorem am_none {l:List Int} {x i:Int} (p:∀k:Nat,(k:Int) < i→¬ l.getD k 0 = x) (h:¬ i < (l.length:Int)):¬ ∃k,k < l.length∧l.getD k 0 = x:=fun ⟨k,hk,e⟩=>p k (by omega) e
theorem am_step {l:List Int} {x i j:Int} (p:∀k:Nat,(k:Int) < i→¬ l.getD k 0 = x) (h0:0≤i) (e:j = i + 1) (h:¬ l.getD i.toNat 0 = x):∀k:Nat,(k:Int) < j→¬ l.getD k 0 = x:=fun k hk=>by
 by_cases hh:k = i.toNat
 ·rw [hh]; exact h
 ·exact p k (by omega)
theorem getD_lt {α:Type} {l m:List α} {k:Nat} {d:α} (h:k < l.length):(l ++ m).getD k d = l.getD k d:=by simp [List.getD_eq_getElem?_getD,List.getElem?_append_left h]
theorem getD_at {α:Type} {l:List α} {k:Nat} {x d:α} (h:k = l.length):(l ++ [x]).getD k d = x:=by subst h; simp [List.getD_eq_getElem?_getD]
theorem cin_mk {c:Ch} {i:Int} {b:Bk} {s:St} (h:CIn c) (hb:BIn b) (hs:SIn s):CIn ⟨i,b,s,c.past,c.knows⟩:=⟨hb,hs,h.2.2⟩
theorem cin_past {c:Ch} {i:Int} {s:St} (h:CIn c) (hs:SIn s) (hl:(c.past.length:Int) < 90):CIn ⟨i,c.bank,c.st,c.past ++ [s],c.knows⟩:=by
 refine ⟨h.1,h.2.1,by simp only [List.length_append,List.length_cons,List.length_nil]; omega,fun k hk=>?_,h.2.2.2.2⟩
 simp only [List.length_append,List.length_cons,List.length_nil] at hk
 show SIn ((c.past ++ [s]).getD k zSt)
 rcases Nat.lt_or_ge k c.past.length with h1 | h1
 ·rw [getD_lt h1]
  exact h.2.2.2.1 k h1
 ·rw [getD_at (by omega)]
  exact hs
theorem sin_set {s:St} {w v n:Int} {l b:List Bool} {g:List Int} (h:SIn s) (hl:l.length = s.live.length) (hb:b.length = s.back.length) (hg:g.length = s.got.length):SIn ⟨w,v,n,s.sent,l,b,g⟩ :=
 ⟨h.1,hl.trans h.2.1,hb.trans h.2.2.1,hg.trans h.2.2.2.1,h.2.2.2.2⟩
theorem sin_send {s:St} {w v n:Int} {p:Pkt} {t f:Bool} (h:SIn s) (hp:PIn p) (hl:s.sent.length < 8):SIn ⟨w,v,n,s.sent ++ [p],s.live ++ [t],s.back ++ [f],s.got⟩:=by
 obtain ⟨h1,h2,h3,h4,h5⟩:=h
 refine ⟨?_,?_,?_,h4,fun k hk=>?_⟩
 ·simp only [List.length_append,List.length_cons,List.length_nil]; omega
 ·simp only [List.length_append,List.length_cons,List.length_nil]; omega
 ·simp only [List.length_append,List.length_cons,List.length_nil]; omega
 simp only [List.length_append,List.length_cons,List.length_nil] at hk
 show PIn ((s.sent ++ [p]).getD k zPkt)
 rcases Nat.lt_or_ge k s.sent.length with h1 | h1
 ·rw [getD_lt h1]
  exact h5 k h1
 ·rw [getD_at (by omega)]
  exact hp
theorem pok_in {p:Pkt} (h:PktOk p):PIn p:=by
 unfold PktOk at h
 unfold PIn
 omega
theorem sin_sm {s:St} (h:SIn s):s.sm:=by
 unfold SIn at h
 unfold St.sm
 omega
theorem sin_get {c:Ch} {i:Int} (h:CIn c) (h0:0≤i) (h1:i < (c.past.length:Int)):SIn (c.past.getD i.toNat zSt):=h.2.2.2.1 _ (by omega)
theorem pin_get {s:St} {i:Int} (h:SIn s) (h0:0≤i) (h1:i < (s.sent.length:Int)):PIn (s.sent.getD i.toNat zPkt):=h.2.2.2.2 _ (by omega)
theorem hasIff {s:St} {p:Pkt} {x:Int} {b:Bool} (hs:s.sent.length≤8) (e1:-9223372036854775808≤p.seq - 1∧p.seq - 1≤9223372036854775807→x = p.seq - 1) (e3:b = true↔((1≤p.seq∧p.seq≤(s.sent.length:Int))∧s.sent.getD x.toNat zPkt = p)∧s.live.getD x.toNat false = true) :
  b = true↔(1≤p.seq∧p.seq≤(s.sent.length:Int))∧s.sent.getD (p.seq - 1).toNat zPkt = p∧s.live.getD (p.seq - 1).toNat false = true:=by
 refine e3.trans ⟨fun h=>?_,fun h=>?_⟩
 ·have e:=e1 (by omega)
  rw [← e]
  exact ⟨h.1.1,h.1.2,h.2⟩
 ·have e:=e1 (by omega)
  rw [e]
  exact ⟨⟨h.1,h.2.1⟩,h.2.2⟩
def Has0 (s:St) (p:Pkt):Prop:=(1≤p.seq∧p.seq≤(s.sent.length:Int))∧s.sent.getD (p.seq - 1).toNat zPkt = p∧s.live.getD (p.seq - 1).toNat false = true
theorem stOk_in {s:St} (h:StOk s):SIn s:=by
 refine ⟨h.2.2.1,h.2.2.2.1,h.2.2.2.2.1,h.2.2.2.2.2.1,fun k hk=>?_⟩
 have:=(h.2.2.2.2.2.2.1 k hk).1
 unfold PktOk at this
 unfold PIn
 omega
def IdleS (s:St):Prop:=∀k,k < s.live.length→s.live.getD k false = false
theorem liveCt {s:St} (hl:s.live.length≤8):0≤ZQ.S s∧ZQ.S s≤8∧(ZQ.S s = 0↔IdleS s):=by
 have hacc:∀k,k≤s.live.length→0≤ZP.acc s 0 k∧ZP.acc s 0 k≤k∧(ZP.acc s 0 k = 0↔∀j,j < k→s.live.getD j false = false):=by
  intro k
  induction k with
  | zero=>intro _; exact ⟨Int.le_refl 0,Int.le_refl 0,⟨fun _ j hj=>by omega,fun _=>rfl⟩⟩
  | succ k ih =>
   intro hk
   obtain ⟨h1,h2,h3⟩:=ih (by omega)
   simp only [ZP.acc,ZP.A]
   cases hb:s.live.getD k false with
   | true =>
    rw [cond_true,wrap_id (by omega) (by omega)]
    refine ⟨by omega,by omega,⟨fun h=>by omega,fun h=>?_⟩⟩
    have:=h k (by omega)
    rw [hb] at this
    cases this
   | false =>
    rw [cond_false]
    refine ⟨h1,by omega,h3.trans ⟨fun h j hj=>?_,fun h j hj=>h j (by omega)⟩⟩
    rcases Nat.lt_or_ge j k with h' | h'
    ·exact h j h'
    ·obtain rfl:j = k:=by omega
     exact hb
 unfold ZQ.S
 rcases ZP.law s (0:Int) s.live.length rfl (by omega) with ⟨h1,h2⟩ | ⟨k,r,hk,h1,-,h2⟩
 ·rw [h2]
  obtain ⟨a1,a2,a3⟩:=hacc s.live.length (Nat.le_refl _)
  exact ⟨a1,by show ZP.acc s 0 s.live.length≤8; omega,a3⟩
 ·simp [ZP.E] at h1
def MayK (s o:St) (k:Int):Prop:=(k = 1∧s.way = 0)∨(k = 2∧s.way≤1∧(o.way = 1∨o.way = 2))∨(k = 3∧s.way = 1∧2≤o.way)∨(k = 4∧s.way = 2∧2≤o.way)∨(k = 5∧s.way = 3∧s.ver < 9)∨(k = 6∧s.way = 3∧o.way = 4∧o.want = wrap (s.ver + 1))∨(k = 7∧s.way = 4∧IdleS s∧(o.way = 4∧o.want = s.want∧IdleS o∨o.ver = s.want))
abbrev MayW (s o:St) (k:Int):Prop:=(StOk s∧StOk o)∧MayK s o k
def doK (s o:St) (k:Int):St :=
 if k = 1 then ⟨1,s.ver,s.want,s.sent,s.live,s.back,s.got⟩ else if k = 2 then ⟨2,s.ver,s.want,s.sent,s.live,s.back,s.got⟩ else if k = 3∨k = 4 then ⟨3,s.ver,s.want,s.sent,s.live,s.back,s.got⟩
 else if k = 5 then ⟨4,s.ver,wrap (s.ver + 1),s.sent,s.live,s.back,s.got⟩ else if k = 6 then ⟨4,s.ver,o.want,s.sent,s.live,s.back,s.got⟩ else if k = 7 then ⟨3,s.want,0,s.sent,s.live,s.back,s.got⟩ else s
def blkC (c:Ch):Ch:=if (c.past.length:Int) < 90 then ⟨c.id,c.bank,c.st,c.past ++ [c.st],c.knows⟩ else c
def stC (c:Ch) (s:St):Ch:=⟨c.id,c.bank,s,c.past,c.knows⟩
abbrev StpQ (c:Ch) (s:St) (k:Int) (r:Ch) (b:Bool):Prop:=(b = true↔MayK c.st s k)∧(b = true→r = stC c (doK c.st s k))∧(¬ b = true→r = c)
theorem stpQ_f {c:Ch} {s:St} {k:Int} (h:¬ MayK c.st s k):StpQ c s k c false:=⟨⟨fun g=>(by cases g),fun g=>absurd g h⟩,fun g=>(by cases g),fun _=>rfl⟩
theorem stpQ_t {c:Ch} {s x:St} {k:Int} (h:MayK c.st s k) (e:x = doK c.st s k):StpQ c s k ⟨c.id,c.bank,x,c.past,c.knows⟩ true:=⟨⟨fun _=>h,fun _=>rfl⟩,fun _=>by rw [e]; rfl,fun g=>absurd rfl g⟩
def pkS (c:Ch) (k f t s u:Int):Pkt:=⟨(c.st.sent.length:Int) + 1,k,f,t,s,u,c.st.ver⟩
def sndS (c:Ch) (k f t s u:Int):St:=⟨c.st.way,c.st.ver,c.st.want,c.st.sent ++ [pkS c k f t s u],c.st.live ++ [true],c.st.back ++ [false],c.st.got⟩
def sndW (c:Ch) (k f t s u:Int):Ch:=⟨c.id,awayW c.bank k f s,sndS c k f t s u,c.past,c.knows⟩
abbrev SndW (c:Ch) (k f t s u:Int) (r:Ch) (n:Int) (b:Bool):Prop:=(b = true↔c.st.way = 3∧PktOk (pkS c k f t s u)∧¬ (lstK c.bank k).getD (f - 1).toNat 0 < s)∧(b = true→r = sndW c k f t s u∧n = (c.st.sent.length:Int) + 1)∧(¬ b = true→r = c∧n = 0)
theorem snd_pk {c:Ch} {x k f t s u:Int} (h:¬(¬c.st.way = 3∨¬PktOk ⟨x,k,f,t,s,u,c.st.ver⟩)):c.st.way = 3∧PktOk ⟨x,k,f,t,s,u,c.st.ver⟩:=⟨Classical.byContradiction fun g=>h (.inl g),Classical.byContradiction fun g=>h (.inr g)⟩
theorem snd_f1 {c:Ch} {x k f t s u:Int} (h:¬c.st.way = 3∨¬PktOk ⟨x,k,f,t,s,u,c.st.ver⟩) (e:x = (c.st.sent.length:Int) + 1):SndW c k f t s u c 0 false:=by
 subst e
 exact ⟨⟨fun g=>(by cases g),fun g=>h.elim (fun h=>absurd g.1 h) fun h=>absurd g.2.1 h⟩,fun g=>(by cases g),fun _=>⟨rfl,rfl⟩⟩
theorem snd_f2 {c:Ch} {b:Bk} {k f t s u:Int} {o:Bool} (q:AwW c.bank k f s b o) (h:¬ o = true):SndW c k f t s u ⟨c.id,⟨b.own,b.notes,c.bank.locked⟩,c.st,c.past,c.knows⟩ 0 false:=by
 have e:=q.2.2 h
 subst e
 exact ⟨⟨fun g=>(by cases g),fun g=>absurd (q.1.2 g.2.2) h⟩,fun g=>(by cases g),fun _=>⟨rfl,rfl⟩⟩
theorem snd_t {c:Ch} {b:Bk} {x k f t s u:Int} {o:Bool} (q:AwW c.bank k f s b o) (h:o = true) (hp:c.st.way = 3∧PktOk ⟨x,k,f,t,s,u,c.st.ver⟩) (e:x = (c.st.sent.length:Int) + 1):SndW c k f t s u ⟨c.id,b,⟨c.st.way,c.st.ver,c.st.want,c.st.sent ++ [⟨x,k,f,t,s,u,c.st.ver⟩],c.st.live ++ [true],c.st.back ++ [false],c.st.got⟩,c.past,c.knows⟩ x true:=by
 subst e
 have e:=q.2.1 h
 subst e
 exact ⟨⟨fun _=>⟨hp.1,hp.2,q.1.1 h⟩,fun _=>rfl⟩,fun _=>⟨rfl,rfl⟩,fun g=>absurd rfl g⟩
def pkd (p:Pkt):Int:=if p.kind = 2 then 1 else 2
def payOk (b:Bk) (p:Pkt):Prop:=¬ p.to = 0∧¬ (pkd p = 1∧b.locked < p.sum∨pkd p = 2∧wrap (Zu.S b.notes + p.sum) > 30)
abbrev PayQ (b:Bk) (p:Pkt) (r:Bk) (g:Int):Prop:=(payOk b p→r = backW b (pkd p) p.to p.sum∧g = 1)∧(¬ payOk b p→r = b∧g = 2)
theorem pay_0 {b:Bk} {p:Pkt} (h:p.to = 0):PayQ b p b 2:=⟨fun g=>absurd h g.1,fun _=>⟨rfl,rfl⟩⟩
theorem pkd1 {p:Pkt} (h:p.kind = 2):pkd p = 1:=if_pos h
theorem pkd2 {p:Pkt} (h:¬ p.kind = 2):pkd p = 2:=if_neg h
theorem pay_t {b r:Bk} {p:Pkt} {k:Int} {o:Bool} (hk:pkd p = k) (h:¬ p.to = 0) (q:BkW b k p.to p.sum r o) (ho:¬¬ o = true):PayQ b p r 1:=by
 subst hk
 have ho:=Classical.byContradiction ho
 exact ⟨fun _=>⟨q.2.1 ho,rfl⟩,fun g=>absurd ⟨h,q.1.1 ho⟩ g⟩
theorem pay_f {b r:Bk} {p:Pkt} {k:Int} {o:Bool} (hk:pkd p = k) (h:¬ p.to = 0) (q:BkW b k p.to p.sum r o) (ho:¬ o = true):PayQ b p ⟨r.own,r.notes,b.locked⟩ 2:=by
 subst hk
 have e:=q.2.2 ho
 subst e
 exact ⟨fun g=>absurd (q.1.2 g.2) ho,fun _=>⟨rfl,rfl⟩⟩
def MayG (c:Ch) (o:St) (p:Pkt):Prop:=¬ c.st.way < 3∧Has0 o p∧c.st.got.getD (p.seq - 1).toNat 0 = 0∧p.ver = c.st.ver∧(c.past.length:Int) + 1 < p.til
def gotC (c:Ch) (b:Bk) (i g:Int):Ch:=⟨c.id,b,⟨c.st.way,c.st.ver,c.st.want,c.st.sent,c.st.live,c.st.back,c.st.got.set (i - 1).toNat g⟩,c.past,c.knows⟩
abbrev GetQ (c:Ch) (o:St) (p:Pkt) (r:Ch) (t:Bool):Prop:=(t = true↔MayG c o p)∧(t = true→∃b g,PayQ c.bank p b g∧r = gotC c b p.seq g)∧(¬ t = true→r = c)
theorem get_f {c:Ch} {o:St} {p:Pkt} {x1:Bool} {x2 x4:Int} (ho:o.sent.length≤8) (hc:c.past.length≤90) (q:x1 = true↔Has0 o p) (e2:-9223372036854775808≤p.seq - 1∧p.seq - 1≤9223372036854775807→x2 = p.seq - 1) (e4:-9223372036854775808≤(c.past.length:Int) + 1∧(c.past.length:Int) + 1≤9223372036854775807→x4 = (c.past.length:Int) + 1) (h:(((c.st.way < 3∨¬x1 = true)∨¬c.st.got.getD x2.toNat 0 = 0)∨¬p.ver = c.st.ver)∨x4≥p.til):GetQ c o p c false:=by
 have e4:=e4 (by omega)
 refine ⟨⟨fun g=>(by cases g),fun m=>?_⟩,fun g=>(by cases g),fun _=>rfl⟩
 obtain ⟨m1,m2,m3,m4,m5⟩:=m
 have hr:=m2.1
 have e2:=e2 (by omega)
 subst e2 e4
 rcases h with (((h | h) | h) | h) | h
 ·exact absurd h m1
 ·exact absurd (q.2 m2) h
 ·exact absurd m3 h
 ·exact absurd m4 h
 ·omega
theorem get_t {c:Ch} {o:St} {p:Pkt} {b:Bk} {g:Int} {x1:Bool} {x2 x4:Int} (ho:o.sent.length≤8) (hc:c.past.length≤90) (q:x1 = true↔Has0 o p) (e2:-9223372036854775808≤p.seq - 1∧p.seq - 1≤9223372036854775807→x2 = p.seq - 1) (e4:-9223372036854775808≤(c.past.length:Int) + 1∧(c.past.length:Int) + 1≤9223372036854775807→x4 = (c.past.length:Int) + 1) (h:¬((((c.st.way < 3∨¬x1 = true)∨¬c.st.got.getD x2.toNat 0 = 0)∨¬p.ver = c.st.ver)∨x4≥p.til)) (q6:PayQ c.bank p b g):GetQ c o p ⟨c.id,b,⟨c.st.way,c.st.ver,c.st.want,c.st.sent,c.st.live,c.st.back,c.st.got.set x2.toNat g⟩,c.past,c.knows⟩ true:=by
 have e4:=e4 (by omega)
 have hx:x1 = true:=Classical.byContradiction fun g=>h (.inl (.inl (.inl (.inr g))))
 have m2:=q.1 hx
 have hr:=m2.1
 have e2:=e2 (by omega)
 subst e2 e4
 refine ⟨⟨fun _=>⟨fun g=>h (.inl (.inl (.inl (.inl g)))),m2,Classical.byContradiction fun g=>h (.inl (.inl (.inr g))),Classical.byContradiction fun g=>h (.inl (.inr g)),?_⟩,fun _=>rfl⟩,fun _=>⟨b,g,q6,rfl⟩,fun g=>absurd rfl g⟩
 have:¬ (c.past.length:Int) + 1≥p.til:=fun g=>h (.inr g)
 omega
def setC (c:Ch) (b:Bk) (i:Int) (k:Bool):Ch:=⟨c.id,b,⟨c.st.way,c.st.ver,c.st.want,c.st.sent,c.st.live.set (i - 1).toNat false,(bif k then c.st.back.set (i - 1).toNat true else c.st.back),c.st.got⟩,c.past,c.knows⟩
abbrev SetQ (c:Ch) (i:Int) (k:Bool) (r:Ch):Prop:=∃b,(k = true→∃t,BkW c.bank (c.st.sent.getD (i - 1).toNat zPkt).kind (c.st.sent.getD (i - 1).toNat zPkt).frm (c.st.sent.getD (i - 1).toNat zPkt).sum b t)∧(¬ k = true→b = c.bank)∧r = setC c b i k
theorem set_n {c:Ch} {i x:Int} {k:Bool} (e:x = i - 1) (h:¬ k = true):SetQ c i k ⟨c.id,c.bank,⟨c.st.way,c.st.ver,c.st.want,c.st.sent,c.st.live.set x.toNat false,c.st.back,c.st.got⟩,c.past,c.knows⟩:=by
 subst e
 have h:k = false:=by simpa using h
 subst h
 exact ⟨c.bank,fun g=>(by cases g),fun _=>rfl,rfl⟩
theorem set_y {c:Ch} {b:Bk} {i x:Int} {k t:Bool} (e:x = i - 1) (h:k = true) (q:BkW c.bank (c.st.sent.getD x.toNat zPkt).kind (c.st.sent.getD x.toNat zPkt).frm (c.st.sent.getD x.toNat zPkt).sum b t):SetQ c i k ⟨c.id,b,⟨c.st.way,c.st.ver,c.st.want,c.st.sent,c.st.live.set x.toNat false,c.st.back.set x.toNat true,c.st.got⟩,c.past,c.knows⟩:=by
 subst e h
 exact ⟨b,fun _=>⟨t,q⟩,fun g=>absurd rfl g,rfl⟩
def Mine0 (s:St) (i:Int):Prop:=(1≤i∧i≤(s.sent.length:Int))∧s.live.getD (i - 1).toNat false = true
theorem mine_iff {s:St} {i x:Int} {b:Bool} (hs:s.sent.length≤8) (e1:-9223372036854775808≤i - 1∧i - 1≤9223372036854775807→x = i - 1) (e2:b = true↔(1≤i∧i≤(s.sent.length:Int))∧s.live.getD x.toNat false = true):b = true↔Mine0 s i:=by
 rw [e2]
 unfold Mine0
 constructor
 ·intro h
  rw [e1 (by omega)] at h
  exact h
 ·intro h
  rw [e1 (by omega)]
  exact h
abbrev TellQ (c:Ch) (o:St) (i:Int) (r:Ch) (t:Bool):Prop:=(t = true↔Mine0 c.st i∧¬ o.got.getD (i - 1).toNat 0 = 0)∧(t = true→SetQ c i (o.got.getD (i - 1).toNat 0 == 2) r)∧(¬ t = true→r = c)
theorem tell_f {c:Ch} {o:St} {i x:Int} {b:Bool} (hs:c.st.sent.length≤8) (q:b = true↔Mine0 c.st i) (e:-9223372036854775808≤i - 1∧i - 1≤9223372036854775807→x = i - 1) (h:¬b = true∨o.got.getD x.toNat 0 = 0):TellQ c o i c false:=by
 refine ⟨⟨fun g=>(by cases g),fun m=>?_⟩,fun g=>(by cases g),fun _=>rfl⟩
 have hr:=m.1.1
 have e:=e (by omega)
 subst e
 rcases h with h | h
 ·exact absurd (q.2 m.1) h
 ·exact absurd h m.2
theorem tell_t {c r:Ch} {o:St} {i x:Int} {b:Bool} (hs:c.st.sent.length≤8) (q:b = true↔Mine0 c.st i) (e:-9223372036854775808≤i - 1∧i - 1≤9223372036854775807→x = i - 1) (h:¬(¬b = true∨o.got.getD x.toNat 0 = 0)) (qs:SetQ c i (o.got.getD x.toNat 0 == 2) r):TellQ c o i r true:=by
 have m:=q.1 (Classical.byContradiction fun g=>h (.inl g))
 have hr:=m.1
 have e:=e (by omega)
 subst e
 exact ⟨⟨fun _=>⟨m,fun g=>h (.inr g)⟩,fun _=>rfl⟩,fun _=>qs,fun g=>absurd rfl g⟩
abbrev LateQ (c:Ch) (o:St) (n i:Int) (r:Ch) (t:Bool):Prop:=(t = true↔Mine0 c.st i∧¬ n < (c.st.sent.getD (i - 1).toNat zPkt).til∧o.got.getD (i - 1).toNat 0 = 0)∧(t = true→SetQ c i true r)∧(¬ t = true→r = c)
theorem late_f {c:Ch} {o:St} {n i x:Int} {b:Bool} (hs:c.st.sent.length≤8) (q:b = true↔Mine0 c.st i) (e:-9223372036854775808≤i - 1∧i - 1≤9223372036854775807→x = i - 1) (h:(¬b = true∨n < (c.st.sent.getD x.toNat zPkt).til)∨¬ o.got.getD x.toNat 0 = 0):LateQ c o n i c false:=by
 refine ⟨⟨fun g=>(by cases g),fun m=>?_⟩,fun g=>(by cases g),fun _=>rfl⟩
 have hr:=m.1.1
 have e:=e (by omega)
 subst e
 rcases h with (h | h) | h
 ·exact absurd (q.2 m.1) h
 ·exact absurd h m.2.1
 ·exact absurd m.2.2 h
theorem late_t {c r:Ch} {o:St} {n i x:Int} {b:Bool} (hs:c.st.sent.length≤8) (q:b = true↔Mine0 c.st i) (e:-9223372036854775808≤i - 1∧i - 1≤9223372036854775807→x = i - 1) (h:¬((¬b = true∨n < (c.st.sent.getD x.toNat zPkt).til)∨¬ o.got.getD x.toNat 0 = 0)) (qs:SetQ c i true r):LateQ c o n i r true:=by
 have m:=q.1 (Classical.byContradiction fun g=>h (.inl (.inl g)))
 have hr:=m.1
 have e:=e (by omega)
 subst e
 exact ⟨⟨fun _=>⟨m,fun g=>h (.inl (.inr g)),Classical.byContradiction fun g=>h (.inr g)⟩,fun _=>rfl⟩,fun _=>qs,fun g=>absurd rfl g⟩
def Z7.L:FL:=fCons (fSh sSt) (fCons (fSh sPkt) (fNil))
def Z7:St×Pkt×Unit→FR (Bool):=fun (a0,a1,())=>⟨(SIn a0)∧True,fun X=>Lt (wrap (a1.seq - 1)) fun x1=>And (Imp (And ((Zi.S a1.seq 1 (a0.sent.length:Int)) = true) (True)) ((0:Int)≤x1∧x1 < (a0.sent.length:Int))) (Lt (bif (Zi.S a1.seq 1 (a0.sent.length:Int)) then decide ((a0.sent.getD (x1).toNat zPkt) = a1) else false) fun x2=>And (Imp (And (x2 = true) (True)) ((0:Int)≤x1∧x1 < (a0.live.length:Int))) (Lt (bif x2 then a0.live.getD (x1).toNat false else false) fun x3=>X x3)),fun r=>(r = true→1≤a1.seq∧a1.seq≤(a0.sent.length:Int))∧(r = true↔Has0 a0 a1)∧True,fun r=>(.v (.c (.bool r)),[])⟩
theorem Z7.X:XF Z7:=mkF (false) fun (a0,a1,()) hp=>by
 obtain ⟨p0,-⟩:=hp
 have p1:=p0.2.1
 have p2:=p0.1
 dsimp only [Z7]
 refine May.lwi fun x1 e1=>May.chk (fun hπ=>have g1:=Iff.mp (in_iff) hπ.1; ?_) fun c1=>May.lp (B.and (in_iff) (B.dec)) fun x2 e2=>May.chk (fun hπ=>have g1:=Iff.mp (e2) hπ.1; ?_) fun c2=>May.lp (B.and (e2) (Iff.rfl)) fun x3 e3=>May.ret ⟨?_,?_,trivial⟩
 all_goals try dsimp only
 all_goals first | with_reducible assumption | omega | (exact hasIff p2 e1 e3; done) | (exact fun h=>(e3.1 h).1.1; done) | rfl | assumption | (simp only [List.length_append,List.length_cons,List.length_nil,List.length_set,List.length_replicate,Int.natCast_add,Int.natCast_one] at *; omega) | grind
abbrev Z7.S:=Classical.choose Z7.X
def Z7.c:Ctr:=fc 184 [true,false] Z7.L Z7 Z7.S
theorem Z7.good:Good Tryz.prog Z7.c:=mkFG (fn:=Tryz.f184) {} Z7.X (consG Zi.good noG) (by kernel_rfl) (by kernel_rfl) (l0 (by kernel_rfl)) (c0 (by kernel_rfl)) fun s K=>by kernel_rfl
def Z8.L:FL:=fCons (fSh sCh) (fCons (fSh sInt) (fNil))
def Z8:Ch×Int×Unit→FR (Bool):=fun (a0,a1,())=>⟨(SIn a0.st)∧True,fun X=>Lt (wrap (a1 - 1)) fun x1=>And (Imp (And ((Zi.S a1 1 (a0.st.sent.length:Int)) = true) (True)) ((0:Int)≤x1∧x1 < (a0.st.live.length:Int))) (Lt (bif (Zi.S a1 1 (a0.st.sent.length:Int)) then a0.st.live.getD (x1).toNat false else false) fun x2=>X x2),fun r=>(r = true→1≤a1∧a1≤(a0.st.sent.length:Int))∧(r = true↔Mine0 a0.st a1)∧True,fun r=>(.v (.c (.bool r)),[])⟩
theorem Z8.X:XF Z8:=mkF (false) fun (a0,a1,()) hp=>by
 obtain ⟨p0,-⟩:=hp
 have p1:=p0.2.1
 have p2:=p0.1
 dsimp only [Z8]
 refine May.lwi fun x1 e1=>May.chk (fun hπ=>have g1:=Iff.mp (in_iff) hπ.1; ?_) fun c1=>May.lp (B.and (in_iff) (Iff.rfl)) fun x2 e2=>May.ret ⟨?_,?_,trivial⟩
 all_goals try dsimp only
 all_goals first | with_reducible assumption | omega | (exact fun h=>(e2.1 h).1; done) | (exact mine_iff p2 e1 e2; done) | rfl | assumption | (simp only [List.length_append,List.length_cons,List.length_nil,List.length_set,List.length_replicate,Int.natCast_add,Int.natCast_one] at *; omega) | grind
abbrev Z8.S:=Classical.choose Z8.X
def Z8.c:Ctr:=fc 186 [true,false] Z8.L Z8 Z8.S
theorem Z8.good:Good Tryz.prog Z8.c:=mkFG (fn:=Tryz.f186) {} Z8.X (consG Zi.good noG) (by kernel_rfl) (by kernel_rfl) (l0 (by kernel_rfl)) (c0 (by kernel_rfl)) fun s K=>by kernel_rfl
theorem Z9.G:GG []:=noG
def Zaa.L:FL:=fCons (fC (cArr false kInts)) (fCons (fC cInt) (fCons (fC cBool) (fCons (fC cInt) (fNil))))
def Zaa:List Int×Int×Bool×Int×Unit→LR (List Int×Int×Bool×Int×Unit) (Nat×Bool×Unit):=fun (y0,y1,y2,y3,())=>⟨(0≤y3)∧((y0.length:Int)≤9223372036854775807)∧(∀k:Nat,(k:Int) < y3→¬ y0.getD k 0 = y1)∧True,((y0.length:Int) - y3).toNat,fun X=>And (Imp ((decide (y3 < (y0.length:Int))) = true) (And ((0:Int)≤y3∧y3 < (y0.length:Int)) (And (Imp (((y0.getD (y3).toNat 0) == y1) = true) (X (.inr (0,true,())))) (Imp (((y0.getD (y3).toNat 0) == y1) = false) (Lt (wrap (y3 + 1)) fun x1=>X (.inl (y0,y1,y2,x1,()))))))) (Imp ((decide (y3 < (y0.length:Int))) = false) (X (.inr (1,false,())))),fun r=>(r.1 = 0→r.2.1 = true∧∃k,k < y0.length∧y0.getD k 0 = y1)∧(¬ r.1 = 0→¬ ∃k,k < y0.length∧y0.getD k 0 = y1)∧True,fun r=>[(Nat.beq r.1 0,(.ret,[.c (.bool r.2.1)],[]))],fun r=>(.exit 0,[],[])⟩
theorem Zaa.X:XL Zaa:=mkL (0,false,()) fun (y0,y1,y2,y3,()) hp=>by
 obtain ⟨p0,p1,p2,-⟩:=hp
 unfold ML; dsimp only [Zaa]
 refine May.iff (B.dec) (fun h1=>?_) (fun h1=>?_)
 refine May.chk ?_ fun c1=>May.iff (B.eq) (fun h2=>?_) (fun h2=>?_); rotate_left 1
 refine May.ex ⟨?_,?_,trivial⟩; rotate_left 2
 refine May.lw ⟨?_,?_⟩ fun x1 e1=>May.nx ⟨?_,?_,?_,trivial⟩ ?_ ?_ fun r=>rfl; rotate_left 7
 refine May.ex ⟨?_,?_,trivial⟩
 all_goals try dsimp only [Zaa]
 all_goals first | with_reducible assumption | omega | exact fun _ q=>q | (exact fun _=>⟨rfl,y3.toNat,by omega,h2⟩; done) | (exact fun h=>absurd rfl h; done) | (exact fun h=>absurd h (by decide); done) | (exact fun _=>am_none p2 h1; done) | (exact am_step p2 p0 e1 h2; done) | (intro k hk; omega; done) | (exact am_yes (q1_0 h2); done) | (exact am_no (q1_1 h2); done)
abbrev Zaa.R:=Classical.choose Zaa.X
def Zaa.k:LCtr:=(ld 2 [0,1,4,5] [] Zaa.L Zaa 0 (fun e=>match e with | .ret=>[4] | _=>[]) (fun _=>[]) Zaa.R).ctr
theorem Zaa.g:LGood Tryz.prog Tryz.f139.ntmps Zaa.k (bodyAt Tryz.f139 0):=mkLG {} Zaa.X Z9.G (by kernel_rfl) (l0 (by kernel_rfl)) (c0 (by kernel_rfl)) fun S s=>by kernel_rfl
def Z9.L:FL:=fCons (fSh sInts) (fCons (fSh sInt) (fNil))
def Z9:List Int×Int×Unit→FR (Bool):=fun (a0,a1,())=>⟨(a0.length≤1000000)∧True,fun X=>CallL Zaa.X (a0,a1,false,0,()) fun x2=>And (Imp (Nat.beq x2.1 0 = true) (X x2.2.1)) (Imp (Nat.beq x2.1 0 = false) (X false)),fun r=>(r = true↔∃k,k < a0.length∧a0.getD k 0 = a1)∧True,fun r=>(.v (.c (.bool r)),[])⟩
theorem Z9.X:XF Z9:=mkF (false) fun (a0,a1,()) hp=>by
 obtain ⟨p0,-⟩:=hp
 dsimp only [Z9]
 refine May.loop ⟨?_,?_,?_,trivial⟩ fun x2 q2=>have q2_0:=q2.1; have q2_1:=q2.2.1; May.iff B.nbeq (fun h1=>?_) (fun h1=>?_); rotate_left 3
 refine May.ret ⟨?_,trivial⟩; rotate_left 1
 refine May.ret ⟨?_,trivial⟩
 all_goals try dsimp only
 all_goals first | with_reducible assumption | omega | rfl | assumption | (simp only [List.length_append,List.length_cons,List.length_nil,List.length_set,List.length_replicate,Int.natCast_add,Int.natCast_one] at *; omega) | grind
abbrev Z9.S:=Classical.choose Z9.X
def Z9.c:Ctr:=fc 139 [true,false] Z9.L Z9 Z9.S
theorem Z9.good:Good Tryz.prog Z9.c:=mkFG (fn:=Tryz.f139) {LL:=[Zaa.k]} Z9.X Z9.G (by kernel_rfl) (by kernel_rfl) (lG (by kernel_rfl) (consL (by kernel_rfl) Zaa.g (noL rfl))) (c0 (by kernel_rfl)) fun s K=>by kernel_rfl
def Zab.L:FL:=fCons (fSh sSt) (fCons (fSh sSt) (fCons (fSh sInt) (fNil)))
def Zab:St×St×Int×Unit→FR (Bool):=fun (a0,a1,a2,())=>⟨(SIn a0)∧(SIn a1)∧True,fun X=>And (Imp ((a2 == 1) = true) (X (a0.way == 0))) (Imp ((a2 == 1) = false) (And (Imp ((a2 == 2) = true) (Lt (bif decide (a0.way≤1) then bif a1.way == 1 then true else a1.way == 2 else false) fun x1=>X x1)) (Imp ((a2 == 2) = false) (And (Imp ((a2 == 3) = true) (Lt (bif a0.way == 1 then decide (a1.way≥2) else false) fun x2=>X x2)) (Imp ((a2 == 3) = false) (And (Imp ((a2 == 4) = true) (Lt (bif a0.way == 2 then decide (a1.way≥2) else false) fun x3=>X x3)) (Imp ((a2 == 4) = false) (And (Imp ((a2 == 5) = true) (Lt (bif a0.way == 3 then decide (a0.ver < 9) else false) fun x4=>X x4)) (Imp ((a2 == 5) = false) (And (Imp ((a2 == 6) = true) (Lt (bif bif a0.way == 3 then a1.way == 4 else false then a1.want == (wrap (a0.ver + 1)) else false) fun x5=>X x5)) (Imp ((a2 == 6) = false) (And (Imp ((a2 == 7) = true) (Lt (bif a0.way == 4 then (ZQ.S a0) == 0 else false) fun x6=>Lt (bif bif a1.way == 4 then a1.want == a0.want else false then (ZQ.S a1) == 0 else false) fun x7=>Lt (bif x6 then bif x7 then true else a1.ver == a0.want else false) fun x8=>X x8)) (Imp ((a2 == 7) = false) (X false)))))))))))))),fun r=>(r = true↔MayK a0 a1 a2)∧True,fun r=>(.v (.c (.bool r)),[])⟩
theorem Zab.X:XF Zab:=mkF (false) fun (a0,a1,a2,()) hp=>by
 obtain ⟨p0,p1,-⟩:=hp
 have l1:=(liveCt (s:=a0) (by unfold SIn at p0; omega)).2.2
 have l2:=(liveCt (s:=a1) (by unfold SIn at p1; omega)).2.2
 dsimp only [Zab]
 refine May.iff (B.eq) (fun h1=>?_) (fun h1=>?_)
 refine May.ret ⟨?_,trivial⟩; rotate_left 1
 refine May.iff (B.eq) (fun h2=>?_) (fun h2=>?_)
 refine May.lp (B.and (B.dec) (B.or (B.eq) (B.eq))) fun x1 e1=>May.ret ⟨?_,trivial⟩; rotate_left 1
 refine May.iff (B.eq) (fun h3=>?_) (fun h3=>?_)
 refine May.lp (B.and (B.eq) (B.dec)) fun x2 e2=>May.ret ⟨?_,trivial⟩; rotate_left 1
 refine May.iff (B.eq) (fun h4=>?_) (fun h4=>?_)
 refine May.lp (B.and (B.eq) (B.dec)) fun x3 e3=>May.ret ⟨?_,trivial⟩; rotate_left 1
 refine May.iff (B.eq) (fun h5=>?_) (fun h5=>?_)
 refine May.lp (B.and (B.eq) (B.dec)) fun x4 e4=>May.ret ⟨?_,trivial⟩; rotate_left 1
 refine May.iff (B.eq) (fun h6=>?_) (fun h6=>?_)
 refine May.lp (B.and (B.and (B.eq) (B.eq)) (B.eq)) fun x5 e5=>May.ret ⟨?_,trivial⟩; rotate_left 1
 refine May.iff (B.eq) (fun h7=>?_) (fun h7=>?_)
 refine May.lp (B.and (B.eq) (B.eq)) fun x6 e6=>May.lp (B.and (B.and (B.eq) (B.eq)) (B.eq)) fun x7 e7=>May.lp (B.and (e6) (B.or (e7) (B.eq))) fun x8 e8=>May.ret ⟨?_,trivial⟩; rotate_left 1
 refine May.ret ⟨?_,trivial⟩
 all_goals try dsimp only
 all_goals first | with_reducible assumption | omega | rfl | assumption | (simp only [List.length_append,List.length_cons,List.length_nil,List.length_set,List.length_replicate,Int.natCast_add,Int.natCast_one] at *; omega) | grind [MayK]
abbrev Zab.S:=Classical.choose Zab.X
def Zab.c:Ctr:=fc 144 [true,true,false] Zab.L Zab Zab.S
theorem Zab.good:Good Tryz.prog Zab.c:=mkFG (fn:=Tryz.f144) {} Zab.X (consG ZQ.good noG) (by kernel_rfl) (by kernel_rfl) (l0 (by kernel_rfl)) (c0 (by kernel_rfl)) fun s K=>by kernel_rfl
def Zaf.L:FL:=fCons (fAgg cChO) (fNil)
def Zaf:Ch×Unit→FR (Ch):=fun (a0,())=>⟨(CIn a0)∧True,fun X=>And (Imp ((decide ((a0.past.length:Int) < 90)) = true) (Call Zk.X (a0.st,()) fun x1=>And ((a0.past ++ ([x1])).length≤4294967296) (X (⟨a0.id,a0.bank,a0.st,(a0.past ++ ([x1])),a0.knows⟩:Ch)))) (Imp ((decide ((a0.past.length:Int) < 90)) = false) (X a0)),fun r=>(CIn r)∧(r.knows = a0.knows)∧(r = blkC a0)∧True,fun r=>(.v (.agg [.int r.id,.own 8 1 3,.own 9 1 3,.int r.bank.locked,.int r.st.way,.int r.st.ver,.int r.st.want,.own 10 7 46,.own 11 1 4,.own 12 1 4,.own 13 1 3,.own 14 7 75,.own 15 1 3]),[.dead,.dead,.dead,.dead,.dead,.dead,.dead,.dead,.arr (.ints r.bank.own),.arr (.ints r.bank.notes),.arr (.pkts r.st.sent),.arr (.bools r.st.live),.arr (.bools r.st.back),.arr (.ints r.st.got),.arr (.sts r.past),.arr (.ints r.knows)])⟩
theorem Zaf.X:XF Zaf:=mkF (zCh) fun (a0,()) hp=>by
 obtain ⟨p0,-⟩:=hp
 obtain ⟨p0b,p0s,p0l,p0p,p0k,p0q⟩:=id p0
 obtain ⟨p0s1,p0s2,p0s3,p0s4,p0s5⟩:=id p0s
 dsimp only [Zaf]
 refine May.iff (B.dec) (fun h1=>?_) (fun h1=>?_)
 refine May.call ⟨?_,trivial⟩ fun x1 q1=>have q1:=q1.1; May.chk ?_ fun c1=>May.ret ⟨?_,?_,?_,trivial⟩; rotate_left 5
 refine May.ret ⟨?_,?_,?_,trivial⟩
 all_goals try dsimp only
 all_goals first | with_reducible assumption | omega | (exact sin_sm p0s; done) | (exact cin_past p0 (by rw [q1]; exact p0s) h1; done) | (rw [q1]; exact (if_pos h1).symm; done) | (exact (if_neg h1).symm; done) | rfl | assumption | (simp only [List.length_append,List.length_cons,List.length_nil,List.length_set,List.length_replicate,Int.natCast_add,Int.natCast_one] at *; omega) | grind
abbrev Zaf.S:=Classical.choose Zaf.X
def Zaf.c:Ctr:=fc 77 [false] Zaf.L Zaf Zaf.S
theorem Zaf.good:Good Tryz.prog Zaf.c:=mkFG (fn:=Tryz.f77) {sh:=[[none,some (.int,3),some (.int,3),none,none,none,none,some (.pkt,46),some (.bool,4),some (.bool,4),some (.int,3),some (.st,75),some (.int,3)]],tk:=[0,1,2,3,4,5,6,7]} Zaf.X (consG Zk.good noG) (by kernel_rfl) (by kernel_rfl) (l0 (by kernel_rfl)) (c0 (by kernel_rfl)) fun s K=>by kernel_rfl
def Zag.L:FL:=fCons (fAgg cChO) (fCons (fSh sInt) (fCons (fSh sInt) (fCons (fSh sInt) (fCons (fSh sInt) (fCons (fSh sInt) (fNil))))))
def Zag:Ch×Int×Int×Int×Int×Int×Unit→FR (Ch×Int×Bool):=fun (a0,a1,a2,a3,a4,a5,())=>⟨(CIn a0)∧True,fun X=>Lt (wrap ((a0.st.sent.length:Int) + 1)) fun x1=>Lt (Zy.S (⟨x1,a1,a2,a3,a4,a5,a0.st.ver⟩:Pkt)) fun x2=>And (Imp ((bif a0.st.way != 3 then true else !x2) = true) (X (a0,0,false))) (Imp ((bif a0.st.way != 3 then true else !x2) = false) (Call Zs.X (a0.bank,a1,a2,a4,()) fun x3=>And (Imp ((!x3.2) = true) (X ((⟨a0.id,(⟨x3.1.own,x3.1.notes,a0.bank.locked⟩:Bk),a0.st,a0.past,a0.knows⟩:Ch),0,false))) (Imp ((!x3.2) = false) (And ((a0.st.sent ++ ([(⟨x1,a1,a2,a3,a4,a5,a0.st.ver⟩:Pkt)])).length≤4294967296) (And ((a0.st.live ++ ([true])).length≤4294967296) (And ((a0.st.back ++ ([false])).length≤4294967296) (X ((⟨a0.id,x3.1,(⟨a0.st.way,a0.st.ver,a0.st.want,(a0.st.sent ++ ([(⟨x1,a1,a2,a3,a4,a5,a0.st.ver⟩:Pkt)])),(a0.st.live ++ ([true])),(a0.st.back ++ ([false])),a0.st.got⟩:St),a0.past,a0.knows⟩:Ch),x1,true)))))))),fun r=>(CIn r.1)∧(r.1.knows = a0.knows)∧(SndW a0 a1 a2 a3 a4 a5 r.1 r.2.1 r.2.2)∧True,fun r=>(.tup [.agg [.int r.1.id,.own 8 1 3,.own 9 1 3,.int r.1.bank.locked,.int r.1.st.way,.int r.1.st.ver,.int r.1.st.want,.own 10 7 46,.own 11 1 4,.own 12 1 4,.own 13 1 3,.own 14 7 75,.own 15 1 3],.c (.int r.2.1),.c (.bool r.2.2)],[.dead,.dead,.dead,.dead,.dead,.dead,.dead,.dead,.arr (.ints r.1.bank.own),.arr (.ints r.1.bank.notes),.arr (.pkts r.1.st.sent),.arr (.bools r.1.st.live),.arr (.bools r.1.st.back),.arr (.ints r.1.st.got),.arr (.sts r.1.past),.arr (.ints r.1.knows)])⟩
theorem Zag.X:XF Zag:=mkF (zCh,0,false) fun (a0,a1,a2,a3,a4,a5,()) hp=>by
 obtain ⟨p0,-⟩:=hp
 obtain ⟨p0b,p0s,p0l,p0p,p0k,p0q⟩:=id p0
 obtain ⟨p0s1,p0s2,p0s3,p0s4,p0s5⟩:=id p0s
 dsimp only [Zag]
 refine May.lw ⟨?_,?_⟩ fun x1 e1=>May.lp (specPkt) fun x2 e2=>May.iff (B.or (B.ne) (B.not (e2))) (fun h1=>?_) (fun h1=>?_); rotate_left 2
 refine May.ret ⟨?_,?_,?_,trivial⟩; rotate_left 3
 refine May.call ⟨?_,?_,trivial⟩ fun x3 q3=>have q3_0:=q3.1; have q3_1:=q3.2.1; May.iff (B.not (Iff.rfl)) (fun h2=>?_) (fun h2=>?_); rotate_left 2
 refine May.ret ⟨?_,?_,?_,trivial⟩; rotate_left 3
 refine May.chk ?_ fun c1=>May.chk ?_ fun c2=>May.chk ?_ fun c3=>May.ret ⟨?_,?_,?_,trivial⟩
 all_goals try dsimp only
 all_goals first | with_reducible assumption | omega | (exact snd_f1 h1 e1; done) | (exact snd_f2 q3_1 h2; done) | (exact snd_t q3_1 (Classical.byContradiction h2) (snd_pk h1) e1; done) | (exact (snd_pk h1).2.2.2.1; done) | (rw [List.length_append,List.length_singleton]; omega; done) | (rfl; done) | (exact cin_mk p0 q3_0 p0s; done) | (exact cin_mk p0 ⟨q3_0.1,q3_0.2.1,p0b.2.2⟩ p0s; done) | (exact cin_mk p0 q3_0 (sin_send p0s (pok_in (by grind)) (by unfold PktOk at h1; grind)); done)
abbrev Zag.S:=Classical.choose Zag.X
def Zag.c:Ctr:=fc 79 [false,false,false,false,false,false] Zag.L Zag Zag.S
theorem Zag.good:Good Tryz.prog Zag.c:=mkFG (fn:=Tryz.f79) {sh:=[[none,some (.int,3),some (.int,3),none,none,none,none,some (.pkt,46),some (.bool,4),some (.bool,4),some (.int,3),some (.st,75),some (.int,3)],[],[]],tk:=[0,1,2,3,4,5,6,7]} Zag.X (consG Zy.good (consG Zs.good noG)) (by kernel_rfl) (by kernel_rfl) (l0 (by kernel_rfl)) (c0 (by kernel_rfl)) fun s K=>by kernel_rfl
def Zah.L:FL:=fCons (fAgg cStO) (fCons (fSh sSt) (fCons (fSh sInt) (fNil)))
def Zah:St×St×Int×Unit→FR (St):=fun (a0,a1,a2,())=>⟨(SIn a0)∧True,fun X=>And (Imp ((a2 == 1) = true) (X (⟨1,a0.ver,a0.want,a0.sent,a0.live,a0.back,a0.got⟩:St))) (Imp ((a2 == 1) = false) (And (Imp ((a2 == 2) = true) (X (⟨2,a0.ver,a0.want,a0.sent,a0.live,a0.back,a0.got⟩:St))) (Imp ((a2 == 2) = false) (And (Imp ((a2 == 3) = true) (And (Imp ((a2 == 3) = true) (X (⟨3,a0.ver,a0.want,a0.sent,a0.live,a0.back,a0.got⟩:St))) (Imp ((a2 == 3) = false) (And (Imp ((a2 == 5) = true) (X (⟨4,a0.ver,wrap (a0.ver + 1),a0.sent,a0.live,a0.back,a0.got⟩:St))) (Imp ((a2 == 5) = false) (And (Imp ((a2 == 6) = true) (X (⟨4,a0.ver,a1.want,a0.sent,a0.live,a0.back,a0.got⟩:St))) (Imp ((a2 == 6) = false) (And (Imp ((a2 == 7) = true) (X (⟨3,a0.want,0,a0.sent,a0.live,a0.back,a0.got⟩:St))) (Imp ((a2 == 7) = false) (X a0)))))))))) (Imp ((a2 == 3) = false) (And (Imp ((a2 == 4) = true) (X (⟨3,a0.ver,a0.want,a0.sent,a0.live,a0.back,a0.got⟩:St))) (Imp ((a2 == 4) = false) (And (Imp ((a2 == 5) = true) (X (⟨4,a0.ver,wrap (a0.ver + 1),a0.sent,a0.live,a0.back,a0.got⟩:St))) (Imp ((a2 == 5) = false) (And (Imp ((a2 == 6) = true) (X (⟨4,a0.ver,a1.want,a0.sent,a0.live,a0.back,a0.got⟩:St))) (Imp ((a2 == 6) = false) (And (Imp ((a2 == 7) = true) (X (⟨3,a0.want,0,a0.sent,a0.live,a0.back,a0.got⟩:St))) (Imp ((a2 == 7) = false) (X a0)))))))))))))),fun r=>(SIn r)∧(r = doK a0 a1 a2)∧True,fun r=>(.v (.agg [.int r.way,.int r.ver,.int r.want,.own 0 7 46,.own 1 1 4,.own 2 1 4,.own 3 1 3]),[.arr (.pkts r.sent),.arr (.bools r.live),.arr (.bools r.back),.arr (.ints r.got)])⟩
theorem Zah.X:XF Zah:=mkF (zSt) fun (a0,a1,a2,()) hp=>by
 obtain ⟨p0,-⟩:=hp
 dsimp only [Zah]
 refine May.iff (B.eq) (fun h1=>?_) (fun h1=>?_)
 refine May.ret ⟨?_,?_,trivial⟩; rotate_left 2
 refine May.iff (B.eq) (fun h2=>?_) (fun h2=>?_)
 refine May.ret ⟨?_,?_,trivial⟩; rotate_left 2
 refine May.iff (B.eq) (fun h3=>?_) (fun h3=>?_)
 refine May.iff (B.eq) (fun h4=>?_) (fun h4=>?_)
 refine May.ret ⟨?_,?_,trivial⟩; rotate_left 2
 refine May.no ?_; rotate_left 1
 refine May.iff (B.eq) (fun h4=>?_) (fun h4=>?_)
 refine May.ret ⟨?_,?_,trivial⟩; rotate_left 2
 refine May.iff (B.eq) (fun h5=>?_) (fun h5=>?_)
 refine May.ret ⟨?_,?_,trivial⟩; rotate_left 2
 refine May.iff (B.eq) (fun h6=>?_) (fun h6=>?_)
 refine May.ret ⟨?_,?_,trivial⟩; rotate_left 2
 refine May.iff (B.eq) (fun h7=>?_) (fun h7=>?_)
 refine May.ret ⟨?_,?_,trivial⟩; rotate_left 2
 refine May.ret ⟨?_,?_,trivial⟩
 all_goals try dsimp only
 all_goals first | with_reducible assumption | omega | (exact sin_set p0 rfl rfl rfl; done) | (unfold doK; grind; done) | rfl | assumption | (simp only [List.length_append,List.length_cons,List.length_nil,List.length_set,List.length_replicate,Int.natCast_add,Int.natCast_one] at *; omega) | grind
abbrev Zah.S:=Classical.choose Zah.X
def Zah.c:Ctr:=fc 145 [false,true,false] Zah.L Zah Zah.S
theorem Zah.good:Good Tryz.prog Zah.c:=mkFG (fn:=Tryz.f145) {sh:=[[none,none,none,some (.pkt,46),some (.bool,4),some (.bool,4),some (.int,3)]]} Zah.X noG (by kernel_rfl) (by kernel_rfl) (l0 (by kernel_rfl)) (c0 (by kernel_rfl)) fun s K=>by kernel_rfl
def Zai.L:FL:=fCons (fAgg cChO) (fCons (fSh sSt) (fCons (fSh sInt) (fNil)))
def Zai:Ch×St×Int×Unit→FR (Ch×Bool):=fun (a0,a1,a2,())=>⟨(CIn a0)∧(SIn a1)∧True,fun X=>Call Zab.X (a0.st,a1,a2,()) fun x1=>And (Imp ((!x1) = true) (X (a0,false))) (Imp ((!x1) = false) (Call Zah.X (a0.st,a1,a2,()) fun x2=>X ((⟨a0.id,a0.bank,x2,a0.past,a0.knows⟩:Ch),true))),fun r=>(CIn r.1)∧(r.1.knows = a0.knows)∧(StpQ a0 a1 a2 r.1 r.2)∧True,fun r=>(.tup [.agg [.int r.1.id,.own 0 1 3,.own 1 1 3,.int r.1.bank.locked,.int r.1.st.way,.int r.1.st.ver,.int r.1.st.want,.own 2 7 46,.own 3 1 4,.own 4 1 4,.own 5 1 3,.own 6 7 75,.own 7 1 3],.c (.bool r.2)],[.arr (.ints r.1.bank.own),.arr (.ints r.1.bank.notes),.arr (.pkts r.1.st.sent),.arr (.bools r.1.st.live),.arr (.bools r.1.st.back),.arr (.ints r.1.st.got),.arr (.sts r.1.past),.arr (.ints r.1.knows)])⟩
theorem Zai.X:XF Zai:=mkF (zCh,false) fun (a0,a1,a2,()) hp=>by
 obtain ⟨p0,p1,-⟩:=hp
 obtain ⟨p0b,p0s,p0l,p0p,p0k,p0q⟩:=id p0
 obtain ⟨p0s1,p0s2,p0s3,p0s4,p0s5⟩:=id p0s
 dsimp only [Zai]
 refine May.call ⟨?_,?_,trivial⟩ fun x1 q1=>have q1:=q1.1; May.iff (B.not (Iff.rfl)) (fun h1=>?_) (fun h1=>?_); rotate_left 2
 refine May.ret ⟨?_,?_,?_,trivial⟩; rotate_left 3
 refine May.call ⟨?_,trivial⟩ fun x2 q2=>have q2_0:=q2.1; have q2_1:=q2.2.1; May.ret ⟨?_,?_,?_,trivial⟩
 all_goals try dsimp only
 all_goals first | with_reducible assumption | omega | (exact stpQ_f fun g=>h1 (q1.2 g); done) | (exact stpQ_t (q1.1 (Classical.byContradiction h1)) q2_1; done) | (exact bin_rows (by assumption) (by assumption); done) | (exact sin_sm (by assumption); done) | (exact cin_mk p0 (by assumption) (by assumption); done) | (exact cin_mk p0 (by assumption) (sin_set p0s (by simp only [List.length_set]) (by simp only [List.length_set]) (by simp only [List.length_set])); done) | rfl | assumption | (simp only [List.length_append,List.length_cons,List.length_nil,List.length_set,List.length_replicate,Int.natCast_add,Int.natCast_one] at *; omega) | grind
abbrev Zai.S:=Classical.choose Zai.X
def Zai.c:Ctr:=fc 81 [false,true,false] Zai.L Zai Zai.S
theorem Zai.good:Good Tryz.prog Zai.c:=mkFG (fn:=Tryz.f81) {sh:=[[none,some (.int,3),some (.int,3),none,none,none,none,some (.pkt,46),some (.bool,4),some (.bool,4),some (.int,3),some (.st,75),some (.int,3)],[]]} Zai.X (consG Zab.good (consG Zah.good noG)) (by kernel_rfl) (by kernel_rfl) (l0 (by kernel_rfl)) (c0 (by kernel_rfl)) fun s K=>by kernel_rfl
def Zaj.L:FL:=fCons (fAgg cBkO) (fCons (fSh sPkt) (fNil))
def Zaj:Bk×Pkt×Unit→FR (Bk×Int):=fun (a0,a1,())=>⟨(BIn a0)∧(PIn a1)∧True,fun X=>And (Imp ((a1.kind == 2) = true) (And (Imp ((a1.to == 0) = true) (X (a0,2))) (Imp ((a1.to == 0) = false) (Call Zt.X (a0,1,a1.to,a1.sum,()) fun x1=>And (Imp ((!x1.2) = true) (X ((⟨x1.1.own,x1.1.notes,a0.locked⟩:Bk),2))) (Imp ((!x1.2) = false) (X (x1.1,1))))))) (Imp ((a1.kind == 2) = false) (And (Imp ((a1.to == 0) = true) (X (a0,2))) (Imp ((a1.to == 0) = false) (Call Zt.X (a0,2,a1.to,a1.sum,()) fun x2=>And (Imp ((!x2.2) = true) (X ((⟨x2.1.own,x2.1.notes,a0.locked⟩:Bk),2))) (Imp ((!x2.2) = false) (X (x2.1,1))))))),fun r=>(BIn r.1)∧(PayQ a0 a1 r.1 r.2)∧True,fun r=>(.tup [.agg [.own 0 1 3,.own 1 1 3,.int r.1.locked],.c (.int r.2)],[.arr (.ints r.1.own),.arr (.ints r.1.notes)])⟩
theorem Zaj.X:XF Zaj:=mkF (zBk,0) fun (a0,a1,()) hp=>by
 obtain ⟨p0,p1,-⟩:=hp
 dsimp only [Zaj]
 refine May.iff (B.eq) (fun h1=>?_) (fun h1=>?_)
 refine May.iff (B.eq) (fun h2=>?_) (fun h2=>?_)
 refine May.ret ⟨?_,?_,trivial⟩; rotate_left 2
 refine May.call ⟨?_,?_,trivial⟩ fun x1 q1=>have q1_0:=q1.1; have q1_1:=q1.2.1; May.iff (B.not (Iff.rfl)) (fun h3=>?_) (fun h3=>?_); rotate_left 2
 refine May.ret ⟨?_,?_,trivial⟩; rotate_left 2
 refine May.ret ⟨?_,?_,trivial⟩; rotate_left 2
 refine May.iff (B.eq) (fun h2=>?_) (fun h2=>?_)
 refine May.ret ⟨?_,?_,trivial⟩; rotate_left 2
 refine May.call ⟨?_,?_,trivial⟩ fun x2 q2=>have q2_0:=q2.1; have q2_1:=q2.2.1; May.iff (B.not (Iff.rfl)) (fun h3=>?_) (fun h3=>?_); rotate_left 2
 refine May.ret ⟨?_,?_,trivial⟩; rotate_left 2
 refine May.ret ⟨?_,?_,trivial⟩
 all_goals try dsimp only
 all_goals first | with_reducible assumption | omega | (exact pay_0 h2; done) | (exact pay_t (pkd1 h1) h2 q1_1 h3; done) | (exact pay_t (pkd2 h1) h2 q2_1 h3; done) | (exact pay_f (pkd1 h1) h2 q1_1 h3; done) | (exact pay_f (pkd2 h1) h2 q2_1 h3; done) | (exact ⟨q1_0.1,q1_0.2.1,p0.2.2⟩; done) | (exact ⟨q2_0.1,q2_0.2.1,p0.2.2⟩; done) | (exact bin_rows (by assumption) (by assumption); done) | (exact sin_sm (by assumption); done) | (exact cin_mk p0 (by assumption) (by assumption); done) | (exact cin_mk p0 (by assumption) (sin_set p0s (by simp only [List.length_set]) (by simp only [List.length_set]) (by simp only [List.length_set])); done) | rfl | assumption | (simp only [List.length_append,List.length_cons,List.length_nil,List.length_set,List.length_replicate,Int.natCast_add,Int.natCast_one] at *; omega) | grind [PIn]
abbrev Zaj.S:=Classical.choose Zaj.X
def Zaj.c:Ctr:=fc 185 [false,false] Zaj.L Zaj Zaj.S
theorem Zaj.good:Good Tryz.prog Zaj.c:=mkFG (fn:=Tryz.f185) {sh:=[[some (.int,3),some (.int,3),none],[]]} Zaj.X (consG Zt.good noG) (by kernel_rfl) (by kernel_rfl) (l0 (by kernel_rfl)) (c0 (by kernel_rfl)) fun s K=>by kernel_rfl
def Zak.L:FL:=fCons (fAgg cChO) (fCons (fSh sSt) (fCons (fSh sPkt) (fNil)))
def Zak:Ch×St×Pkt×Unit→FR (Ch×Bool):=fun (a0,a1,a2,())=>⟨(CIn a0)∧(SIn a1)∧(PIn a2)∧True,fun X=>And (Imp (And ((decide (a0.st.way < 3)) = false) (True)) ((Z7 (a1,a2,())).P)) (Lt ((Z7.S (a1,a2,()))) fun x1=>Lt (wrap (a2.seq - 1)) fun x2=>And (Imp (And ((bif decide (a0.st.way < 3) then true else !x1) = false) (True)) ((0:Int)≤x2∧x2 < (a0.st.got.length:Int))) (And (Imp (And ((bif decide (a0.st.way < 3) then true else !x1) = false) (True)) ((x2).toNat < a0.st.got.length)) (Lt (bif bif decide (a0.st.way < 3) then true else !x1 then true else (a0.st.got.getD (x2).toNat 0) != 0) fun x3=>Lt (wrap ((a0.past.length:Int) + 1)) fun x4=>Lt (bif bif x3 then true else a2.ver != a0.st.ver then true else decide (x4≥a2.til)) fun x5=>And (Imp (x5 = true) (X (a0,false))) (Imp (x5 = false) (Call Zaj.X (a0.bank,a2,()) fun x6=>And ((0:Int)≤x2∧x2 < (a0.st.got.length:Int)) (And ((x2).toNat < a0.st.got.length) (X ((⟨a0.id,x6.1,(⟨a0.st.way,a0.st.ver,a0.st.want,a0.st.sent,a0.st.live,a0.st.back,a0.st.got.set (x2).toNat x6.2⟩:St),a0.past,a0.knows⟩:Ch),true)))))))),fun r=>(CIn r.1)∧(r.1.knows = a0.knows)∧(GetQ a0 a1 a2 r.1 r.2)∧True,fun r=>(.tup [.agg [.int r.1.id,.own 0 1 3,.own 1 1 3,.int r.1.bank.locked,.int r.1.st.way,.int r.1.st.ver,.int r.1.st.want,.own 2 7 46,.own 3 1 4,.own 4 1 4,.own 5 1 3,.own 6 7 75,.own 7 1 3],.c (.bool r.2)],[.arr (.ints r.1.bank.own),.arr (.ints r.1.bank.notes),.arr (.pkts r.1.st.sent),.arr (.bools r.1.st.live),.arr (.bools r.1.st.back),.arr (.ints r.1.st.got),.arr (.sts r.1.past),.arr (.ints r.1.knows)])⟩
theorem Zak.X:XF Zak:=mkF (zCh,false) fun (a0,a1,a2,()) hp=>by
 obtain ⟨p0,p1,p2,-⟩:=hp
 obtain ⟨p0b,p0s,p0l,p0p,p0k,p0q⟩:=id p0
 obtain ⟨p0s1,p0s2,p0s3,p0s4,p0s5⟩:=id p0s
 obtain ⟨p11,p12,p13,p14,p15⟩:=id p1
 dsimp only [Zak]
 refine May.chk (fun hπ=>have g1:=B.neg (B.dec) hπ.1; ⟨?_,trivial⟩) fun c1=>May.clq ⟨?_,trivial⟩ fun x1 q1=>have q1_0:=q1.1; have q1_1:=q1.2.1; May.lwi fun x2 e2=>May.chk (fun hπ=>have g1:=B.neg (B.or (B.dec) (B.not (Iff.rfl))) hπ.1; ?_) fun c2=>May.chk (fun hπ=>have g1:=B.neg (B.or (B.dec) (B.not (Iff.rfl))) hπ.1; ?_) fun c3=>May.lp (B.or (B.or (B.dec) (B.not (Iff.rfl))) (B.ne)) fun x3 e3=>May.lwi fun x4 e4=>May.lp (B.or (B.or (e3) (B.ne)) (B.dec)) fun x5 e5=>?_; rotate_left 4
 refine May.iff (e5) (fun h1=>?_) (fun h1=>?_)
 refine May.ret ⟨?_,?_,?_,trivial⟩; rotate_left 3
 refine May.call ⟨?_,?_,trivial⟩ fun x6 q6=>have q6_0:=q6.1; have q6_1:=q6.2.1; May.chk ?_ fun c4=>May.chk ?_ fun c5=>May.ret ⟨?_,?_,?_,trivial⟩
 all_goals try dsimp only
 all_goals first | with_reducible assumption | omega | (exact get_f p11 p0l q1_1 e2 e4 h1; done) | (exact get_t p11 p0l q1_1 e2 e4 h1 q6_1; done) | (exact cin_mk p0 q6_0 (sin_set p0s rfl rfl (by rw [List.length_set])); done) | (exact bin_rows (by assumption) (by assumption); done) | (exact sin_sm (by assumption); done) | (exact cin_mk p0 (by assumption) (by assumption); done) | (exact cin_mk p0 (by assumption) (sin_set p0s (by simp only [List.length_set]) (by simp only [List.length_set]) (by simp only [List.length_set])); done) | rfl | assumption | (simp only [List.length_append,List.length_cons,List.length_nil,List.length_set,List.length_replicate,Int.natCast_add,Int.natCast_one] at *; omega) | grind
abbrev Zak.S:=Classical.choose Zak.X
def Zak.c:Ctr:=fc 146 [false,true,false] Zak.L Zak Zak.S
theorem Zak.good:Good Tryz.prog Zak.c:=mkFG (fn:=Tryz.f146) {sh:=[[none,some (.int,3),some (.int,3),none,none,none,none,some (.pkt,46),some (.bool,4),some (.bool,4),some (.int,3),some (.st,75),some (.int,3)],[]]} Zak.X (consG Z7.good (consG Zaj.good noG)) (by kernel_rfl) (by kernel_rfl) (l0 (by kernel_rfl)) (c0 (by kernel_rfl)) fun s K=>by kernel_rfl
def Zal.L:FL:=fCons (fAgg cChO) (fCons (fSh sInt) (fCons (fSh sBool) (fNil)))
def Zal:Ch×Int×Bool×Unit→FR (Ch):=fun (a0,a1,a2,())=>⟨(CIn a0)∧(1≤a1)∧(a1≤(a0.st.sent.length:Int))∧True,fun X=>Lt (wrap (a1 - 1)) fun x1=>And ((0:Int)≤x1∧x1 < (a0.st.sent.length:Int)) (And ((x1).toNat < a0.st.sent.length) (And ((0:Int)≤x1∧x1 < (a0.st.live.length:Int)) (And ((x1).toNat < a0.st.live.length) (And (Imp (a2 = true) (Call Zt.X (a0.bank,(a0.st.sent.getD (x1).toNat zPkt).kind,(a0.st.sent.getD (x1).toNat zPkt).frm,(a0.st.sent.getD (x1).toNat zPkt).sum,()) fun x2=>And ((0:Int)≤x1∧x1 < (a0.st.back.length:Int)) (And ((x1).toNat < a0.st.back.length) (X (⟨a0.id,x2.1,(⟨a0.st.way,a0.st.ver,a0.st.want,a0.st.sent,a0.st.live.set (x1).toNat false,a0.st.back.set (x1).toNat true,a0.st.got⟩:St),a0.past,a0.knows⟩:Ch))))) (Imp (a2 = false) (X (⟨a0.id,a0.bank,(⟨a0.st.way,a0.st.ver,a0.st.want,a0.st.sent,a0.st.live.set (x1).toNat false,a0.st.back,a0.st.got⟩:St),a0.past,a0.knows⟩:Ch))))))),fun r=>(CIn r)∧(r.knows = a0.knows)∧(SetQ a0 a1 a2 r)∧True,fun r=>(.v (.agg [.int r.id,.own 0 1 3,.own 1 1 3,.int r.bank.locked,.int r.st.way,.int r.st.ver,.int r.st.want,.own 2 7 46,.own 3 1 4,.own 4 1 4,.own 5 1 3,.own 6 7 75,.own 7 1 3]),[.arr (.ints r.bank.own),.arr (.ints r.bank.notes),.arr (.pkts r.st.sent),.arr (.bools r.st.live),.arr (.bools r.st.back),.arr (.ints r.st.got),.arr (.sts r.past),.arr (.ints r.knows)])⟩
theorem Zal.X:XF Zal:=mkF (zCh) fun (a0,a1,a2,()) hp=>by
 obtain ⟨p0,p1,p2,-⟩:=hp
 obtain ⟨p0b,p0s,p0l,p0p,p0k,p0q⟩:=id p0
 obtain ⟨p0s1,p0s2,p0s3,p0s4,p0s5⟩:=id p0s
 dsimp only [Zal]
 refine May.lw ⟨?_,?_⟩ fun x1 e1=>May.chk ?_ fun c1=>May.chk ?_ fun c2=>May.chk ?_ fun c3=>May.chk ?_ fun c4=>May.iff (Iff.rfl) (fun h1=>?_) (fun h1=>?_); rotate_left 6
 refine May.call ⟨?_,?_,trivial⟩ fun x2 q2=>have q2_0:=q2.1; have q2_1:=q2.2.1; May.chk ?_ fun c5=>May.chk ?_ fun c6=>May.ret ⟨?_,?_,?_,trivial⟩; rotate_left 7
 refine May.ret ⟨?_,?_,?_,trivial⟩
 all_goals try dsimp only
 all_goals first | with_reducible assumption | omega | (exact set_n e1 h1; done) | (exact set_y e1 h1 q2_1; done) | (exact bin_rows (by assumption) (by assumption); done) | (exact sin_sm (by assumption); done) | (exact cin_mk p0 (by assumption) (by assumption); done) | (exact cin_mk p0 (by assumption) (sin_set p0s (by simp only [List.length_set]) (by simp only [List.length_set]) (by simp only [List.length_set])); done) | (exact (pin_get p0s (by omega) (by omega)).1; done) | rfl | assumption | (simp only [List.length_append,List.length_cons,List.length_nil,List.length_set,List.length_replicate,Int.natCast_add,Int.natCast_one] at *; omega) | grind
abbrev Zal.S:=Classical.choose Zal.X
def Zal.c:Ctr:=fc 187 [false,false,false] Zal.L Zal Zal.S
theorem Zal.good:Good Tryz.prog Zal.c:=mkFG (fn:=Tryz.f187) {sh:=[[none,some (.int,3),some (.int,3),none,none,none,none,some (.pkt,46),some (.bool,4),some (.bool,4),some (.int,3),some (.st,75),some (.int,3)]]} Zal.X (consG Zt.good noG) (by kernel_rfl) (by kernel_rfl) (l0 (by kernel_rfl)) (c0 (by kernel_rfl)) fun s K=>by kernel_rfl
def Zam.L:FL:=fCons (fAgg cChO) (fCons (fSh sSt) (fCons (fSh sInt) (fNil)))
def Zam:Ch×St×Int×Unit→FR (Ch×Bool):=fun (a0,a1,a2,())=>⟨(CIn a0)∧(SIn a1)∧True,fun X=>Call Z8.X (a0,a2,()) fun x1=>Lt (wrap (a2 - 1)) fun x2=>And (Imp (And ((!x1) = false) (True)) ((0:Int)≤x2∧x2 < (a1.got.length:Int))) (Lt (bif !x1 then true else (a1.got.getD (x2).toNat 0) == 0) fun x3=>And (Imp (x3 = true) (X (a0,false))) (Imp (x3 = false) (And ((0:Int)≤x2∧x2 < (a1.got.length:Int)) (Call Zal.X (a0,a2,(a1.got.getD (x2).toNat 0) == 2,()) fun x4=>X (x4,true))))),fun r=>(CIn r.1)∧(r.1.knows = a0.knows)∧(TellQ a0 a1 a2 r.1 r.2)∧True,fun r=>(.tup [.agg [.int r.1.id,.own 0 1 3,.own 1 1 3,.int r.1.bank.locked,.int r.1.st.way,.int r.1.st.ver,.int r.1.st.want,.own 2 7 46,.own 3 1 4,.own 4 1 4,.own 5 1 3,.own 6 7 75,.own 7 1 3],.c (.bool r.2)],[.arr (.ints r.1.bank.own),.arr (.ints r.1.bank.notes),.arr (.pkts r.1.st.sent),.arr (.bools r.1.st.live),.arr (.bools r.1.st.back),.arr (.ints r.1.st.got),.arr (.sts r.1.past),.arr (.ints r.1.knows)])⟩
theorem Zam.X:XF Zam:=mkF (zCh,false) fun (a0,a1,a2,()) hp=>by
 obtain ⟨p0,p1,-⟩:=hp
 obtain ⟨p0b,p0s,p0l,p0p,p0k,p0q⟩:=id p0
 obtain ⟨p0s1,p0s2,p0s3,p0s4,p0s5⟩:=id p0s
 obtain ⟨p11,p12,p13,p14,p15⟩:=id p1
 dsimp only [Zam]
 refine May.call ⟨?_,trivial⟩ fun x1 q1=>have q1_0:=q1.1; have q1_1:=q1.2.1; May.lwi fun x2 e2=>May.chk (fun hπ=>have g1:=B.neg (B.not (Iff.rfl)) hπ.1; ?_) fun c1=>May.lp (B.or (B.not (Iff.rfl)) (B.eq)) fun x3 e3=>May.iff (e3) (fun h1=>?_) (fun h1=>?_); rotate_left 2
 refine May.ret ⟨?_,?_,?_,trivial⟩; rotate_left 3
 refine May.chk ?_ fun c2=>May.call ⟨?_,?_,?_,trivial⟩ fun x4 q4=>have q4_0:=q4.1; have q4_1:=q4.2.1; have q4_2:=q4.2.2.1; May.ret ⟨?_,?_,?_,trivial⟩
 all_goals try dsimp only
 all_goals first | with_reducible assumption | omega | (exact tell_f p0s1 q1_1 e2 h1; done) | (exact tell_t p0s1 q1_1 e2 h1 q4_2; done) | (exact bin_rows (by assumption) (by assumption); done) | (exact sin_sm (by assumption); done) | (exact cin_mk p0 (by assumption) (by assumption); done) | (exact cin_mk p0 (by assumption) (sin_set p0s (by simp only [List.length_set]) (by simp only [List.length_set]) (by simp only [List.length_set])); done) | rfl | assumption | (simp only [List.length_append,List.length_cons,List.length_nil,List.length_set,List.length_replicate,Int.natCast_add,Int.natCast_one] at *; omega) | grind
abbrev Zam.S:=Classical.choose Zam.X
def Zam.c:Ctr:=fc 147 [false,true,false] Zam.L Zam Zam.S
theorem Zam.good:Good Tryz.prog Zam.c:=mkFG (fn:=Tryz.f147) {sh:=[[none,some (.int,3),some (.int,3),none,none,none,none,some (.pkt,46),some (.bool,4),some (.bool,4),some (.int,3),some (.st,75),some (.int,3)],[]]} Zam.X (consG Z8.good (consG Zal.good noG)) (by kernel_rfl) (by kernel_rfl) (l0 (by kernel_rfl)) (c0 (by kernel_rfl)) fun s K=>by kernel_rfl
def Zan.L:FL:=fCons (fAgg cChO) (fCons (fSh sSt) (fCons (fSh sInt) (fCons (fSh sInt) (fNil))))
def Zan:Ch×St×Int×Int×Unit→FR (Ch×Bool):=fun (a0,a1,a2,a3,())=>⟨(CIn a0)∧(SIn a1)∧True,fun X=>Call Z8.X (a0,a3,()) fun x1=>Lt (wrap (a3 - 1)) fun x2=>And (Imp (And ((!x1) = false) (True)) ((0:Int)≤x2∧x2 < (a0.st.sent.length:Int))) (And (Imp (And ((!x1) = false) (True)) ((x2).toNat < a0.st.sent.length)) (Lt (decide (a2 < (a0.st.sent.getD (x2).toNat zPkt).til)) fun x3=>And (Imp (And ((bif !x1 then true else x3) = false) (True)) ((0:Int)≤x2∧x2 < (a1.got.length:Int))) (Lt (bif bif !x1 then true else x3 then true else (a1.got.getD (x2).toNat 0) != 0) fun x4=>And (Imp (x4 = true) (X (a0,false))) (Imp (x4 = false) (Call Zal.X (a0,a3,true,()) fun x5=>X (x5,true)))))),fun r=>(CIn r.1)∧(r.1.knows = a0.knows)∧(LateQ a0 a1 a2 a3 r.1 r.2)∧True,fun r=>(.tup [.agg [.int r.1.id,.own 0 1 3,.own 1 1 3,.int r.1.bank.locked,.int r.1.st.way,.int r.1.st.ver,.int r.1.st.want,.own 2 7 46,.own 3 1 4,.own 4 1 4,.own 5 1 3,.own 6 7 75,.own 7 1 3],.c (.bool r.2)],[.arr (.ints r.1.bank.own),.arr (.ints r.1.bank.notes),.arr (.pkts r.1.st.sent),.arr (.bools r.1.st.live),.arr (.bools r.1.st.back),.arr (.ints r.1.st.got),.arr (.sts r.1.past),.arr (.ints r.1.knows)])⟩
theorem Zan.X:XF Zan:=mkF (zCh,false) fun (a0,a1,a2,a3,()) hp=>by
 obtain ⟨p0,p1,-⟩:=hp
 obtain ⟨p0b,p0s,p0l,p0p,p0k,p0q⟩:=id p0
 obtain ⟨p0s1,p0s2,p0s3,p0s4,p0s5⟩:=id p0s
 obtain ⟨p11,p12,p13,p14,p15⟩:=id p1
 dsimp only [Zan]
 refine May.call ⟨?_,trivial⟩ fun x1 q1=>have q1_0:=q1.1; have q1_1:=q1.2.1; May.lwi fun x2 e2=>May.chk (fun hπ=>have g1:=B.neg (B.not (Iff.rfl)) hπ.1; ?_) fun c1=>May.chk (fun hπ=>have g1:=B.neg (B.not (Iff.rfl)) hπ.1; ?_) fun c2=>May.lp (B.dec) fun x3 e3=>May.chk (fun hπ=>have g1:=B.neg (B.or (B.not (Iff.rfl)) (e3)) hπ.1; ?_) fun c3=>May.lp (B.or (B.or (B.not (Iff.rfl)) (e3)) (B.ne)) fun x4 e4=>May.iff (e4) (fun h1=>?_) (fun h1=>?_); rotate_left 4
 refine May.ret ⟨?_,?_,?_,trivial⟩; rotate_left 3
 refine May.call ⟨?_,?_,?_,trivial⟩ fun x5 q5=>have q5_0:=q5.1; have q5_1:=q5.2.1; have q5_2:=q5.2.2.1; May.ret ⟨?_,?_,?_,trivial⟩
 all_goals try dsimp only
 all_goals first | with_reducible assumption | omega | (exact late_f p0s1 q1_1 e2 h1; done) | (exact late_t p0s1 q1_1 e2 h1 q5_2; done) | (exact bin_rows (by assumption) (by assumption); done) | (exact sin_sm (by assumption); done) | (exact cin_mk p0 (by assumption) (by assumption); done) | (exact cin_mk p0 (by assumption) (sin_set p0s (by simp only [List.length_set]) (by simp only [List.length_set]) (by simp only [List.length_set])); done) | rfl | assumption | (simp only [List.length_append,List.length_cons,List.length_nil,List.length_set,List.length_replicate,Int.natCast_add,Int.natCast_one] at *; omega) | grind
abbrev Zan.S:=Classical.choose Zan.X
def Zan.c:Ctr:=fc 148 [false,true,false,false] Zan.L Zan Zan.S
theorem Zan.good:Good Tryz.prog Zan.c:=mkFG (fn:=Tryz.f148) {sh:=[[none,some (.int,3),some (.int,3),none,none,none,none,some (.pkt,46),some (.bool,4),some (.bool,4),some (.int,3),some (.st,75),some (.int,3)],[]]} Zan.X (consG Z8.good (consG Zal.good noG)) (by kernel_rfl) (by kernel_rfl) (l0 (by kernel_rfl)) (c0 (by kernel_rfl)) fun s K=>by kernel_rfl
end
end Hw
end Go.Proofs.YtklmllaggigkfaaGreat
