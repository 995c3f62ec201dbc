/- Whatever happens to two links happens to two chains: plain law. -/
import Derived.Test.YtklmllaggigkfaaGreatPJ4
import Derived.Test.YtklmllaggigkfaaGreatPYF
set_option linter.unusedVariables false
set_option linter.unusedSimpArgs false
set_option maxRecDepth 100000
namespace Go.Proofs.YtklmllaggigkfaaGreat
namespace Hw
open Go
theorem getD_app {α:Type} {l:List α} {a d:α} {k:Nat}:(l ++ [a]).getD k d = if k < l.length then l.getD k d else if k = l.length then a else d:=by
 simp only [List.getD_eq_getElem?_getD,List.getElem?_append]
 split
 ·rfl
 ·split
  ·rename_i h
   simp [h]
  ·rename_i h1 h2
   rw [List.getElem?_eq_none (by simp; omega)]
   rfl
theorem blk_ok {c:Ch} (h:ChOk c):ChOk (blkC c):=by
 obtain ⟨h1,h2,h3,h4,h5,h6⟩:=id h
 unfold blkC
 split
 ·refine ⟨h1,h2,h3,by show (c.past ++ [c.st]).length≤90; rw [List.length_append,List.length_singleton]; omega,fun k hk=>?_,h6⟩
  show StOk ((c.past ++ [c.st]).getD k zSt)
  have hk:k < (c.past ++ [c.st]).length:=hk
  rw [List.length_append,List.length_singleton] at hk
  rw [getD_app]
  split
  ·exact h5 k (by assumption)
  ·rw [if_pos (by omega)]
   exact h3
 ·exact h
theorem st_send {c:Ch} {k f t s u:Int} (h:StOk c.st) (hp:PktOk (pkS c k f t s u)):StOk (sndS c k f t s u):=by
 obtain ⟨a1,a2,a3,a4,a5,a6,a7,a8,a9⟩:=h
 have hq:(1:Int)≤(c.st.sent.length:Int) + 1∧(c.st.sent.length:Int) + 1≤8:=hp.1
 refine ⟨a1,a2,?_,?_,?_,a6,fun j hj=>?_,a8,a9⟩
 ·show (c.st.sent ++ [_]).length≤8
  rw [List.length_append,List.length_singleton]
  omega
 ·show (c.st.live ++ [true]).length = (c.st.sent ++ [_]).length
  simp only [List.length_append,List.length_singleton]
  omega
 ·show (c.st.back ++ [false]).length = (c.st.sent ++ [_]).length
  simp only [List.length_append,List.length_singleton]
  omega
 ·have hj:j < (c.st.sent ++ [pkS c k f t s u]).length:=hj
  rw [List.length_append,List.length_singleton] at hj
  show PktOk ((c.st.sent ++ [pkS c k f t s u]).getD j zPkt)∧((c.st.sent ++ [pkS c k f t s u]).getD j zPkt).seq = j + 1∧((c.st.live ++ [true]).getD j false = true→(c.st.back ++ [false]).getD j false = false)∧((c.st.sent ++ [pkS c k f t s u]).getD j zPkt).ver≤c.st.ver
  rw [getD_app,getD_app,getD_app,a4,a5]
  split
  ·exact a7 j (by assumption)
  ·rw [if_pos (by omega),if_pos (by omega),if_pos (by omega)]
   refine ⟨hp,?_,fun _=>rfl,Int.le_refl _⟩
   show (c.st.sent.length:Int) + 1 = j + 1
   omega
theorem parts_set {l:List Int} {f v:Int} (h:Parts l) (hf:1≤f∧f≤3) (hv:0≤v∧v≤30):Parts (l.set (f - 1).toNat v):=by
 refine ⟨by rw [List.length_set]; exact h.1,fun k hk=>?_⟩
 rw [List.length_set] at hk
 rw [List.getD_eq_getElem?_getD,List.getElem?_set]
 split
 ·rw [if_pos (by omega)]
  exact hv
 ·rw [← List.getD_eq_getElem?_getD]
  exact h.2 k hk
theorem tot_set {l:List Int} {f v:Int} (h:l.length = 3) (hf:1≤f∧f≤3):tot (l.set (f - 1).toNat v) = tot l - l.getD (f - 1).toNat 0 + v:=by
 obtain ⟨a,b,c,rfl⟩:∃a b c,l = [a,b,c]:=by
  match l,h with
  | [a,b,c],_=>exact ⟨a,b,c,rfl⟩
 have:f = 1∨f = 2∨f = 3:=by omega
 rcases this with rfl | rfl | rfl
 ·show v + b + c = a + b + c - a + v
  omega
 ·show a + v + c = a + b + c - b + v
  omega
 ·show a + b + v = a + b + c - c + v
  omega
theorem get_tot {l:List Int} {f:Int} (h:Parts l) (hf:1≤f∧f≤3):0≤l.getD (f - 1).toNat 0∧l.getD (f - 1).toNat 0≤tot l:=by
 have h3:=h.three
 have:f = 1∨f = 2∨f = 3:=by omega
 unfold tot
 rcases this with rfl | rfl | rfl
 ·show 0≤l.getD 0 0∧l.getD 0 0≤_
  omega
 ·show 0≤l.getD 1 0∧l.getD 1 0≤_
  omega
 ·show 0≤l.getD 2 0∧l.getD 2 0≤_
  omega
theorem bkback_ok {b:Bk} {k f s:Int} (h:MayBack b k f s):BkOk (backB b k f s):=by
 obtain ⟨⟨h1,h2,h3,h4,h5⟩,hk,hf,hs,m1,m2⟩:=h
 have g1:=get_tot h1 hf
 have g2:=get_tot h2 hf
 unfold backB
 split
 ·have:=m1 (by assumption)
  refine ⟨parts_set h1 hf (by omega),h2,by show 0≤b.locked - s; omega,?_,h5⟩
  show tot (b.own.set _ _) + (b.locked - s) = 30
  rw [tot_set h1.1 hf]
  omega
 ·have:=m2 (by omega)
  refine ⟨h1,parts_set h2 hf (by omega),h3,h4,?_⟩
  show tot (b.notes.set _ _)≤30
  rw [tot_set h2.1 hf]
  omega
theorem away_ok {b:Bk} {k f s:Int} (h:MayAway b k f s):BkOk (awayB b k f s):=by
 obtain ⟨hb,hk,hf,h0,hs⟩:=h
 obtain ⟨h1,h2,h3,h4,h5⟩:=hb
 have r1:=parts_at h1 hf
 have r2:=parts_at h2 hf
 unfold lstK at hs
 unfold awayB
 split at hs
 ·rename_i g
  rw [if_pos g]
  refine ⟨parts_set h1 hf (by omega),h2,by show 0≤b.locked + s; omega,?_,h5⟩
  show tot (b.own.set (f - 1).toNat _) + (b.locked + s) = 30
  rw [tot_set h1.1 hf]
  omega
 ·rename_i g
  rw [if_neg g]
  refine ⟨h1,parts_set h2 hf (by omega),h3,h4,?_⟩
  show tot (b.notes.set (f - 1).toNat _)≤30
  rw [tot_set h2.1 hf]
  omega
theorem send_ok {c:Ch} {k f t s u:Int} (ho:ChOk c) (hp:PktOk (pkS c k f t s u)) (hm:MayAway c.bank k f s):ChOk (sndC c k f t s u):=by
 obtain ⟨h1,h2,h3,h4,h5,h6⟩:=ho
 exact ⟨h1,away_ok hm,st_send h3 hp,h4,h5,h6⟩
theorem st_got {s:St} {i g:Int} (h:StOk s) (hg:0≤g∧g≤2) (hi:1≤i∧i≤8):StOk ⟨s.way,s.ver,s.want,s.sent,s.live,s.back,s.got.set (i - 1).toNat g⟩:=by
 obtain ⟨a1,a2,a3,a4,a5,a6,a7,a8,a9⟩:=h
 refine ⟨a1,a2,a3,a4,a5,by simp only [List.length_set]; exact a6,a7,fun k hk=>?_,a9⟩
 simp only [List.length_set] at hk ⊢
 rw [getD_set (by omega)]
 split
 ·exact hg
 ·exact a8 k hk
theorem pay_ok {b r:Bk} {p:Pkt} {g:Int} (h:BkOk b) (q:PayL b p r g):BkOk r∧(g = 1∨g = 2):=by
 by_cases m:PayOk b p
 ·rw [(q.1 m).1,(q.1 m).2]
  exact ⟨bkback_ok m.2,.inl rfl⟩
 ·rw [(q.2 m).1,(q.2 m).2]
  exact ⟨h,.inr rfl⟩
theorem rg_may {c r:Ch} {s:St} {p:Pkt} {t:Bool} (q:RgQ c s p r t) (h:t = true):(ChOk c∧StOk s∧PktOk p)∧MayG c s p∧∃b g,PayL c.bank p b g∧r = gotC c b p.seq g∧(g = 1∨g = 2)∧ChOk r:=by
 obtain ⟨h1,h2⟩:=q.1.1 h
 obtain ⟨b,g,h3,h4⟩:=q.2.1 h
 have h5:=pay_ok h1.1.2.1 h3
 refine ⟨h1,h2,b,g,h3,h4,h5.2,?_⟩
 rw [h4]
 exact ⟨h1.1.1,h5.1,st_got h1.1.2.2.1 (by omega) h1.2.2.1,h1.1.2.2.2⟩
theorem bkE_ok {b r:Bk} {p:Pkt} (h:BkOk b) (q:BackE b p r):BkOk r:=by
 by_cases m:MayBack b p.kind p.frm p.sum
 ·rw [q.1 m]
  exact bkback_ok m
 ·rw [q.2 m]
  exact h
theorem st_set {s:St} {i:Int} {k:Bool} (h:StOk s) (hi:1≤i∧i≤(s.sent.length:Int)):StOk ⟨s.way,s.ver,s.want,s.sent,s.live.set (i - 1).toNat false,(bif k then s.back.set (i - 1).toNat true else s.back),s.got⟩:=by
 obtain ⟨a1,a2,a3,a4,a5,a6,a7,a8,a9⟩:=h
 have hb:(bif k then s.back.set (i - 1).toNat true else s.back).length = s.sent.length:=by
  cases k
  ·exact a5
  ·show (s.back.set _ _).length = _
   rw [List.length_set]
   exact a5
 refine ⟨a1,a2,a3,by simp only [List.length_set]; exact a4,hb,a6,fun j hj=>?_,a8,a9⟩
 have h7:=a7 j hj
 refine ⟨h7.1,h7.2.1,fun g=>?_,h7.2.2.2⟩
 have g:(s.live.set (i - 1).toNat false).getD j false = true:=g
 rw [getD_set (by omega)] at g
 split at g
 ·cases g
 ·have:=h7.2.2.1 g
  cases k
  ·exact this
  ·show (s.back.set (i - 1).toNat true).getD j false = false
   rw [getD_set (by omega),if_neg (by assumption)]
   exact this
theorem setE_ok {c r:Ch} {i:Int} {k:Bool} (h:ChOk c) (hi:1≤i∧i≤(c.st.sent.length:Int)) (q:SetE c i k r):ChOk r∧r.knows = c.knows:=by
 obtain ⟨b,h1,h2,h3⟩:=q
 have hb:BkOk b:=by
  by_cases g:k = true
  ·exact bkE_ok h.2.1 (h1 g)
  ·rw [h2 g]
   exact h.2.1
 rw [h3]
 exact ⟨⟨h.1,hb,st_set h.2.2.1 hi,h.2.2.2⟩,rfl⟩
theorem cs_may {c:Ch} {k f t s u:Int} (ho:ChOk c) (hp:PktOk (pkS c k f t s u)):MayAway c.bank k f s↔¬ (lstK c.bank k).getD (f - 1).toNat 0 < s:=by
 have hk:k = 1∨k = 2:=hp.2.1
 have hf:1≤f∧f≤3:=hp.2.2.1
 have hs:1≤s∧s≤9:=hp.2.2.2.2.1
 exact ⟨fun h=>by have:=h.2.2.2.2; omega,fun h=>⟨ho.2.1,hk,hf,by omega,by omega⟩⟩
theorem aw_wrap {b:Bk} {k f s:Int} (h:BkOk b) (hf:1≤f∧f≤3) (hs:0≤s∧s≤30):awayW b k f s = awayB b k f s:=by
 have r:=bk_rng rfl h hf
 unfold awayW awayB
 rw [wrap_id (n:=b.own.getD (f - 1).toNat 0 - s) (by omega) (by omega),wrap_id (n:=b.locked + s) (by omega) (by omega),wrap_id (n:=b.notes.getD (f - 1).toNat 0 - s) (by omega) (by omega)]
theorem cs_spec {c x r:Ch} {k f t s u n:Int} {b:Bool} (ho:ChOk c) (e:x = c) (q:SndW x k f t s u r n b):CsQ c k f t s u r n b:=by
 subst e
 have hb:b = true↔ChOk x∧x.st.way = 3∧PktOk (pkS x k f t s u)∧MayAway x.bank k f s:=q.1.trans ⟨fun g=>⟨ho,g.1,g.2.1,(cs_may ho g.2.1).2 g.2.2⟩,fun g=>⟨g.2.1,g.2.2.1,(cs_may ho g.2.2.1).1 g.2.2.2⟩⟩
 refine ⟨hb,fun g=>⟨?_,(q.2.1 g).2⟩,fun g=>⟨(q.2.2 g).2,fun _=>(q.2.2 g).1,fun g'=>absurd ho g'⟩⟩
 have hp:=(hb.1 g).2.2.1
 have hs:1≤s∧s≤9:=hp.2.2.2.2.1
 rw [(q.2.1 g).1]
 unfold sndW sndC
 rw [aw_wrap (f:=f) (s:=s) ho.2.1 hp.2.2.1 (by omega)]
theorem cs_same {c r r':Ch} {k f t s u n n':Int} {b b':Bool} (q:CsQ c k f t s u r n b) (q':CsQ c k f t s u r' n' b'):b = b'∧n = n'∧r = r':=by
 have hb:b = b':=Bool.eq_iff_iff.2 (q.1.trans q'.1.symm)
 subst hb
 refine ⟨rfl,?_⟩
 by_cases g:b = true
 ·rw [(q.2.1 g).1,(q.2.1 g).2,(q'.2.1 g).1,(q'.2.1 g).2]
  exact ⟨rfl,rfl⟩
 ·rw [(q.2.2 g).1,(q'.2.2 g).1]
  refine ⟨rfl,?_⟩
  by_cases g':ChOk c
  ·rw [(q.2.2 g).2.1 g',(q'.2.2 g).2.1 g']
  ·rw [(q.2.2 g).2.2 g',(q'.2.2 g).2.2 g']
theorem movL_ok {l:List Int} {f t s:Int} (h:Parts l) (hf:1≤f∧f≤3) (ht:1≤t∧t≤3) (h0:0≤s) (hs:s≤l.getD (f - 1).toNat 0) (h30:tot l≤30):Parts (movL l f t s)∧tot (movL l f t s) = tot l:=by
 have r:=parts_at h hf
 have p1:Parts (l.set (f - 1).toNat (l.getD (f - 1).toNat 0 - s)):=parts_set h hf (by omega)
 have t1:=tot_set (v:=l.getD (f - 1).toNat 0 - s) h.1 hf
 have g1:=get_tot p1 ht
 have t2:=tot_set (v:=(l.set (f - 1).toNat (l.getD (f - 1).toNat 0 - s)).getD (t - 1).toNat 0 + s) p1.1 ht
 exact ⟨parts_set p1 ht (by omega),by unfold movL; omega⟩
theorem own_30 {b:Bk} (h:BkOk b):tot b.own≤30:=by
 have:=h.2.2
 omega
theorem move_ok {b:Bk} {k f t s:Int} (h:MayMove b k f t s):BkOk (moveB b k f t s):=by
 obtain ⟨hb,hk,hf,ht,h0,hs⟩:=h
 obtain ⟨h1,h2,h3,h4,h5⟩:=id hb
 unfold lstK at hs
 unfold moveB
 split at hs
 ·rename_i g
  rw [if_pos g]
  obtain ⟨p,e⟩:=movL_ok h1 hf ht h0 hs (own_30 hb)
  exact ⟨p,h2,h3,by show tot (movL b.own f t s) + b.locked = 30; omega,h5⟩
 ·rename_i g
  rw [if_neg g]
  obtain ⟨p,e⟩:=movL_ok h2 hf ht h0 hs h5
  exact ⟨h1,p,h3,h4,by show tot (movL b.notes f t s)≤30; omega⟩
theorem kn_lt {l:List Int} (h:KnOk l):∀(d k:Nat),k + d + 1 < l.length→l.getD k 0 < l.getD (k + d + 1) 0
 | 0,k,hk=>(h (k + 1) hk).2 (Nat.succ_pos k)
 | d + 1,k,hk=>by
  have h1:=kn_lt h d k (by omega)
  have h2:=(h (k + d + 1 + 1) (by omega)).2 (Nat.succ_pos _)
  rw [Nat.add_sub_cancel] at h2
  rw [show k + (d + 1) + 1 = k + d + 1 + 1 by omega]
  omega
theorem kn_pw {l:List Int} (h:KnOk l):l.Pairwise (· < ·):=by
 rw [List.pairwise_iff_getElem]
 intro i j hi hj hij
 have:=kn_lt h (j - i - 1) i (by omega)
 rw [show i + (j - i - 1) + 1 = j by omega] at this
 rw [List.getD_eq_getElem?_getD,List.getD_eq_getElem?_getD,List.getElem?_eq_getElem hi,List.getElem?_eq_getElem hj] at this
 exact this
theorem kn_mem {l:List Int} (h:KnOk l) {x:Int} (hx:x∈l):1≤x∧x≤90:=by
 obtain ⟨k,hk,rfl⟩:=mem_getD hx
 exact (h k hk).1
theorem kn_of {l:List Int} (h1:l.Pairwise (· < ·)) (h2:∀x∈l,1≤x∧x≤90):KnOk l:=fun k hk=>by
 refine ⟨h2 _ (getD_mem hk),fun h0=>?_⟩
 have:=(List.pairwise_iff_getElem.1 h1) (k - 1) k (by omega) hk (by omega)
 rw [List.getD_eq_getElem?_getD,List.getD_eq_getElem?_getD,List.getElem?_eq_getElem (show k - 1 < l.length by omega),List.getElem?_eq_getElem hk]
 exact this
theorem kn_ins {l:List Int} {h:Int} (hl:KnOk l) (hh:1≤h∧h≤90):KnOk (lows h l ++ [h] ++ highs h l):=by
 have hp:=kn_pw hl
 have hlo:∀x∈lows h l,x < h:=fun x hx=>by simpa using (List.mem_filter.1 hx).2
 have hhi:∀x∈highs h l,h < x:=fun x hx=>by simpa using (List.mem_filter.1 hx).2
 refine kn_of ?_ fun x hx=>?_
 ·refine List.pairwise_append.2 ⟨List.pairwise_append.2 ⟨hp.filter _,List.pairwise_singleton _ _,fun a ha b hb=>?_⟩,hp.filter _,fun a ha b hb=>?_⟩
  ·rw [List.mem_singleton.1 hb]
   exact hlo a ha
  ·have:=hhi b hb
   rcases List.mem_append.1 ha with ha | ha
   ·have:=hlo a ha
    omega
   ·rw [List.mem_singleton.1 ha]
    omega
 ·simp only [List.mem_append,List.mem_singleton] at hx
  rcases hx with (hx | hx) | hx
  ·exact kn_mem hl (List.mem_filter.1 hx).1
  ·omega
  ·exact kn_mem hl (List.mem_filter.1 hx).1
theorem filt_all {p:Int→Bool} {l:List Int} (h:∀x∈l,p x = true):l.filter p = l:=List.filter_eq_self.2 h
theorem filt_none {p:Int→Bool} {l:List Int} (h:∀x∈l,¬ p x = true):l.filter p = []:=List.filter_eq_nil_iff.2 h
theorem ins_same:∀{l:List Int} {h:Int},l.Pairwise (· < ·)→¬ h∈l→l.take (l.countP (· < h)) = lows h l∧l.drop (l.countP (· < h)) = highs h l
 | [],h,_,_=>⟨rfl,rfl⟩
 | x :: l,h,hp,hn=>by
  obtain ⟨h1,h2⟩:=List.pairwise_cons.1 hp
  have hne:¬ h = x∧¬ h∈l:=by simpa using hn
  by_cases g:x < h
  ·obtain ⟨k1,k2⟩:=ins_same (h:=h) h2 hne.2
   have e:List.countP (· < h) (x :: l) = l.countP (· < h) + 1:=by rw [List.countP_cons_of_pos (by simpa using g)]
   rw [e,List.take_succ_cons,List.drop_succ_cons,k1,k2]
   unfold lows highs
   rw [List.filter_cons_of_pos (by simpa using g),List.filter_cons_of_neg (by simp; omega)]
   exact ⟨rfl,rfl⟩
  ·have hx:h < x:=by omega
   have e:List.countP (· < h) (x :: l) = 0:=by
    rw [List.countP_eq_zero]
    intro y hy
    rcases List.mem_cons.1 hy with rfl | hy
    ·simp; omega
    ·have:=h1 y hy
     simp; omega
   rw [e,List.take_zero,List.drop_zero]
   unfold lows highs
   refine ⟨(filt_none fun y hy=>?_).symm,(filt_all fun y hy=>?_).symm⟩
   ·rcases List.mem_cons.1 hy with rfl | hy
    ·simp; omega
    ·have:=h1 y hy
     simp; omega
   ·rcases List.mem_cons.1 hy with rfl | hy
    ·simp; omega
    ·have:=h1 y hy
     simp; omega
theorem insK_same {l:List Int} {h:Int} (hl:KnOk l) (hn:¬ ∃k,k < l.length∧l.getD k 0 = h):insL l (bsI l h) [h] = lows h l ++ [h] ++ highs h l:=by
 obtain ⟨h1,h2⟩:=ins_same (h:=h) (kn_pw hl) fun hm=>hn (mem_getD hm)
 unfold insL bsI
 rw [Int.toNat_natCast,h1,h2]
structure LkOk (l:Lk):Prop where
 cnt:l.count = (l.marks.l.length:Int)
 ok:ChOk (lkChain l)
theorem LkOk.le {l:Lk} (h:LkOk l):l.count≤90:=by
 have:=h.ok.2.2.2.1
 have e:(lkChain l).past.length = l.marks.l.length:=List.length_reverse ..
 have:=h.cnt
 omega
theorem lkp_at {o:Lk} (h:LkOk o) {i:Int} (h1:1≤i) (h2:i≤o.count):o.marks.l.getD (o.count - i).toNat zSt = (lkChain o).past.getD (i - 1).toNat zSt:=by
 have hc:=h.cnt
 show _ = (o.marks.l.reverse).getD (i - 1).toNat zSt
 rw [List.getD_eq_getElem?_getD,List.getD_eq_getElem?_getD,List.getElem?_reverse (by omega)]
 congr 2
 omega
theorem lkp_len {o:Lk} (h:LkOk o):((lkChain o).past.length:Int) = o.count:=by
 rw [h.cnt]
 exact congrArg Int.ofNat (List.length_reverse ..)
theorem lkp_ok {o:Lk} (h:LkOk o) {i:Int} (h1:1≤i) (h2:i≤o.count):StOk ((lkChain o).past.getD (i - 1).toNat zSt):=by
 have:=lkp_len h
 exact h.ok.2.2.2.2.1 _ (by omega)
theorem kn_le {l : List Int} (h : KnOk l) : l.length ≤ 90 := by
  rcases Nat.eq_zero_or_pos l.length with g | g
  · omega
  · have key : ∀ k, k < l.length → (k : Int) + 1 ≤ l.getD k 0 := fun k => by
      induction k with
      | zero => intro hk; have := (h 0 hk).1.1; simpa using this
      | succ k ih =>
        intro hk
        have h1 := ih (by omega)
        have h2 := (h (k + 1) hk).2 (Nat.succ_pos k)
        rw [Nat.add_sub_cancel] at h2
        omega
    have h1 := key (l.length - 1) (by omega)
    have h2 := (h (l.length - 1) (by omega)).1.2
    omega
theorem LkOk.inn {l:Lk} (h:LkOk l):LkIn l:=by
 have hle:=h.le
 have hs:=stL h.ok.2.2.1
 have ho:=h.ok.2.2.1
 have hk:KnOk l.knows:=h.ok.2.2.2.2.2
 refine ⟨h.cnt,by omega,by have:=kn_le hk; omega,(kn_pw hk).imp fun h=>Int.le_of_lt h,ho.2.2.2.2.2.1,?_,?_,?_,fun k hk=>?_⟩
 ·have:l.st.sent.length≤8:=ho.2.2.1
  omega
 ·have:l.st.live.length = l.st.sent.length:=ho.2.2.2.1
  have:l.st.sent.length≤8:=ho.2.2.1
  omega
 ·have:l.st.back.length = l.st.sent.length:=ho.2.2.2.2.1
  have:l.st.sent.length≤8:=ho.2.2.1
  omega
 ·have hc:=h.cnt
  have:=lkp_ok h (i:=l.count - k) (by omega) (by omega)
  rw [← lkp_at h (by omega) (by omega),show (l.count - (l.count - (k:Int))).toNat = k by omega] at this
  exact this
theorem to_lk {P:Lk→Prop} {l:Lk} (h:l.count = (l.marks.l.length:Int)) (q:P l):P (lkOf (lkChain l) l.marks.g):=by
 rw [← lk_of h]
 exact q
theorem rel_same {c r r':Ch} {s:St} {k:Int} {b b':Bool} (q:RelQ c s k r b) (q':RelQ c s k r' b'):r = r':=by
 have hb:b = b':=Bool.eq_iff_iff.2 (q.1.trans q'.1.symm)
 subst hb
 by_cases g:b = true
 ·rw [q.2.1 g,q'.2.1 g]
 ·by_cases g':ChOk c∧StOk s
  ·rw [(q.2.2 g).1 g',(q'.2.2 g).1 g']
  ·rw [(q.2.2 g).2 g',(q'.2.2 g).2 g']
theorem rel_ok {c r:Ch} {s:St} {k:Int} {b:Bool} (ho:ChOk c) (hs:StOk s) (q:RelQ c s k r b):ChOk r:=by
 by_cases g:b = true
 ·rw [q.2.1 g]
  exact ⟨ho.1,ho.2.1,after_ok (q.1.1 g).2,ho.2.2.2⟩
 ·rw [(q.2.2 g).1 ⟨ho,hs⟩]
  exact ho
theorem move_same {b r r':Bk} {k f t s:Int} {x x':Bool} (q:MoveQ b k f t s r x) (q':MoveQ b k f t s r' x'):x = x'∧r = r':=by
 have hb:x = x':=Bool.eq_iff_iff.2 (q.1.trans q'.1.symm)
 subst hb
 refine ⟨rfl,?_⟩
 by_cases g:x = true
 ·rw [q.2.1 g,q'.2.1 g]
 ·rw [q.2.2 g,q'.2.2 g]
theorem rg_ok {c r:Ch} {s:St} {p:Pkt} {t:Bool} (h:ChOk c∧StOk s∧PktOk p) (q:RgQ c s p r t):ChOk r:=by
 by_cases g:t = true
 ·obtain ⟨-,-,b,x,-,-,-,h6⟩:=rg_may q g
  exact h6
 ·rw [(q.2.2 g).1 h]
  exact h.1
theorem rly_ok {ok may:Prop} {how:Ch→Prop} {c r:Ch} {t:Bool} (ho:ok) (hc:ChOk c) (hh:may→how r→ChOk r) (q:RlyQ ok may how c r t):ChOk r:=by
 by_cases g:t = true
 ·exact hh (q.1.1 g).2 (q.2.1 g)
 ·rw [(q.2.2 g).1 ho]
  exact hc
theorem lg_bad {l r:Lk} {s:St} {p:Pkt} {t:Bool} (hp:¬ PktOk p) (q:LgQ l s p r t):r = l:=q.2.2 fun g=>hp (by
 have h:=(q.1.1 g).2.1
 have h1:=h.1.2.2.2.2.2.2.1 (p.seq - 1).toNat (by have:=h.2.1; omega)
 rw [h.2.2.1] at h1
 exact h1.1)
theorem rel_chain {l r:Lk} {s:St} {h:Int} {e:Ev} (hl:LkOk l) (hs:StOk s) (hh:e.kind = 6→1≤h∧h≤90) (q:RelL l s h e r):ChOk (lkChain r)∧∀{x:Ch},(e.kind = 6→h = e.height)→ByS (lkChain l) s e x→lkChain r = x:=by
 by_cases h4:e.kind = 4
 ·obtain ⟨t,q⟩:=q.get h4
  by_cases hp:PktOk e.pkt
  ·have k:=rg_impl (c:=lkChain l) (gv:=l.marks.g) ⟨hl.ok,hs,hp⟩ (to_lk (P:=fun l'=>LgQ l' s e.pkt r t) hl.cnt q) rfl
   refine ⟨rg_ok ⟨hl.ok,hs,hp⟩ k,fun _ b=>?_⟩
   obtain ⟨t',b⟩:=b.get h4 hp
   exact (rg_same k (rg_spec ⟨hl.ok,hs,hp⟩ b)).2
  ·rw [lg_bad hp q]
   exact ⟨hl.ok,fun _ b=>(b.bad h4 hp).symm⟩
 by_cases h5:e.kind = 5
 ·obtain ⟨t,q⟩:=q.tell h5
  have k:=rt_impl (c:=lkChain l) (gv:=l.marks.g) ⟨hl.ok,hs⟩ (to_lk (P:=fun l'=>LtQ l' s e.n r t) hl.cnt q) rfl
  refine ⟨rly_ok ⟨hl.ok,hs⟩ hl.ok (fun h1 h2=>(setE_ok hl.ok h1.1.1 h2).1) k,fun _ b=>?_⟩
  obtain ⟨t',b⟩:=b.tell h5
  exact (rly_same (fun x y h h'=>setE_same h h') k (rt_spec ⟨hl.ok,hs⟩ b)).2
 by_cases h6:e.kind = 6
 ·obtain ⟨t,q⟩:=q.late h6
  have k:=rl_impl (c:=lkChain l) (gv:=l.marks.g) ⟨⟨hl.ok,hs⟩,hh h6⟩ (to_lk (P:=fun l'=>LlQ l' s h e.n r t) hl.cnt q) rfl
  refine ⟨rly_ok ⟨⟨hl.ok,hs⟩,hh h6⟩ hl.ok (fun h1 h2=>(setE_ok hl.ok h1.1.1 h2).1) k,fun he b=>?_⟩
  obtain ⟨t',b⟩:=b.late h6
  rw [← he h6] at b
  exact (rly_same (fun x y h h'=>setE_same h h') k (rl_spec ⟨⟨hl.ok,hs⟩,hh h6⟩ b)).2
 by_cases h7:e.kind = 7
 ·obtain ⟨t,q⟩:=q.step h7
  have k:=rel_impl (c:=lkChain l) (gv:=l.marks.g) hl.ok hs (to_lk (P:=fun l'=>LstQ l' s e.n r t) hl.cnt q) rfl
  refine ⟨rel_ok hl.ok hs k,fun _ b=>?_⟩
  obtain ⟨t',b⟩:=b.step h7
  exact rel_same k (relQ_of hl.ok hs b)
 ·rw [q.none (by omega)]
  exact ⟨hl.ok,fun _ b=>(b.none (by omega)).symm⟩
theorem do_cnt {l o r:Lk} {e:Ev} (q:DoL l o e r):r.count = l.count:=by
 by_cases h2:e.kind = 2
 ·have:=q.know h2
  by_cases g:(1≤e.height∧e.height≤o.count)∧¬ KnwL l e.height
  ·rw [this.1 g]; rfl
  ·rw [this.2 g]
 by_cases h3:e.kind = 3
 ·obtain ⟨n,t,q⟩:=q.send h3
  exact (ls_cnt q).1
 by_cases h8:e.kind = 8
 ·obtain ⟨b,t,-,h4,h5⟩:=q.move h8
  by_cases g:t = true
  ·rw [h4 g]; rfl
  ·rw [h5 g]
 by_cases h4:4≤e.kind∧e.kind≤7
 ·obtain ⟨s,h,b,-,h5,h6⟩:=q.rely h4
  by_cases g:b = true
  ·have k:=h5 g
   have:e.kind = 4∨e.kind = 5∨e.kind = 6∨e.kind = 7:=by omega
   rcases this with h | h | h | h
   ·obtain ⟨t,q⟩:=k.get h; exact (lg_cnt q).1
   ·obtain ⟨t,q⟩:=k.tell h; exact (lt_cnt q).1
   ·obtain ⟨t,q⟩:=k.late h; exact (ll_cnt q).1
   ·obtain ⟨t,q⟩:=k.step h; exact (lst_cnt q).1
  ·rw [h6 g]
 ·rw [q.none (by omega)]
theorem do_chain {l o r:Lk} {e:Ev} (hl:LkOk l) (ho:LkOk o) (hk:¬ e.kind = 1) (q:DoL l o e r):ChOk (lkChain r)∧∀{x:Ch},ChnS (lkChain l) (lkChain o) e x→lkChain r = x:=by
 have hpl:=lkp_len ho
 have hkn:KnOk l.knows:=hl.ok.2.2.2.2.2
 have hle:=ho.le
 by_cases h2:e.kind = 2
 ·have k:=q.know h2
  by_cases g:(1≤e.height∧e.height≤o.count)∧¬ KnwL l e.height
  ·have e1:=k.1 g
   have e2:lkChain r = knowL (lkChain l) e.height:=by
    rw [e1]
    show (⟨l.id,l.bank,l.st,l.marks.l.reverse,insL l.knows (bsI l.knows e.height) [e.height]⟩:Ch) = _
    rw [insK_same hkn g.2]
    rfl
   refine ⟨?_,fun b=>?_⟩
   ·rw [e2]
    exact ⟨hl.ok.1,hl.ok.2.1,hl.ok.2.2.1,hl.ok.2.2.2.1,hl.ok.2.2.2.2.1,kn_ins hkn (by omega)⟩
   ·rw [e2]
    exact ((b.know h2).1 ⟨by rw [hpl]; exact g.1,g.2⟩).symm
  ·rw [k.2 g]
   exact ⟨hl.ok,fun b=>((b.know h2).2 fun g'=>g ⟨by rw [← hpl]; exact g'.1,g'.2⟩).symm⟩
 by_cases h3:e.kind = 3
 ·obtain ⟨n,t,q⟩:=q.send h3
  have k:=cs_of (c:=lkChain l) (gv:=l.marks.g) hl.ok (to_lk (P:=fun l'=>LsQ l' e.pkt.kind e.pkt.frm e.pkt.to e.pkt.sum e.pkt.til n t r) hl.cnt q) rfl
  refine ⟨?_,fun b=>?_⟩
  ·by_cases g:t = true
   ·rw [(k.2.1 g).1]
    have:=k.1.1 g
    exact send_ok hl.ok this.2.2.1 this.2.2.2
   ·rw [(k.2.2 g).2.1 hl.ok]
    exact hl.ok
  ·obtain ⟨n',t',b⟩:=b.send h3
   exact (cs_same k (cs_spec hl.ok rfl b)).2.2
 by_cases h8:e.kind = 8
 ·obtain ⟨b,t,m,h4,h5⟩:=q.move h8
  refine ⟨?_,fun x=>?_⟩
  ·by_cases g:t = true
   ·rw [h4 g]
    refine ⟨hl.ok.1,?_,hl.ok.2.2⟩
    show BkOk b
    rw [m.2.1 g]
    exact move_ok (m.1.1 g)
   ·rw [h5 g]
    exact hl.ok
  ·obtain ⟨b',t',m',h4',h5'⟩:=x.move h8
   obtain ⟨rfl,rfl⟩:=move_same m m'
   by_cases g:t = true
   ·rw [h4 g,h4' g]
    rfl
   ·rw [h5 g,h5' g]
 by_cases h4:4≤e.kind∧e.kind≤7
 ·obtain ⟨s,h,b,p,h5,h6⟩:=q.rely h4
  by_cases hf:frE e
  ·obtain ⟨hb,hs,hh⟩:=p.fresh hf
   have k:=rel_chain hl (by rw [hs]; exact newS_ok) (fun g=>by have:=hf.1; omega) (h5 hb)
   refine ⟨k.1,fun b=>?_⟩
   obtain ⟨t,b⟩:=b.fresh hf
   obtain ⟨t',q⟩:=(h5 hb).step hf.1
   rw [hs] at q
   have k:=rel_impl (c:=lkChain l) (gv:=l.marks.g) hl.ok newS_ok (to_lk (P:=fun l'=>LstQ l' _ e.n r t') hl.cnt q) rfl
   exact rel_same k (relQ_of hl.ok newS_ok b)
  ·have hy:=p.yes hf
   by_cases g:b = true
   ·obtain ⟨g1,g2,g3⟩:=hy.1 g
    obtain ⟨e1,e2⟩:=p.at_ hf g
    rw [lkp_at ho g2 g3] at e1
    have k:=rel_chain hl (s:=s) (by rw [e1]; exact lkp_ok ho g2 g3) (fun _=>by omega) (h5 g)
    refine ⟨k.1,fun b=>k.2 (fun _=>e2) ?_⟩
    have:=(b.rely hk h2 h3 h8 hf).1 ⟨g1,by rw [hpl]; exact g3⟩
    rw [e1]
    exact this
   ·rw [h6 g]
    refine ⟨hl.ok,fun b=>((b.rely hk h2 h3 h8 hf).2 fun g'=>g (hy.2 ⟨g'.1,?_,by rw [← hpl]; exact g'.2⟩)).symm⟩
    obtain ⟨i,hi,ei⟩:=g'.1
    have:=(hkn i hi).1
    have ei:l.knows.getD i 0 = e.height:=ei
    omega
 ·rw [q.none (by omega)]
  refine ⟨hl.ok,fun b=>?_⟩
  have hf:¬ frS e:=fun g=>by have:=g.1; omega
  have r:=b.rely hk h2 h3 h8 hf
  by_cases g:KnA (lkChain l) (lkChain o) e.height
  ·exact ((r.1 g).none (by omega)).symm
  ·exact (r.2 g).symm
structure StepP (l o:Lk) (e:Ev) (r q:Lk):Prop where
 blk:e.kind = 1→BlkP l o e r q
 els:¬ e.kind = 1→DoP l o e r q
theorem blk_chain {l r:Lk} (hl:LkOk l) (q:BlkQ l r):LkOk r∧lkChain r = blkC (lkChain l):=by
 have hp:=lkp_len hl
 have key:lkChain r = blkC (lkChain l):=by
  by_cases g:l.count < 90
  ·obtain ⟨v,rfl⟩:=q.yes g
   unfold blkC
   rw [if_pos (by omega)]
   show (⟨l.id,l.bank,l.st,(l.st :: l.marks.l).reverse,l.knows⟩:Ch) = _
   rw [List.reverse_cons]
   rfl
  ·rw [q.no g]
   unfold blkC
   rw [if_neg (by omega)]
 refine ⟨⟨?_,by rw [key]; exact blk_ok hl.ok⟩,key⟩
 by_cases g:l.count < 90
 ·obtain ⟨v,rfl⟩:=q.yes g
  show l.count + 1 = (((l.st :: l.marks.l).length:Nat):Int)
  have:=hl.cnt
  rw [List.length_cons]
  omega
 ·rw [q.no g]
  exact hl.cnt
theorem do_ok {l o r:Lk} {e:Ev} (hl:LkOk l) (ho:LkOk o) (hk:¬ e.kind = 1) (q:DoL l o e r):LkOk r:=by
 refine ⟨?_,(do_chain hl ho hk q).1⟩
 rw [do_cnt q,marks_same q]
 exact hl.cnt
theorem pstep_ok {l o r q:Lk} {e:Ev} (hl:LkOk l) (ho:LkOk o) (s:StepP l o e r q):LkOk r∧LkOk q:=by
 by_cases hk:e.kind = 1
 ·have s:=s.blk hk
  by_cases h1:e.chain = 1
  ·obtain ⟨b,rfl⟩:=s.one h1
   exact ⟨(blk_chain hl b).1,ho⟩
  by_cases h2:e.chain = 2
  ·obtain ⟨b,rfl⟩:=s.two h2
   exact ⟨hl,(blk_chain ho b).1⟩
  ·obtain ⟨rfl,rfl⟩:=s.none (by omega)
   exact ⟨hl,ho⟩
 ·have s:=s.els hk
  by_cases h1:e.chain = 1
  ·obtain ⟨b,rfl⟩:=s.one h1
   exact ⟨do_ok hl ho hk b,ho⟩
  by_cases h2:e.chain = 2
  ·obtain ⟨b,rfl⟩:=s.two h2
   exact ⟨hl,do_ok ho hl hk b⟩
  ·obtain ⟨rfl,rfl⟩:=s.none (by omega)
   exact ⟨hl,ho⟩
theorem pstep_same {l o r q:Lk} {e:Ev} {x y:Ch} (hl:LkOk l) (ho:LkOk o) (s:StepP l o e r q) (d:DoS (lkChain l) (lkChain o) e x y):lkChain r = x∧lkChain q = y:=by
 by_cases hk:e.kind = 1
 ·have s:=s.blk hk
  by_cases h1:e.chain = 1
  ·obtain ⟨b,rfl⟩:=s.one h1
   obtain ⟨d1,rfl⟩:=d.one h1
   exact ⟨(blk_chain hl b).2.trans (d1.blk hk).symm,rfl⟩
  by_cases h2:e.chain = 2
  ·obtain ⟨b,rfl⟩:=s.two h2
   obtain ⟨d1,rfl⟩:=d.two h2
   exact ⟨rfl,(blk_chain ho b).2.trans (d1.blk hk).symm⟩
  ·obtain ⟨rfl,rfl⟩:=s.none (by omega)
   obtain ⟨rfl,rfl⟩:=d.none (by omega)
   exact ⟨rfl,rfl⟩
 ·have s:=s.els hk
  by_cases h1:e.chain = 1
  ·obtain ⟨b,rfl⟩:=s.one h1
   obtain ⟨d1,rfl⟩:=d.one h1
   exact ⟨(do_chain hl ho hk b).2 d1,rfl⟩
  by_cases h2:e.chain = 2
  ·obtain ⟨b,rfl⟩:=s.two h2
   obtain ⟨d1,rfl⟩:=d.two h2
   exact ⟨rfl,(do_chain ho hl hk b).2 d1⟩
  ·obtain ⟨rfl,rfl⟩:=s.none (by omega)
   obtain ⟨rfl,rfl⟩:=d.none (by omega)
   exact ⟨rfl,rfl⟩
inductive PlayP:List Ev→Lk→Lk→Prop where
 | nil:PlayP [] (lkN 1) (lkN 2)
 | snoc {es:List Ev} {e:Ev} {l o r q:Lk}:PlayP es l o→StepP l o e r q→PlayP (es ++ [e]) r q
theorem newB_ok:BkOk ⟨[10,10,10],[0,0,0],0⟩:=by
 refine ⟨⟨rfl,fun j hj=>?_⟩,⟨rfl,fun j hj=>?_⟩,by decide,by decide,by decide⟩
 ·have hj:j < 3:=hj
  have:j = 0∨j = 1∨j = 2:=by omega
  rcases this with rfl | rfl | rfl <;> decide
 ·have hj:j < 3:=hj
  have:j = 0∨j = 1∨j = 2:=by omega
  rcases this with rfl | rfl | rfl <;> decide
theorem new_ok {k:Int} (hk:1≤k∧k≤2):LkOk (lkN k) :=
 ⟨rfl,hk,newB_ok,newS_ok,Nat.zero_le _,fun j hj=>absurd hj (Nat.not_lt_zero j),fun j hj=>absurd hj (Nat.not_lt_zero j)⟩
theorem play_ok {es:List Ev} {l o:Lk} (h:PlayP es l o):LkOk l∧LkOk o:=by
 induction h with
 | nil=>exact ⟨new_ok (by decide),new_ok (by decide)⟩
 | snoc h s ih=>exact pstep_ok ih.1 ih.2 s
theorem playS_inv {es:List Ev} {e:Ev} {x y:Ch} (h:PlayS (es ++ [e]) x y):∃a b,PlayS es a b∧DoS a b e x y:=by
 generalize hz:es ++ [e] = zs at h
 cases h with
 | nil=>simp at hz
 | snoc h d =>
  obtain ⟨rfl,h2⟩:=List.append_inj' hz rfl
  cases h2
  exact ⟨_,_,h,d⟩
theorem play_same {es:List Ev} {l o:Lk} (h:PlayP es l o):∀{a b:Ch},PlayS es a b→lkChain l = a∧lkChain o = b:=by
 induction h with
 | nil =>
  intro a b s
  generalize hz:([]:List Ev) = zs at s
  cases s with
  | nil=>exact ⟨rfl,rfl⟩
  | snoc h d=>simp at hz
 | snoc h s ih =>
  intro a b t
  obtain ⟨a',b',h1,d⟩:=playS_inv t
  obtain ⟨rfl,rfl⟩:=ih h1
  have:=play_ok h
  exact pstep_same this.1 this.2 s d
end Hw
end Go.Proofs.YtklmllaggigkfaaGreat
