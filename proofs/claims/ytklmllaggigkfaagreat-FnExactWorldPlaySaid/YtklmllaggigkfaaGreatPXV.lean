/- Calls of a law that writes over what it got: each keeps what was there before; what is handed out is new. -/
import Derived.Test.YtklmllaggigkfaaGreatPXM
import Derived.Test.YtklmllaggigkfaaGreatPXT
set_option linter.unusedVariables false
set_option linter.unusedSimpArgs false
set_option maxRecDepth 100000
namespace Go.Proofs.YtklmllaggigkfaaGreat
namespace Hw
open Go
def C1 (w:World):Cx:=⟨w,fun _=>False,inW w,fun _=>none⟩
theorem C1_inv (w:World):Inv (C1 w) (hpOf []):=⟨fun i=>trivial,fun i j b n m h=>h.elim,fun b h=>h.elim,fun b h=>h⟩
abbrev Nw (w W:World):Prop:=Mk (fun _=>False) w W
theorem Mk.of {R:Nat→Prop} {w W:World} (os:W.os = w.os) (tape:W.tape = w.tape) (output:W.output = w.output) (size:w.heap.size≤W.heap.size) (blk:∀b,b < w.heap.size→W.heap[b]? = w.heap[b]?) (unf:∀(b:Nat),(∀o:Obj,w.heap[b]? = some o→Unf o)→∀o:Obj,W.heap[b]? = some o→Unf o):Mk R w W :=
 ⟨os,tape,output,size,fun b h _=>blk b h,fun p u hp=>⟨u,by
  have hl:p.block < w.heap.size:=by
   rcases Nat.lt_or_ge p.block w.heap.size with h | h
   ·exact h
   ·unfold World.cell? at hp
    rw [Array.getElem?_eq_none h] at hp
    cases hp
  exact (World.cell?_of_block (blk _ hl)).trans hp,.inl rfl⟩,unf⟩
theorem Mk.sub {R R':Nat→Prop} {w W:World} (h:Mk R w W) (hR:∀b,R b→R' b):Mk R' w W:=⟨h.os,h.tape,h.output,h.size,fun b hb hn=>h.block b hb fun hr=>hn (hR b hr),h.cell,h.unf⟩
theorem vcall {c:Ctr} (hg:Good Tryz.prog c) (s:c.σ) (hs:(c.inp s).1 = []) (hp:∀p,c.pre = some p→p s) {W:World} {vs:List Value} (hv:valsR (C1 W) (c.inp s).2 vs) :
  Calls Tryz.prog c.fid vs.toArray W fun e W'=>∃v C',e = .returned v∧C'.w = W'∧avR C' (c.out s).1 v∧(∀b,C'.frz b→W.heap.size≤b∧b < W'.heap.size)∧Nw W W'∧Inv C' (hpOf (c.out s).2)∧(∀i b m,C'.ρ i = some (some b,m)→W.heap.size≤b):=by
 refine (hg.run s (C1 W) vs (by rw [hs]; exact C1_inv W) (fun _ _=>rfl) hv hp).mono ?_
 rintro e w' ⟨v,C',rfl,rfl,h1,h2⟩
 have hT:∀b,¬ ∃i m,(hpOf (c.inp s).1 i).live∧(C1 W).ρ i = some (some b,m):=fun b ⟨i,m,hl,_⟩=>by
  rw [hs] at hl
  exact hl
 refine ⟨v,C',rfl,rfl,h1,fun b hb=>⟨?_,h2.inv.frz b hb⟩,Mk.of h2.ext.os h2.ext.tape h2.ext.output h2.ext.size (fun b hb=>h2.ext.blk b hb (hT b)) fun b h0 o ho=>h2.ext.unf b o h0 ho,h2.inv,fun i b m hr=>?_⟩
 ·rcases h2.ext.new b hb with h | h | h
  ·exact h.elim
  ·exact absurd h (hT b)
  ·exact h
 ·rcases h2.new i _ hr with h | ⟨-,-,h⟩
  ·cases h
  ·rcases h b rfl with ⟨j,m',hl,_⟩ | h
   ·rw [hs] at hl
    exact hl.elim
   ·exact h
def WAt (W:World) (F:Nat→Prop) (l:List Ch) (v:Value):Prop:=(∀b,F b→b < W.heap.size)∧∃x,v = .agg #[x]∧arrR W F 4 (.chs l) x
theorem WAt.mk {R F:Nat→Prop} {w W:World} {l:List Ch} {v:Value} (h:WAt w F l v) (k:Mk R w W) (hd:∀b,F b→¬ R b):WAt W F l v:=by
 obtain ⟨h1,x,rfl,h2⟩:=h
 exact ⟨fun b hb=>Nat.lt_of_lt_of_le (h1 b hb) k.size,x,rfl,arrR_ext (fun _ h=>h) (fun b hb=>k.block b (h1 b hb) (hd b hb)) 4 _ _ h2⟩
theorem WAt.arg {F:Nat→Prop} {W:World} {l:List Ch} {v:Value} (h:WAt W F l v):fvR (C1 W) (.agg [.arr false (.chs l)]) v:=by
 obtain ⟨h1,x,rfl,h2⟩:=h
 refine ⟨#[x],rfl,rfl,fun j y hj=>?_⟩
 cases j with
 | zero =>
  simp only [List.getElem?_cons_zero,Option.some.injEq] at hj
  subst hj
  exact ⟨x,rfl,arrR_ext (S':=inW W) h1 (fun _ _=>rfl) 4 _ _ h2⟩
 | succ j=>simp at hj
theorem spot_none' {w:World} {ad:Addr} {u:Value} (h:w.cell? ad = some u):ad.spot = none:=by
 unfold World.cell? at h
 cases hs:ad.spot with
 | none=>rfl
 | some x =>
  rw [hs] at h
  split at h
  ·simp at h
  ·cases h
theorem add_none' (b off n:Nat):(⟨b,off,none⟩:Addr).add n = ⟨b,off + n,none⟩:=by unfold Addr.add; split <;> simp_all
theorem rowW_of {w:World} {S:Nat→Prop} {d:Nat} {a:Arr} {v:Value} {n z:Nat} {P:Nat→Nat→Value→Prop} (h:arrR w S (d + 1) a v) (hn:n = a.len) (hz:z = a.esz) (h1:0 < z)
  (hP:∀k,k < a.len→∀j,j < z→∃x,((a.get k).cells true)[j]? = some x∧∀u,elC (arrR w S d) x u→P k j u):RowW w S v n z P:=by
 subst hn
 subst hz
 obtain ⟨A,c,rfl,h2,h3,h4⟩:=h
 refine ⟨A,c,rfl,h3,fun h0=>?_⟩
 obtain ⟨ad,rfl,h5,h6⟩:=h4 0 h0
 obtain ⟨x,hx,-⟩:=hP 0 h0 0 h1
 obtain ⟨u,h7,-⟩:=h6 0 x hx
 have hs:=spot_none' h7
 have hs':ad.spot = none:=by
  have e:ad.add (0 * a.esz + 0) = ad:=by unfold Addr.add; simp
  rwa [e] at hs
 obtain ⟨b,off,sp⟩:=ad
 have hs':sp = none:=hs'
 subst hs'
 refine ⟨b,off,rfl,h5,fun k hk j hj=>?_⟩
 obtain ⟨ad',e',h8,h9⟩:=h4 k hk
 cases e'
 obtain ⟨y,hy,hP'⟩:=hP k hk j hj
 obtain ⟨u,h10,h11⟩:=h9 j y hy
 rw [add_none'] at h10
 exact ⟨u,h10,hP' u h11⟩
section
variable {w:World} {S:Nat→Prop} {d:Nat} {v:Value}
theorem intsW_of {l:List Int} (h:arrR w S (d + 1) (.ints l) v):IntsW w S l.length v:=rowW_of h rfl rfl (by decide) fun k hk j hj=>by
 obtain rfl:j = 0:=by omega
 exact ⟨_,rfl,fun u hu=>⟨_,hu⟩⟩
theorem boolsW_of {l:List Bool} (h:arrR w S (d + 1) (.bools l) v):BoolsW w S l.length v:=rowW_of h rfl rfl (by decide) fun k hk j hj=>by
 obtain rfl:j = 0:=by omega
 exact ⟨_,rfl,fun u hu=>⟨_,hu⟩⟩
theorem pktsW_of {l:List Pkt} (h:arrR w S (d + 1) (.pkts l) v):PktsW w S l.length v:=rowW_of h rfl rfl (by decide) fun k hk j hj=>by
 match j,hj with
 | 0,_=>exact ⟨_,rfl,fun u hu=>⟨_,hu⟩⟩
 | 1,_=>exact ⟨_,rfl,fun u hu=>⟨_,hu⟩⟩
 | 2,_=>exact ⟨_,rfl,fun u hu=>⟨_,hu⟩⟩
 | 3,_=>exact ⟨_,rfl,fun u hu=>⟨_,hu⟩⟩
 | 4,_=>exact ⟨_,rfl,fun u hu=>⟨_,hu⟩⟩
 | 5,_=>exact ⟨_,rfl,fun u hu=>⟨_,hu⟩⟩
 | 6,_=>exact ⟨_,rfl,fun u hu=>⟨_,hu⟩⟩
theorem stsW_of {l:List St} (h:arrR w S (d + 2) (.sts l) v):StsW w S l v:=rowW_of h rfl rfl (by decide) fun k hk j hj=>by
 match j,hj with
 | 0,_=>exact ⟨_,rfl,fun u hu=>⟨_,hu⟩⟩
 | 1,_=>exact ⟨_,rfl,fun u hu=>⟨_,hu⟩⟩
 | 2,_=>exact ⟨_,rfl,fun u hu=>⟨_,hu⟩⟩
 | 3,_=>exact ⟨_,rfl,fun u hu=>pktsW_of (d:=d) hu⟩
 | 4,_=>exact ⟨_,rfl,fun u hu=>boolsW_of (d:=d) hu⟩
 | 5,_=>exact ⟨_,rfl,fun u hu=>boolsW_of (d:=d) hu⟩
 | 6,_=>exact ⟨_,rfl,fun u hu=>intsW_of (d:=d) hu⟩
end
end Hw
end Go.Proofs.YtklmllaggigkfaaGreat
set_option linter.unusedVariables false
set_option linter.unusedSimpArgs false
set_option maxRecDepth 100000
set_option maxHeartbeats 4000000
namespace Go.Proofs.YtklmllaggigkfaaGreat
namespace Hw
open Go Go.RowKit
def Loc (W:World) (R:Nat→Prop) (f:Addr→Int) (xs:List (Addr×Bool)) (k:Int):Prop:=∀(i:Nat) (a:Addr×Bool),xs[i]? = some a→(W.cell? a.1).isSome = true∧R a.1.block∧f a.1 = k + i
section
variable {W:World} {R:Nat→Prop} {f:Addr→Int} {k:Int} {xs ys:List (Addr×Bool)}
theorem Loc.nil:Loc W R f [] k:=fun i a h=>by simp at h
theorem Loc.app (h:Loc W R f xs k) {m:Nat} (hm:xs.length = m) (h':Loc W R f ys (k + m)):Loc W R f (xs ++ ys) k:=fun i a hi=>by
 rcases Nat.lt_or_ge i xs.length with g | g
 ·rw [List.getElem?_append_left g] at hi
  exact h i a hi
 ·rw [List.getElem?_append_right g] at hi
  obtain ⟨h1,h2,h3⟩:=h' _ a hi
  exact ⟨h1,h2,by omega⟩
theorem Loc.cons {a:Addr×Bool} (h1:(W.cell? a.1).isSome = true) (h2:R a.1.block) (h3:f a.1 = k) (h:Loc W R f ys (k + 1)):Loc W R f (a :: ys) k:=fun i b hi=>by
 cases i with
 | zero =>
  cases hi
  exact ⟨h1,h2,by rw [h3]; simp⟩
 | succ i =>
  obtain ⟨g1,g2,g3⟩:=h i b hi
  exact ⟨g1,g2,by omega⟩
theorem put_off:∀(xs:List (Addr×Bool)) (W:World) (k:Int) (p:Addr),(∀b∈xs,b.1≠p)→(putL W xs k).cell? p = W.cell? p
 | [],_,_,_,_=>rfl
 | a :: r,W,k,p,h=>by
  rw [putL,put_off r _ _ p fun b hb=>h b (List.mem_cons_of_mem _ hb)]
  exact World.cell?_setCell_other _ _ _ _ (h a List.mem_cons_self)
theorem put_some:∀(xs:List (Addr×Bool)) (W:World) (k:Int) (p:Addr),(W.cell? p).isSome = true→((putL W xs k).cell? p).isSome = true
 | [],_,_,_,h=>h
 | a :: r,W,k,p,h=>by
  rw [putL]
  refine put_some r _ _ p ?_
  by_cases e:a.1 = p
  ·subst e
   obtain ⟨u,hu⟩:=Option.isSome_iff_exists.1 h
   rw [World.cell?_setCell_same _ _ _ hu]
   rfl
  ·rw [World.cell?_setCell_other _ _ _ _ e]
   exact h
theorem held_put:∀{xs:List (Addr×Bool)} {W:World} {k:Int},Loc W R f xs k→Held (putL W xs k) xs k
 | [],_,_,_=>fun i a h=>by simp at h
 | x :: r,W,k,h=>by
  have h0:=h 0 x rfl
  obtain ⟨u,hu⟩:=Option.isSome_iff_exists.1 h0.1
  have hr:Loc (W.setCell x.1 (mv x.2 k)) R f r (k + 1):=fun i a hi=>by
   obtain ⟨h1,h2,h3⟩:=h (i + 1) a hi
   exact ⟨put_some [x] W k a.1 h1,h2,by omega⟩
  intro i a hi
  cases i with
  | zero =>
   cases hi
   rw [putL,put_off r _ _ x.1 fun b hb e=>?_,World.cell?_setCell_same _ _ _ hu]
   ·congr 2
    omega
   ·obtain ⟨j,hj⟩:=List.getElem?_of_mem hb
    have:=(hr j b hj).2.2
    rw [e,h0.2.2] at this
    omega
  | succ i =>
   have:=held_put hr i a hi
   rw [putL,this]
   congr 2
   omega
theorem Loc.row {v:Value} {n z m:Nat} {P:Nat→Nat→Value→Prop} {fl:Bool} (hr:RowW W R v n z P) (hm:m = n * z) (hz:0 < z) (hf:∀b c,0 < n→v = .slice (some ⟨b,0,none⟩) n c→∀t,t < m→f ⟨b,t,none⟩ = k + t) (h0:∀A c,0 < n→v = .slice A n c→∃b,A = some ⟨b,0,none⟩):Loc W R f (rowA v m fl) k:=by
 subst hm
 obtain ⟨A,c,rfl,-,h2⟩:=hr
 rcases Nat.eq_zero_or_pos n with g | g
 ·rw [g,Nat.zero_mul,rowA_zero]
  exact Loc.nil
 ·obtain ⟨b,off,rfl,h3,h4⟩:=h2 g
  obtain ⟨b',e⟩:=h0 _ _ g rfl
  cases e
  rw [rowA_some]
  intro i a hi
  unfold sgA at hi
  rw [List.getElem?_map] at hi
  cases hj:(List.range (n * z))[i]? with
  | none=>rw [hj] at hi; cases hi
  | some t =>
   rw [hj] at hi
   obtain ⟨h5,h6⟩:=List.getElem?_eq_some_iff.1 hj
   rw [List.getElem_range] at h6
   subst h6
   have hil:i < n * z:=by simpa using h5
   cases hi
   refine ⟨?_,h3,?_⟩
   ·have hk:i / z < n:=(Nat.div_lt_iff_lt_mul hz).2 hil
    obtain ⟨u,h7,-⟩:=h4 (i / z) hk (i % z) (Nat.mod_lt _ hz)
    rw [show 0 + (i / z * z + i % z) = 0 + i by rw [Nat.div_add_mod']] at h7
    rw [h7]
    rfl
   ·show f ⟨b,0 + i,none⟩ = _
    rw [Nat.zero_add]
    exact hf b c g rfl i hil
end
inductive Pc where
 | chs
 | row (i g:Nat)
 | past (i:Nat)
 | prow (i j g:Nat)
 | other
def stO (s:St):Nat→Nat
 | 0=>0 | 1=>1 | 2=>2 | 3=>3 | 4=>3 + 7 * s.sent.length | 5=>3 + 7 * s.sent.length + s.live.length | _=>3 + 7 * s.sent.length + s.live.length + s.back.length
def chO (c:Ch):Nat→Nat
 | 0=>0 | 1=>1 | 2=>1 + c.bank.own.length | 3=>1 + c.bank.own.length + c.bank.notes.length | 4=>2 + c.bank.own.length + c.bank.notes.length | 5=>3 + c.bank.own.length + c.bank.notes.length | 6=>4 + c.bank.own.length + c.bank.notes.length
 | 7=>5 + c.bank.own.length + c.bank.notes.length | 8=>5 + c.bank.own.length + c.bank.notes.length + 7 * c.st.sent.length | 9=>5 + c.bank.own.length + c.bank.notes.length + 7 * c.st.sent.length + c.st.live.length
 | 10=>5 + c.bank.own.length + c.bank.notes.length + 7 * c.st.sent.length + c.st.live.length + c.st.back.length | 11=>5 + c.bank.own.length + c.bank.notes.length + 7 * c.st.sent.length + c.st.live.length + c.st.back.length + c.st.got.length
 | _=>5 + c.bank.own.length + c.bank.notes.length + 7 * c.st.sent.length + c.st.live.length + c.st.back.length + c.st.got.length + stsN c.past c.past.length
def num (l:List Ch) (pc:Nat→Pc) (a:Addr):Int:=match pc a.block with
 | .chs=>((1 + chsN l (a.off / 13) + chO (l.getD (a.off / 13) zCh) (a.off % 13):Nat):Int)
 | .row i g=>((1 + chsN l i + chO (l.getD i zCh) g + a.off:Nat):Int)
 | .past i=>((1 + chsN l i + chO (l.getD i zCh) 11 + stsN (l.getD i zCh).past (a.off / 7) + a.off % 7:Nat):Int)
 | .prow i j g=>((1 + chsN l i + chO (l.getD i zCh) 11 + stsN (l.getD i zCh).past j + stO ((l.getD i zCh).past.getD j zSt) g + a.off:Nat):Int)
 | .other=>0
def InP (pc:Nat→Pc) (p:Pc) (n:Nat) (u:Value):Prop:=0 < n→∃b c,u = .slice (some ⟨b,0,none⟩) n c∧pc b = p
def StP (pc:Nat→Pc) (i j:Nat) (s:St) (g:Nat) (u:Value):Prop:=match g with
 | 3=>InP pc (.prow i j 3) s.sent.length u
 | 4=>InP pc (.prow i j 4) s.live.length u
 | 5=>InP pc (.prow i j 5) s.back.length u
 | 6=>InP pc (.prow i j 6) s.got.length u
 | _=>True
def PastP (W:World) (pc:Nat→Pc) (i:Nat) (l:List St) (u:Value):Prop:=0 < l.length→∃b c,u = .slice (some ⟨b,0,none⟩) l.length c∧pc b = .past i∧∀j,j < l.length→∀g,g < 7→∀u,W.cell? ⟨b,j * 7 + g,none⟩ = some u→StP pc i j (l.getD j zSt) g u
def ChP (W:World) (pc:Nat→Pc) (i:Nat) (c:Ch) (g:Nat) (u:Value):Prop:=match g with
 | 1=>InP pc (.row i 1) c.bank.own.length u
 | 2=>InP pc (.row i 2) c.bank.notes.length u
 | 7=>InP pc (.row i 7) c.st.sent.length u
 | 8=>InP pc (.row i 8) c.st.live.length u
 | 9=>InP pc (.row i 9) c.st.back.length u
 | 10=>InP pc (.row i 10) c.st.got.length u
 | 11=>PastP W pc i c.past u
 | 12=>InP pc (.row i 12) c.knows.length u
 | _=>True
def WldP (W:World) (pc:Nat→Pc) (l:List Ch) (v:Value):Prop:=0 < l.length→∃b c,v = .slice (some ⟨b,0,none⟩) l.length c∧pc b = .chs∧∀i,i < l.length→∀g,g < 13→∀u,W.cell? ⟨b,i * 13 + g,none⟩ = some u→ChP W pc i (l.getD i zCh) g u
section
variable {W:World} {R:Nat→Prop} {pc:Nat→Pc} {l:List Ch}
theorem loc_row {i g n z m:Nat} {v:Value} {P:Nat→Nat→Value→Prop} {fl:Bool} {k:Int} (hr:RowW W R v n z P) (hp:InP pc (.row i g) n v) (hm:m = n * z) (hz:0 < z) (hk:k = ((1 + chsN l i + chO (l.getD i zCh) g:Nat):Int)):Loc W R (num l pc) (rowA v m fl) k:=by
 refine Loc.row hr hm hz (fun b c h0 e t ht=>?_) fun A c h0 e=>?_
 ·obtain ⟨b',c',e',h1⟩:=hp h0
  rw [e] at e'
  cases e'
  unfold num
  rw [h1,hk]
  show ((_ + t:Nat):Int) = _
  omega
 ·obtain ⟨b',c',e',h1⟩:=hp h0
  rw [e] at e'
  cases e'
  exact ⟨_,rfl⟩
theorem loc_prow {i j g n z m:Nat} {v:Value} {P:Nat→Nat→Value→Prop} {fl:Bool} {k:Int} (hr:RowW W R v n z P) (hp:InP pc (.prow i j g) n v) (hm:m = n * z) (hz:0 < z) (hk:k = ((1 + chsN l i + chO (l.getD i zCh) 11 + stsN (l.getD i zCh).past j + stO ((l.getD i zCh).past.getD j zSt) g:Nat):Int)):Loc W R (num l pc) (rowA v m fl) k:=by
 refine Loc.row hr hm hz (fun b c h0 e t ht=>?_) fun A c h0 e=>?_
 ·obtain ⟨b',c',e',h1⟩:=hp h0
  rw [e] at e'
  cases e'
  unfold num
  rw [h1,hk]
  show ((_ + t:Nat):Int) = _
  omega
 ·obtain ⟨b',c',e',h1⟩:=hp h0
  rw [e] at e'
  cases e'
  exact ⟨_,rfl⟩
theorem loc_st {i j b:Nat} {k:Int} (hb:pc b = .past i) (hR:R b) (ha:∀g,g < 7→∃u,W.cell? ⟨b,j * 7 + g,none⟩ = some u∧StW W R ((l.getD i zCh).past.getD j zSt) g u) (hp:∀g,g < 7→∀u,W.cell? ⟨b,j * 7 + g,none⟩ = some u→StP pc i j ((l.getD i zCh).past.getD j zSt) g u)
  (hk:k = ((1 + chsN l i + chO (l.getD i zCh) 11 + stsN (l.getD i zCh).past j:Nat):Int)):Loc W R (num l pc) (stA W b (j * 7) ((l.getD i zCh).past.getD j zSt)) k:=by
 obtain ⟨u0,c0,-⟩:=ha 0 (by decide)
 obtain ⟨u1,c1,-⟩:=ha 1 (by decide)
 obtain ⟨u2,c2,-⟩:=ha 2 (by decide)
 obtain ⟨u3,c3,s3⟩:=ha 3 (by decide)
 obtain ⟨u4,c4,s4⟩:=ha 4 (by decide)
 obtain ⟨u5,c5,s5⟩:=ha 5 (by decide)
 obtain ⟨u6,c6,s6⟩:=ha 6 (by decide)
 have p3:=hp 3 (by decide) u3 c3
 have p4:=hp 4 (by decide) u4 c4
 have p5:=hp 5 (by decide) u5 c5
 have p6:=hp 6 (by decide) u6 c6
 obtain ⟨s,es⟩:∃s,(l.getD i zCh).past.getD j zSt = s:=⟨_,rfl⟩
 have s3:PktsW W R ((l.getD i zCh).past.getD j zSt).sent.length u3:=s3
 have s4:BoolsW W R ((l.getD i zCh).past.getD j zSt).live.length u4:=s4
 have s5:BoolsW W R ((l.getD i zCh).past.getD j zSt).back.length u5:=s5
 have s6:IntsW W R ((l.getD i zCh).past.getD j zSt).got.length u6:=s6
 have hn:∀g,g < 3→num l pc ⟨b,j * 7 + g,none⟩ = k + g:=fun g hg=>by
  unfold num
  rw [hb,hk]
  show ((_ + stsN (l.getD i zCh).past ((j * 7 + g) / 7) + (j * 7 + g) % 7:Nat):Int) = _
  rw [show (j * 7 + g) / 7 = j by omega,show (j * 7 + g) % 7 = g by omega]
  omega
 unfold stA
 rw [cv_at c3,cv_at c4,cv_at c5,cv_at c6]
 refine Loc.cons (by rw [show (⟨b,j * 7,none⟩:Addr) = ⟨b,j * 7 + 0,none⟩ from rfl,c0]; rfl) hR ((hn 0 (by decide)).trans (by simp)) ?_
 refine Loc.cons (by rw [c1]; rfl) hR (hn 1 (by decide)) ?_
 refine Loc.cons (by rw [c2]; rfl) hR ((hn 2 (by decide)).trans (by omega)) ?_
 refine Loc.app (loc_prow (l:=l) s3 p3 (by omega) (by decide) (by rw [hk]; show _ = ((_ + 3:Nat):Int); omega)) (row_len s3 (by omega)) ?_
 refine Loc.app (loc_prow (l:=l) s4 p4 (by omega) (by decide) (by rw [hk]; show _ = ((_ + (3 + 7 * _):Nat):Int); omega)) (row_len s4 (by omega)) ?_
 refine Loc.app (loc_prow (l:=l) s5 p5 (by omega) (by decide) (by rw [hk]; show _ = ((_ + (3 + 7 * _ + _):Nat):Int); omega)) (row_len s5 (by omega)) ?_
 exact loc_prow (l:=l) s6 p6 (by omega) (by decide) (by rw [hk]; show _ = ((_ + (3 + 7 * _ + _ + _):Nat):Int); omega)
theorem loc_past {i:Nat} {v:Value} {k:Int} (hv:StsW W R (l.getD i zCh).past v) (hp:PastP W pc i (l.getD i zCh).past v) (hk:k = ((1 + chsN l i + chO (l.getD i zCh) 11:Nat):Int)):Loc W R (num l pc) (pastA W v (l.getD i zCh).past (l.getD i zCh).past.length) k:=by
 obtain ⟨A,c,rfl,-,h2⟩:=id hv
 rcases Nat.eq_zero_or_pos (l.getD i zCh).past.length with h | h
 ·rw [h]
  cases A <;> exact Loc.nil
 obtain ⟨b,off,rfl,hR,-⟩:=h2 h
 obtain ⟨b',c',e,hb,hs⟩:=hp h
 cases e
 show Loc W R (num l pc) (stsA W b 0 (l.getD i zCh).past (l.getD i zCh).past.length) k
 have key:∀j,j≤(l.getD i zCh).past.length→Loc W R (num l pc) (stsA W b 0 (l.getD i zCh).past j) k:=fun j=>by
  induction j with
  | zero=>intro _; exact Loc.nil
  | succ j ih =>
   intro hj
   refine Loc.app (ih (by omega)) (sts_len hv j (by omega)) ?_
   rw [Nat.zero_add]
   refine loc_st hb hR (fun g hg=>?_) (fun g hg u hu=>hs j (by omega) g hg u hu) (by rw [hk]; omega)
   have:=sts_at hv (Mk.refl R W) (j:=j) (by omega) g hg
   rw [Nat.zero_add] at this
   exact this
 exact key _ (Nat.le_refl _)
theorem loc_ch {i b:Nat} {k:Int} (hb:pc b = .chs) (hR:R b) (ha:∀g,g < 13→∃u,W.cell? ⟨b,i * 13 + g,none⟩ = some u∧ChW W R (l.getD i zCh) g u) (hp:∀g,g < 13→∀u,W.cell? ⟨b,i * 13 + g,none⟩ = some u→ChP W pc i (l.getD i zCh) g u) (hk:k = ((1 + chsN l i:Nat):Int)):Loc W R (num l pc) (chA W b (i * 13) (l.getD i zCh)) k:=by
 obtain ⟨u0,c0,-⟩:=ha 0 (by decide)
 obtain ⟨u3,c3,-⟩:=ha 3 (by decide)
 obtain ⟨u4,c4,-⟩:=ha 4 (by decide)
 obtain ⟨u5,c5,-⟩:=ha 5 (by decide)
 obtain ⟨u6,c6,-⟩:=ha 6 (by decide)
 obtain ⟨u1,c1,s1⟩:=ha 1 (by decide)
 obtain ⟨u2,c2,s2⟩:=ha 2 (by decide)
 obtain ⟨u7,c7,s7⟩:=ha 7 (by decide)
 obtain ⟨u8,c8,s8⟩:=ha 8 (by decide)
 obtain ⟨u9,c9,s9⟩:=ha 9 (by decide)
 obtain ⟨u10,c10,s10⟩:=ha 10 (by decide)
 obtain ⟨u11,c11,s11⟩:=ha 11 (by decide)
 obtain ⟨u12,c12,s12⟩:=ha 12 (by decide)
 have p1:=hp 1 (by decide) u1 c1
 have p2:=hp 2 (by decide) u2 c2
 have p7:=hp 7 (by decide) u7 c7
 have p8:=hp 8 (by decide) u8 c8
 have p9:=hp 9 (by decide) u9 c9
 have p10:=hp 10 (by decide) u10 c10
 have p11:=hp 11 (by decide) u11 c11
 have p12:=hp 12 (by decide) u12 c12
 have hn:∀g,g < 13→num l pc ⟨b,i * 13 + g,none⟩ = k + chO (l.getD i zCh) g:=fun g hg=>by
  unfold num
  rw [hb,hk]
  show ((1 + chsN l ((i * 13 + g) / 13) + chO (l.getD ((i * 13 + g) / 13) zCh) ((i * 13 + g) % 13):Nat):Int) = _
  rw [show (i * 13 + g) / 13 = i by omega,show (i * 13 + g) % 13 = g by omega]
  omega
 have hq:∀g,k + (chO (l.getD i zCh) g:Int) = ((1 + chsN l i + chO (l.getD i zCh) g:Nat):Int):=fun g=>by omega
 obtain ⟨s,es⟩:∃s,l.getD i zCh = s:=⟨_,rfl⟩
 have s1:IntsW W R (l.getD i zCh).bank.own.length u1:=s1
 have s2:IntsW W R (l.getD i zCh).bank.notes.length u2:=s2
 have s7:PktsW W R (l.getD i zCh).st.sent.length u7:=s7
 have s8:BoolsW W R (l.getD i zCh).st.live.length u8:=s8
 have s9:BoolsW W R (l.getD i zCh).st.back.length u9:=s9
 have s10:IntsW W R (l.getD i zCh).st.got.length u10:=s10
 have s11:StsW W R (l.getD i zCh).past u11:=s11
 have s12:IntsW W R (l.getD i zCh).knows.length u12:=s12
 have o1:chO (l.getD i zCh) 1 = 1:=rfl
 have o2:chO (l.getD i zCh) 2 = 1 + (l.getD i zCh).bank.own.length:=rfl
 have o3:chO (l.getD i zCh) 3 = 1 + (l.getD i zCh).bank.own.length + (l.getD i zCh).bank.notes.length:=rfl
 have o4:chO (l.getD i zCh) 4 = 2 + (l.getD i zCh).bank.own.length + (l.getD i zCh).bank.notes.length:=rfl
 have o5:chO (l.getD i zCh) 5 = 3 + (l.getD i zCh).bank.own.length + (l.getD i zCh).bank.notes.length:=rfl
 have o6:chO (l.getD i zCh) 6 = 4 + (l.getD i zCh).bank.own.length + (l.getD i zCh).bank.notes.length:=rfl
 have o7:chO (l.getD i zCh) 7 = 5 + (l.getD i zCh).bank.own.length + (l.getD i zCh).bank.notes.length:=rfl
 have o8:chO (l.getD i zCh) 8 = 5 + (l.getD i zCh).bank.own.length + (l.getD i zCh).bank.notes.length + 7 * (l.getD i zCh).st.sent.length:=rfl
 have o9:chO (l.getD i zCh) 9 = 5 + (l.getD i zCh).bank.own.length + (l.getD i zCh).bank.notes.length + 7 * (l.getD i zCh).st.sent.length + (l.getD i zCh).st.live.length:=rfl
 have o10:chO (l.getD i zCh) 10 = 5 + (l.getD i zCh).bank.own.length + (l.getD i zCh).bank.notes.length + 7 * (l.getD i zCh).st.sent.length + (l.getD i zCh).st.live.length + (l.getD i zCh).st.back.length:=rfl
 have o11:chO (l.getD i zCh) 11 = 5 + (l.getD i zCh).bank.own.length + (l.getD i zCh).bank.notes.length + 7 * (l.getD i zCh).st.sent.length + (l.getD i zCh).st.live.length + (l.getD i zCh).st.back.length + (l.getD i zCh).st.got.length:=rfl
 have o12:chO (l.getD i zCh) 12 = 5 + (l.getD i zCh).bank.own.length + (l.getD i zCh).bank.notes.length + 7 * (l.getD i zCh).st.sent.length + (l.getD i zCh).st.live.length + (l.getD i zCh).st.back.length + (l.getD i zCh).st.got.length + stsN (l.getD i zCh).past (l.getD i zCh).past.length:=rfl
 have n0:=hn 0 (by decide)
 have n3:=hn 3 (by decide)
 have n4:=hn 4 (by decide)
 have n5:=hn 5 (by decide)
 have n6:=hn 6 (by decide)
 unfold chA
 rw [cv_at c1,cv_at c2,cv_at c7,cv_at c8,cv_at c9,cv_at c10,cv_at c11,cv_at c12]
 refine Loc.cons (by rw [show (⟨b,i * 13,none⟩:Addr) = ⟨b,i * 13 + 0,none⟩ from rfl,c0]; rfl) hR (n0.trans (by show k + ((0:Nat):Int) = k; simp)) ?_
 refine Loc.app (loc_row (l:=l) s1 p1 (by omega) (by decide) (by rw [← hq,o1]; simp)) (row_len s1 (by omega)) ?_
 refine Loc.app (loc_row (l:=l) s2 p2 (by omega) (by decide) (by rw [← hq,o2]; omega)) (row_len s2 (by omega)) ?_
 refine Loc.cons (by rw [c3]; rfl) hR (n3.trans (by rw [o3]; omega)) ?_
 refine Loc.cons (by rw [c4]; rfl) hR (n4.trans (by rw [o4]; omega)) ?_
 refine Loc.cons (by rw [c5]; rfl) hR (n5.trans (by rw [o5]; omega)) ?_
 refine Loc.cons (by rw [c6]; rfl) hR (n6.trans (by rw [o6]; omega)) ?_
 refine Loc.app (loc_row (l:=l) s7 p7 (by omega) (by decide) (by rw [← hq,o7]; omega)) (row_len s7 (by omega)) ?_
 refine Loc.app (loc_row (l:=l) s8 p8 (by omega) (by decide) (by rw [← hq,o8]; omega)) (row_len s8 (by omega)) ?_
 refine Loc.app (loc_row (l:=l) s9 p9 (by omega) (by decide) (by rw [← hq,o9]; omega)) (row_len s9 (by omega)) ?_
 refine Loc.app (loc_row (l:=l) s10 p10 (by omega) (by decide) (by rw [← hq,o10]; omega)) (row_len s10 (by omega)) ?_
 refine Loc.app (loc_past s11 p11 (by rw [← hq,o11]; omega)) (past_len s11) ?_
 exact loc_row (l:=l) s12 p12 (by omega) (by decide) (by rw [← hq,o12]; omega)
theorem loc_wld {v:Value} (hv:ChsW W R l v) (hp:WldP W pc l v):Loc W R (num l pc) (wldA W v l l.length) 1:=by
 obtain ⟨A,c,rfl,-,h2⟩:=id hv
 rcases Nat.eq_zero_or_pos l.length with h | h
 ·rw [h]
  cases A <;> exact Loc.nil
 obtain ⟨b,off,rfl,hR,-⟩:=h2 h
 obtain ⟨b',c',e,hb,hs⟩:=hp h
 cases e
 show Loc W R (num l pc) (chsA W b 0 l l.length) 1
 have key:∀j,j≤l.length→Loc W R (num l pc) (chsA W b 0 l j) 1:=fun j=>by
  induction j with
  | zero=>intro _; exact Loc.nil
  | succ j ih =>
   intro hj
   refine Loc.app (ih (by omega)) (chs_len hv j (by omega)) ?_
   rw [Nat.zero_add]
   refine loc_ch hb hR (fun g hg=>?_) (fun g hg u hu=>hs j (by omega) g hg u hu) (by omega)
   have:=chs_at hv (Mk.refl R W) (j:=j) (by omega) g hg
   rw [Nat.zero_add] at this
   exact this
 exact key _ (Nat.le_refl _)
end
end Hw
end Go.Proofs.YtklmllaggigkfaaGreat
